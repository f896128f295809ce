/- Disks, plainly: the laws on what Do does. -/
import Derived.Test.YtafiedhjjnapoaaScsQ
namespace Go.Proofs.Ytafiedhjjnapoaa.Scs
theorem did_bad {bs : List ByteArray} {s : Int} (h : ¬ OkD bs s) (c d : ByteArray) : did bs s c d = (bs, s, ByteArray.empty, chkD bs s) ∧ chkD bs s ≠ 0 ∧ chkD bs s ≠ 14 := by
  have h0 : chkD bs s ≠ 0 := fun e => h (chkD_ok.1 e)
  refine ⟨by unfold did; rw [if_pos h0], h0, ?_⟩
  unfold chkD
  rw [if_neg h]
  split <;> decide
theorem did_good {bs : List ByteArray} {s : Int} (h : OkD bs s) (c d : ByteArray) : did bs s c d = match ans bs s c d with
  | .error f => (bs, f, ByteArray.empty, 14)
  | .ok (b, o) => (b, 0, o, 0) := by
  unfold did
  rw [if_neg (by rw [chkD_ok.2 h]; decide)]
  rfl
theorem did_err {bs : List ByteArray} {s : Int} (h : OkD bs s) {c d : ByteArray} {f : Int} (e : ans bs s c d = .error f) : did bs s c d = (bs, f, ByteArray.empty, 14) := by rw [did_good h, e]
theorem did_fine {bs : List ByteArray} {s : Int} (h : OkD bs s) {c d : ByteArray} {b : List ByteArray} {o : ByteArray} (e : ans bs s c d = .ok (b, o)) : did bs s c d = (b, 0, o, 0) := by rw [did_good h, e]
theorem OkD.with {bs : List ByteArray} {s t : Int} (h : OkD bs s) (ht : t = 0 ∨ t = 32 ∨ t = 33 ∨ t = 36) : OkD bs t := ⟨h.n1, h.n2, h.sz, ht⟩
/-- what is answered: the blocks are the same, or a write's -/
theorem ans_ok {bs : List ByteArray} {s : Int} {c d : ByteArray} {b : List ByteArray} {o : ByteArray} (h : ans bs s c d = .ok (b, o)) :
    c.size ≠ 0 ∧ ((b = bs ∧ bt c 0 ≠ 42) ∨ (bt c 0 = 42 ∧ o = ByteArray.empty ∧ lba c + cnt c ≤ bs.length ∧ d.size = cnt c * 16 ∧ b = putB bs (lba c) d (cnt c))) := by
  unfold ans at h
  split at h
  · cases h
  next hf =>
  have hc : c.size ≠ 0 := fun e => hf (by unfold formC; rw [if_pos e]; decide)
  refine ⟨hc, ?_⟩
  split at h
  · next q => cases h; exact .inl ⟨rfl, by omega⟩
  split at h
  · next q => cases h; exact .inl ⟨rfl, by omega⟩
  split at h
  · next q => cases h; exact .inl ⟨rfl, by omega⟩
  split at h
  · next q => cases h; exact .inl ⟨rfl, by omega⟩
  split at h
  · next q => cases h; exact .inl ⟨rfl, by omega⟩
  split at h
  · cases h
  next hl =>
  split at h
  · next q => cases h; exact .inl ⟨rfl, by omega⟩
  split at h
  · next q =>
    split at h
    · next hd => cases h; exact .inr ⟨q, rfl, by omega, hd, rfl⟩
    · cases h
  · next q => cases h; exact .inl ⟨rfl, q⟩
theorem did_keeps (bs : List ByteArray) (s : Int) (c d : ByteArray) : (¬ ((did bs s c d).2.2.2 = 0 ∧ c.size = 0)) ∧ ((did bs s c d).2.2.2 ≠ 0 → (did bs s c d).2.2.1 = ByteArray.empty) ∧ (((did bs s c d).2.2.2 = 0 ∧ bt c 0 = 42) ∨ (did bs s c d).1 = bs) := by
  by_cases h : OkD bs s
  · cases e : ans bs s c d with
    | error f => rw [did_err h e]; exact ⟨fun q => absurd (show (14 : Int) = 0 from q.1) (by decide), fun _ => rfl, .inr rfl⟩
    | ok r =>
      obtain ⟨b, o⟩ := r
      rw [did_fine h e]
      obtain ⟨h1, h2⟩ := ans_ok e
      refine ⟨fun q => h1 q.2, fun q => absurd rfl q, ?_⟩
      rcases h2 with ⟨h2, _⟩ | ⟨h2, _⟩
      · exact .inr h2
      · exact .inl ⟨rfl, h2⟩
  · obtain ⟨e, h0, _⟩ := did_bad h c d
    rw [e]
    exact ⟨fun q => h0 q.1, fun _ => rfl, .inr rfl⟩
theorem did_ok {bs : List ByteArray} {s : Int} (h : OkD bs s) (c d : ByteArray) : OkD (did bs s c d).1 (did bs s c d).2.1 ∧ (((did bs s c d).2.2.2 = 0 ∧ (did bs s c d).2.1 = 0) ∨ ((did bs s c d).2.2.2 = 14 ∧ ((did bs s c d).2.1 = 32 ∨ (did bs s c d).2.1 = 33 ∨ (did bs s c d).2.1 = 36))) := by
  cases e : ans bs s c d with
  | error f =>
    rw [did_err h e]
    have := ans_err e
    exact ⟨h.with (show f = 0 ∨ f = 32 ∨ f = 33 ∨ f = 36 by omega), .inr ⟨rfl, this⟩⟩
  | ok r =>
    obtain ⟨b, o⟩ := r
    rw [did_fine h e]
    refine ⟨?_, .inl ⟨rfl, rfl⟩⟩
    obtain ⟨_, ⟨h2, _⟩ | ⟨_, _, h3, h4, h5⟩⟩ := ans_ok e
    · subst h2; exact h.with (.inl rfl)
    · subst h5; exact putB_ok h _ _ _ h3 h4
/-- SENSE, all of it -/
def sc : ByteArray := ⟨#[3, 0, 0, 0, 255, 0]⟩
theorem sc_form : formC sc = 0 := by
  have h : ∀ i, i < 6 → bt sc i = (if i = 0 then 3 else if i = 4 then 255 else 0) := by decide
  unfold formC
  rw [show sc.size = 6 from rfl, if_neg (by decide), h 0 (by omega), if_pos rfl]
  rw [show used 3 = some [4] from by decide]
  simp only
  rw [if_neg (by decide), if_neg, if_neg (by decide)]
  rintro ⟨i, hi, hi1, hb, hm⟩
  rw [h i hi, if_neg (by omega)] at hb
  by_cases e : i = 4
  · subst e; exact hm (by decide)
  · rw [if_neg e] at hb; exact hb rfl
theorem sense_size (s : Int) : (senseT s).size = 18 := rfl
theorem first_all (x : ByteArray) (n : Nat) (h : x.size ≤ n) : first x n = x := by
  unfold first
  rw [Nat.min_eq_left h]
  apply ext_bytes; simp
theorem did_sense {bs : List ByteArray} {s : Int} (h : OkD bs s) (d : ByteArray) : did bs s sc d = (bs, 0, senseT s, 0) := by
  have b0 : bt sc 0 = 3 := by decide
  have b4 : bt sc 4 = 255 := by decide
  refine did_fine h ?_
  unfold ans
  rw [sc_form, if_neg (by decide), b0, if_neg (by decide), if_pos rfl, b4]
  rw [first_all (senseT s) 255 (by rw [sense_size]; decide)]
theorem sense_bt (s : Int) (h : s = 0 ∨ s = 32 ∨ s = 33 ∨ s = 36) : (bt (senseT s) 12 : Int) = s ∧ bt (senseT s) 2 = if s = 0 then 0 else 5 := by
  rcases h with rfl | rfl | rfl | rfl <;> exact ⟨by decide +kernel, by decide +kernel⟩
/-- a write, then a read of the same -/
theorem did_write {bs : List ByteArray} {s : Int} (h : OkD bs s) {a n : Nat} {d : ByteArray} (ha : a < 4294967296) (hn : n < 65536) (he : (did bs s (mk 42 a n) d).2.2.2 = 0) :
    a + n ≤ bs.length ∧ d.size = n * 16 ∧ did bs s (mk 42 a n) d = (putB bs a d n, 0, ByteArray.empty, 0) := by
  have e := mk_ans bs s 42 a n d (.inr (.inl rfl)) ha hn
  by_cases h1 : bs.length < a + n
  · rw [if_pos h1] at e
    rw [did_err h e] at he
    exact absurd (show (14 : Int) = 0 from he) (by decide)
  · rw [if_neg h1, if_neg (by decide), if_pos rfl] at e
    by_cases h2 : d.size = n * 16
    · rw [if_pos h2] at e
      exact ⟨by omega, h2, did_fine h e⟩
    · rw [if_neg h2] at e
      rw [did_err h e] at he
      exact absurd (show (14 : Int) = 0 from he) (by decide)
theorem did_read {bs : List ByteArray} {s : Int} (h : OkD bs s) (a n : Nat) (d : ByteArray) (ha : a < 4294967296) (hn : n < 65536) (hl : a + n ≤ bs.length) :
    did bs s (mk 40 a n) d = (bs, 0, joinS ((bs.drop a).take n), 0) := by
  have e := mk_ans bs s 40 a n d (.inl rfl) ha hn
  rw [if_neg (by omega), if_pos rfl] at e
  exact did_fine h e
theorem did_unread {bs : List ByteArray} {s : Int} (h : OkD bs s) (a n : Nat) (d : ByteArray) (ha : a < 4294967296) (hn : n < 65536) (hl : bs.length < a + n) :
    did bs s (mk 40 a n) d = (bs, 33, ByteArray.empty, 14) := by
  have e := mk_ans bs s 40 a n d (.inl rfl) ha hn
  rw [if_pos hl] at e
  exact did_err h e
end Go.Proofs.Ytafiedhjjnapoaa.Scs
