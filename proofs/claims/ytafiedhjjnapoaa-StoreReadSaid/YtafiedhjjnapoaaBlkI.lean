/- bulk: what a disk means by a command: walked; what Judge says, at once. -/
import Derived.Test.YtafiedhjjnapoaaBlkZ
import Derived.Test.YtafiedhjjnapoaaScsO
namespace Go.Proofs.Ytafiedhjjnapoaa
open Go.RowKit Go.Proofs.Ytafiedhjjnapoaa.Scs Go.Proofs.Ytafiedhjjnapoaa.Blk
theorem joinS_size : ∀ (l : List ByteArray) (_h : ∀ x ∈ l, x.size = 16), (joinS l).size = 16 * l.length
  | [], _ => rfl
  | x :: l, h => by
    rw [show x :: l = [x] ++ l from rfl, joinS_app, joinS_one, ByteArray.size_append, joinS_size l (fun y hy => h y (List.mem_cons_of_mem _ hy)), h x (List.mem_cons_self ..)]
    simp only [List.length_append, List.length_cons, List.length_nil]
    omega
theorem first_size (s : ByteArray) (n : Nat) : (first s n).size ≤ s.size := by
  unfold first
  rw [ByteArray.size_extract]
  omega
theorem did_small {bs : List ByteArray} {s : Int} (h : OkD bs s) (c d : ByteArray) : (did bs s c d).2.2.1.size ≤ 1024 := by
  cases e : ans bs s c d with
  | error f => rw [did_err h e]; exact Nat.zero_le _
  | ok r =>
    obtain ⟨b, o⟩ := r
    rw [did_fine h e]
    show o.size ≤ 1024
    unfold ans at e
    split at e
    · cases e
    split at e
    · cases e; exact Nat.zero_le _
    split at e
    · cases e; exact Nat.le_trans (first_size _ _) (by rw [sense_size]; decide)
    split at e
    · cases e; exact Nat.le_trans (first_size _ _) (by decide)
    split at e
    · cases e; exact Nat.le_trans (first_size _ _) (by decide)
    split at e
    · cases e; rw [ByteArray.size_append]; show 4 + 4 ≤ 1024; decide
    split at e
    · cases e
    split at e
    · cases e
      rw [joinS_size _ (fun x hx => h.sz x (List.mem_of_mem_drop (List.mem_of_mem_take hx)))]
      have := h.n2
      have h2 : (List.take (cnt c) (List.drop (lba c) bs)).length ≤ bs.length := by simp only [List.length_take, List.length_drop]; omega
      omega
    split at e
    · split at e
      · cases e; exact Nat.zero_le _
      · cases e
    · cases e; exact Nat.zero_le _
/-- what a disk means by a command: none, in, out; how much -/
noncomputable def means (bs : List ByteArray) (s : Int) (c : ByteArray) : Int × Int :=
  open Classical in
  if c.size = 10 ∧ bt c 0 = 42 ∧ (did bs s c (zeros (cnt c * 16))).2.2.2 = 0 ∧ 0 < cnt c then (2, ((cnt c * 16 : Nat) : Int))
  else if (did bs s c ByteArray.empty).2.2.2 = 0 ∧ (did bs s c ByteArray.empty).2.2.1.size ≠ 0 then (1, ((did bs s c ByteArray.empty).2.2.1.size : Int))
  else (0, 0)
theorem means_tr {bs : List ByteArray} {s : Int} (h : OkD bs s) (c : ByteArray) : trB (means bs s c).1 (means bs s c).2 = true := by
  unfold trB
  rw [decide_eq_true_iff]
  unfold means
  split
  · next q =>
    have := cnt_lt c
    exact .inr ⟨.inr rfl, by show (1 : Int) ≤ ((cnt c * 16 : Nat) : Int); omega, by show ((cnt c * 16 : Nat) : Int) < _; omega⟩
  · split
    · next q =>
      have := did_small h c ByteArray.empty
      exact .inr ⟨.inl rfl, by show (1 : Int) ≤ ((did bs s c ByteArray.empty).2.2.1.size : Int); omega, by show ((did bs s c ByteArray.empty).2.2.1.size : Int) < _; omega⟩
    · exact .inl ⟨rfl, rfl⟩
def agB (hd hl dd dl : Int) : Prop := dd = 0 ∨ (dd = hd ∧ dl ≤ hl)
instance (hd hl dd dl : Int) : Decidable (agB hd hl dd dl) := by unfold agB; infer_instance
theorem judge_any (hd hl dd dl : Int) (h1 : trB hd hl = true) (h2 : trB dd dl = true) (w : World) :
    Calls Try.prog 74 #[.agg #[.int .i64 hd, .int .i64 hl], .agg #[.int .i64 dd, .int .i64 dl]] w fun e w' =>
      (∃ c m q, e = .returned (.tuple #[judgeV c m (hl - m) q, .int .i64 0]) ∧ ((agB hd hl dd dl ∧ m = dl ∧ q = 0) ∨ (¬ agB hd hl dd dl ∧ m = 0 ∧ q = 2))) ∧ Below w.heap.size w w' := by
  unfold trB at h1 h2
  rw [decide_eq_true_iff] at h1 h2
  unfold agB
  rcases h1 with ⟨rfl, rfl⟩ | ⟨rfl | rfl, a1, a2⟩ <;> rcases h2 with ⟨rfl, rfl⟩ | ⟨rfl | rfl, b1, b2⟩
  · exact (judge_1 w).mono fun e w' h => ⟨⟨1, 0, 0, h.1, .inl ⟨by omega, rfl, rfl⟩⟩, h.2⟩
  · exact (judge_2 dl w ⟨by omega, by omega⟩).mono fun e w' h => ⟨⟨2, 0, 2, h.1, .inr ⟨by omega, rfl, rfl⟩⟩, h.2⟩
  · exact (judge_3 dl w ⟨by omega, by omega⟩).mono fun e w' h => ⟨⟨3, 0, 2, h.1, .inr ⟨by omega, rfl, rfl⟩⟩, h.2⟩
  · exact (judge_4 hl w ⟨by omega, by omega⟩).mono fun e w' h => ⟨⟨4, 0, 0, by rw [Int.sub_zero]; exact h.1, .inl ⟨by omega, rfl, rfl⟩⟩, h.2⟩
  · rcases Int.lt_trichotomy dl hl with hc | hc | hc
    · exact (judge_5 hl dl w ⟨by omega, by omega⟩ ⟨by omega, by omega⟩ hc).mono fun e w' h => ⟨⟨5, dl, 0, h.1, .inl ⟨by omega, rfl, rfl⟩⟩, h.2⟩
    · subst hc
      exact (judge_6 dl w ⟨by omega, by omega⟩).mono fun e w' h => ⟨⟨6, dl, 0, by rw [Int.sub_self]; exact h.1, .inl ⟨by omega, rfl, rfl⟩⟩, h.2⟩
    · exact (judge_7 hl dl w ⟨by omega, by omega⟩ ⟨by omega, by omega⟩ hc).mono fun e w' h => ⟨⟨7, 0, 2, by rw [Int.sub_zero]; exact h.1, .inr ⟨by omega, rfl, rfl⟩⟩, h.2⟩
  · exact (judge_8 hl dl w ⟨by omega, by omega⟩ ⟨by omega, by omega⟩).mono fun e w' h => ⟨⟨8, 0, 2, by rw [Int.sub_zero]; exact h.1, .inr ⟨by omega, rfl, rfl⟩⟩, h.2⟩
  · exact (judge_9 hl w ⟨by omega, by omega⟩).mono fun e w' h => ⟨⟨9, 0, 0, by rw [Int.sub_zero]; exact h.1, .inl ⟨by omega, rfl, rfl⟩⟩, h.2⟩
  · exact (judge_10 hl dl w ⟨by omega, by omega⟩ ⟨by omega, by omega⟩).mono fun e w' h => ⟨⟨10, 0, 2, by rw [Int.sub_zero]; exact h.1, .inr ⟨by omega, rfl, rfl⟩⟩, h.2⟩
  · rcases Int.lt_trichotomy dl hl with hc | hc | hc
    · exact (judge_11 hl dl w ⟨by omega, by omega⟩ ⟨by omega, by omega⟩ hc).mono fun e w' h => ⟨⟨11, dl, 0, h.1, .inl ⟨by omega, rfl, rfl⟩⟩, h.2⟩
    · subst hc
      exact (judge_12 dl w ⟨by omega, by omega⟩).mono fun e w' h => ⟨⟨12, dl, 0, by rw [Int.sub_self]; exact h.1, .inl ⟨by omega, rfl, rfl⟩⟩, h.2⟩
    · exact (judge_13 hl dl w ⟨by omega, by omega⟩ ⟨by omega, by omega⟩ hc).mono fun e w' h => ⟨⟨13, 0, 2, by rw [Int.sub_zero]; exact h.1, .inr ⟨by omega, rfl, rfl⟩⟩, h.2⟩
end Go.Proofs.Ytafiedhjjnapoaa
