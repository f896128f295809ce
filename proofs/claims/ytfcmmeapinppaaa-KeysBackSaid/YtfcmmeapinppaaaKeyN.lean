/- keys, plainly: sets by their members; a report's set does not lean on the order of its codes. -/
import Derived.Test.YtfcmmeapinppaaaKeyI
namespace Go.Proofs.Ytfcmmeapinppaaa
open Go.RowKit
theorem Hd.has_bit (h : Hd) (c : Nat) : h.has c = (h.at (c / 64)).toNat.testBit (c % 64) := by
  unfold Hd.has
  rw [Nat.testBit_eq_decide_div_mod_eq]
  rfl
theorem Hd.ext_has {h h' : Hd} (e : ∀ c, c < 256 → h.has c = h'.has c) : h = h' := by
  have key : ∀ q, q < 4 → h.at q = h'.at q := by
    intro q hq
    apply UInt64.toNat_inj.1
    apply Nat.eq_of_testBit_eq
    intro i
    by_cases hi : i < 64
    · have := e (q * 64 + i) (by omega)
      rw [Hd.has_bit, Hd.has_bit, show (q * 64 + i) / 64 = q by omega, show (q * 64 + i) % 64 = i by omega] at this
      exact this
    · have hp : (2 : Nat) ^ 64 ≤ 2 ^ i := Nat.pow_le_pow_right (by omega) (by omega)
      rw [Nat.testBit_lt_two_pow (Nat.lt_of_lt_of_le (h.at q).toNat_lt hp), Nat.testBit_lt_two_pow (Nat.lt_of_lt_of_le (h'.at q).toNat_lt hp)]
  have k0 := key 0 (by omega)
  have k1 := key 1 (by omega)
  have k2 := key 2 (by omega)
  have k3 := key 3 (by omega)
  obtain ⟨a, b, c, d⟩ := h
  obtain ⟨a', b', c', d'⟩ := h'
  have k0 : a = a' := k0
  have k1 : b = b' := k1
  have k2 : c = c' := k2
  have k3 : d = d' := k3
  rw [k0, k1, k2, k3]
theorem Hd.has_set (h : Hd) (q : Nat) (hq : q < 4) (x : UInt64) (c : Nat) (hc : c < 256) : (h.set q x).has c = if c / 64 = q then x.toNat.testBit (c % 64) else h.has c := by
  rw [Hd.has_bit, Hd.at_set _ _ _ hq (by omega)]
  split
  · rfl
  · rw [Hd.has_bit]
theorem Hd.add_has (h : Hd) (c d : Nat) (hc : c < 256) (hd : d < 256) : (h.add c).has d = (h.has d || decide (c = d)) := by
  unfold Hd.add
  rw [Hd.has_set _ _ (by omega) _ _ hd]
  have h2 : (h.at (c / 64)).toNat ||| 2 ^ (c % 64) < 2 ^ 64 := Nat.or_lt_two_pow (h.at (c / 64)).toNat_lt (Nat.pow_lt_pow_right (by omega) (by omega))
  rw [UInt64.toNat_ofNat', Nat.mod_eq_of_lt h2, Nat.testBit_or, Nat.testBit_two_pow, Hd.has_bit]
  by_cases e : d / 64 = c / 64
  · rw [if_pos e, e]
    congr 1
    exact decide_eq_decide.2 ⟨fun h => by omega, fun h => by omega⟩
  · rw [if_neg e, decide_eq_false (show ¬ c = d by omega), Bool.or_false]
theorem Hd.flip_has (h : Hd) (c d : Nat) (hc : c < 256) (hd : d < 256) : (h.flip c).has d = (h.has d != decide (c = d)) := by
  unfold Hd.flip
  rw [Hd.has_set _ _ (by omega) _ _ hd]
  have h2 : (h.at (c / 64)).toNat ^^^ 2 ^ (c % 64) < 2 ^ 64 := Nat.xor_lt_two_pow (h.at (c / 64)).toNat_lt (Nat.pow_lt_pow_right (by omega) (by omega))
  rw [UInt64.toNat_ofNat', Nat.mod_eq_of_lt h2, Nat.testBit_xor, Nat.testBit_two_pow, Hd.has_bit]
  by_cases e : d / 64 = c / 64
  · rw [if_pos e, e]
    have e2 : decide (c % 64 = d % 64) = decide (c = d) := decide_eq_decide.2 ⟨fun h => by omega, fun h => by omega⟩
    rw [e2]
  · rw [if_neg e, decide_eq_false (show ¬ c = d by omega)]
    cases (h.at (d / 64)).toNat.testBit (d % 64) <;> rfl
/-- a run's marks -/
theorem Rs.run_full (l : List UInt8) : ∀ r : Rs, (r.run l).full = (r.full || decide (1 ∈ l)) := by
  induction l with
  | nil => intro r; simp [Rs.run]
  | cons c l ih =>
    intro r
    show ((r.step c).run l).full = _
    rw [ih]
    unfold Rs.step
    by_cases h1 : c = 1
    · rw [if_pos h1]; simp [h1]
    · have h1' : ¬ (1 : UInt8) = c := fun e => h1 e.symm
      rw [if_neg h1]
      split
      · simp [h1']
      · split <;> simp [h1']
theorem Rs.run_bad (l : List UInt8) : ∀ r : Rs, (r.run l).bad = (r.bad || decide (2 ∈ l ∨ 3 ∈ l)) := by
  induction l with
  | nil => intro r; simp [Rs.run]
  | cons c l ih =>
    intro r
    show ((r.step c).run l).bad = _
    rw [ih]
    unfold Rs.step
    by_cases h1 : c = 1
    · rw [if_pos h1]; subst h1; simp
    · rw [if_neg h1]
      by_cases h2 : c = 2 ∨ c = 3
      · rw [if_pos h2]; rcases h2 with h2 | h2 <;> simp [h2]
      · rw [if_neg h2]
        have a : ¬ (2 : UInt8) = c := fun e => h2 (.inl e.symm)
        have b : ¬ (3 : UInt8) = c := fun e => h2 (.inr e.symm)
        split <;> simp [a, b]
theorem Rs.run_has (d : Nat) (hd : d < 256) (l : List UInt8) : ∀ r : Rs, (r.run l).h.has d = (r.h.has d || decide (3 < d ∧ ∃ c ∈ l, c.toNat = d)) := by
  induction l with
  | nil => intro r; simp [Rs.run]
  | cons c l ih =>
    intro r
    show ((r.step c).run l).h.has d = _
    rw [ih]
    unfold Rs.step
    by_cases h3 : 3 < c.toNat
    · have n1 : c ≠ 1 := fun e => by subst e; exact absurd h3 (by decide)
      have n2 : ¬ (c = 2 ∨ c = 3) := fun e => by rcases e with e | e <;> (subst e; exact absurd h3 (by decide))
      rw [if_neg n1, if_neg n2, if_pos h3]
      show ((r.h.add c.toNat).has d || _) = _
      rw [Hd.add_has _ _ _ c.toNat_lt hd, Bool.or_assoc]
      congr 1
      rw [← Bool.decide_or]
      refine decide_eq_decide.2 ⟨fun h => ?_, fun h => ?_⟩
      · rcases h with h | ⟨h, x, hx, hx2⟩
        · exact ⟨by omega, c, by simp, h⟩
        · exact ⟨h, x, by simp [hx], hx2⟩
      · obtain ⟨h, x, hx, hx2⟩ := h
        rcases List.mem_cons.1 hx with rfl | hx
        · exact .inl hx2
        · exact .inr ⟨h, x, hx, hx2⟩
    · have e : (if c = 1 then { r with full := true } else if c = 2 ∨ c = 3 then { r with bad := true } else if 3 < c.toNat then { r with h := r.h.add c.toNat } else r).h = r.h := by
        split
        · rfl
        · split
          · rfl
          · rfl
      rw [e]
      congr 1
      refine decide_eq_decide.2 ⟨fun h => ?_, fun h => ?_⟩
      · obtain ⟨h, x, hx, hx2⟩ := h
        exact ⟨h, x, by simp [hx], hx2⟩
      · obtain ⟨h, x, hx, hx2⟩ := h
        rcases List.mem_cons.1 hx with rfl | hx
        · omega
        · exact ⟨h, x, hx, hx2⟩
theorem Rs.run_ext (r : Rs) (l l' : List UInt8) (h : ∀ c : UInt8, c ≠ 0 → (c ∈ l ↔ c ∈ l')) : r.run l = r.run l' := by
  have hf : (r.run l).full = (r.run l').full := by
    rw [Rs.run_full, Rs.run_full, decide_eq_decide.2 (h 1 (by decide))]
  have hb : (r.run l).bad = (r.run l').bad := by
    rw [Rs.run_bad, Rs.run_bad, decide_eq_decide.2 (or_congr (h 2 (by decide)) (h 3 (by decide)))]
  have hh : (r.run l).h = (r.run l').h := by
    refine Hd.ext_has fun d hd => ?_
    rw [Rs.run_has d hd, Rs.run_has d hd]
    congr 1
    refine decide_eq_decide.2 (and_congr_right fun h3 => ⟨fun ⟨c, hc, hx⟩ => ⟨c, (h c (fun e => ?_)).1 hc, hx⟩, fun ⟨c, hc, hx⟩ => ⟨c, (h c (fun e => ?_)).2 hc, hx⟩⟩)
    all_goals (subst e; have : (0 : UInt8).toNat = 0 := rfl; omega)
  generalize r.run l = x at *
  generalize r.run l' = y at *
  obtain ⟨a, b, c⟩ := x
  obtain ⟨a', b', c'⟩ := y
  have hf : b = b' := hf
  have hb : c = c' := hb
  have hh : a = a' := hh
  rw [hf, hb, hh]
theorem readR_ext (l l' : List UInt8) (h8 : l.length = 8) (h8' : l'.length = 8) (h0 : l[0]? = l'[0]?) (h1 : l[1]? = l'[1]?)
    (hm : ∀ c : UInt8, c ≠ 0 → ((∃ k, 2 ≤ k ∧ l[k]? = some c) ↔ (∃ k, 2 ≤ k ∧ l'[k]? = some c))) : readR l = readR l' := by
  match l, h8, l', h8' with
  | [a, b, c2, c3, c4, c5, c6, c7], _, [a', b', d2, d3, d4, d5, d6, d7], _ =>
    simp at h0 h1
    subst h0; subst h1
    show (Rs.run ⟨mods a 8, false, b != 0⟩ [c2, c3, c4, c5, c6, c7]).out = (Rs.run ⟨mods a 8, false, b != 0⟩ [d2, d3, d4, d5, d6, d7]).out
    rw [Rs.run_ext]
    intro c hc
    have key : ∀ (x y : UInt8) (m : List UInt8), (c ∈ m) ↔ ∃ k, 2 ≤ k ∧ (x :: y :: m)[k]? = some c := by
      intro x y m
      rw [List.mem_iff_getElem?]
      refine ⟨fun ⟨k, hk⟩ => ⟨k + 2, by omega, by simpa using hk⟩, fun ⟨k, hk, hx⟩ => ⟨k - 2, ?_⟩⟩
      obtain ⟨k, rfl⟩ : ∃ j, k = j + 2 := ⟨k - 2, by omega⟩
      simpa using hx
    rw [key a b, key a b]
    exact hm c hc
/-- two codes change places -/
theorem mix_swap (l : List UInt8) (i j : Nat) (x y : UInt8) (h8 : l.length = 8) (hi : 2 ≤ i) (hj : 2 ≤ j) (hx : l[i]? = some x) (hy : l[j]? = some y) : readR ((l.set i y).set j x) = readR l := by
  have hil := (List.getElem?_eq_some_iff.1 hx).1
  have hjl := (List.getElem?_eq_some_iff.1 hy).1
  refine readR_ext _ _ (by simp [h8]) h8 ?_ ?_ ?_
  · rw [List.getElem?_set_ne (by omega), List.getElem?_set_ne (by omega)]
  · rw [List.getElem?_set_ne (by omega), List.getElem?_set_ne (by omega)]
  · intro c _
    constructor
    · rintro ⟨k, hk, hc⟩
      by_cases e : j = k
      · subst e
        rw [List.getElem?_set_self (by simp; exact hjl)] at hc
        exact ⟨i, hi, by rw [hx, ← hc]⟩
      · rw [List.getElem?_set_ne e] at hc
        by_cases e : i = k
        · subst e
          rw [List.getElem?_set_self hil] at hc
          exact ⟨j, hj, by rw [hy, ← hc]⟩
        · rw [List.getElem?_set_ne e] at hc
          exact ⟨k, hk, hc⟩
    · rintro ⟨k, hk, hc⟩
      by_cases e : k = i
      · subst e
        rw [hx] at hc
        exact ⟨j, hj, by rw [List.getElem?_set_self (by simp; exact hjl), hc]⟩
      · by_cases e2 : k = j
        · subst e2
          rw [hy] at hc
          exact ⟨i, hi, by rw [List.getElem?_set_ne (by omega), List.getElem?_set_self hil, hc]⟩
        · exact ⟨k, hk, by rw [List.getElem?_set_ne (by omega), List.getElem?_set_ne (by omega)]; exact hc⟩
/-- the first places up to k, a zero as x -/
def fillZ (x : UInt8) (l : List UInt8) : Nat → List UInt8
  | 0 => l
  | k + 1 => if (fillZ x l k)[k + 2]? = some 0 then (fillZ x l k).set (k + 2) x else fillZ x l k
theorem fillZ_len (x : UInt8) (l : List UInt8) : ∀ k, (fillZ x l k).length = l.length
  | 0 => rfl
  | k + 1 => by
    unfold fillZ
    split
    · rw [List.length_set]; exact fillZ_len x l k
    · exact fillZ_len x l k
theorem fillZ_at (x : UInt8) (l : List UInt8) (i : Nat) (h : l[i]? = some x) : ∀ k, (fillZ x l k)[i]? = some x
  | 0 => h
  | k + 1 => by
    have ih := fillZ_at x l i h k
    unfold fillZ
    split
    · by_cases e : k + 2 = i
      · subst e
        rw [List.getElem?_set_self (List.getElem?_eq_some_iff.1 ih).1]
      · rw [List.getElem?_set_ne e]; exact ih
    · exact ih
theorem fillZ_read (l : List UInt8) (i : Nat) (x : UInt8) (h8 : l.length = 8) (hi : 2 ≤ i) (hx : l[i]? = some x) : ∀ k, readR (fillZ x l k) = readR l
  | 0 => rfl
  | k + 1 => by
    have ih := fillZ_read l i x h8 hi hx k
    have hat := fillZ_at x l i hx k
    have hlen := fillZ_len x l k
    unfold fillZ
    split
    · rename_i hz
      rw [← ih]
      generalize fillZ x l k = m at *
      have hkl := (List.getElem?_eq_some_iff.1 hz).1
      refine readR_ext _ _ (by simp; omega) (by omega) (by rw [List.getElem?_set_ne (by omega)]) (by rw [List.getElem?_set_ne (by omega)]) (fun c hc => ?_)
      constructor
      · rintro ⟨n, hn, hcn⟩
        by_cases e : k + 2 = n
        · subst e
          rw [List.getElem?_set_self hkl] at hcn
          exact ⟨i, hi, by rw [hat, ← hcn]⟩
        · rw [List.getElem?_set_ne e] at hcn
          exact ⟨n, hn, hcn⟩
      · rintro ⟨n, hn, hcn⟩
        by_cases e : k + 2 = n
        · subst e
          rw [hz] at hcn
          cases hcn
          exact absurd rfl hc
        · exact ⟨n, hn, by rw [List.getElem?_set_ne e]; exact hcn⟩
    · exact ih
end Go.Proofs.Ytfcmmeapinppaaa
