/- Bits turned one by one, in a row of sixteen. -/
import Derived.Test.YtbajbdmocnkfmaaCrcP
namespace Go.Proofs.Ytbajbdmocnkfmaa
open Go.Proofs.Ytbajbdmocnkfmaa.CrcP
def Bits (s t : List UInt8) (pos b k : Nat) : Prop :=
  t.length = s.length ∧ (∀ i, i < 8 * s.length → bitAt t i = (bitAt s i != (decide (pos ≤ i ∧ i < pos + k) && b.testBit (i - pos)))) ∧ ∀ j, j < k → b.testBit j = true → pos + j < 8 * s.length
theorem Bits.zero (s : List UInt8) (pos b : Nat) : Bits s s pos b 0 := by
  refine ⟨rfl, fun i hi => ?_, fun j hj => by omega⟩
  have : decide (pos ≤ i ∧ i < pos + 0) = false := by rw [decide_eq_false_iff_not]; omega
  rw [this]; simp
theorem Bits.keep {s t : List UInt8} {pos b k : Nat} (h : Bits s t pos b k) (hb : b.testBit k = false) : Bits s t pos b (k + 1) := by
  refine ⟨h.1, fun i hi => ?_, fun j hj hjb => ?_⟩
  · rw [h.2.1 i hi]
    by_cases e : i = pos + k
    · subst e
      rw [Nat.add_sub_cancel_left, hb]; simp
    · have : decide (pos ≤ i ∧ i < pos + k) = decide (pos ≤ i ∧ i < pos + (k + 1)) := by rw [decide_eq_decide]; omega
      rw [this]
  · by_cases e : j = k
    · subst e; rw [hb] at hjb; cases hjb
    · exact h.2.2 j (by omega) hjb
theorem Bits.turn {s t : List UInt8} {pos b k : Nat} (h : Bits s t pos b k) (hb : b.testBit k = true) (hp : pos + k < 8 * s.length) : Bits s (turnBit t (pos + k)) pos b (k + 1) := by
  refine ⟨by rw [turn_len, h.1], fun i hi => ?_, fun j hj hjb => ?_⟩
  · rw [turn_bit t (pos + k) (by rw [h.1]; exact hp), h.2.1 i hi]
    by_cases e : i = pos + k
    · subst e
      have h1 : decide (pos ≤ pos + k ∧ pos + k < pos + k) = false := by rw [decide_eq_false_iff_not]; omega
      have h2 : decide (pos ≤ pos + k ∧ pos + k < pos + (k + 1)) = true := by rw [decide_eq_true_iff]; omega
      rw [h1, h2, Nat.add_sub_cancel_left, hb]; simp
    · have : decide (pos ≤ i ∧ i < pos + k) = decide (pos ≤ i ∧ i < pos + (k + 1)) := by rw [decide_eq_decide]; omega
      rw [this]
      have e2 : (i == pos + k) = false := by rw [beq_eq_false_iff_ne]; exact e
      rw [e2]; simp
  · by_cases e : j = k
    · subst e; exact hp
    · exact h.2.2 j (by omega) hjb
theorem bitAt_hi (c : UInt8) (r : List UInt8) (i : Nat) : bitAt (c :: r) (8 + i) = bitAt r i := by
  unfold bitAt
  have e1 : (8 + i) / 8 = i / 8 + 1 := by omega
  have e2 : (8 + i) % 8 = i % 8 := by omega
  rw [e1, e2]; rfl
theorem bitAt_lo (c : UInt8) (r : List UInt8) (i : Nat) (h : i < 8) : bitAt (c :: r) i = c.toNat.testBit i := by
  unfold bitAt
  have e1 : i / 8 = 0 := by omega
  have e2 : i % 8 = i := by omega
  rw [e1, e2]; rfl
theorem u8_bits (a b : UInt8) (h : ∀ i, i < 8 → a.toNat.testBit i = b.toNat.testBit i) : a = b := by
  apply UInt8.toNat_inj.1
  apply Nat.eq_of_testBit_eq
  intro i
  by_cases hi : i < 8
  · exact h i hi
  · rw [Nat.testBit_lt_two_pow (Nat.lt_of_lt_of_le a.toNat_lt (Nat.pow_le_pow_right (by omega) (by omega))), Nat.testBit_lt_two_pow (Nat.lt_of_lt_of_le b.toNat_lt (Nat.pow_le_pow_right (by omega) (by omega)))]
/-- the first byte is as it was, and the rest is turned as it says -/
theorem Bits.tail {c : UInt8} {r t : List UInt8} {pos b : Nat} (h : Bits (c :: r) t pos b 16) (hp : 8 ≤ pos) (hpos : pos < 8 * (c :: r).length) (hb : b ≠ 0) (hb2 : b < 65536) :
    ∃ r2, t = c :: r2 ∧ r2.length = r.length ∧ six r2 ≠ six r := by
  obtain ⟨h1, h2, h3⟩ := h
  cases t with
  | nil => simp at h1
  | cons c2 r2 =>
    have hl : r2.length = r.length := by simpa using h1
    have hc : c2 = c := by
      apply u8_bits
      intro i hi
      have := h2 i (by rw [List.length_cons]; omega)
      rw [bitAt_lo _ _ _ hi, bitAt_lo _ _ _ hi] at this
      rw [this]
      have e : decide (pos ≤ i ∧ i < pos + 16) = false := by rw [decide_eq_false_iff_not]; omega
      rw [e]; simp
    subst hc
    refine ⟨r2, rfl, hl, ?_⟩
    rw [List.length_cons] at hpos
    refine burst_law r r2 (pos - 8) b hl (by omega) hb hb2 (fun k hk hkb => ?_) (fun i hi => ?_)
    · have := h3 k hk hkb
      rw [List.length_cons] at this; omega
    · have := h2 (8 + i) (by rw [List.length_cons]; omega)
      rw [bitAt_hi, bitAt_hi] at this
      rw [this]
      have e1 : decide (pos ≤ 8 + i ∧ 8 + i < pos + 16) = decide (pos - 8 ≤ i ∧ i < pos - 8 + 16) := by rw [decide_eq_decide]; omega
      by_cases hle : pos ≤ 8 + i
      · rw [e1, show 8 + i - pos = i - (pos - 8) by omega]
      · have e2 : decide (pos - 8 ≤ i ∧ i < pos - 8 + 16) = false := by rw [decide_eq_false_iff_not]; omega
        rw [e1, e2]; simp
end Go.Proofs.Ytbajbdmocnkfmaa
