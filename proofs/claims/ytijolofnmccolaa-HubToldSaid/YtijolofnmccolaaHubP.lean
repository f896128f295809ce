/- Ports of a hub, plainly. -/
import Derived.Test.YtijolofnmccolaaKit
namespace Go.Proofs.Ytijolofnmccolaa
open Go.RowKit
def bt (op : BinOp) (s m : Int) : Bool := bits op .i64 s m != 0
theorem andNot_nat (s m : Nat) (hs : s < 2 ^ 63) (hm : m < 2 ^ 64) : bits .andNot .i64 (s : Int) (m : Int) = ((s &&& (2 ^ 64 - 1 - m) : Nat) : Int) := by
  show IntKind.i64.wrap ((BitVec.ofInt 64 (s : Int) &&& ~~~ BitVec.ofInt 64 (m : Int)).toNat : Int) = _
  rw [BitVec.toNat_and, BitVec.toNat_not, BitVec.ofInt_natCast, BitVec.ofInt_natCast, BitVec.toNat_ofNat, BitVec.toNat_ofNat, Nat.mod_eq_of_lt (by omega), Nat.mod_eq_of_lt (by omega)]
  exact wrap_small _ (by omega) (by have := Nat.and_le_left (n := s) (m := 2 ^ 64 - 1 - m); omega)
theorem small_of (s m : Nat) (hs : s < 2 ^ 63) (hm : m < 512) (h : bt .andNot s m = false) : s < 512 := by
  unfold bt at h
  rw [andNot_nat s m hs (by omega)] at h
  have h0 : s &&& (2 ^ 64 - 1 - m) = 0 := by simp at h; omega
  apply Nat.lt_of_not_le
  intro hge
  obtain ⟨i, hi1, hi2⟩ := Nat.exists_ge_and_testBit_of_ge_two_pow (n := 9) (x := s) (by omega)
  have hi64 : i < 63 := by
    apply Nat.lt_of_not_le
    intro h63
    rw [Nat.testBit_lt_two_pow (Nat.lt_of_lt_of_le hs (Nat.pow_le_pow_right (by omega) h63))] at hi2
    cases hi2
  have hb : (2 ^ 64 - 1 - m).testBit i = true := by
    have e : 2 ^ 64 - 1 - m = 2 ^ 64 - (m + 1) := by omega
    rw [e, Nat.testBit_two_pow_sub_succ (by omega)]
    rw [Nat.testBit_lt_two_pow (Nat.lt_of_lt_of_le hm (show 512 ≤ 2 ^ i from by
      have := Nat.pow_le_pow_right (show 0 < 2 by omega) hi1; omega))]
    simp; omega
  have := congrArg (fun n => n.testBit i) h0
  simp only [Nat.testBit_and, hi2, hb, Nat.zero_testBit] at this
  cases this
/-- a port's status, where it is made of its four bits -/
theorem status_cases : ∀ s : Fin 512, bt .andNot (s.val : Int) 275 = false → (s.val = 0 ∨ s.val = 256 ∨ s.val = 257 ∨ s.val = 259 ∨ s.val = 273) ∨ (bt .and s.val 1 = true ∧ bt .and s.val 256 = false) ∨ (bt .and s.val 1 = false ∧ bt .and s.val 18 = true) ∨ (bt .and s.val 1 = true ∧ bt .and s.val 256 = true ∧ bt .and s.val 2 = true ∧ bt .and s.val 16 = true) := by decide +kernel
theorem change_cases : ∀ c : Fin 512, bt .andNot (c.val : Int) 19 = false → (c.val = 0 ∨ c.val = 1 ∨ c.val = 2 ∨ c.val = 3 ∨ c.val = 16 ∨ c.val = 17 ∨ c.val = 18 ∨ c.val = 19) := by decide +kernel
/-- a right port -/
def okS (s : Int) : Prop := s = 0 ∨ s = 256 ∨ s = 257 ∨ s = 259 ∨ s = 273
def okC (c : Int) : Prop := c = 0 ∨ c = 1 ∨ c = 2 ∨ c = 3 ∨ c = 16 ∨ c = 17 ∨ c = 18 ∨ c = 19
def rightP (s c : Int) : Prop := okS s ∧ okC c
/-- why a port is not right -/
theorem wrongP (s c : Int) (hs : s < 9223372036854775808) (hc : c < 9223372036854775808) (h : ¬ rightP s c) : s < 0 ∨ (0 ≤ s ∧ bt .andNot s 275 = true) ∨ (0 ≤ s ∧ bt .andNot s 275 = false ∧ c < 0) ∨ (0 ≤ s ∧ bt .andNot s 275 = false ∧ 0 ≤ c ∧ bt .andNot c 19 = true) ∨
    ((0 ≤ s ∧ bt .andNot s 275 = false ∧ 0 ≤ c ∧ bt .andNot c 19 = false) ∧ ((bt .and s 1 = true ∧ bt .and s 256 = false) ∨ (bt .and s 1 = false ∧ bt .and s 18 = true) ∨ (bt .and s 1 = true ∧ bt .and s 256 = true ∧ bt .and s 2 = true ∧ bt .and s 16 = true))) := by
  by_cases s0 : s < 0
  · exact .inl s0
  cases sa : bt .andNot s 275 with
  | true => exact .inr (.inl ⟨by omega, rfl⟩)
  | false =>
    by_cases c0 : c < 0
    · exact .inr (.inr (.inl ⟨by omega, rfl, c0⟩))
    cases ca : bt .andNot c 19 with
    | true => exact .inr (.inr (.inr (.inl ⟨by omega, rfl, by omega, rfl⟩)))
    | false =>
      refine .inr (.inr (.inr (.inr ⟨⟨by omega, rfl, by omega, rfl⟩, ?_⟩)))
      obtain ⟨n, rfl⟩ : ∃ n : Nat, s = n := ⟨s.toNat, by omega⟩
      obtain ⟨k, rfl⟩ : ∃ k : Nat, c = k := ⟨c.toNat, by omega⟩
      have hn := small_of n 275 (by omega) (by omega) sa
      have hk := small_of k 19 (by omega) (by omega) ca
      rcases status_cases ⟨n, hn⟩ sa with h1 | h1 | h1 | h1
      · have h2 := change_cases ⟨k, hk⟩ ca
        exact absurd ⟨by unfold okS; simp only at h1; omega, by unfold okC; simp only at h2; omega⟩ h
      · exact .inl h1
      · exact .inr (.inl h1)
      · exact .inr (.inr h1)
end Go.Proofs.Ytijolofnmccolaa
