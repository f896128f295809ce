/- The law ScsiBack, walked. -/
import Derived.Test.YtafiedhjjnapoaaScsM
import Derived.Test.YtafiedhjjnapoaaScsS
namespace Go.Proofs.Ytafiedhjjnapoaa
open Go.RowKit Go.Proofs.Ytafiedhjjnapoaa.Scs
open Classical in
noncomputable def mkE (a n : Int) : Int := if OkMk a n then 0 else 1
open Classical in
noncomputable def mkC (z a n : Int) : ByteArray := if OkMk a n then mk z.toNat a.toNat n.toNat else ByteArray.empty
theorem make_any (z a n : Int) (hz : z = 40 ∨ z = 42) (w : World) :
    Calls Try.prog 40 #[.int .i64 z, .int .i64 a, .int .i64 n] w fun e w' => e = .returned (.tuple #[.string (mkC z a n), .int .i64 (mkE a n)]) ∧ Below w.heap.size w w' := by
  by_cases h : OkMk a n
  · have e0 : mkE a n = 0 := if_pos h
    have e1 : mkC z a n = mk z.toNat a.toNat n.toNat := if_pos h
    rw [e0, e1]
    rcases hz with rfl | rfl
    · exact make_calls40 a n h w
    · exact make_calls42 a n h w
  · have e0 : mkE a n = 1 := if_neg h
    have e1 : mkC z a n = ByteArray.empty := if_neg h
    rw [e0, e1]
    exact (make_bad z a n hz h w).mono fun e w' q => ⟨q.1, q.2 ▸ Below.refl _ _⟩
theorem w1_in {k L : Nat} (h : k < L) (hL : L ≤ 8796093022208) : wrap64 ((k : Int) + 1) = ((k + 1 : Nat) : Int) := by unfold wrap64; omega
theorem next_j {k L : Nat} (h : k < L) : L - (intOf (.int .i64 ((k + 1 : Nat) : Int))).toNat < L - (intOf (.int .i64 (k : Int))).toNat := by
  simp only [intOf]
  omega
theorem bk_case {a n : Int} {ka kn k : Nat} {X bs : List ByteArray} {p : ByteArray} (h1 : OkMk a n) (h2 : a.toNat = ka ∧ n.toNat = kn) (h3 : X[k]? = if ka ≤ k ∧ k < ka + kn then some p else bs[k]?) :
    ∃ ba, IntKind.i64.wrap (a + n) = ba ∧ ((¬ (k : Int) < a ∧ ¬ ba ≤ k) ∨ ((k : Int) < a ∨ (¬ (k : Int) < a ∧ ba ≤ k)) ∧ X[k]? = bs[k]?) := by
  unfold OkMk at h1
  refine ⟨a + n, by rw [show a + n = ((ka + kn : Nat) : Int) by omega, wr_in _ (by omega)], ?_⟩
  by_cases hin : ka ≤ k ∧ k < ka + kn
  · left; omega
  · right; rw [if_neg hin] at h3; exact ⟨by omega, h3⟩
theorem did_zero {bs : List ByteArray} {s : Int} {c d : ByteArray} (h : (did bs s c d).2.2.2 = 0) : OkD bs s := by
  by_cases ok : OkD bs s
  · exact ok
  · obtain ⟨e, h0, _⟩ := did_bad ok c d
    rw [e] at h
    exact absurd h h0
end Go.Proofs.Ytafiedhjjnapoaa
