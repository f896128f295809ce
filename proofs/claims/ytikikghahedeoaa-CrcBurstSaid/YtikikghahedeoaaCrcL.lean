/- The laws of package crc, walked. -/
import Derived.Test.YtikikghahedeoaaCrcW
import Derived.Test.YtikikghahedeoaaFr
namespace Go.Proofs.Ytikikghahedeoaa
open Go.RowKit Go.Proofs.Ytikikghahedeoaa.CrcP

theorem CrcL.app (a b : ByteArray) : (a ++ b).data.toList = a.data.toList ++ b.data.toList := by simp
theorem CrcL.ret_true {b : Bool} (h : b = true) : Ending.returned (.bool b) = Ending.returned (.bool true) := by rw [h]
theorem CrcL.eqb {a b : Nat} (h : a = b) : ((a : Int) == (b : Int)) = true := by rw [h]; simp
theorem joins_walk0 (a b c : ByteArray) (ha : a.size ≤ 140737488351232) (hb : b.size ≤ 140737488351232) (hc : c.size ≤ 140737488351232) (w : World) :
    Calls Try.prog 3 #[.string a, .string b, .string c] w fun e w' => e = .returned (.bool true) ∧ Below w.heap.size w w' := by
  have l1 : (a ++ b).size ≤ 422212465053696 := by rw [ByteArray.size_append]; omega
  have l2 : (a ++ b ++ c).size ≤ 422212465053696 := by rw [ByteArray.size_append, ByteArray.size_append]; omega
  go_enter Try.func3, Try.ntmps3
  go_wp2_with fail
  refine (lives_calls _).mono ?_; rintro e w' ⟨rfl, rfl⟩
  go_wp2_with fail
  refine (sixteen_calls a (by unfold maxLen; omega) _).mono ?_; rintro e w' ⟨rfl, rfl⟩
  go_wp2_with fail
  refine (more_calls _ _ b rfl (more_lt _ _ (by omega)) (by unfold maxLen; omega) _).mono ?_; rintro e w' ⟨rfl, rfl⟩
  go_wp2_with fail
  refine (more_calls _ _ c rfl (more_lt _ _ (more_lt _ _ (by omega))) (by unfold maxLen; omega) _).mono ?_; rintro e w' ⟨rfl, rfl⟩
  go_wp2_with fail
  refine (sixteen_calls _ (by unfold maxLen; omega) _).mono ?_; rintro e w' ⟨rfl, rfl⟩
  go_wp2_with fail
  go_ret
  refine ⟨CrcL.ret_true ?_, Below.refl _ _⟩
  apply CrcL.eqb
  simp [six_eq, more_more]
theorem joins_walk (v0 v1 v2 : Value) (w : World) (r0 : Fr.RdV w reachBytes .string v0) (r1 : Fr.RdV w reachBytes .string v1) (r2 : Fr.RdV w reachBytes .string v2) :
    Calls Try.prog 3 #[v0, v1, v2] w fun e w' => e = .returned (.bool true) ∧ Below w.heap.size w w' := by
  obtain ⟨a, e0, h0⟩ := r0; cases e0
  obtain ⟨b, e1, h1⟩ := r1; cases e1
  obtain ⟨c, e2, h2⟩ := r2; cases e2
  exact joins_walk0 a b c h0 h1 h2 w
end Go.Proofs.Ytikikghahedeoaa
