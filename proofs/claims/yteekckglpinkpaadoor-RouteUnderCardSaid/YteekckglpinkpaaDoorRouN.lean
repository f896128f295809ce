/- The laws of ways: by what is handed in. -/
import Derived.Test.YteekckglpinkpaaDoorRouM
import Derived.Test.YteekckglpinkpaaDoorFr
namespace Go.Proofs.YteekckglpinkpaaDoor
open Go.RowKit Go.Proofs.YteekckglpinkpaaDoor.Rou
theorem wy_of {w : World} {v : Value} (r : Fr.RdV w reachBytes (.slice 1 (.int .i64)) v) (m : ∀ a l c, v = .slice a l c → l * Tryd.prog.bytesOf 3 ≤ reachBytes) : ∃ A c l, v = .slice A l.length c ∧ Wy w A c l ∧ l.length ≤ 17592186044416 := by
  obtain ⟨ns, _, _, h⟩ := Kt.ar_ints r
  obtain ⟨A, c, rfl, _, _⟩ := h.form
  have hby : Tryd.prog.bytesOf 3 = 8 := by kernel_rfl
  have b := m _ _ _ rfl
  rw [hby] at b
  refine ⟨A, c, ns, rfl, h, ?_⟩
  unfold reachBytes at b
  omega
theorem metric_walk (v0 v1 v2 : Value) (w : World) (r0 : Fr.RdV w reachBytes (.slice 1 (.int .i64)) v0) (r1 : Fr.RdV w reachBytes (.slice 1 (.int .i64)) v1) (r2 : Fr.RdV w reachBytes (.slice 1 (.int .i64)) v2)
    (m0 : ∀ a l c, v0 = .slice a l c → l * Tryd.prog.bytesOf 3 ≤ reachBytes) (m1 : ∀ a l c, v1 = .slice a l c → l * Tryd.prog.bytesOf 3 ≤ reachBytes) (m2 : ∀ a l c, v2 = .slice a l c → l * Tryd.prog.bytesOf 3 ≤ reachBytes) :
    Calls Tryd.prog 4 #[v0, v1, v2] w fun e w' => e = .returned (.bool true) ∧ Below w.heap.size w w' := by
  obtain ⟨A0, c0, l0, rfl, h0, b0⟩ := wy_of r0 m0
  obtain ⟨A1, c1, l1, rfl, h1, b1⟩ := wy_of r1 m1
  obtain ⟨A2, c2, l2, rfl, h2, b2⟩ := wy_of r2 m2
  exact metric_calls l0 l1 l2 A0 c0 A1 c1 A2 c2 w h0 h1 h2 b0 b1 b2
theorem four_walk (v0 v1 v2 v3 : Value) (w : World) (r0 : Fr.RdV w reachBytes (.slice 1 (.int .i64)) v0) (r1 : Fr.RdV w reachBytes (.slice 1 (.int .i64)) v1) (r2 : Fr.RdV w reachBytes (.slice 1 (.int .i64)) v2) (r3 : Fr.RdV w reachBytes (.slice 1 (.int .i64)) v3)
    (m0 : ∀ a l c, v0 = .slice a l c → l * Tryd.prog.bytesOf 3 ≤ reachBytes) (m1 : ∀ a l c, v1 = .slice a l c → l * Tryd.prog.bytesOf 3 ≤ reachBytes) (m2 : ∀ a l c, v2 = .slice a l c → l * Tryd.prog.bytesOf 3 ≤ reachBytes) (m3 : ∀ a l c, v3 = .slice a l c → l * Tryd.prog.bytesOf 3 ≤ reachBytes) :
    Calls Tryd.prog 3 #[v0, v1, v2, v3] w fun e w' => e = .returned (.bool true) ∧ Below w.heap.size w w' := by
  obtain ⟨A0, c0, l0, rfl, h0, b0⟩ := wy_of r0 m0
  obtain ⟨A1, c1, l1, rfl, h1, b1⟩ := wy_of r1 m1
  obtain ⟨A2, c2, l2, rfl, h2, b2⟩ := wy_of r2 m2
  obtain ⟨A3, c3, l3, rfl, h3, b3⟩ := wy_of r3 m3
  exact four_calls l0 l1 l2 l3 A0 c0 A1 c1 A2 c2 A3 c3 w h0 h1 h2 h3 b0 b1 b2 b3
theorem rmeet_walk (v0 v1 v2 : Value) (w : World) (r0 : Fr.RdV w reachBytes (.slice 1 (.int .i64)) v0) (r1 : Fr.RdV w reachBytes (.slice 1 (.int .i64)) v1) (r2 : Fr.RdV w reachBytes (.slice 1 (.int .i64)) v2)
    (m0 : ∀ a l c, v0 = .slice a l c → l * Tryd.prog.bytesOf 3 ≤ reachBytes) (m1 : ∀ a l c, v1 = .slice a l c → l * Tryd.prog.bytesOf 3 ≤ reachBytes) (m2 : ∀ a l c, v2 = .slice a l c → l * Tryd.prog.bytesOf 3 ≤ reachBytes) :
    Calls Tryd.prog 5 #[v0, v1, v2] w fun e w' => e = .returned (.bool true) ∧ Below w.heap.size w w' := by
  obtain ⟨A0, c0, l0, rfl, h0, b0⟩ := wy_of r0 m0
  obtain ⟨A1, c1, l1, rfl, h1, b1⟩ := wy_of r1 m1
  obtain ⟨A2, c2, l2, rfl, h2, b2⟩ := wy_of r2 m2
  exact rmeet_calls l0 l1 l2 A0 c0 A1 c1 A2 c2 w h0 h1 h2 b0 b1 b2
theorem rorder_walk (v0 v1 v2 : Value) (w : World) (r0 : Fr.RdV w reachBytes (.slice 1 (.int .i64)) v0) (r1 : Fr.RdV w reachBytes (.slice 1 (.int .i64)) v1) (r2 : Fr.RdV w reachBytes (.slice 1 (.int .i64)) v2)
    (m0 : ∀ a l c, v0 = .slice a l c → l * Tryd.prog.bytesOf 3 ≤ reachBytes) (m1 : ∀ a l c, v1 = .slice a l c → l * Tryd.prog.bytesOf 3 ≤ reachBytes) (m2 : ∀ a l c, v2 = .slice a l c → l * Tryd.prog.bytesOf 3 ≤ reachBytes) :
    Calls Tryd.prog 7 #[v0, v1, v2] w fun e w' => e = .returned (.bool true) ∧ Below w.heap.size w w' := by
  obtain ⟨A0, c0, l0, rfl, h0, b0⟩ := wy_of r0 m0
  obtain ⟨A1, c1, l1, rfl, h1, b1⟩ := wy_of r1 m1
  obtain ⟨A2, c2, l2, rfl, h2, b2⟩ := wy_of r2 m2
  exact rorder_calls l0 l1 l2 A0 c0 A1 c1 A2 c2 w h0 h1 h2 b0 b1 b2
end Go.Proofs.YteekckglpinkpaaDoor
