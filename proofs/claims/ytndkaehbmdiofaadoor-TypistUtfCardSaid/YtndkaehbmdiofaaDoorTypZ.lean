/- The law TypistUtf: utf8.ValidString laid, and the walk joined. -/
import Derived.Test.YtndkaehbmdiofaaDoorTypQ
import Derived.Test.YtndkaehbmdiofaaDoorShelfV
import Derived.Shelf.Unicode.ValidAny
namespace Go.Proofs.YtndkaehbmdiofaaDoor
open Go.RowKit Go.Proofs.YtndkaehbmdiofaaDoor.Typ
theorem vdt_of {w : World} (hT : Lib.Utf8Tabs 0 1 w) : VdT w :=
  fun s w1 hs hb => Any.utf8_ValidString Tryd.laysValid s w1 (by omega) (show Lib.Utf8Tabs 0 1 w1 from Utf8Tabs_below hT hb)
theorem utf_walk (v0 v1 : Value) (w : World) (hT : Lib.Utf8Tabs 0 1 w) (r0 : Fr.RdV w reachBytes (.cat 4 (.cat 4 (.arr 4 1 (.int .u64)) .nil) (.cat 1 .bool (.cat 1 (.int .i64) (.cat 1 (.int .i64) (.cat 1 (.int .i64) (.cat 1 .string .nil)))))) v0) (r1 : Fr.RdV w reachBytes (.slice 4 (.cat 1 (.int .i64) (.cat 2 (.cat 1 (.int .i64) (.cat 1 .bool .nil)) (.cat 1 (.int .i64) .nil)))) v1) :
    Calls Tryd.prog 8 #[v0, v1] w fun e w' => e = .returned (.bool true) ∧ Below w.heap.size w w' := by
  obtain ⟨t, rfl⟩ := st_of r0
  obtain ⟨els1, h1, _, a1⟩ := Kt.ar_open r1 (by decide)
  obtain ⟨a, ha, hfa⟩ := sk_of els1 (fun x hx => (h1 x hx).2)
  rw [← ha, hfa] at a1
  obtain ⟨A1, p1, rfl, _, _⟩ := a1.form
  exact utf_calls t a A1 p1 w a1 (fun W hW => Utf8Tabs_below hT hW) (vdt_of hT)
end Go.Proofs.YtndkaehbmdiofaaDoor
