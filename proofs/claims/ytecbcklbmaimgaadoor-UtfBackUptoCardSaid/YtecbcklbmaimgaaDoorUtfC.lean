/- What utf8.ValidString answers, in every world from one on that holds its tables. -/
import Derived.Test.YtecbcklbmaimgaaDoorUtfB
import Derived.Test.YtecbcklbmaimgaaDoorShelf
import Derived.Lib.LaidU8T
namespace Go.Proofs.YtecbcklbmaimgaaDoor
open Go.RowKit Go.Lib
theorem Tabs.of {w : World} {l : List (String × DataW Unit)} (hL : laidMet Tryd.prog l w) (h3 : ("unicode/utf8.first", Lib.firstData) ∈ l) (h4 : ("unicode/utf8.acceptRanges", Lib.acceptData) ∈ l) : Vd w := by
  have hT : Lib.Utf8Tabs (Tryd.laysValid_ren.g 3) (Tryd.laysValid_ren.g 4) w :=
    utf8Tabs_of_readsT (U8Types.of196 Tryd.laysValid) ⟨by kernel_rfl, by kernel_rfl, by kernel_rfl, by kernel_rfl, by kernel_rfl, by kernel_rfl, by kernel_rfl⟩ (Lib.laidMet.reads hL h3) (Lib.laidMet.reads hL h4)
  exact fun s w1 hs hb => Any.utf8_ValidString Tryd.laysValid s w1 (by omega) (Utf8Tabs_below hT hb)
end Go.Proofs.YtecbcklbmaimgaaDoor
