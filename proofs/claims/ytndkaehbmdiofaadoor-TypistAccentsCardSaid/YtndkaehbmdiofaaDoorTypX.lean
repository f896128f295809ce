/- The tables of unicode/utf8 in the world that the call finds. -/
import Derived.Test.YtndkaehbmdiofaaDoorShelf
import Derived.Lib.LaidU8
namespace Go.Proofs.YtndkaehbmdiofaaDoor
open Go.RowKit Go.Lib
theorem Tabs.of {w : World} {l : List (String × DataW Unit)} (hL : laidMet Tryd.prog l w) (h3 : ("unicode/utf8.first", Lib.firstData) ∈ l) (h4 : ("unicode/utf8.acceptRanges", Lib.acceptData) ∈ l) : Lib.Utf8Tabs 0 1 w :=
  utf8Tabs_of_reads Tryd.lays260 ⟨by kernel_rfl, by kernel_rfl, by kernel_rfl, by kernel_rfl, by kernel_rfl, by kernel_rfl, by kernel_rfl⟩ (Lib.laidMet.reads hL h3) (Lib.laidMet.reads hL h4)
end Go.Proofs.YtndkaehbmdiofaaDoor
