/- DescOne, DescBack: joined. -/
import Derived.Test.YtmddfpmchcmgiaaDsc2
import Derived.Test.YtmddfpmchcmgiaaDscV
namespace Go.Proofs.Ytmddfpmchcmgiaa
open Go.RowKit Go.Proofs.Ytmddfpmchcmgiaa.Dsc
theorem wdev : WDev := fun d w => wdev_calls d w
theorem one_walk (v0 v1 : Value) (w : World) (r0 : Fr.RdV w reachBytes .string v0) (r1 : Fr.RdV w reachBytes .string v1) :
    Calls Try.prog 7 #[v0, v1] w fun e w' => e = .returned (.bool true) ∧ Below w.heap.size w w' := one_walk' wdev v0 v1 w r0 r1
theorem back_walk (v0 v1 : Value) (w : World) (r0 : Fr.RdV w reachBytes devS v0) (r1 : Fr.RdV w reachBytes cfgS v1) :
    Calls Try.prog 6 #[v0, v1] w fun e w' => e = .returned (.bool true) ∧ Below w.heap.size w w' := back_walk' wdev v0 v1 w r0 r1
end Go.Proofs.Ytmddfpmchcmgiaa
