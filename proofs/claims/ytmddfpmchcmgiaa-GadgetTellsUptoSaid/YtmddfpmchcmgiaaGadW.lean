/- Devices that answer: valid. -/
import Derived.Test.YtmddfpmchcmgiaaGen
namespace Go.Proofs.Ytmddfpmchcmgiaa
open Go.RowKit
structure Gd where
  st : Int
  ad : Int
  ha : Int
deriving DecidableEq
def gdV (g : Gd) : Value := .agg #[.int .i64 g.st, .int .i64 g.ad, .int .i64 g.ha]
def gOk (g : Gd) : Bool := ((g.st == 0 && g.ad == 0) || (g.st == 1 || g.st == 2) && decide (1 ≤ g.ad) && decide (g.ad ≤ 127)) && decide (0 ≤ g.ha) && decide (g.ha < 4294967296) && (g.ha == 0 || g.st == 2)
set_option maxRecDepth 100000 in
set_option maxHeartbeats 1600000 in
theorem valid_calls (g : Gd) (w : World) : Calls Try.prog 48 #[gdV g] w fun e w' => e = .returned (.bool (gOk g)) ∧ Below w.heap.size w w' := by
  obtain ⟨st, ad, ha⟩ := g
  unfold gdV
  dsimp only at *
  go_enter Try.func48, Try.ntmps48
  go_wp2_with fail
  all_goals go_ret
  all_goals refine ⟨?_, Kt.balloc (Below.refl _ _) _⟩
  all_goals refine congrArg (fun b => Ending.returned (.bool b)) ?_
  all_goals unfold gOk
  all_goals simp_all
  all_goals omega
end Go.Proofs.Ytmddfpmchcmgiaa
