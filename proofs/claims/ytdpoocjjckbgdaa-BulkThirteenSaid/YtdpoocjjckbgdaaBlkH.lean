/- The law of the thirteen cases, walked. -/
import Derived.Test.YtdpoocjjckbgdaaBlkS
import Derived.BigRegion
import Derived.Deep.CutBlock
import Derived.Deep.CutRange
import Derived.Outline
namespace Go.Proofs.Ytdpoocjjckbgdaa
open Go.RowKit
set_option maxHeartbeats 800000 in
theorem lives_calls (w : World) : Calls Try.prog 6 #[] w fun e w' => e = .returned (.bool true) ∧ Below w.heap.size w w' := by
  have HS : Hid (∀ W : World, Calls Try.prog 9 #[.agg #[.int .i64 1, .int .i64 258, .int .i64 2]] W fun e w' => e = .returned (.tuple #[.string ⟨#[85, 83, 66, 83, 1, 0, 0, 0, 2, 1, 0, 0, 2]⟩, .int .i64 0]) ∧ Below W.heap.size W w') := Lib.hid (status_good 1 258 2 (by decide) (by decide) (by decide))
  have HJ := Lib.hid (fun W => judge_5 9 4 W (by decide) (by decide) (by decide))
  go_enter Try.func6, Try.ntmps6
  go_wp2_with fail
  refine (HS.out _).mono ?_; rintro en w1 ⟨rfl, hb1⟩
  go_wp2_with fail
  refine (HJ.out _).mono ?_; rintro en w2 ⟨rfl, hb2⟩
  unfold judgeV
  go_wp2
  go_ret
  exact ⟨rfl, Kt.balloc (Kt.bthen (Kt.bthen (Below.refl _ w) hb1) hb2) _⟩
def isA (c : Nat) : Array Value := #[.bool (decide (c = 1)), .bool (decide (c = 2)), .bool (decide (c = 3)), .bool (decide (c = 4)), .bool (decide (c = 5)), .bool (decide (c = 6)), .bool (decide (c = 7)), .bool (decide (c = 8)), .bool (decide (c = 9)), .bool (decide (c = 10)), .bool (decide (c = 11)), .bool (decide (c = 12)), .bool (decide (c = 13))]
theorem isA_at (c k : Nat) (h : k < 13) : (isA c)[k]? = some (.bool (decide (c = k + 1))) := by
  match k, h with
  | 0, _ | 1, _ | 2, _ | 3, _ | 4, _ | 5, _ | 6, _ | 7, _ | 8, _ | 9, _ | 10, _ | 11, _ | 12, _ => rfl
end Go.Proofs.Ytdpoocjjckbgdaa
