/- The law of the thirteen cases, joined. -/
import Derived.Test.YtdpoocjjckbgdaaBlkT1
import Derived.Test.YtdpoocjjckbgdaaBlkT2
import Derived.Test.YtdpoocjjckbgdaaBlkT3
import Derived.Test.YtdpoocjjckbgdaaBlkT4
import Derived.Test.YtdpoocjjckbgdaaBlkT5
import Derived.Test.YtdpoocjjckbgdaaBlkT6
import Derived.Test.YtdpoocjjckbgdaaBlkT7
import Derived.Test.YtdpoocjjckbgdaaBlkT8
import Derived.Test.YtdpoocjjckbgdaaBlkT9
import Derived.Test.YtdpoocjjckbgdaaBlkT10
import Derived.Test.YtdpoocjjckbgdaaBlkT11
import Derived.Test.YtdpoocjjckbgdaaBlkT12
import Derived.Test.YtdpoocjjckbgdaaBlkT13
namespace Go.Proofs.Ytdpoocjjckbgdaa
open Go.RowKit
set_option maxHeartbeats 800000 in
set_option maxRecDepth 100000 in
theorem thirteen_err (hd hl dd dl : Int) (HJ : Hid (∀ w : World, Calls Try.prog 5 #[.agg #[.int .i64 hd, .int .i64 hl], .agg #[.int .i64 dd, .int .i64 dl]] w fun e w' => e = .returned (.tuple #[judgeV 0 0 0 0, .int .i64 1]) ∧ Below w.heap.size w w')) (w : World) : Calls Try.prog 3 #[.agg #[.int .i64 hd, .int .i64 hl], .agg #[.int .i64 dd, .int .i64 dl]] w fun e w' => e = .returned (.bool true) ∧ Below w.heap.size w w' := by
  go_enter Try.func3, Try.ntmps3
  go_wp2_with fail
  refine (HJ.out _).mono ?_; rintro en w1 ⟨rfl, hb1⟩
  have hB1 := Kt.balloc (Kt.bthen (Kt.balloc (Kt.balloc (Below.refl _ w) (.cells #[.int .i64 hd, .int .i64 hl] 23)) (.cells #[.int .i64 dd, .int .i64 dl] 23)) hb1) (.cells #[.int .i64 0, .int .i64 0, .int .i64 0, .int .i64 0] 25)
  unfold judgeV
  go_wp2_with fail
  refine (lives_calls _).mono ?_; rintro en w2 ⟨rfl, hb2⟩
  go_wp2_with fail
  refine (lives_calls _).mono ?_; rintro en w3 ⟨rfl, hb3⟩
  obtain ⟨hc2, hf2⟩ := Kt.bcell hb2
  obtain ⟨hc3, hf3⟩ := Kt.bcell hb3
  have hz2 : w1.heap.size < w2.heap.size := by have := hb2.size; simp at this; omega
  have hz3 : w1.heap.size < w3.heap.size := by have := hb3.size; omega
  go_wp2_with fail
  go_ret
  exact ⟨rfl, Kt.bthen (Kt.bthen hB1 hb2) hb3⟩
theorem move_of {w : World} {B : Nat} {v : Value} (r : Fr.RdV w B (.cat 1 (.int .i64) (.cat 1 (.int .i64) .nil)) v) : ∃ d l : Int, v = .agg #[.int .i64 d, .int .i64 l] := by
  obtain ⟨cs, rfl, r⟩ := r
  obtain ⟨_, _, a1, _, ⟨d, rfl, _⟩, q1⟩ := Fr.cat_open r
  obtain ⟨_, _, a2, _, ⟨l, rfl, _⟩, q2⟩ := Fr.cat_open q1
  have q3 : _ = [] := q2
  rw [a2, q3] at a1
  exact ⟨d, l, by rw [Fr.arr_of a1]; rfl⟩
theorem thirteen_walk (v0 v1 : Value) (w : World) (r0 : Fr.RdV w reachBytes (.cat 1 (.int .i64) (.cat 1 (.int .i64) .nil)) v0) (r1 : Fr.RdV w reachBytes (.cat 1 (.int .i64) (.cat 1 (.int .i64) .nil)) v1) :
    Calls Try.prog 3 #[v0, v1] w fun e w' => e = .returned (.bool true) ∧ Below w.heap.size w w' := by
  obtain ⟨hd, hl, rfl⟩ := move_of r0
  obtain ⟨dd, dl, rfl⟩ := move_of r1
  by_cases h1 : trB hd hl = true
  · by_cases h2 : trB dd dl = true
    · simp only [trB, decide_eq_true_eq] at h1 h2
      rcases h1 with ⟨rfl, rfl⟩ | ⟨rfl | rfl, b1, b2⟩ <;> rcases h2 with ⟨rfl, rfl⟩ | ⟨rfl | rfl, c1, c2⟩
      · exact thirteen_1 w
      · exact thirteen_2 dl w ⟨c1, by omega⟩
      · exact thirteen_3 dl w ⟨c1, by omega⟩
      · exact thirteen_4 hl w ⟨b1, by omega⟩
      · rcases Int.lt_trichotomy dl hl with h | h | h
        · exact thirteen_5 hl dl w ⟨b1, by omega⟩ ⟨c1, by omega⟩ h
        · subst h; exact thirteen_6 _ w ⟨b1, by omega⟩
        · exact thirteen_7 hl dl w ⟨b1, by omega⟩ ⟨c1, by omega⟩ h
      · exact thirteen_8 hl dl w ⟨b1, by omega⟩ ⟨c1, by omega⟩
      · exact thirteen_9 hl w ⟨b1, by omega⟩
      · exact thirteen_10 hl dl w ⟨b1, by omega⟩ ⟨c1, by omega⟩
      · rcases Int.lt_trichotomy dl hl with h | h | h
        · exact thirteen_11 hl dl w ⟨b1, by omega⟩ ⟨c1, by omega⟩ h
        · subst h; exact thirteen_12 _ w ⟨b1, by omega⟩
        · exact thirteen_13 hl dl w ⟨b1, by omega⟩ ⟨c1, by omega⟩ h
    · exact thirteen_err hd hl dd dl (Lib.hid (judge_err hd hl dd dl (.inr ⟨h1, by simpa using h2⟩))) w
  · exact thirteen_err hd hl dd dl (Lib.hid (judge_err hd hl dd dl (.inl (by simpa using h1)))) w
end Go.Proofs.Ytdpoocjjckbgdaa
