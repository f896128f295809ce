/- The law of the thirteen cases, walked: some of the cases. -/
import Derived.Test.YtdpoocjjckbgdaaBlkH
namespace Go.Proofs.Ytdpoocjjckbgdaa
open Go.RowKit
set_option maxRecDepth 100000 in
set_option maxHeartbeats 4000000 in
theorem thirteen_11 (hl dl : Int) (w : World) (b1 : 1 ≤ hl ∧ hl ≤ 4294967295) (b2 : 1 ≤ dl ∧ dl ≤ 4294967295) (hc : dl < hl) : Calls Try.prog 3 #[.agg #[.int .i64 2, .int .i64 hl], .agg #[.int .i64 2, .int .i64 dl]] w fun e w' => e = .returned (.bool true) ∧ Below w.heap.size w w' := by
  have d1 : decide (hl < dl) = false := by simp; omega
  have d2 : decide (dl < hl) = true := by simp; omega
  have he : (hl == dl) = false := by rw [beq_eq_false_iff_ne]; omega
  go_enter Try.func3, Try.ntmps3
  go_wp2_with fail
  refine (judge_11 hl dl _ b1 b2 hc).mono ?_; rintro en w1 ⟨rfl, hb1⟩
  obtain ⟨hc1, hf1⟩ := Kt.bcell hb1
  have hz1 : w.heap.size + 1 < w1.heap.size := by have := hb1.size; simp at this; omega
  have hy1 : w.heap.size < w1.heap.size := by omega
  unfold judgeV
  go_wp2_with fail
  refine (lives_calls _).mono ?_; rintro en w2 ⟨rfl, hb2⟩
  obtain ⟨hc2, hf2⟩ := Kt.bcell hb2
  have hz2 : w.heap.size + 1 < w2.heap.size := by have := hb2.size; simp at this; omega
  have hy2 : w.heap.size < w2.heap.size := by omega
  have hx2 : w1.heap.size < w2.heap.size := by have := hb2.size; simp at this; omega
  have hB2 := Kt.bthen (Kt.balloc (Kt.bthen (Kt.balloc (Kt.balloc (Below.refl _ w) _) _) hb1) _) hb2
  clear hb1 hb2
  go_upto_region 4 with (fail)
  go_cut [7, 8] from 32 to 33 (fun s7 s8 wx => ∃ b7 b8 : Nat, s7 = .pointer (some ⟨b7, 0, none⟩) ∧ s8 = .pointer (some ⟨b8, 0, none⟩) ∧ (wx.cell? ⟨b7, 0, none⟩ = some (.int .i64 2) ∧ wx.cell? ⟨b7, 1, none⟩ = some (.int .i64 hl)) ∧ (wx.cell? ⟨b8, 0, none⟩ = some (.int .i64 2) ∧ wx.cell? ⟨b8, 1, none⟩ = some (.int .i64 dl)) ∧ (wx.cell? ⟨w1.heap.size, 0, none⟩ = some (.int .i64 11) ∧ wx.cell? ⟨w1.heap.size, 1, none⟩ = some (.int .i64 dl) ∧ wx.cell? ⟨w1.heap.size, 2, none⟩ = some (.int .i64 (hl - dl)) ∧ wx.cell? ⟨w1.heap.size, 3, none⟩ = some (.int .i64 0)) ∧ Below w.heap.size w wx ∧ b7 < wx.heap.size ∧ b8 < wx.heap.size ∧ w1.heap.size < wx.heap.size)
  case first =>
    go_big_region
    all_goals
      go_wp2_with fail
      go_meet
      case rel =>
        have hx3 : w1.heap.size < w2.heap.size + 1 := by omega
        refine ⟨_, _, rfl, rfl, ⟨by simp, by simp⟩, ⟨by simp, by simp⟩, ⟨?_, ?_, ?_, ?_⟩, (Kt.balloc (Kt.balloc hB2 _) _).drew, by (simp; try omega), by (simp; try omega), by (simp; try omega)⟩
        all_goals
          show World.cell? (World.alloc (World.alloc _ _) _) _ = _
          rw [World.cell?_alloc_lt _ _ _ (by rw [World.size_alloc]; exact hx3), World.cell?_alloc_lt _ _ _ hx2, hc2 _ _ (by simp)]
          simp
  case rest =>
    obtain ⟨b7, b8, rfl, rfl, ⟨f0, f1⟩, ⟨g0, g1⟩, ⟨v0, v1, v2, v3⟩, hB, hz7, hz8, hzv⟩ := hcut
    clear hc1 hf1 hc2 hf2 hB2
    go_wp2_with fail
    go_loop [183, 10] (fun i n => ∃ k : Nat, k ≤ 13 ∧ i = .int .i64 k ∧ n = .int .i64 (if 11 ≤ k then 1 else 0)) (fun i _ => 13 - (intOf i).toNat)
    case atStart => exact ⟨0, by omega, rfl, rfl⟩
    case round =>
      obtain ⟨k, hk, rfl, rfl⟩ := hrel
      by_cases hlt : k < 13
      · have hcell : (wc.alloc (.cells #[.bool false, .bool false, .bool false, .bool false, .bool false, .bool false, .bool false, .bool false, .bool false, .bool false, .bool true, .bool false, .bool false] 4)).cell? ⟨wc.heap.size, k, none⟩ = some (.bool (decide (11 = k + 1))) := (cell_of_row _ _ _ _ _ _ (heap_alloc_new wc _)).trans (isA_at 11 k hlt)
        by_cases he : 11 = k + 1
        · obtain rfl : k = 10 := by omega
          clear he
          replace hcell := hcell.trans (show some (Value.bool (decide (11 = 10 + 1))) = some (.bool true) from rfl)
          rw [show (if 11 ≤ 10 then (1 : Int) else 0) = 0 from rfl]
          go_wp2
          go_round
          case rel => exact ⟨11, by omega, by first | rfl | go_num, by simp⟩
          case measure => simp [intOf]; try omega
        · have e1 : decide (11 = k + 1) = false := by simpa using he
          have e2 : ((11 : Int) == (k : Int) + 1) = false := by rw [beq_eq_false_iff_ne]; omega
          rw [e1] at hcell
          have e3 : (if 11 ≤ k + 1 then (1 : Int) else 0) = (if 11 ≤ k then (1 : Int) else 0) := by split <;> split <;> omega
          have E3 := Lib.hid e3; clear e3 e1 he
          generalize (if 11 ≤ k then (1 : Int) else 0) = n at *
          go_wp2
          go_round
          case rel => exact ⟨k + 1, by omega, by go_num, by rw [E3.out]⟩
          case measure => simp [intOf]; omega
      · obtain rfl : k = 13 := by omega
        simp only [show (11 : Nat) ≤ 13 by omega, if_true]
        go_wp2
        all_goals
          go_ret
          exact ⟨rfl, Kt.balloc hB _⟩
end Go.Proofs.Ytdpoocjjckbgdaa
