/- The walks of package bulk: pairs of moves. -/
import Derived.Test.YtafiedhjjnapoaaRows
import Derived.Test.YtafiedhjjnapoaaKit
import Derived.Test.YtafiedhjjnapoaaFr
namespace Go.Proofs.Ytafiedhjjnapoaa
open Go.RowKit
theorem ret_bool {a b : Bool} (h : a = b) : Ending.returned (.bool a) = Ending.returned (.bool b) := by rw [h]
def trB (d l : Int) : Bool := decide ((d = 0 ∧ l = 0) ∨ ((d = 1 ∨ d = 2) ∧ 1 ≤ l ∧ l < 4294967296))
set_option maxHeartbeats 400000 in
theorem transfer_calls (d l : Int) (w : World) : Calls Try.prog 80 #[.agg #[.int .i64 d, .int .i64 l]] w fun e w' => e = .returned (.bool (trB d l)) ∧ Below w.heap.size w w' := by
  go_enter Try.func80, Try.ntmps80
  go_wp2
  all_goals
    go_ret
    refine ⟨ret_bool ?_, Kt.balloc (Below.refl _ w) _⟩
    unfold trB
    try simp only [beq_iff_eq, beq_eq_false_iff_ne] at *
    rw [Bool.eq_iff_iff]
    simp
    omega
def judgeV (c m r q : Int) : Value := .agg #[.int .i64 c, .int .i64 m, .int .i64 r, .int .i64 q]
set_option maxHeartbeats 800000 in
theorem judge_err (hd hl dd dl : Int) (h : trB hd hl = false ∨ (trB hd hl = true ∧ trB dd dl = false)) (w : World) : Calls Try.prog 74 #[.agg #[.int .i64 hd, .int .i64 hl], .agg #[.int .i64 dd, .int .i64 dl]] w fun e w' => e = .returned (.tuple #[judgeV 0 0 0 0, .int .i64 1]) ∧ Below w.heap.size w w' := by
  rcases h with h1 | ⟨h1, h2⟩
  · go_enter Try.func74, Try.ntmps74
    go_wp2_with fail
    refine (transfer_calls _ _ _).mono ?_; rintro en w1 ⟨rfl, hb1⟩
    obtain ⟨hc1, hf1⟩ := Kt.bcell hb1
    have hz1 : w.heap.size + 1 + 1 < w1.heap.size := by have := hb1.size; simp at this; omega
    go_wp2_with fail
    refine bodyPost_ret (v := .tuple #[judgeV 0 0 0 0, .int .i64 1]) (by simp [judgeV, results, Try.results74, go_sem, hc1]) rfl ⟨rfl, ?_⟩
    exact Kt.bset (Kt.bset (Kt.bset (Kt.bset (Kt.bthen (Kt.balloc (Kt.balloc (Kt.balloc (Below.refl _ w) _) _) _) hb1) (by simp; omega) _) (by simp; omega) _) (by simp; omega) _) (by simp; omega) _
  · go_enter Try.func74, Try.ntmps74
    go_wp2_with fail
    refine (transfer_calls _ _ _).mono ?_; rintro en w1 ⟨rfl, hb1⟩
    obtain ⟨hc1, hf1⟩ := Kt.bcell hb1
    have hz1 : w.heap.size + 1 + 1 < w1.heap.size := by have := hb1.size; simp at this; omega
    go_wp2_with fail
    refine (transfer_calls _ _ _).mono ?_; rintro en w2 ⟨rfl, hb2⟩
    obtain ⟨hc2, hf2⟩ := Kt.bcell hb2
    have hz2 : w.heap.size + 1 + 1 < w2.heap.size := by have := hb2.size; omega
    have hy2 : w.heap.size + 1 < w2.heap.size := by omega
    have hx2 : w.heap.size < w2.heap.size := by omega
    have hB2 := Kt.bthen (Kt.bthen (Kt.balloc (Kt.balloc (Kt.balloc (Below.refl _ w) _) _) _) hb1) hb2
    go_wp2_with fail
    refine bodyPost_ret (v := .tuple #[judgeV 0 0 0 0, .int .i64 1]) (by simp [judgeV, results, Try.results74, go_sem, hc1, hc2, hz1]) rfl ⟨rfl, ?_⟩
    exact Kt.bset (Kt.bset (Kt.bset (Kt.bset hB2 (by simp; omega) _) (by simp; omega) _) (by simp; omega) _) (by simp; omega) _
set_option maxHeartbeats 800000 in
theorem judge_1 (w : World) : Calls Try.prog 74 #[.agg #[.int .i64 0, .int .i64 0], .agg #[.int .i64 0, .int .i64 0]] w fun e w' => e = .returned (.tuple #[judgeV 1 0 0 0, .int .i64 0]) ∧ Below w.heap.size w w' := by
  have h1 : trB 0 0 = true := by unfold trB; rw [decide_eq_true_iff]; omega
  have h2 : trB 0 0 = true := by unfold trB; rw [decide_eq_true_iff]; omega
  go_enter Try.func74, Try.ntmps74
  go_wp2_with fail
  refine (transfer_calls _ _ _).mono ?_; rintro en w1 ⟨rfl, hb1⟩
  obtain ⟨hc1, hf1⟩ := Kt.bcell hb1
  have hz1 : w.heap.size + 1 + 1 < w1.heap.size := by have := hb1.size; simp at this; omega
  have hy1 : w.heap.size + 1 < w1.heap.size := by omega
  have hx1 : w.heap.size < w1.heap.size := by omega
  go_wp2_with fail
  refine (transfer_calls _ _ _).mono ?_; rintro en w2 ⟨rfl, hb2⟩
  obtain ⟨hc2, hf2⟩ := Kt.bcell hb2
  have hz2 : w.heap.size + 1 + 1 < w2.heap.size := by have := hb2.size; omega
  have hy2 : w.heap.size + 1 < w2.heap.size := by omega
  have hx2 : w.heap.size < w2.heap.size := by omega
  have hB2 := Kt.bthen (Kt.bthen (Kt.balloc (Kt.balloc (Kt.balloc (Below.refl _ w) _) _) _) hb1) hb2
  go_wp2_with fail
  all_goals
    refine bodyPost_ret (v := .tuple #[judgeV 1 0 0 0, .int .i64 0]) (by simp [judgeV, results, Try.results74, go_sem, hc1, hc2, hz1, hz2]) rfl ⟨rfl, ?_⟩
    repeat (first | exact hB2 | refine Kt.bset ?_ (by simp; omega) _ | refine Kt.balloc ?_ _)
set_option maxHeartbeats 800000 in
theorem judge_2 (dl : Int) (w : World) (b2 : 1 ≤ dl ∧ dl ≤ 4294967295) : Calls Try.prog 74 #[.agg #[.int .i64 0, .int .i64 0], .agg #[.int .i64 1, .int .i64 dl]] w fun e w' => e = .returned (.tuple #[judgeV 2 0 0 2, .int .i64 0]) ∧ Below w.heap.size w w' := by
  have h1 : trB 0 0 = true := by unfold trB; rw [decide_eq_true_iff]; omega
  have h2 : trB 1 dl = true := by unfold trB; rw [decide_eq_true_iff]; omega
  go_enter Try.func74, Try.ntmps74
  go_wp2_with fail
  refine (transfer_calls _ _ _).mono ?_; rintro en w1 ⟨rfl, hb1⟩
  obtain ⟨hc1, hf1⟩ := Kt.bcell hb1
  have hz1 : w.heap.size + 1 + 1 < w1.heap.size := by have := hb1.size; simp at this; omega
  have hy1 : w.heap.size + 1 < w1.heap.size := by omega
  have hx1 : w.heap.size < w1.heap.size := by omega
  go_wp2_with fail
  refine (transfer_calls _ _ _).mono ?_; rintro en w2 ⟨rfl, hb2⟩
  obtain ⟨hc2, hf2⟩ := Kt.bcell hb2
  have hz2 : w.heap.size + 1 + 1 < w2.heap.size := by have := hb2.size; omega
  have hy2 : w.heap.size + 1 < w2.heap.size := by omega
  have hx2 : w.heap.size < w2.heap.size := by omega
  have hB2 := Kt.bthen (Kt.bthen (Kt.balloc (Kt.balloc (Kt.balloc (Below.refl _ w) _) _) _) hb1) hb2
  go_wp2_with fail
  all_goals
    refine bodyPost_ret (v := .tuple #[judgeV 2 0 0 2, .int .i64 0]) (by simp [judgeV, results, Try.results74, go_sem, hc1, hc2, hz1, hz2]) rfl ⟨rfl, ?_⟩
    repeat (first | exact hB2 | refine Kt.bset ?_ (by simp; omega) _ | refine Kt.balloc ?_ _)
set_option maxHeartbeats 800000 in
theorem judge_3 (dl : Int) (w : World) (b2 : 1 ≤ dl ∧ dl ≤ 4294967295) : Calls Try.prog 74 #[.agg #[.int .i64 0, .int .i64 0], .agg #[.int .i64 2, .int .i64 dl]] w fun e w' => e = .returned (.tuple #[judgeV 3 0 0 2, .int .i64 0]) ∧ Below w.heap.size w w' := by
  have h1 : trB 0 0 = true := by unfold trB; rw [decide_eq_true_iff]; omega
  have h2 : trB 2 dl = true := by unfold trB; rw [decide_eq_true_iff]; omega
  go_enter Try.func74, Try.ntmps74
  go_wp2_with fail
  refine (transfer_calls _ _ _).mono ?_; rintro en w1 ⟨rfl, hb1⟩
  obtain ⟨hc1, hf1⟩ := Kt.bcell hb1
  have hz1 : w.heap.size + 1 + 1 < w1.heap.size := by have := hb1.size; simp at this; omega
  have hy1 : w.heap.size + 1 < w1.heap.size := by omega
  have hx1 : w.heap.size < w1.heap.size := by omega
  go_wp2_with fail
  refine (transfer_calls _ _ _).mono ?_; rintro en w2 ⟨rfl, hb2⟩
  obtain ⟨hc2, hf2⟩ := Kt.bcell hb2
  have hz2 : w.heap.size + 1 + 1 < w2.heap.size := by have := hb2.size; omega
  have hy2 : w.heap.size + 1 < w2.heap.size := by omega
  have hx2 : w.heap.size < w2.heap.size := by omega
  have hB2 := Kt.bthen (Kt.bthen (Kt.balloc (Kt.balloc (Kt.balloc (Below.refl _ w) _) _) _) hb1) hb2
  go_wp2_with fail
  all_goals
    refine bodyPost_ret (v := .tuple #[judgeV 3 0 0 2, .int .i64 0]) (by simp [judgeV, results, Try.results74, go_sem, hc1, hc2, hz1, hz2]) rfl ⟨rfl, ?_⟩
    repeat (first | exact hB2 | refine Kt.bset ?_ (by simp; omega) _ | refine Kt.balloc ?_ _)
set_option maxHeartbeats 800000 in
theorem judge_4 (hl : Int) (w : World) (b1 : 1 ≤ hl ∧ hl ≤ 4294967295) : Calls Try.prog 74 #[.agg #[.int .i64 1, .int .i64 hl], .agg #[.int .i64 0, .int .i64 0]] w fun e w' => e = .returned (.tuple #[judgeV 4 0 hl 0, .int .i64 0]) ∧ Below w.heap.size w w' := by
  have h1 : trB 1 hl = true := by unfold trB; rw [decide_eq_true_iff]; omega
  have h2 : trB 0 0 = true := by unfold trB; rw [decide_eq_true_iff]; omega
  go_enter Try.func74, Try.ntmps74
  go_wp2_with fail
  refine (transfer_calls _ _ _).mono ?_; rintro en w1 ⟨rfl, hb1⟩
  obtain ⟨hc1, hf1⟩ := Kt.bcell hb1
  have hz1 : w.heap.size + 1 + 1 < w1.heap.size := by have := hb1.size; simp at this; omega
  have hy1 : w.heap.size + 1 < w1.heap.size := by omega
  have hx1 : w.heap.size < w1.heap.size := by omega
  go_wp2_with fail
  refine (transfer_calls _ _ _).mono ?_; rintro en w2 ⟨rfl, hb2⟩
  obtain ⟨hc2, hf2⟩ := Kt.bcell hb2
  have hz2 : w.heap.size + 1 + 1 < w2.heap.size := by have := hb2.size; omega
  have hy2 : w.heap.size + 1 < w2.heap.size := by omega
  have hx2 : w.heap.size < w2.heap.size := by omega
  have hB2 := Kt.bthen (Kt.bthen (Kt.balloc (Kt.balloc (Kt.balloc (Below.refl _ w) _) _) _) hb1) hb2
  go_wp2_with fail
  all_goals
    refine bodyPost_ret (v := .tuple #[judgeV 4 0 hl 0, .int .i64 0]) (by simp [judgeV, results, Try.results74, go_sem, hc1, hc2, hz1, hz2]) rfl ⟨rfl, ?_⟩
    repeat (first | exact hB2 | refine Kt.bset ?_ (by simp; omega) _ | refine Kt.balloc ?_ _)
set_option maxHeartbeats 800000 in
theorem judge_5 (hl dl : Int) (w : World) (b1 : 1 ≤ hl ∧ hl ≤ 4294967295) (b2 : 1 ≤ dl ∧ dl ≤ 4294967295) (hc : dl < hl) : Calls Try.prog 74 #[.agg #[.int .i64 1, .int .i64 hl], .agg #[.int .i64 1, .int .i64 dl]] w fun e w' => e = .returned (.tuple #[judgeV 5 dl (hl - dl) 0, .int .i64 0]) ∧ Below w.heap.size w w' := by
  have h1 : trB 1 hl = true := by unfold trB; rw [decide_eq_true_iff]; omega
  have h2 : trB 1 dl = true := by unfold trB; rw [decide_eq_true_iff]; omega
  have he : (hl == dl) = false := by rw [beq_eq_false_iff_ne]; omega
  go_enter Try.func74, Try.ntmps74
  go_wp2_with fail
  refine (transfer_calls _ _ _).mono ?_; rintro en w1 ⟨rfl, hb1⟩
  obtain ⟨hc1, hf1⟩ := Kt.bcell hb1
  have hz1 : w.heap.size + 1 + 1 < w1.heap.size := by have := hb1.size; simp at this; omega
  have hy1 : w.heap.size + 1 < w1.heap.size := by omega
  have hx1 : w.heap.size < w1.heap.size := by omega
  go_wp2_with fail
  refine (transfer_calls _ _ _).mono ?_; rintro en w2 ⟨rfl, hb2⟩
  obtain ⟨hc2, hf2⟩ := Kt.bcell hb2
  have hz2 : w.heap.size + 1 + 1 < w2.heap.size := by have := hb2.size; omega
  have hy2 : w.heap.size + 1 < w2.heap.size := by omega
  have hx2 : w.heap.size < w2.heap.size := by omega
  have hB2 := Kt.bthen (Kt.bthen (Kt.balloc (Kt.balloc (Kt.balloc (Below.refl _ w) _) _) _) hb1) hb2
  go_wp2_with fail
  all_goals
    refine bodyPost_ret (v := .tuple #[judgeV 5 dl (hl - dl) 0, .int .i64 0]) (by simp [judgeV, results, Try.results74, go_sem, hc1, hc2, hz1, hz2]) rfl ⟨rfl, ?_⟩
    repeat (first | exact hB2 | refine Kt.bset ?_ (by simp; omega) _ | refine Kt.balloc ?_ _)
set_option maxHeartbeats 800000 in
theorem judge_6 (hl : Int) (w : World) (b1 : 1 ≤ hl ∧ hl ≤ 4294967295) : Calls Try.prog 74 #[.agg #[.int .i64 1, .int .i64 hl], .agg #[.int .i64 1, .int .i64 hl]] w fun e w' => e = .returned (.tuple #[judgeV 6 hl 0 0, .int .i64 0]) ∧ Below w.heap.size w w' := by
  have h1 : trB 1 hl = true := by unfold trB; rw [decide_eq_true_iff]; omega
  have h2 : trB 1 hl = true := by unfold trB; rw [decide_eq_true_iff]; omega
  go_enter Try.func74, Try.ntmps74
  go_wp2_with fail
  refine (transfer_calls _ _ _).mono ?_; rintro en w1 ⟨rfl, hb1⟩
  obtain ⟨hc1, hf1⟩ := Kt.bcell hb1
  have hz1 : w.heap.size + 1 + 1 < w1.heap.size := by have := hb1.size; simp at this; omega
  have hy1 : w.heap.size + 1 < w1.heap.size := by omega
  have hx1 : w.heap.size < w1.heap.size := by omega
  go_wp2_with fail
  refine (transfer_calls _ _ _).mono ?_; rintro en w2 ⟨rfl, hb2⟩
  obtain ⟨hc2, hf2⟩ := Kt.bcell hb2
  have hz2 : w.heap.size + 1 + 1 < w2.heap.size := by have := hb2.size; omega
  have hy2 : w.heap.size + 1 < w2.heap.size := by omega
  have hx2 : w.heap.size < w2.heap.size := by omega
  have hB2 := Kt.bthen (Kt.bthen (Kt.balloc (Kt.balloc (Kt.balloc (Below.refl _ w) _) _) _) hb1) hb2
  go_wp2_with fail
  all_goals
    refine bodyPost_ret (v := .tuple #[judgeV 6 hl 0 0, .int .i64 0]) (by simp [judgeV, results, Try.results74, go_sem, hc1, hc2, hz1, hz2]) rfl ⟨rfl, ?_⟩
    repeat (first | exact hB2 | refine Kt.bset ?_ (by simp; omega) _ | refine Kt.balloc ?_ _)
set_option maxHeartbeats 800000 in
theorem judge_7 (hl dl : Int) (w : World) (b1 : 1 ≤ hl ∧ hl ≤ 4294967295) (b2 : 1 ≤ dl ∧ dl ≤ 4294967295) (hc : hl < dl) : Calls Try.prog 74 #[.agg #[.int .i64 1, .int .i64 hl], .agg #[.int .i64 1, .int .i64 dl]] w fun e w' => e = .returned (.tuple #[judgeV 7 0 hl 2, .int .i64 0]) ∧ Below w.heap.size w w' := by
  have h1 : trB 1 hl = true := by unfold trB; rw [decide_eq_true_iff]; omega
  have h2 : trB 1 dl = true := by unfold trB; rw [decide_eq_true_iff]; omega
  have he : (hl == dl) = false := by rw [beq_eq_false_iff_ne]; omega
  go_enter Try.func74, Try.ntmps74
  go_wp2_with fail
  refine (transfer_calls _ _ _).mono ?_; rintro en w1 ⟨rfl, hb1⟩
  obtain ⟨hc1, hf1⟩ := Kt.bcell hb1
  have hz1 : w.heap.size + 1 + 1 < w1.heap.size := by have := hb1.size; simp at this; omega
  have hy1 : w.heap.size + 1 < w1.heap.size := by omega
  have hx1 : w.heap.size < w1.heap.size := by omega
  go_wp2_with fail
  refine (transfer_calls _ _ _).mono ?_; rintro en w2 ⟨rfl, hb2⟩
  obtain ⟨hc2, hf2⟩ := Kt.bcell hb2
  have hz2 : w.heap.size + 1 + 1 < w2.heap.size := by have := hb2.size; omega
  have hy2 : w.heap.size + 1 < w2.heap.size := by omega
  have hx2 : w.heap.size < w2.heap.size := by omega
  have hB2 := Kt.bthen (Kt.bthen (Kt.balloc (Kt.balloc (Kt.balloc (Below.refl _ w) _) _) _) hb1) hb2
  go_wp2_with fail
  all_goals
    refine bodyPost_ret (v := .tuple #[judgeV 7 0 hl 2, .int .i64 0]) (by simp [judgeV, results, Try.results74, go_sem, hc1, hc2, hz1, hz2]) rfl ⟨rfl, ?_⟩
    repeat (first | exact hB2 | refine Kt.bset ?_ (by simp; omega) _ | refine Kt.balloc ?_ _)
set_option maxHeartbeats 800000 in
theorem judge_8 (hl dl : Int) (w : World) (b1 : 1 ≤ hl ∧ hl ≤ 4294967295) (b2 : 1 ≤ dl ∧ dl ≤ 4294967295) : Calls Try.prog 74 #[.agg #[.int .i64 1, .int .i64 hl], .agg #[.int .i64 2, .int .i64 dl]] w fun e w' => e = .returned (.tuple #[judgeV 8 0 hl 2, .int .i64 0]) ∧ Below w.heap.size w w' := by
  have h1 : trB 1 hl = true := by unfold trB; rw [decide_eq_true_iff]; omega
  have h2 : trB 2 dl = true := by unfold trB; rw [decide_eq_true_iff]; omega
  go_enter Try.func74, Try.ntmps74
  go_wp2_with fail
  refine (transfer_calls _ _ _).mono ?_; rintro en w1 ⟨rfl, hb1⟩
  obtain ⟨hc1, hf1⟩ := Kt.bcell hb1
  have hz1 : w.heap.size + 1 + 1 < w1.heap.size := by have := hb1.size; simp at this; omega
  have hy1 : w.heap.size + 1 < w1.heap.size := by omega
  have hx1 : w.heap.size < w1.heap.size := by omega
  go_wp2_with fail
  refine (transfer_calls _ _ _).mono ?_; rintro en w2 ⟨rfl, hb2⟩
  obtain ⟨hc2, hf2⟩ := Kt.bcell hb2
  have hz2 : w.heap.size + 1 + 1 < w2.heap.size := by have := hb2.size; omega
  have hy2 : w.heap.size + 1 < w2.heap.size := by omega
  have hx2 : w.heap.size < w2.heap.size := by omega
  have hB2 := Kt.bthen (Kt.bthen (Kt.balloc (Kt.balloc (Kt.balloc (Below.refl _ w) _) _) _) hb1) hb2
  go_wp2_with fail
  all_goals
    refine bodyPost_ret (v := .tuple #[judgeV 8 0 hl 2, .int .i64 0]) (by simp [judgeV, results, Try.results74, go_sem, hc1, hc2, hz1, hz2]) rfl ⟨rfl, ?_⟩
    repeat (first | exact hB2 | refine Kt.bset ?_ (by simp; omega) _ | refine Kt.balloc ?_ _)
set_option maxHeartbeats 800000 in
theorem judge_9 (hl : Int) (w : World) (b1 : 1 ≤ hl ∧ hl ≤ 4294967295) : Calls Try.prog 74 #[.agg #[.int .i64 2, .int .i64 hl], .agg #[.int .i64 0, .int .i64 0]] w fun e w' => e = .returned (.tuple #[judgeV 9 0 hl 0, .int .i64 0]) ∧ Below w.heap.size w w' := by
  have h1 : trB 2 hl = true := by unfold trB; rw [decide_eq_true_iff]; omega
  have h2 : trB 0 0 = true := by unfold trB; rw [decide_eq_true_iff]; omega
  go_enter Try.func74, Try.ntmps74
  go_wp2_with fail
  refine (transfer_calls _ _ _).mono ?_; rintro en w1 ⟨rfl, hb1⟩
  obtain ⟨hc1, hf1⟩ := Kt.bcell hb1
  have hz1 : w.heap.size + 1 + 1 < w1.heap.size := by have := hb1.size; simp at this; omega
  have hy1 : w.heap.size + 1 < w1.heap.size := by omega
  have hx1 : w.heap.size < w1.heap.size := by omega
  go_wp2_with fail
  refine (transfer_calls _ _ _).mono ?_; rintro en w2 ⟨rfl, hb2⟩
  obtain ⟨hc2, hf2⟩ := Kt.bcell hb2
  have hz2 : w.heap.size + 1 + 1 < w2.heap.size := by have := hb2.size; omega
  have hy2 : w.heap.size + 1 < w2.heap.size := by omega
  have hx2 : w.heap.size < w2.heap.size := by omega
  have hB2 := Kt.bthen (Kt.bthen (Kt.balloc (Kt.balloc (Kt.balloc (Below.refl _ w) _) _) _) hb1) hb2
  go_wp2_with fail
  all_goals
    refine bodyPost_ret (v := .tuple #[judgeV 9 0 hl 0, .int .i64 0]) (by simp [judgeV, results, Try.results74, go_sem, hc1, hc2, hz1, hz2]) rfl ⟨rfl, ?_⟩
    repeat (first | exact hB2 | refine Kt.bset ?_ (by simp; omega) _ | refine Kt.balloc ?_ _)
set_option maxHeartbeats 800000 in
theorem judge_10 (hl dl : Int) (w : World) (b1 : 1 ≤ hl ∧ hl ≤ 4294967295) (b2 : 1 ≤ dl ∧ dl ≤ 4294967295) : Calls Try.prog 74 #[.agg #[.int .i64 2, .int .i64 hl], .agg #[.int .i64 1, .int .i64 dl]] w fun e w' => e = .returned (.tuple #[judgeV 10 0 hl 2, .int .i64 0]) ∧ Below w.heap.size w w' := by
  have h1 : trB 2 hl = true := by unfold trB; rw [decide_eq_true_iff]; omega
  have h2 : trB 1 dl = true := by unfold trB; rw [decide_eq_true_iff]; omega
  go_enter Try.func74, Try.ntmps74
  go_wp2_with fail
  refine (transfer_calls _ _ _).mono ?_; rintro en w1 ⟨rfl, hb1⟩
  obtain ⟨hc1, hf1⟩ := Kt.bcell hb1
  have hz1 : w.heap.size + 1 + 1 < w1.heap.size := by have := hb1.size; simp at this; omega
  have hy1 : w.heap.size + 1 < w1.heap.size := by omega
  have hx1 : w.heap.size < w1.heap.size := by omega
  go_wp2_with fail
  refine (transfer_calls _ _ _).mono ?_; rintro en w2 ⟨rfl, hb2⟩
  obtain ⟨hc2, hf2⟩ := Kt.bcell hb2
  have hz2 : w.heap.size + 1 + 1 < w2.heap.size := by have := hb2.size; omega
  have hy2 : w.heap.size + 1 < w2.heap.size := by omega
  have hx2 : w.heap.size < w2.heap.size := by omega
  have hB2 := Kt.bthen (Kt.bthen (Kt.balloc (Kt.balloc (Kt.balloc (Below.refl _ w) _) _) _) hb1) hb2
  go_wp2_with fail
  all_goals
    refine bodyPost_ret (v := .tuple #[judgeV 10 0 hl 2, .int .i64 0]) (by simp [judgeV, results, Try.results74, go_sem, hc1, hc2, hz1, hz2]) rfl ⟨rfl, ?_⟩
    repeat (first | exact hB2 | refine Kt.bset ?_ (by simp; omega) _ | refine Kt.balloc ?_ _)
set_option maxHeartbeats 800000 in
theorem judge_11 (hl dl : Int) (w : World) (b1 : 1 ≤ hl ∧ hl ≤ 4294967295) (b2 : 1 ≤ dl ∧ dl ≤ 4294967295) (hc : dl < hl) : Calls Try.prog 74 #[.agg #[.int .i64 2, .int .i64 hl], .agg #[.int .i64 2, .int .i64 dl]] w fun e w' => e = .returned (.tuple #[judgeV 11 dl (hl - dl) 0, .int .i64 0]) ∧ Below w.heap.size w w' := by
  have h1 : trB 2 hl = true := by unfold trB; rw [decide_eq_true_iff]; omega
  have h2 : trB 2 dl = true := by unfold trB; rw [decide_eq_true_iff]; omega
  have he : (hl == dl) = false := by rw [beq_eq_false_iff_ne]; omega
  go_enter Try.func74, Try.ntmps74
  go_wp2_with fail
  refine (transfer_calls _ _ _).mono ?_; rintro en w1 ⟨rfl, hb1⟩
  obtain ⟨hc1, hf1⟩ := Kt.bcell hb1
  have hz1 : w.heap.size + 1 + 1 < w1.heap.size := by have := hb1.size; simp at this; omega
  have hy1 : w.heap.size + 1 < w1.heap.size := by omega
  have hx1 : w.heap.size < w1.heap.size := by omega
  go_wp2_with fail
  refine (transfer_calls _ _ _).mono ?_; rintro en w2 ⟨rfl, hb2⟩
  obtain ⟨hc2, hf2⟩ := Kt.bcell hb2
  have hz2 : w.heap.size + 1 + 1 < w2.heap.size := by have := hb2.size; omega
  have hy2 : w.heap.size + 1 < w2.heap.size := by omega
  have hx2 : w.heap.size < w2.heap.size := by omega
  have hB2 := Kt.bthen (Kt.bthen (Kt.balloc (Kt.balloc (Kt.balloc (Below.refl _ w) _) _) _) hb1) hb2
  go_wp2_with fail
  all_goals
    refine bodyPost_ret (v := .tuple #[judgeV 11 dl (hl - dl) 0, .int .i64 0]) (by simp [judgeV, results, Try.results74, go_sem, hc1, hc2, hz1, hz2]) rfl ⟨rfl, ?_⟩
    repeat (first | exact hB2 | refine Kt.bset ?_ (by simp; omega) _ | refine Kt.balloc ?_ _)
set_option maxHeartbeats 800000 in
theorem judge_12 (hl : Int) (w : World) (b1 : 1 ≤ hl ∧ hl ≤ 4294967295) : Calls Try.prog 74 #[.agg #[.int .i64 2, .int .i64 hl], .agg #[.int .i64 2, .int .i64 hl]] w fun e w' => e = .returned (.tuple #[judgeV 12 hl 0 0, .int .i64 0]) ∧ Below w.heap.size w w' := by
  have h1 : trB 2 hl = true := by unfold trB; rw [decide_eq_true_iff]; omega
  have h2 : trB 2 hl = true := by unfold trB; rw [decide_eq_true_iff]; omega
  go_enter Try.func74, Try.ntmps74
  go_wp2_with fail
  refine (transfer_calls _ _ _).mono ?_; rintro en w1 ⟨rfl, hb1⟩
  obtain ⟨hc1, hf1⟩ := Kt.bcell hb1
  have hz1 : w.heap.size + 1 + 1 < w1.heap.size := by have := hb1.size; simp at this; omega
  have hy1 : w.heap.size + 1 < w1.heap.size := by omega
  have hx1 : w.heap.size < w1.heap.size := by omega
  go_wp2_with fail
  refine (transfer_calls _ _ _).mono ?_; rintro en w2 ⟨rfl, hb2⟩
  obtain ⟨hc2, hf2⟩ := Kt.bcell hb2
  have hz2 : w.heap.size + 1 + 1 < w2.heap.size := by have := hb2.size; omega
  have hy2 : w.heap.size + 1 < w2.heap.size := by omega
  have hx2 : w.heap.size < w2.heap.size := by omega
  have hB2 := Kt.bthen (Kt.bthen (Kt.balloc (Kt.balloc (Kt.balloc (Below.refl _ w) _) _) _) hb1) hb2
  go_wp2_with fail
  all_goals
    refine bodyPost_ret (v := .tuple #[judgeV 12 hl 0 0, .int .i64 0]) (by simp [judgeV, results, Try.results74, go_sem, hc1, hc2, hz1, hz2]) rfl ⟨rfl, ?_⟩
    repeat (first | exact hB2 | refine Kt.bset ?_ (by simp; omega) _ | refine Kt.balloc ?_ _)
set_option maxHeartbeats 800000 in
theorem judge_13 (hl dl : Int) (w : World) (b1 : 1 ≤ hl ∧ hl ≤ 4294967295) (b2 : 1 ≤ dl ∧ dl ≤ 4294967295) (hc : hl < dl) : Calls Try.prog 74 #[.agg #[.int .i64 2, .int .i64 hl], .agg #[.int .i64 2, .int .i64 dl]] w fun e w' => e = .returned (.tuple #[judgeV 13 0 hl 2, .int .i64 0]) ∧ Below w.heap.size w w' := by
  have h1 : trB 2 hl = true := by unfold trB; rw [decide_eq_true_iff]; omega
  have h2 : trB 2 dl = true := by unfold trB; rw [decide_eq_true_iff]; omega
  have he : (hl == dl) = false := by rw [beq_eq_false_iff_ne]; omega
  go_enter Try.func74, Try.ntmps74
  go_wp2_with fail
  refine (transfer_calls _ _ _).mono ?_; rintro en w1 ⟨rfl, hb1⟩
  obtain ⟨hc1, hf1⟩ := Kt.bcell hb1
  have hz1 : w.heap.size + 1 + 1 < w1.heap.size := by have := hb1.size; simp at this; omega
  have hy1 : w.heap.size + 1 < w1.heap.size := by omega
  have hx1 : w.heap.size < w1.heap.size := by omega
  go_wp2_with fail
  refine (transfer_calls _ _ _).mono ?_; rintro en w2 ⟨rfl, hb2⟩
  obtain ⟨hc2, hf2⟩ := Kt.bcell hb2
  have hz2 : w.heap.size + 1 + 1 < w2.heap.size := by have := hb2.size; omega
  have hy2 : w.heap.size + 1 < w2.heap.size := by omega
  have hx2 : w.heap.size < w2.heap.size := by omega
  have hB2 := Kt.bthen (Kt.bthen (Kt.balloc (Kt.balloc (Kt.balloc (Below.refl _ w) _) _) _) hb1) hb2
  go_wp2_with fail
  all_goals
    refine bodyPost_ret (v := .tuple #[judgeV 13 0 hl 2, .int .i64 0]) (by simp [judgeV, results, Try.results74, go_sem, hc1, hc2, hz1, hz2]) rfl ⟨rfl, ?_⟩
    repeat (first | exact hB2 | refine Kt.bset ?_ (by simp; omega) _ | refine Kt.balloc ?_ _)
end Go.Proofs.Ytafiedhjjnapoaa
