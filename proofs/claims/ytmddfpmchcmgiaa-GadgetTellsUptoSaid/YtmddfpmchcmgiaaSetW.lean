/- The walks of package setup: the table, what a number can be. -/
import Derived.Test.YtmddfpmchcmgiaaSetP
import Derived.Test.YtmddfpmchcmgiaaGen
import Derived.Outline
namespace Go.Proofs.Ytmddfpmchcmgiaa
open Go.RowKit Go.Proofs.Ytmddfpmchcmgiaa.SetP
theorem ret_bool {a b : Bool} (h : a = b) : Ending.returned (.bool a) = Ending.returned (.bool b) := by rw [h]
def rowV (r : Row) : Value := .agg #[.int .u8 r.a, .int .u8 r.b, .int .i64 r.vk, .int .i64 r.ik, .int .i64 r.ln]
set_option maxHeartbeats 400000 in
theorem row_1 (w : World) : Calls Try.prog 64 #[.int .i64 1] w fun e w' => e = .returned (.tuple #[rowV ⟨128, 0, 0, 0, 2⟩, .bool true]) ∧ Below w.heap.size w w' := by
  go_enter Try.func64, Try.ntmps64
  go_wp2
  exact bodyPost_ret (v := .tuple #[rowV ⟨128, 0, 0, 0, 2⟩, .bool true]) (by simp [rowV, results, Try.results64, go_sem]) rfl ⟨rfl, Kt.balloc (Below.refl _ w) _⟩
set_option maxHeartbeats 400000 in
theorem row_2 (w : World) : Calls Try.prog 64 #[.int .i64 2] w fun e w' => e = .returned (.tuple #[rowV ⟨2, 1, 0, 3, 0⟩, .bool true]) ∧ Below w.heap.size w w' := by
  go_enter Try.func64, Try.ntmps64
  go_wp2
  exact bodyPost_ret (v := .tuple #[rowV ⟨2, 1, 0, 3, 0⟩, .bool true]) (by simp [rowV, results, Try.results64, go_sem]) rfl ⟨rfl, Kt.balloc (Below.refl _ w) _⟩
set_option maxHeartbeats 400000 in
theorem row_3 (w : World) : Calls Try.prog 64 #[.int .i64 3] w fun e w' => e = .returned (.tuple #[rowV ⟨2, 3, 0, 3, 0⟩, .bool true]) ∧ Below w.heap.size w w' := by
  go_enter Try.func64, Try.ntmps64
  go_wp2
  exact bodyPost_ret (v := .tuple #[rowV ⟨2, 3, 0, 3, 0⟩, .bool true]) (by simp [rowV, results, Try.results64, go_sem]) rfl ⟨rfl, Kt.balloc (Below.refl _ w) _⟩
set_option maxHeartbeats 400000 in
theorem row_4 (w : World) : Calls Try.prog 64 #[.int .i64 4] w fun e w' => e = .returned (.tuple #[rowV ⟨0, 5, 4, 0, 0⟩, .bool true]) ∧ Below w.heap.size w w' := by
  go_enter Try.func64, Try.ntmps64
  go_wp2
  exact bodyPost_ret (v := .tuple #[rowV ⟨0, 5, 4, 0, 0⟩, .bool true]) (by simp [rowV, results, Try.results64, go_sem]) rfl ⟨rfl, Kt.balloc (Below.refl _ w) _⟩
set_option maxHeartbeats 400000 in
theorem row_5 (w : World) : Calls Try.prog 64 #[.int .i64 5] w fun e w' => e = .returned (.tuple #[rowV ⟨128, 6, 1, 1, (-1)⟩, .bool true]) ∧ Below w.heap.size w w' := by
  go_enter Try.func64, Try.ntmps64
  go_wp2
  exact bodyPost_ret (v := .tuple #[rowV ⟨128, 6, 1, 1, (-1)⟩, .bool true]) (by simp [rowV, results, Try.results64, go_sem]) rfl ⟨rfl, Kt.balloc (Below.refl _ w) _⟩
set_option maxHeartbeats 400000 in
theorem row_6 (w : World) : Calls Try.prog 64 #[.int .i64 6] w fun e w' => e = .returned (.tuple #[rowV ⟨0, 9, 2, 0, 0⟩, .bool true]) ∧ Below w.heap.size w w' := by
  go_enter Try.func64, Try.ntmps64
  go_wp2
  exact bodyPost_ret (v := .tuple #[rowV ⟨0, 9, 2, 0, 0⟩, .bool true]) (by simp [rowV, results, Try.results64, go_sem]) rfl ⟨rfl, Kt.balloc (Below.refl _ w) _⟩
set_option maxHeartbeats 400000 in
theorem row_7 (w : World) : Calls Try.prog 64 #[.int .i64 7] w fun e w' => e = .returned (.tuple #[rowV ⟨128, 8, 0, 0, 1⟩, .bool true]) ∧ Below w.heap.size w w' := by
  go_enter Try.func64, Try.ntmps64
  go_wp2
  exact bodyPost_ret (v := .tuple #[rowV ⟨128, 8, 0, 0, 1⟩, .bool true]) (by simp [rowV, results, Try.results64, go_sem]) rfl ⟨rfl, Kt.balloc (Below.refl _ w) _⟩
set_option maxHeartbeats 400000 in
theorem row_8 (w : World) : Calls Try.prog 64 #[.int .i64 8] w fun e w' => e = .returned (.tuple #[rowV ⟨163, 0, 0, 5, 4⟩, .bool true]) ∧ Below w.heap.size w w' := by
  go_enter Try.func64, Try.ntmps64
  go_wp2
  exact bodyPost_ret (v := .tuple #[rowV ⟨163, 0, 0, 5, 4⟩, .bool true]) (by simp [rowV, results, Try.results64, go_sem]) rfl ⟨rfl, Kt.balloc (Below.refl _ w) _⟩
set_option maxHeartbeats 400000 in
theorem row_9 (w : World) : Calls Try.prog 64 #[.int .i64 9] w fun e w' => e = .returned (.tuple #[rowV ⟨35, 3, 6, 5, 0⟩, .bool true]) ∧ Below w.heap.size w w' := by
  go_enter Try.func64, Try.ntmps64
  go_wp2
  exact bodyPost_ret (v := .tuple #[rowV ⟨35, 3, 6, 5, 0⟩, .bool true]) (by simp [rowV, results, Try.results64, go_sem]) rfl ⟨rfl, Kt.balloc (Below.refl _ w) _⟩
set_option maxHeartbeats 400000 in
theorem row_10 (w : World) : Calls Try.prog 64 #[.int .i64 10] w fun e w' => e = .returned (.tuple #[rowV ⟨35, 1, 6, 5, 0⟩, .bool true]) ∧ Below w.heap.size w w' := by
  go_enter Try.func64, Try.ntmps64
  go_wp2
  exact bodyPost_ret (v := .tuple #[rowV ⟨35, 1, 6, 5, 0⟩, .bool true]) (by simp [rowV, results, Try.results64, go_sem]) rfl ⟨rfl, Kt.balloc (Below.refl _ w) _⟩
set_option maxHeartbeats 400000 in
theorem row_11 (w : World) : Calls Try.prog 64 #[.int .i64 11] w fun e w' => e = .returned (.tuple #[rowV ⟨33, 255, 0, 2, 0⟩, .bool true]) ∧ Below w.heap.size w w' := by
  go_enter Try.func64, Try.ntmps64
  go_wp2
  exact bodyPost_ret (v := .tuple #[rowV ⟨33, 255, 0, 2, 0⟩, .bool true]) (by simp [rowV, results, Try.results64, go_sem]) rfl ⟨rfl, Kt.balloc (Below.refl _ w) _⟩
set_option maxHeartbeats 400000 in
theorem row_12 (w : World) : Calls Try.prog 64 #[.int .i64 12] w fun e w' => e = .returned (.tuple #[rowV ⟨161, 254, 0, 2, 1⟩, .bool true]) ∧ Below w.heap.size w w' := by
  go_enter Try.func64, Try.ntmps64
  go_wp2
  exact bodyPost_ret (v := .tuple #[rowV ⟨161, 254, 0, 2, 1⟩, .bool true]) (by simp [rowV, results, Try.results64, go_sem]) rfl ⟨rfl, Kt.balloc (Below.refl _ w) _⟩
set_option maxHeartbeats 400000 in
theorem row_13 (w : World) : Calls Try.prog 64 #[.int .i64 13] w fun e w' => e = .returned (.tuple #[rowV ⟨33, 10, 1, 2, 0⟩, .bool true]) ∧ Below w.heap.size w w' := by
  go_enter Try.func64, Try.ntmps64
  go_wp2
  exact bodyPost_ret (v := .tuple #[rowV ⟨33, 10, 1, 2, 0⟩, .bool true]) (by simp [rowV, results, Try.results64, go_sem]) rfl ⟨rfl, Kt.balloc (Below.refl _ w) _⟩
set_option maxHeartbeats 400000 in
theorem row_14 (w : World) : Calls Try.prog 64 #[.int .i64 14] w fun e w' => e = .returned (.tuple #[rowV ⟨33, 9, 7, 2, 1⟩, .bool true]) ∧ Below w.heap.size w w' := by
  go_enter Try.func64, Try.ntmps64
  go_wp2
  exact bodyPost_ret (v := .tuple #[rowV ⟨33, 9, 7, 2, 1⟩, .bool true]) (by simp [rowV, results, Try.results64, go_sem]) rfl ⟨rfl, Kt.balloc (Below.refl _ w) _⟩
set_option maxHeartbeats 400000 in
theorem row_none (k : Int) (h : k < 1 ∨ 14 < k) (w : World) : Calls Try.prog 64 #[.int .i64 k] w fun e w' => e = .returned (.tuple #[rowV ⟨0, 0, 0, 0, 0⟩, .bool false]) ∧ Below w.heap.size w w' := by
  rcases h with h | h
  all_goals
    go_enter Try.func64, Try.ntmps64
    go_wp2
    exact bodyPost_ret (v := .tuple #[rowV ⟨0, 0, 0, 0, 0⟩, .bool false]) (by simp [rowV, results, Try.results64, go_sem]) rfl ⟨rfl, Kt.balloc (Below.refl _ w) _⟩
set_option maxHeartbeats 800000 in
theorem can_calls (what n : Int) (w : World) : Calls Try.prog 65 #[.int .i64 what, .int .i64 n] w fun e w' => e = .returned (.bool (canB what n)) ∧ Below w.heap.size w w' := by
  go_enter Try.func65, Try.ntmps65
  go_wp2
  all_goals
    go_ret
    refine ⟨ret_bool ?_, Kt.balloc (Below.refl _ w) _⟩
    unfold canB
    rw [Bool.eq_iff_iff, decide_eq_true_iff (p := canP _ _)]
    unfold canP
    try simp only [beq_iff_eq, beq_eq_false_iff_ne] at *
    try simp only [decide_eq_true_iff, Bool.false_eq_true, false_iff, true_iff]
    first | omega | (simp; omega)
theorem row_some (k : Nat) (r : Row) (h : rowN k = some r) (w : World) : Calls Try.prog 64 #[.int .i64 k] w fun e w' => e = .returned (.tuple #[rowV r, .bool true]) ∧ Below w.heap.size w w' := by
  match k, h with
  | 1, h => cases h; exact row_1 w
  | 2, h => cases h; exact row_2 w
  | 3, h => cases h; exact row_3 w
  | 4, h => cases h; exact row_4 w
  | 5, h => cases h; exact row_5 w
  | 6, h => cases h; exact row_6 w
  | 7, h => cases h; exact row_7 w
  | 8, h => cases h; exact row_8 w
  | 9, h => cases h; exact row_9 w
  | 10, h => cases h; exact row_10 w
  | 11, h => cases h; exact row_11 w
  | 12, h => cases h; exact row_12 w
  | 13, h => cases h; exact row_13 w
  | 14, h => cases h; exact row_14 w
end Go.Proofs.Ytmddfpmchcmgiaa
