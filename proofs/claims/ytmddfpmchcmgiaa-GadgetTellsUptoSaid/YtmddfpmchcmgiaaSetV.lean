/- The walks of package setup: Write. -/
import Derived.Test.YtmddfpmchcmgiaaSetW
import Derived.Test.YtmddfpmchcmgiaaApp
namespace Go.Proofs.Ytmddfpmchcmgiaa
open Go.RowKit Go.Proofs.Ytmddfpmchcmgiaa.SetP
def askV (k v i l : Int) : Value := .agg #[.int .i64 k, .int .i64 v, .int .i64 i, .int .i64 l]
set_option maxHeartbeats 800000 in
theorem write_none (k v i l : Int) (h : k < 1 ∨ 14 < k) (w : World) : Calls Try.prog 51 #[askV k v i l] w fun e w' => e = .returned (.tuple #[.string ByteArray.empty, .int .i64 1]) ∧ Below w.heap.size w w' := by
  unfold askV
  have HR := Lib.hid (row_none k h); clear h
  go_enter Try.func51, Try.ntmps51
  go_wp2_with fail
  refine (HR.out _).mono ?_; rintro en w1 ⟨rfl, hb1⟩
  obtain ⟨hc1, hf1⟩ := Kt.bcell hb1
  have hz1 : w.heap.size < w1.heap.size := by have := hb1.size; simp at this; omega
  unfold rowV
  have hB := Kt.balloc (Kt.bthen (Kt.balloc (Below.refl _ w) _) hb1) (.cells #[.int .u8 0, .int .u8 0, .int .i64 0, .int .i64 0, .int .i64 0] 112)
  clear hb1
  go_wp2_with fail
  all_goals
    go_ret2
    exact ⟨rfl, hB⟩
set_option maxHeartbeats 1600000 in
theorem write_err (k v i l : Int) (r : Row) (HR : Hid (∀ W : World, Calls Try.prog 64 #[.int .i64 k] W fun e w' => e = .returned (.tuple #[rowV r, .bool true]) ∧ Below W.heap.size W w'))
    (hm : (l == r.ln) = true ∨ ((l == r.ln) = false ∧ r.ln < 0) ∨ ((l == r.ln) = false ∧ 0 ≤ r.ln))
    (h : canB r.vk v = false ∨ (canB r.vk v = true ∧ canB r.ik i = false) ∨ (canB r.vk v = true ∧ canB r.ik i = true ∧ (l == r.ln) = false ∧ (0 ≤ r.ln ∨ (r.ln < 0 ∧ canB 1 l = false)))) (w : World) : Calls Try.prog 51 #[askV k v i l] w fun e w' => e = .returned (.tuple #[.string ByteArray.empty, .int .i64 1]) ∧ Below w.heap.size w w' := by
  unfold askV
  obtain ⟨A, B, vk, ik, ln⟩ := r
  simp only at hm h
  have H := Lib.hid h; have HM := Lib.hid hm; clear h hm
  go_enter Try.func51, Try.ntmps51
  go_wp2_with fail
  refine (HR.out _).mono ?_; rintro en w1 ⟨rfl, hb1⟩
  obtain ⟨hc1, hf1⟩ := Kt.bcell hb1
  have hz1 : w.heap.size < w1.heap.size := by have := hb1.size; simp at this; omega
  unfold rowV
  simp only
  have hB := Kt.balloc (Kt.bthen (Kt.balloc (Below.refl _ w) _) hb1) (.cells #[.int .u8 A, .int .u8 B, .int .i64 vk, .int .i64 ik, .int .i64 ln] 112)
  have hz : w1.heap.size < (w1.alloc (.cells #[.int .u8 A, .int .u8 B, .int .i64 vk, .int .i64 ik, .int .i64 ln] 112)).heap.size := by simp
  clear hb1
  rcases H.out with h | ⟨h1, h2⟩ | ⟨h1, h2, h3, h4 | ⟨h4, h5⟩⟩
  all_goals
    rcases HM.out with m1 | ⟨m1, m2⟩ | ⟨m1, m2⟩
    all_goals first
      | (rw [h3] at m1; exact absurd m1 (by decide))
      | (exfalso; omega)
      | (go_wp2_with (go_at_call 65; refine (can_calls _ _ _).mono ?_; rintro en w' ⟨rfl, hb⟩; obtain ⟨hc, hf⟩ := Kt.bcell hb; have hB := Kt.bthen hB hb; have hz := Nat.lt_of_lt_of_le hz hb.size; have hy := Nat.lt_trans hz1 hz; clear hb)
         all_goals
           go_ret2
           exact ⟨rfl, hB⟩)
end Go.Proofs.Ytmddfpmchcmgiaa
