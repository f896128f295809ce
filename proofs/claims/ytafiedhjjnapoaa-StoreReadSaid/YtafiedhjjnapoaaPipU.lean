/- The walks of package pipe: New, Run. -/
import Derived.Test.YtafiedhjjnapoaaPipT
namespace Go.Proofs.Ytafiedhjjnapoaa
open Go.RowKit
theorem step_ok (V : Value) (p : St) (f : Int) (w : World) (hp : PA w V p) (h1 : p.s = 0 ∨ p.s = 1) (h2 : p.t = 0 ∨ p.t = 1) (h3 : fated f) (h4 : p.ls.length ≤ 200) (h5 : p.gs.length ≤ 200) :
    Calls Try.prog 72 #[V, .int .i64 f] w (Gives w (stepF p f)) := by
  cases hl : p.ls with
  | nil =>
    rw [stepF_nil hl]
    exact step_still V p f w hp h1 h2 h3 h4 h5 (.inl (by rw [hl]; rfl))
  | cons x r =>
    have e0 : ((p.ls.length : Int) == 0) = false := by rw [beq_eq_false_iff_ne, hl]; simp; omega
    by_cases f1 : f = 1
    · rw [stepF_cons hl, if_pos f1]
      by_cases he : p.s = p.t
      · have e : took p x = ⟨p.s, 1 - p.t, p.ls, p.gs ++ [x]⟩ := by unfold took; rw [if_pos he]
        rw [e]
        exact step_good_take V p f w hp h1 h2 h3 h4 h5 x r (Lib.hid ⟨hl, f1, by rw [beq_iff_eq]; exact he⟩)
      · have e : took p x = p := by unfold took; rw [if_neg he]
        rw [e]
        exact step_good_skip V p f w hp h1 h2 h3 h4 h5 x r (Lib.hid ⟨hl, f1, by rw [beq_eq_false_iff_ne]; exact he⟩)
    · by_cases f3 : f = 3
      · rw [stepF_cons hl, if_neg f1, if_pos f3]
        by_cases he : p.s = p.t
        · have e : took p x = ⟨p.s, 1 - p.t, p.ls, p.gs ++ [x]⟩ := by unfold took; rw [if_pos he]
          rw [e]
          exact step_deaf_take V p f w hp h1 h2 h3 h4 h5 x r (Lib.hid ⟨hl, f3, by rw [beq_iff_eq]; exact he⟩)
        · have e : took p x = p := by unfold took; rw [if_neg he]
          rw [e]
          exact step_deaf_skip V p f w hp h1 h2 h3 h4 h5 (Lib.hid ⟨e0, f3, by rw [beq_eq_false_iff_ne]; exact he⟩)
      · rw [stepF_still f1 f3]
        exact step_still V p f w hp h1 h2 h3 h4 h5 (.inr ⟨e0, by rw [bne_iff_ne]; exact f1, by rw [bne_iff_ne]; exact f3⟩)
set_option maxHeartbeats 800000 in
theorem new_large (V : Value) (n : Nat) (ts : List ByteArray) (w : World) (h : Kt.Ar w V 1 n (sts ts)) (hn : (200 : Int) < n) : Calls Try.prog 71 #[V] w (Fails w 2) := by
  obtain ⟨A, c, rfl, _, _⟩ := h.form
  go_enter Try.func71, Try.ntmps71
  go_wp2
  refine bodyPost_ret (v := .tuple #[zeroP, .int .i64 2]) (by simp [zeroP, results, Try.results71, go_sem]) rfl ⟨rfl, ?_⟩
  exact Kt.balloc (Below.refl _ w) _
set_option maxHeartbeats 800000 in
theorem new_ok (V : Value) (ts : List ByteArray) (w : World) (h : Kt.Ar w V 1 ts.length (sts ts)) (hn : (ts.length : Int) ≤ 200) : Calls Try.prog 71 #[V] w (Gives w ⟨0, 0, ts, []⟩) := by
  have h0 := h
  obtain ⟨A, c, rfl, _, _⟩ := h.form
  go_enter Try.func71, Try.ntmps71
  go_wp2_with fail
  refine (clone_calls _ _ _ _ (h0.on (Kt.balloc (Below.refl _ w) _)) (sts_one _) (by omega)).mono ?_
  rintro en w1 ⟨MA, Mc, rfl, hs, hb⟩
  have hrow := (hb.block w.heap.size (by simp)).trans (heap_alloc_new w (.cells #[.int .i64 0, .int .i64 0, .slice none 0 0, .slice none 0 0] 121))
  have hc := fun i => cell_of_row _ _ i _ _ _ hrow
  have hf := fun i => frozen_of_row _ _ i _ _ hrow
  have hbel := Kt.bthen (Kt.balloc (Below.refl _ w) (.cells #[.int .i64 0, .int .i64 0, .slice none 0 0, .slice none 0 0] 121)) hb
  have hs0 := hs.mono (B' := w.heap.size + 1) (by simp)
  go_wp2_with fail
  refine bodyPost_ret (v := .tuple #[.agg #[.int .i64 0, .int .i64 0, .slice MA ts.length Mc, .slice none 0 0], .int .i64 0]) (by simp [results, Try.results71, go_sem, hc]) rfl ⟨_, rfl, ⟨_, _, rfl, ?_, ?_⟩, ?_⟩
  · have hs1 := hs0.mono (B' := w.heap.size) (by omega)
    repeat (first | with_reducible exact hs1 | refine Kt.Sl.set ?_ (fun k hk => by have := (hs0.lt k hk).1; simp; omega) _)
  · exact Kt.Sl.nil _ _ _ _
  · repeat (first | with_reducible exact hbel | refine Kt.bset ?_ (by simp) _)
end Go.Proofs.Ytafiedhjjnapoaa
