/- The walks of package hub: port. -/
import Derived.Test.YtijolofnmccolaaHubP
import Derived.Test.YtijolofnmccolaaEq
import Derived.Test.YtijolofnmccolaaSlm
import Derived.Deep.MidRow
namespace Go.Proofs.Ytijolofnmccolaa
open Go.RowKit
def PortIs (b : Bool) (w : World) (e : Ending) (w' : World) : Prop := e = .returned (.bool b) ∧ Below w.heap.size w w'
set_option maxHeartbeats 1600000 in
theorem port_early (s c : Int) (w : World) (h : s < 0 ∨ (0 ≤ s ∧ bt .andNot s 275 = true) ∨ (0 ≤ s ∧ bt .andNot s 275 = false ∧ c < 0) ∨ (0 ≤ s ∧ bt .andNot s 275 = false ∧ 0 ≤ c ∧ bt .andNot c 19 = true)) : Calls Try.prog 24 #[.agg #[.int .i64 s, .int .i64 c]] w (PortIs false w) := by
  unfold bt at h
  rcases h with h1 | ⟨h1, h2⟩ | ⟨h1, h2, h3⟩ | ⟨h1, h2, h3, h4⟩
  all_goals
    go_enter Try.func24, Try.ntmps24
    go_wp2
    go_ret
    exact ⟨rfl, by repeat (first | with_reducible exact Below.refl _ _ | with_reducible refine Kt.balloc ?_ _ | with_reducible refine Kt.bset ?_ (by simp) _)⟩
set_option maxHeartbeats 1600000 in
theorem port_late (s c : Int) (w : World) (h0 : 0 ≤ s ∧ bt .andNot s 275 = false ∧ 0 ≤ c ∧ bt .andNot c 19 = false) (h : (bt .and s 1 = true ∧ bt .and s 256 = false) ∨ (bt .and s 1 = false ∧ bt .and s 18 = true) ∨ (bt .and s 1 = true ∧ bt .and s 256 = true ∧ bt .and s 2 = true ∧ bt .and s 16 = true)) : Calls Try.prog 24 #[.agg #[.int .i64 s, .int .i64 c]] w (PortIs false w) := by
  unfold bt at h0 h
  obtain ⟨g1, g2, g3, g4⟩ := h0
  rcases h with ⟨h1, h2⟩ | ⟨h1, h2⟩ | ⟨h1, h2, h3, h4⟩
  rotate_left 2
  · cases h18 : (bits .and .i64 s 18 != 0)
    all_goals
      go_enter Try.func24, Try.ntmps24
      go_wp2
      go_ret
      exact ⟨rfl, by repeat (first | with_reducible exact Below.refl _ _ | with_reducible refine Kt.balloc ?_ _ | with_reducible refine Kt.bset ?_ (by simp) _)⟩
  all_goals
    go_enter Try.func24, Try.ntmps24
    go_wp2
    go_ret
    exact ⟨rfl, by repeat (first | with_reducible exact Below.refl _ _ | with_reducible refine Kt.balloc ?_ _ | with_reducible refine Kt.bset ?_ (by simp) _)⟩
theorem okC_bits {c : Int} (h : okC c) : 0 ≤ c ∧ bt .andNot c 19 = false := by
  unfold okC at h
  rcases h with rfl | rfl | rfl | rfl | rfl | rfl | rfl | rfl <;> exact ⟨by omega, by decide⟩
theorem okS_bits {s : Int} (h : okS s) : 0 ≤ s ∧ bt .andNot s 275 = false ∧ ((bt .and s 1 = false ∧ bt .and s 18 = false ∧ bt .and s 2 = false) ∨ (bt .and s 1 = true ∧ bt .and s 256 = true ∧ (bt .and s 2 = false ∨ (bt .and s 2 = true ∧ bt .and s 16 = false)))) := by
  unfold okS at h
  rcases h with rfl | rfl | rfl | rfl | rfl <;> exact ⟨by omega, by decide, by decide⟩
set_option maxHeartbeats 1600000 in
theorem port_true (s c : Int) (w : World) (h : rightP s c) : Calls Try.prog 24 #[.agg #[.int .i64 s, .int .i64 c]] w (PortIs true w) := by
  obtain ⟨g3, g4⟩ := okC_bits h.2
  obtain ⟨g1, g2, h⟩ := okS_bits h.1
  unfold bt at g2 g4 h
  rcases h with ⟨h1, h2, h3⟩ | ⟨h1, h2, h3 | ⟨h3, h4⟩⟩
  · go_enter Try.func24, Try.ntmps24
    go_wp2
    go_ret
    exact ⟨rfl, by repeat (first | with_reducible exact Below.refl _ _ | with_reducible refine Kt.balloc ?_ _ | with_reducible refine Kt.bset ?_ (by simp) _)⟩
  all_goals
    cases h18 : (bits .and .i64 s 18 != 0)
    all_goals
      go_enter Try.func24, Try.ntmps24
      go_wp2
      go_ret
      exact ⟨rfl, by repeat (first | with_reducible exact Below.refl _ _ | with_reducible refine Kt.balloc ?_ _ | with_reducible refine Kt.bset ?_ (by simp) _)⟩
theorem port_false (s c : Int) (w : World) (hs : s < 9223372036854775808) (hc : c < 9223372036854775808) (h : ¬ rightP s c) : Calls Try.prog 24 #[.agg #[.int .i64 s, .int .i64 c]] w (PortIs false w) := by
  rcases wrongP s c hs hc h with h | h | h | h | ⟨h1, h2⟩
  · exact port_early s c w (.inl h)
  · exact port_early s c w (.inr (.inl h))
  · exact port_early s c w (.inr (.inr (.inl h)))
  · exact port_early s c w (.inr (.inr (.inr h)))
  · exact port_late s c w h1 h2
end Go.Proofs.Ytijolofnmccolaa
