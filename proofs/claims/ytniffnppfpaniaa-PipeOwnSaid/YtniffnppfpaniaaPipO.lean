/- spoilTexts, walked: only the call's own blocks turn, and none its size. -/
import Derived.Test.YtniffnppfpaniaaPipB
namespace Go.Proofs.Ytniffnppfpaniaa
open Go.RowKit
/-- every block of cells is there, and as great as it was -/
structure Shape (w w' : World) : Prop where
  size : w.heap.size ≤ w'.heap.size
  row : ∀ (k : Nat) (cur : Array Value) (t : TypeId), w.heap[k]? = some (.cells cur t (0, 0)) → ∃ cur', w'.heap[k]? = some (.cells cur' t (0, 0)) ∧ cur'.size = cur.size
theorem Shape.refl (w : World) : Shape w w := ⟨Nat.le_refl _, fun k cur t h => ⟨cur, h, rfl⟩⟩
theorem Shape.set {w w' : World} (h : Shape w w') (g i : Nat) (v : Value) {cs : Array Value} {t : TypeId} (hg : w'.heap[g]? = some (.cells cs t (0, 0))) : Shape w (w'.setCell ⟨g, i, none⟩ v) := by
  refine ⟨by simpa [World.setCell] using h.size, fun k cur t' hk => ?_⟩
  obtain ⟨cur', h1, h2⟩ := h.row k cur t' hk
  by_cases e : k = g
  · subst e
    exact ⟨_, heap_setCell_same w' k i cur' t' v h1, by simpa using h2⟩
  · exact ⟨cur', (heap_setCell_other _ _ _ _ e).trans h1, h2⟩
theorem Shape.sl {w w' : World} (h : Shape w w') {B e n : Nat} {v : Value} {xs : List Value} (hs : Kt.Sl w B e 1 v n xs) : ∃ xs', Kt.Sl w' B e 1 v n xs' := by
  rcases hs.2 with ⟨rfl, rfl⟩ | ⟨g, o, cap, cur, rfl, hb, hg, hn, hc, hz, hx⟩
  · exact ⟨[], Kt.Sl.nil _ _ _ _⟩
  · obtain ⟨cur', h1, h2⟩ := h.row g cur e hg
    refine ⟨(cur'.toList.drop o).take n, ?_, .inr ⟨g, o, cap, cur', rfl, hb, h1, hn, hc, by omega, fun j u hj => ?_⟩⟩
    · rw [List.length_take, List.length_drop, Array.length_toList]; omega
    · rw [List.getElem?_take] at hj
      split at hj
      · rw [List.getElem?_drop] at hj; simpa using hj
      · cases hj
set_option maxHeartbeats 800000 in
theorem spoil_calls (v : Value) (n B : Nat) (xs : List Value) (w : World) (h : Kt.Sl w B 9 1 v n xs) : Calls Try.prog 15 #[v] w fun e w' => e = .returned (.tuple #[]) ∧ Below B w w' ∧ Shape w w' := by
  rcases h.2 with ⟨rfl, rfl⟩ | ⟨g, o, cap, cur, rfl, hb, hg, hn, hc, hz, hx⟩
  · go_enter Try.func15, Try.ntmps15
    go_wp2_with fail
    refine wp_loop_rounds 1 ?_
    rw [rounds_succ]
    go_wp2
    go_end0
    exact ⟨rfl, Below.refl _ _, Shape.refl _⟩
  · unfold maxLen at hc
    have hci : (cap : Int) ≤ 9223372036854775807 := by omega
    clear h hx hn hc
    go_enter Try.func15, Try.ntmps15
    go_wp2_with fail
    go_loopw [9] (fun i wr => ∃ k : Nat, k ≤ cap ∧ i = .int .i64 k ∧ Below B w wr ∧ Shape w wr) (fun i _ => cap - (intOf i).toNat)
    case atStart => exact ⟨0, Nat.zero_le _, rfl, Below.refl _ _, Shape.refl _⟩
    case round =>
      obtain ⟨k, hk, rfl, hbel, hsh⟩ := hrel
      by_cases hlt : k < cap
      · obtain ⟨cur', h1, h2⟩ := hsh.row g cur _ hg
        have hcell : wr.cell? ⟨g, o + k, none⟩ = some (cur'[o + k]'(by omega)) := (cell_of_row wr g (o + k) _ _ _ h1).trans (Array.getElem?_eq_getElem (by omega))
        have hfr : wr.frozen? ⟨g, o + k, none⟩ = false := frozen_of_row wr g _ _ _ h1
        generalize cur'[o + k]'(by omega) = y at *
        go_wp2_with fail
        go_roundw
        case rel => exact ⟨k + 1, by omega, by go_num, hbel.setCell hb _, hsh.set g _ _ h1⟩
        case measure => simp [intOf]; omega
      · obtain rfl : k = cap := by omega
        go_wp2
        go_end0
        exact ⟨rfl, hbel, hsh⟩
end Go.Proofs.Ytniffnppfpaniaa
