/- The walks of package setup: Write, where all is well. -/
import Derived.Test.YtmddfpmchcmgiaaSetV
namespace Go.Proofs.Ytmddfpmchcmgiaa
open Go.RowKit Go.Proofs.Ytmddfpmchcmgiaa.SetP
theorem cellOf {w : World} {g : Nat} {cs : Array Value} {t : TypeId} (hg : w.heap[g]? = some (.cells cs t (0, 0))) (k : Nat) {x : Value} (hx : cs[k]? = some x) : w.cell? ⟨g, k, none⟩ = some x := (cell_of_row w g k cs t (0, 0) hg).trans hx
theorem infoU8 : (Try.prog.info? 5).map (fun i => (i.zero, i.size, i.bytes)) = some (some (.int .u8 0), 1, 1) := by kernel_rfl
def tN (A B : Nat) (v i l : Int) : List Int := [A, B, v % 256, v / 256 % 256, i % 256, i / 256 % 256, l % 256, l / 256 % 256]
theorem tN_conv (A B : Nat) (v i l : Int) : (tN A B v i l).take 8 = tN A B v i l := rfl
theorem tN_next (A B : Nat) (v i l : Int) (k : Nat) (x : Int) (hx : [v, i, l][k]? = some x) : (tN A B v i l).take (2 + 2 * (k + 1)) = (tN A B v i l).take (2 + 2 * k) ++ [x % 256, x / 256 % 256] := by
  match k, hx with
  | 0, hx => simp at hx; subst hx; rfl
  | 1, hx => simp at hx; subst hx; rfl
  | 2, hx => simp at hx; subst hx; rfl
  | k + 3, hx => simp at hx
set_option maxRecDepth 100000 in
set_option maxHeartbeats 8000000 in
theorem write_good (k v i l : Int) (r : Row) (HR : Hid (∀ W : World, Calls Try.prog 64 #[.int .i64 k] W fun e w' => e = .returned (.tuple #[rowV r, .bool true]) ∧ Below W.heap.size W w'))
    (hA : r.a ≤ 255) (hBB : r.b ≤ 255) (bv : 0 ≤ v ∧ v ≤ 65535) (bi : 0 ≤ i ∧ i ≤ 65535) (bl : -1 ≤ l ∧ l ≤ 65535)
    (hm : (l == r.ln) = true ∨ ((l == r.ln) = false ∧ r.ln < 0 ∧ canB 1 l = true))
    (h : canB r.vk v = true ∧ canB r.ik i = true) (w : World) : Calls Try.prog 51 #[askV k v i l] w fun e w' => e = .returned (.tuple #[.string ⟨((tN r.a r.b v i l).map fun n => UInt8.ofNat n.toNat).toArray⟩, .int .i64 0]) ∧ Below w.heap.size w w' := by
  unfold askV
  obtain ⟨A, B, vk, ik, ln⟩ := r
  simp only at hm h hA hBB
  obtain ⟨h1, h2⟩ := h
  have HM := Lib.hid hm; clear hm
  go_enter Try.func51, Try.ntmps51
  go_wp2_with fail
  refine (HR.out _).mono ?_; rintro en w1 ⟨rfl, hb1⟩
  obtain ⟨hc1, hf1⟩ := Kt.bcell hb1
  have hz1 : w.heap.size < w1.heap.size := by have := hb1.size; simp at this; omega
  unfold rowV
  simp only
  have hB := Kt.balloc (Kt.bthen (Kt.balloc (Below.refl _ w) _) hb1) (.cells #[.int .u8 A, .int .u8 B, .int .i64 vk, .int .i64 ik, .int .i64 ln] 112)
  have hz : w1.heap.size < (w1.alloc (.cells #[.int .u8 A, .int .u8 B, .int .i64 vk, .int .i64 ik, .int .i64 ln] 112)).heap.size := by simp
  clear hb1
  rcases HM.out with m1 | ⟨m1, m2, m3⟩
  all_goals
    go_wp2_with (go_at_call 65; refine (can_calls _ _ _).mono ?_; rintro en w' ⟨rfl, hb⟩; obtain ⟨hc, hf⟩ := Kt.bcell hb; have hB := Kt.bthen hB hb; have hz := Nat.lt_of_lt_of_le hz hb.size; have hy := Nat.lt_trans hz1 hz; clear hb)
    have hB0 := Kt.balloc (Kt.balloc hB (.cells #[.int .u8 A, .int .u8 B] 5)) (.cells #[.int .i64 v, .int .i64 i, .int .i64 l] 3)
    have hw' : w.heap.size < w'.heap.size := by omega
    clear hB hc1 hf1 hc hf
    go_loopw [66, 7] (fun a b wr => ∃ k : Nat, k ≤ 3 ∧ a = .int .i64 k ∧ wr.ownsRow w.heap.size 5 1 b (2 + 2 * k) (((tN A B v i l).take (2 + 2 * k)).map (Value.int .u8)) ∧ b.ownBlock ≠ some (w'.heap.size + 1) ∧ wr.heap[w'.heap.size + 1]? = some (.cells #[.int .i64 v, .int .i64 i, .int .i64 l] 3 (0, 0)) ∧ Below w.heap.size w wr ∧ w'.heap.size + 1 < wr.heap.size) (fun a _ _ => 3 - (intOf a).toNat)
    case atStart => exact ⟨0, by omega, rfl, ⟨rfl, Or.inr ⟨w'.heap.size, 2, #[.int .u8 A, .int .u8 B], rfl, by omega, heap_alloc2_old w' _ _, by omega, by decide, rfl, rfl⟩⟩, by simp [Value.ownBlock], heap_alloc2_new w' _ _, hB0, by simp⟩
    case round =>
      obtain ⟨k, hk, rfl, hown, hob, hrow, hbel, hsz⟩ := hrel
      by_cases hlt : k < 3
      · obtain ⟨x, hx⟩ : ∃ x, [v, i, l][k]? = some x := ⟨[v, i, l][k], List.getElem?_eq_getElem hlt⟩
        have hxb : -1 ≤ x ∧ x ≤ 65535 := by
          have := List.mem_of_getElem? hx
          simp only [List.mem_cons, List.not_mem_nil, or_false] at this
          rcases this with rfl | rfl | rfl <;> omega
        have hcell : wr.cell? ⟨w'.heap.size + 1, k, none⟩ = some (.int .i64 x) := cellOf hrow k (by
          match k, hx with
          | 0, hx => simp at hx; subst hx; rfl
          | 1, hx => simp at hx; subst hx; rfl
          | 2, hx => simp at hx; subst hx; rfl
          | k + 3, hx => simp at hx)
        have hx2 := Lib.hid (tN_next A B v i l k x hx)
        have HOWN := Lib.hid hown
        have HROW := Lib.hid hrow
        have HOB := Lib.hid hob
        clear hx hown hrow hob hB0
        go_wp2_with ((refine Kt.append_new _ rfl (.tmp 70) (.tmp 76) 66 rfl w.heap.size 5 (.int .u8 0) 1 1 infoU8 Try.underlying66 rfl (by decide) _ (2 + 2 * k) _ #[.int .u8 (x % 256), .int .u8 (x / 256 % 256)] _ 2 2 rfl rfl rfl (by decide) rfl (by intro u hu; simp at hu; rcases hu with rfl | rfl <;> rfl) HOWN.out (by unfold maxLen; omega) (by omega) (by omega) ?_; intro v2 w2 hown2 hb2 hkeep2))
        go_roundw
        case rel =>
          obtain ⟨q1, q2⟩ := hkeep2 (w'.heap.size + 1) hsz HOB.out
          exact ⟨k + 1, by omega, by go_num, by rw [hx2.out, List.map_append, show 2 + 2 * (k + 1) = 2 + 2 * k + 2 by omega]; exact hown2, q2, q1.trans HROW.out, hbel.trans hb2, Nat.lt_of_lt_of_le hsz hb2.size⟩
        case measure => simp [intOf]; omega
      · obtain rfl : k = 3 := by omega
        obtain ⟨g, cap, rfl, hg, hcap, hcells⟩ := Kt.own_cells hown (by omega)
        have hcv := Kt.conv_ns (P := Try.prog) wr 66 9 5 g 0 (2 + 2 * 3) cap (tN A B v i l) rfl Try.underlying66 Try.underlying5 Try.underlying9 (fun j hj => by
          have hl : (tN A B v i l).length = 8 := rfl
          have := hcells j (by rw [List.length_map, List.length_take]; omega)
          simpa [tN_conv] using this)
        clear hown hcells hrow hob hB0
        generalize hns : tN A B v i l = ns at *
        have HNS := Lib.hid hns; clear hns
        go_wp2
        go_ret2
        exact ⟨by rw [HNS.out]; rfl, hbel⟩
end Go.Proofs.Ytmddfpmchcmgiaa
