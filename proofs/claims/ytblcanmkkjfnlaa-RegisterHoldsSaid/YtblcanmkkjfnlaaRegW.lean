/- The walks of package register. -/
import Derived.Test.YtblcanmkkjfnlaaRegP
import Derived.Test.YtblcanmkkjfnlaaKit
import Derived.Test.YtblcanmkkjfnlaaFr
import Derived.Deep.MidRow
import Derived.Outline
namespace Go.Proofs.Ytblcanmkkjfnlaa
open Go.RowKit Go.Proofs.Ytblcanmkkjfnlaa.RegP
theorem info_reg : (Try.prog.info? 26).map (·.size) = some 48 := by kernel_rfl
theorem info_arr : (Try.prog.info? 24).map (·.size) = some 48 := by kernel_rfl
theorem szR {rs : List Room} (hl : rs.length = 16) : (Try.prog.info? 26).map (·.size) = some (regA rs).size := by rw [regA_size, hl]; exact info_reg
theorem szA {rs : List Room} (hl : rs.length = 16) : (Try.prog.info? 24).map (·.size) = some (regA rs).size := by rw [regA_size, hl]; exact info_arr
theorem part_room (rs : List Room) (hl : rs.length = 16) (k : Nat) (hk : k < rs.length) (w : World) :
    (Instr.index 24 (.agg (regA rs)) (.int .i64 (k : Int))).run Try.prog w = .ok (.agg #[.int .i64 rs[k].gen, .bool rs[k].live, .int .i64 rs[k].what]) w := by
  obtain ⟨g0, g1, g2⟩ := regA_get rs k hk
  have hs := regA_size rs
  have hsz : ∀ w, (sizeOf 23).run Try.prog w = .ok 3 w := fun w => by kernel_rfl
  have hag : ∀ w, (isAgg 23).run Try.prog w = .ok true w := fun w => by kernel_rfl
  have hex : (regA rs).extract (k * 3) (k * 3 + 3) = #[.int .i64 rs[k].gen, .bool rs[k].live, .int .i64 rs[k].what] := by
    apply Array.ext_getElem?
    intro i
    rw [Array.getElem?_extract]
    have e3 : k * 3 = 3 * k := by omega
    rw [e3]
    match i with
    | 0 => simp [g0]; omega
    | 1 => simp [g1]; omega
    | 2 => simp [g2]; omega
    | i + 3 => rw [if_neg (by omega)]; simp
  simp [Instr.index, run_underlying Try.underlying24, asIntOf, go_sem, hsz, hag, part, hex]
  intro; omega
set_option maxHeartbeats 800000 in
theorem check_good (rs : List Room) (hl : rs.length = 16) (h : AllOk rs) (w : World) : Calls Try.prog 12 #[.agg (regA rs)] w fun e w' => e = .returned (.int .i64 0) ∧ Below w.heap.size w w' := by
  go_enter Try.func12, Try.ntmps12
  go_wp2_with ((refine wpList_load_row rfl 24 (.tmp 5) rfl w.heap.size rfl 26 (regA rs) (0, 0) _ (heap_alloc_new w _) Try.underlying24 rfl (szA hl) ?_))
  go_loopw [7] (fun i wr => ∃ k : Nat, k ≤ 16 ∧ i = .int .i64 k ∧ Below w.heap.size w wr ∧ w.heap.size < wr.heap.size) (fun i _ => 16 - (intOf i).toNat)
  case atStart => exact ⟨0, by omega, rfl, Kt.balloc (Below.refl _ w) _, by simp⟩
  case round =>
    obtain ⟨k, hk, rfl, hbel, hsz⟩ := hrel
    by_cases hlt : k < 16
    · have hx := h k (by omega)
      have hidx := part_room rs hl k (by omega)
      generalize rs[k] = x at *
      obtain ⟨g, l, u⟩ := x
      obtain ⟨x1, x2, x3, x4⟩ := hx
      simp only at x1 x2 x3 x4 hidx
      cases l
      · have e := x4 rfl
        subst e
        clear x3 x4
        go_wp2
        go_roundw
        case rel => exact ⟨k + 1, by omega, by go_num, Kt.balloc hbel _, by simp; omega⟩
        case measure => simp [intOf]; omega
      · have e : 1 ≤ g := by have := x3 rfl; omega
        have e0 : (g == 0) = false := by rw [beq_eq_false_iff_ne]; omega
        clear x3 x4
        go_wp2
        go_roundw
        case rel => exact ⟨k + 1, by omega, by go_num, Kt.balloc hbel _, by simp; omega⟩
        case measure => simp [intOf]; omega
    · obtain rfl : k = 16 := by omega
      go_wp2
      go_ret
      exact ⟨rfl, hbel⟩
set_option maxHeartbeats 800000 in
theorem check_bad (rs : List Room) (hl : rs.length = 16) (m : Nat) (hm : m < rs.length) (hbad : ¬ rs[m].ok) (h : ∀ j (hj : j < rs.length), j < m → rs[j].ok) (w : World) : Calls Try.prog 12 #[.agg (regA rs)] w fun e w' => e = .returned (.int .i64 4) ∧ Below w.heap.size w w' := by
  go_enter Try.func12, Try.ntmps12
  go_wp2_with (refine wpList_load_row rfl 24 (.tmp 5) rfl w.heap.size rfl 26 (regA rs) (0, 0) _ (heap_alloc_new w _) Try.underlying24 rfl (szA hl) ?_)
  go_loopw [7] (fun i wr => ∃ k : Nat, k ≤ m ∧ i = .int .i64 k ∧ Below w.heap.size w wr ∧ w.heap.size < wr.heap.size) (fun i _ => 16 - (intOf i).toNat)
  case atStart => exact ⟨0, by omega, rfl, Kt.balloc (Below.refl _ w) _, by simp⟩
  case round =>
    obtain ⟨k, hk, rfl, hbel, hsz⟩ := hrel
    have hk16 : k < 16 := by omega
    by_cases hlt : k < m
    · have hx := h k (by omega) hlt
      have hidx := part_room rs hl k (by omega)
      generalize rs[k] = x at *
      obtain ⟨g, l, u⟩ := x
      obtain ⟨x1, x2, x3, x4⟩ := hx
      simp only at x1 x2 x3 x4 hidx
      cases l
      · have e := x4 rfl
        subst e
        clear x3 x4
        go_wp2
        go_roundw
        case rel => exact ⟨k + 1, by omega, by go_num, Kt.balloc hbel _, by simp; omega⟩
        case measure => simp [intOf]; omega
      · have e : 1 ≤ g := by have := x3 rfl; omega
        have e0 : (g == 0) = false := by rw [beq_eq_false_iff_ne]; omega
        clear x3 x4
        go_wp2
        go_roundw
        case rel => exact ⟨k + 1, by omega, by go_num, Kt.balloc hbel _, by simp; omega⟩
        case measure => simp [intOf]; omega
    · obtain rfl : k = m := by omega
      have hidx := part_room rs hl k hm
      clear h
      generalize rs[k] = x at *
      obtain ⟨g, l, u⟩ := x
      simp only [Room.ok] at hbad hidx
      have hB : Below w.heap.size w (wr.alloc (.cells #[.int .i64 g, .bool l, .int .i64 u] 23)) := Kt.balloc hbel _
      rcases (show g < 0 ∨ (0 ≤ g ∧ 65535 < g) ∨ (0 ≤ g ∧ g ≤ 65535 ∧ l = true ∧ g = 0) ∨ (0 ≤ g ∧ g ≤ 65535 ∧ l = false ∧ u ≠ 0) by
        by_cases a1 : g < 0
        · exact Or.inl a1
        by_cases a2 : 65535 < g
        · exact Or.inr (Or.inl ⟨by omega, a2⟩)
        cases l
        · exact Or.inr (Or.inr (Or.inr ⟨by omega, by omega, rfl, fun c => hbad ⟨by omega, by omega, fun e => (by cases e), fun _ => c⟩⟩))
        · refine Or.inr (Or.inr (Or.inl ⟨by omega, by omega, rfl, ?_⟩))
          by_cases g0 : g = 0
          · exact g0
          · exact absurd ⟨by omega, by omega, fun _ => g0, fun e => (by cases e)⟩ hbad) with c | ⟨c1, c⟩ | ⟨c1, c2, rfl, rfl⟩ | ⟨c1, c2, rfl, c⟩
      · clear hbad
        go_wp2
        go_ret
        exact ⟨rfl, hB⟩
      · clear hbad
        go_wp2
        go_ret
        exact ⟨rfl, hB⟩
      · clear hbad
        go_wp2
        go_ret
        exact ⟨rfl, hB⟩
      · clear hbad
        have e0 : (u != 0) = true := by rw [bne_iff_ne]; exact c
        go_wp2
        go_ret
        exact ⟨rfl, hB⟩
set_option maxHeartbeats 800000 in
theorem find_none (rs : List Room) (hl : rs.length = 16) (n : Int) (ha : AllOk rs) (h : ∀ j (hj : j < rs.length), ¬ holds n j rs[j]) (w : World) : Calls Try.prog 13 #[.agg (regA rs), .int .i64 n] w fun e w' => e = .returned (.int .i64 (-1)) ∧ Below w.heap.size w w' := by
  go_enter Try.func13, Try.ntmps13
  go_wp2_with (refine wpList_load_row rfl 24 (.tmp 7) rfl w.heap.size rfl 26 (regA rs) (0, 0) _ (heap_alloc_new w _) Try.underlying24 rfl (szA hl) ?_)
  go_loopw [9] (fun i wr => ∃ k : Nat, k ≤ 16 ∧ i = .int .i64 k ∧ Below w.heap.size w wr ∧ w.heap.size < wr.heap.size) (fun i _ => 16 - (intOf i).toNat)
  case atStart => exact ⟨0, by omega, rfl, Kt.balloc (Below.refl _ w) _, by simp⟩
  case round =>
    obtain ⟨k, hk, rfl, hbel, hsz⟩ := hrel
    by_cases hlt : k < 16
    · have hx := ha k (by omega)
      have hn := h k (by omega)
      have hidx := part_room rs hl k (by omega)
      clear h ha
      generalize rs[k] = x at *
      obtain ⟨g, l, u⟩ := x
      obtain ⟨x1, x2, x3, x4⟩ := hx
      simp only [holds] at x1 x2 hidx hn
      clear x3 x4
      cases l
      · clear hn
        go_wp2
        go_roundw
        case rel => exact ⟨k + 1, by omega, by go_num, Kt.balloc hbel _, by simp; omega⟩
        case measure => simp [intOf]; omega
      · have e0 : (n == (k : Int) + 16 * g) = false := by rw [beq_eq_false_iff_ne]; simpa using hn
        clear hn
        go_wp2
        go_roundw
        case rel => exact ⟨k + 1, by omega, by go_num, Kt.balloc hbel _, by simp; omega⟩
        case measure => simp [intOf]; omega
    · obtain rfl : k = 16 := by omega
      go_wp2
      go_ret
      exact ⟨rfl, hbel⟩
set_option maxHeartbeats 800000 in
theorem find_some (rs : List Room) (hl : rs.length = 16) (n : Int) (ha : AllOk rs) (m : Nat) (hm : m < rs.length) (hf : holds n m rs[m]) (w : World) : Calls Try.prog 13 #[.agg (regA rs), .int .i64 n] w fun e w' => e = .returned (.int .i64 m) ∧ Below w.heap.size w w' := by
  have h : ∀ j (hj : j < rs.length), j < m → ¬ holds n j rs[j] := fun j hj hlt c => by have := holds_one ha hl hj hm c hf; omega
  go_enter Try.func13, Try.ntmps13
  go_wp2_with (refine wpList_load_row rfl 24 (.tmp 7) rfl w.heap.size rfl 26 (regA rs) (0, 0) _ (heap_alloc_new w _) Try.underlying24 rfl (szA hl) ?_)
  go_loopw [9] (fun i wr => ∃ k : Nat, k ≤ m ∧ i = .int .i64 k ∧ Below w.heap.size w wr ∧ w.heap.size < wr.heap.size) (fun i _ => 16 - (intOf i).toNat)
  case atStart => exact ⟨0, by omega, rfl, Kt.balloc (Below.refl _ w) _, by simp⟩
  case round =>
    obtain ⟨k, hk, rfl, hbel, hsz⟩ := hrel
    have hk16 : k < 16 := by omega
    by_cases hlt : k < m
    · have hx := ha k (by omega)
      have hn := h k (by omega) hlt
      have hidx := part_room rs hl k (by omega)
      clear h ha hf
      generalize rs[k] = x at *
      obtain ⟨g, l, u⟩ := x
      obtain ⟨x1, x2, x3, x4⟩ := hx
      simp only [holds] at x1 x2 hidx hn
      clear x3 x4
      cases l
      · clear hn
        go_wp2
        go_roundw
        case rel => exact ⟨k + 1, by omega, by go_num, Kt.balloc hbel _, by simp; omega⟩
        case measure => simp [intOf]; omega
      · have e0 : (n == (k : Int) + 16 * g) = false := by rw [beq_eq_false_iff_ne]; simpa using hn
        clear hn
        go_wp2
        go_roundw
        case rel => exact ⟨k + 1, by omega, by go_num, Kt.balloc hbel _, by simp; omega⟩
        case measure => simp [intOf]; omega
    · obtain rfl : k = m := by omega
      have hx := ha k hm
      have hidx := part_room rs hl k hm
      clear h ha
      generalize rs[k] = x at *
      obtain ⟨g, l, u⟩ := x
      obtain ⟨x1, x2, x3, x4⟩ := hx
      obtain ⟨f1, f2⟩ := hf
      simp only at x1 x2 hidx f1 f2
      subst f1
      have e0 : (n == (k : Int) + 16 * g) = true := by rw [beq_iff_eq]; exact f2
      clear x3 x4 f2
      have hB : Below w.heap.size w (wr.alloc (.cells #[.int .i64 g, .bool true, .int .i64 u] 23)) := Kt.balloc hbel _
      go_wp2
      go_ret
      exact ⟨rfl, hB⟩
end Go.Proofs.Ytblcanmkkjfnlaa
