/- The walks of package register: Look, End, Let. -/
import Derived.Test.YtblcanmkkjfnlaaRegW
import Derived.Deep.CutBlock
import Derived.Deep.CutRange
namespace Go.Proofs.Ytblcanmkkjfnlaa
open Go.RowKit Go.Proofs.Ytblcanmkkjfnlaa.RegP
set_option maxHeartbeats 800000 in
theorem look_some (rs : List Room) (hl : rs.length = 16) (n : Int) (ha : AllOk rs) (m : Nat) (hm : m < rs.length) (hf : holds n m rs[m]) (w : World) : Calls Try.prog 10 #[.agg (regA rs), .int .i64 n] w fun e w' => e = .returned (.tuple #[.int .i64 rs[m].what, .int .i64 0]) ∧ Below w.heap.size w w' := by
  have HC := Lib.hid (check_good rs hl ha)
  have HF := Lib.hid (find_some rs hl n ha m hm hf)
  obtain ⟨_, _, hg⟩ := regA_at rs m hm
  have hm16 : m < 16 := by omega
  have HS := Lib.hid (szR hl)
  clear ha hf
  go_enter Try.func10, Try.ntmps10
  go_wp2_with (refine wpList_load_row rfl 26 (.tmp 2) rfl w.heap.size rfl 26 (regA rs) (0, 0) _ (heap_alloc_new w _) Try.underlying26 rfl HS.out ?_)
  refine (HC.out _).mono ?_; rintro en w1 ⟨rfl, hb1⟩
  obtain ⟨hc1, hf1⟩ := Kt.bcell hb1
  have hz1 : w.heap.size < w1.heap.size := by have := hb1.size; simp at this; omega
  go_wp2_with (refine wpList_load_row rfl 26 (.tmp 2) rfl w.heap.size rfl 26 (regA rs) (0, 0) _ ((hb1.block _ (by simp)).trans (heap_alloc_new w _)) Try.underlying26 rfl HS.out ?_)
  refine (HF.out _).mono ?_; rintro en w2 ⟨rfl, hb2⟩
  obtain ⟨hc2, hf2⟩ := Kt.bcell hb2
  have hz2 : w.heap.size < w2.heap.size := by have := hb2.size; omega
  go_wp2_with fail
  go_ret2
  exact ⟨rfl, Kt.bthen (Kt.bthen (Kt.balloc (Below.refl _ w) _) hb1) hb2⟩
set_option maxHeartbeats 800000 in
theorem look_none (rs : List Room) (hl : rs.length = 16) (n : Int) (ha : AllOk rs) (h : ∀ j (hj : j < rs.length), ¬ holds n j rs[j]) (w : World) : Calls Try.prog 10 #[.agg (regA rs), .int .i64 n] w fun e w' => e = .returned (.tuple #[.int .i64 0, .int .i64 12]) ∧ Below w.heap.size w w' := by
  have HC := Lib.hid (check_good rs hl ha)
  have HF := Lib.hid (find_none rs hl n ha h)
  have HS := Lib.hid (szR hl)
  clear ha h
  go_enter Try.func10, Try.ntmps10
  go_wp2_with (refine wpList_load_row rfl 26 (.tmp 2) rfl w.heap.size rfl 26 (regA rs) (0, 0) _ (heap_alloc_new w _) Try.underlying26 rfl HS.out ?_)
  refine (HC.out _).mono ?_; rintro en w1 ⟨rfl, hb1⟩
  go_wp2_with (refine wpList_load_row rfl 26 (.tmp 2) rfl w.heap.size rfl 26 (regA rs) (0, 0) _ ((hb1.block _ (by simp)).trans (heap_alloc_new w _)) Try.underlying26 rfl HS.out ?_)
  refine (HF.out _).mono ?_; rintro en w2 ⟨rfl, hb2⟩
  go_wp2_with fail
  go_ret2
  exact ⟨rfl, Kt.bthen (Kt.bthen (Kt.balloc (Below.refl _ w) _) hb1) hb2⟩
set_option maxHeartbeats 800000 in
theorem look_bad (rs : List Room) (hl : rs.length = 16) (n : Int) (HC : Hid (∀ W : World, Calls Try.prog 12 #[.agg (regA rs)] W fun e w' => e = .returned (.int .i64 4) ∧ Below W.heap.size W w')) (w : World) : Calls Try.prog 10 #[.agg (regA rs), .int .i64 n] w fun e w' => e = .returned (.tuple #[.int .i64 0, .int .i64 4]) ∧ Below w.heap.size w w' := by
  have HS := Lib.hid (szR hl)
  go_enter Try.func10, Try.ntmps10
  go_wp2_with (refine wpList_load_row rfl 26 (.tmp 2) rfl w.heap.size rfl 26 (regA rs) (0, 0) _ (heap_alloc_new w _) Try.underlying26 rfl HS.out ?_)
  refine (HC.out _).mono ?_; rintro en w1 ⟨rfl, hb1⟩
  go_wp2_with fail
  go_ret2
  exact ⟨rfl, Kt.bthen (Kt.balloc (Below.refl _ w) _) hb1⟩
theorem zeros_lit : (#[.int .i64 0, .bool false, .int .i64 0, .int .i64 0, .bool false, .int .i64 0, .int .i64 0, .bool false, .int .i64 0, .int .i64 0, .bool false, .int .i64 0, .int .i64 0, .bool false, .int .i64 0, .int .i64 0, .bool false, .int .i64 0, .int .i64 0, .bool false, .int .i64 0, .int .i64 0, .bool false, .int .i64 0, .int .i64 0, .bool false, .int .i64 0, .int .i64 0, .bool false, .int .i64 0, .int .i64 0, .bool false, .int .i64 0, .int .i64 0, .bool false, .int .i64 0, .int .i64 0, .bool false, .int .i64 0, .int .i64 0, .bool false, .int .i64 0, .int .i64 0, .bool false, .int .i64 0, .int .i64 0, .bool false, .int .i64 0] : Array Value) = regA zeros := by rw [regA_eq, zeros_eq]; rfl
structure Two (w W : World) (rs : List Room) : Prop where
  b0 : W.heap[w.heap.size]? = some (.cells (regA rs) 26 (0, 0))
  b1 : W.heap[w.heap.size + 1]? = some (.cells (regA zeros) 26 (0, 0))
  size : w.heap.size + 1 < W.heap.size
  bel : Below w.heap.size w W
theorem Two.start (w : World) (rs : List Room) : Two w ((w.alloc (.cells (regA rs) 26)).alloc (.cells (regA zeros) 26)) rs :=
  ⟨heap_alloc2_old w _ _, heap_alloc2_new w _ _, by simp, Kt.balloc (Kt.balloc (Below.refl _ w) _) _⟩
theorem Two.on {w W W' : World} {rs : List Room} (h : Two w W rs) (b : Below W.heap.size W W') : Two w W' rs :=
  have hz := h.size
  ⟨(b.block _ (by omega)).trans h.b0, (b.block _ (by omega)).trans h.b1, by have := b.size; omega, Kt.bthen h.bel b⟩
theorem brow {w a : World} (h : Below w.heap.size w a) {g : Nat} (hg : w.heap.size ≤ g) (cs : Array Value) : Below w.heap.size w (a.setRow g cs) :=
  h.trans ⟨rfl, rfl, rfl, by simp, fun k hk => setRow_other a g k cs (by omega)⟩
theorem ld_row {w : World} {g : Nat} {old : Array Value} (h : w.heap[g]? = some (.cells old 26 (0, 0))) {rs : List Room} (hl : rs.length = 16) : (loadVar 26 ⟨g, 0, none⟩).run Try.prog (w.setRow g (regA rs)) = .ok (.agg (regA rs)) (w.setRow g (regA rs)) :=
  run_loadVar_row _ g 26 26 (regA rs) (0, 0) _ (setRow_heap w g old (regA rs) 26 (0, 0) h) Try.underlying26 rfl (szR hl)
theorem Two.ld {w W : World} {rs : List Room} (h : Two w W rs) : (loadVar 26 ⟨w.heap.size + 1, 0, none⟩).run Try.prog (W.setRow (w.heap.size + 1) (regA zeros)) = .ok (.agg (regA zeros)) (W.setRow (w.heap.size + 1) (regA zeros)) := ld_row h.b1 zeros_len
set_option maxHeartbeats 800000 in
theorem end_bad (rs : List Room) (hl : rs.length = 16) (n : Int) (HC : Hid (∀ W : World, Calls Try.prog 12 #[.agg (regA rs)] W fun e w' => e = .returned (.int .i64 4) ∧ Below W.heap.size W w')) (w : World) : Calls Try.prog 9 #[.agg (regA rs), .int .i64 n] w fun e w' => e = .returned (.tuple #[.agg (regA zeros), .int .i64 4]) ∧ Below w.heap.size w w' := by
  have HS := Lib.hid (szR hl)
  have T0 := Two.start w rs
  go_enter Try.func9, Try.ntmps9
  go_upto_region 1 with (fail)
  rw [zeros_lit]
  generalize ((w.alloc (.cells (regA rs) 26)).alloc (.cells (regA zeros) 26)) = W at *
  go_wp2_with (refine wpList_load_row rfl 26 (.tmp 2) rfl w.heap.size rfl 26 (regA rs) (0, 0) _ T0.b0 Try.underlying26 rfl HS.out ?_)
  refine (HC.out _).mono ?_; rintro en w1 ⟨rfl, hb1⟩
  have T1 := T0.on hb1
  go_wp2_with (refine wpList_store_row rfl 26 (.tmp 4) (.tmp 12) rfl (w.heap.size + 1) (regA zeros) rfl (by rw [← zeros_lit]; rfl) 26 (regA zeros) T1.b1 (szR zeros_len) rfl (regA_one _) ?_)
  refine bodyPost_ret (v := .tuple #[.agg (regA zeros), .int .i64 4]) ?_ rfl ⟨rfl, brow T1.bel (by omega) _⟩
  simp [results, Try.results9, asAddr, T1.ld]
set_option maxHeartbeats 800000 in
theorem end_none (rs : List Room) (hl : rs.length = 16) (n : Int) (ha : AllOk rs) (h : ∀ j (hj : j < rs.length), ¬ holds n j rs[j]) (w : World) : Calls Try.prog 9 #[.agg (regA rs), .int .i64 n] w fun e w' => e = .returned (.tuple #[.agg (regA zeros), .int .i64 12]) ∧ Below w.heap.size w w' := by
  have HC := Lib.hid (check_good rs hl ha)
  have HF := Lib.hid (find_none rs hl n ha h)
  have HS := Lib.hid (szR hl)
  clear ha h
  have T0 := Two.start w rs
  go_enter Try.func9, Try.ntmps9
  go_upto_region 1 with (fail)
  rw [zeros_lit]
  generalize ((w.alloc (.cells (regA rs) 26)).alloc (.cells (regA zeros) 26)) = W at *
  go_wp2_with (refine wpList_load_row rfl 26 (.tmp 2) rfl w.heap.size rfl 26 (regA rs) (0, 0) _ T0.b0 Try.underlying26 rfl HS.out ?_)
  refine (HC.out _).mono ?_; rintro en w1 ⟨rfl, hb1⟩
  have T1 := T0.on hb1
  go_wp2_with (refine wpList_load_row rfl 26 (.tmp 2) rfl w.heap.size rfl 26 (regA rs) (0, 0) _ T1.b0 Try.underlying26 rfl HS.out ?_)
  refine (HF.out _).mono ?_; rintro en w2 ⟨rfl, hb2⟩
  have T2 := T1.on hb2
  go_wp2_with (refine wpList_store_row rfl 26 (.tmp 4) (.tmp 19) rfl (w.heap.size + 1) (regA zeros) rfl (by rw [← zeros_lit]; rfl) 26 (regA zeros) T2.b1 (szR zeros_len) rfl (regA_one _) ?_)
  refine bodyPost_ret (v := .tuple #[.agg (regA zeros), .int .i64 12]) ?_ rfl ⟨rfl, brow T2.bel (by omega) _⟩
  simp [results, Try.results9, asAddr, T2.ld]
set_option maxHeartbeats 800000 in
theorem end_some (rs : List Room) (hl : rs.length = 16) (n : Int) (ha : AllOk rs) (m : Nat) (hm : m < rs.length) (hf : holds n m rs[m]) (w : World) : Calls Try.prog 9 #[.agg (regA rs), .int .i64 n] w fun e w' => e = .returned (.tuple #[.agg (regA (rs.set m ⟨rs[m].gen, false, 0⟩)), .int .i64 0]) ∧ Below w.heap.size w w' := by
  have HC := Lib.hid (check_good rs hl ha)
  have HF := Lib.hid (find_some rs hl n ha m hm hf)
  have HS := Lib.hid (szR hl)
  have HG := Lib.hid (regA_at rs m hm)
  have HE := Lib.hid (regA_end' rs m hm)
  have hl2 : (rs.set m ⟨rs[m].gen, false, 0⟩).length = 16 := by simpa using hl
  have hm16 : m < 16 := by omega
  generalize rs.set m ⟨rs[m].gen, false, 0⟩ = rs2 at *
  have HS2 := Lib.hid (szR hl2)
  clear ha hf
  have T0 := Two.start w rs
  go_enter Try.func9, Try.ntmps9
  go_upto_region 1 with (fail)
  rw [zeros_lit]
  generalize ((w.alloc (.cells (regA rs) 26)).alloc (.cells (regA zeros) 26)) = W at *
  go_wp2_with (refine wpList_load_row rfl 26 (.tmp 2) rfl w.heap.size rfl 26 (regA rs) (0, 0) _ T0.b0 Try.underlying26 rfl HS.out ?_)
  refine (HC.out _).mono ?_; rintro en w1 ⟨rfl, hb1⟩
  have T1 := T0.on hb1
  go_wp2_with (refine wpList_load_row rfl 26 (.tmp 2) rfl w.heap.size rfl 26 (regA rs) (0, 0) _ T1.b0 Try.underlying26 rfl HS.out ?_)
  refine (HF.out _).mono ?_; rintro en w2 ⟨rfl, hb2⟩
  have T2 := T1.on hb2
  have hcl : w2.cell? ⟨w.heap.size, m * 3 + 1, none⟩ = some (.bool rs[m].live) := (cell_of_row w2 _ _ _ _ _ T2.b0).trans HG.out.2.1
  have hcw : w2.cell? ⟨w.heap.size, m * 3 + 2, none⟩ = some (.int .i64 rs[m].what) := (cell_of_row w2 _ _ _ _ _ T2.b0).trans HG.out.2.2
  have hfr1 : w2.frozen? ⟨w.heap.size, m * 3 + 1, none⟩ = false := frozen_of_row w2 _ _ _ _ T2.b0
  have hfr2 : w2.frozen? ⟨w.heap.size, m * 3 + 2, none⟩ = false := frozen_of_row w2 _ _ _ _ T2.b0
  go_upto_region 8 with (fail)
  have hrow : ((w2.setCell ⟨w.heap.size, m * 3 + 1, none⟩ (.bool false)).setCell ⟨w.heap.size, m * 3 + 2, none⟩ (.int .i64 0)).heap[w.heap.size]? = some (.cells (regA rs2) 26 (0, 0)) := by
    rw [← HE.out]
    exact heap_setCell_same _ _ _ _ _ _ (heap_setCell_same _ _ _ _ _ _ T2.b0)
  have hrow1 : ((w2.setCell ⟨w.heap.size, m * 3 + 1, none⟩ (.bool false)).setCell ⟨w.heap.size, m * 3 + 2, none⟩ (.int .i64 0)).heap[w.heap.size + 1]? = some (.cells (regA zeros) 26 (0, 0)) := by
    rw [heap_setCell_other _ _ _ _ (by simp), heap_setCell_other _ _ _ _ (by simp)]; exact T2.b1
  have hbel : Below w.heap.size w ((w2.setCell ⟨w.heap.size, m * 3 + 1, none⟩ (.bool false)).setCell ⟨w.heap.size, m * 3 + 2, none⟩ (.int .i64 0)) := Kt.bset (Kt.bset T2.bel (Nat.le_refl _) _) (Nat.le_refl _) _
  generalize ((w2.setCell ⟨w.heap.size, m * 3 + 1, none⟩ (.bool false)).setCell ⟨w.heap.size, m * 3 + 2, none⟩ (.int .i64 0)) = w3 at *
  clear hcl hcw hfr1 hfr2
  go_wp2_with (first | (refine wpList_load_row rfl 26 (.tmp 2) rfl w.heap.size rfl 26 (regA rs2) (0, 0) _ hrow Try.underlying26 rfl HS2.out ?_) | (refine wpList_store_row rfl 26 (.tmp 4) (.tmp 28) rfl (w.heap.size + 1) (regA rs2) rfl rfl 26 (regA zeros) hrow1 HS2.out (by rw [regA_size, regA_size, zeros_len, hl2]) (regA_one _) ?_))
  refine bodyPost_ret (v := .tuple #[.agg (regA rs2), .int .i64 0]) ?_ rfl ⟨rfl, brow hbel (by omega) _⟩
  simp [results, Try.results9, asAddr, ld_row hrow1 hl2]
end Go.Proofs.Ytblcanmkkjfnlaa
