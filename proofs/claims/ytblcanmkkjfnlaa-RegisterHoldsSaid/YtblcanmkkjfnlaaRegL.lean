/- The walks of package register: Let. -/
import Derived.Test.YtblcanmkkjfnlaaRegV
import Derived.StillTailTactics
import Derived.Deep.RegionHeld3
namespace Go.Proofs.Ytblcanmkkjfnlaa
open Go.RowKit Go.Proofs.Ytblcanmkkjfnlaa.RegP
set_option maxHeartbeats 800000 in
theorem let_bad (rs : List Room) (hl : rs.length = 16) (what : Int) (HC : Hid (∀ W : World, Calls Try.prog 12 #[.agg (regA rs)] W fun e w' => e = .returned (.int .i64 4) ∧ Below W.heap.size W w')) (w : World) : Calls Try.prog 7 #[.agg (regA rs), .int .i64 what] w fun e w' => e = .returned (.tuple #[.agg (regA zeros), .int .i64 0, .int .i64 4]) ∧ Below w.heap.size w w' := by
  have HS := Lib.hid (szR hl)
  have T0 := Two.start w rs
  go_enter Try.func7, Try.ntmps7
  go_upto_region 1 with (fail)
  rw [zeros_lit]
  generalize ((w.alloc (.cells (regA rs) 26)).alloc (.cells (regA zeros) 26)) = W at *
  go_wp2_with (refine wpList_load_row rfl 26 (.tmp 2) rfl w.heap.size rfl 26 (regA rs) (0, 0) _ T0.b0 Try.underlying26 rfl HS.out ?_)
  refine (HC.out _).mono ?_; rintro en w1 ⟨rfl, hb1⟩
  have T1 := T0.on hb1
  go_wp2_with (refine wpList_store_row rfl 26 (.tmp 4) (.tmp 14) rfl (w.heap.size + 1) (regA zeros) rfl (by rw [← zeros_lit]; rfl) 26 (regA zeros) T1.b1 (szR zeros_len) rfl (regA_one _) ?_)
  refine bodyPost_ret (v := .tuple #[.agg (regA zeros), .int .i64 0, .int .i64 4]) ?_ rfl ⟨rfl, brow T1.bel (by omega) _⟩
  simp [results, Try.results7, asAddr, T1.ld]
theorem free_cases {g u : Int} {l : Bool} (h : free ⟨g, l, u⟩ = false) : l = true ∨ (l = false ∧ 65535 ≤ g) := by
  cases l
  · refine Or.inr ⟨rfl, ?_⟩; simp [free] at h; exact h
  · exact Or.inl rfl
set_option maxHeartbeats 800000 in
theorem let_full (rs : List Room) (hl : rs.length = 16) (what : Int) (ha : AllOk rs) (h : ∀ j (hj : j < rs.length), free rs[j] = false) (w : World) : Calls Try.prog 7 #[.agg (regA rs), .int .i64 what] w fun e w' => e = .returned (.tuple #[.agg (regA zeros), .int .i64 0, .int .i64 11]) ∧ Below w.heap.size w w' := by
  have HC := Lib.hid (check_good rs hl ha)
  have HS := Lib.hid (szR hl)
  have T0 := Two.start w rs
  clear ha
  go_enter Try.func7, Try.ntmps7
  go_upto_region 1 with (fail)
  rw [zeros_lit]
  generalize ((w.alloc (.cells (regA rs) 26)).alloc (.cells (regA zeros) 26)) = W at *
  go_wp2_with (refine wpList_load_row rfl 26 (.tmp 2) rfl w.heap.size rfl 26 (regA rs) (0, 0) _ T0.b0 Try.underlying26 rfl HS.out ?_)
  refine (HC.out _).mono ?_; rintro en w1 ⟨rfl, hb1⟩
  have T1 := T0.on hb1
  go_wp2_with fail
  go_loop [16] (fun i => ∃ k : Nat, k ≤ 16 ∧ i = .int .i64 k) (fun i => 16 - (intOf i).toNat)
  case atStart => exact ⟨0, by omega, rfl⟩
  case round =>
    obtain ⟨k, hk, rfl⟩ := hrel
    by_cases hlt : k < 16
    · have hn := h k (by omega)
      obtain ⟨g0, g1, g2⟩ := regA_at rs k (by omega)
      have hc0 : w1.cell? ⟨w.heap.size, k * 3, none⟩ = _ := (cell_of_row w1 _ _ _ _ _ T1.b0).trans g0
      have hc1 : w1.cell? ⟨w.heap.size, k * 3 + 1, none⟩ = _ := (cell_of_row w1 _ _ _ _ _ T1.b0).trans g1
      clear h g0 g1 g2
      generalize rs[k] = x at *
      obtain ⟨g, l, u⟩ := x
      simp only at hc0 hc1
      rcases free_cases hn with rfl | ⟨rfl, hg⟩
      · clear hn
        go_wp2
        go_round
        case rel => exact ⟨k + 1, by omega, by go_num⟩
        case measure => simp [intOf]; omega
      · clear hn
        go_wp2
        go_round
        case rel => exact ⟨k + 1, by omega, by go_num⟩
        case measure => simp [intOf]; omega
    · obtain rfl : k = 16 := by omega
      go_wp2_with (refine wpList_store_row rfl 26 (.tmp 4) (.tmp 52) rfl (w.heap.size + 1) (regA zeros) rfl (by rw [← zeros_lit]; rfl) 26 (regA zeros) T1.b1 (szR zeros_len) rfl (regA_one _) ?_)
      refine bodyPost_ret (v := .tuple #[.agg (regA zeros), .int .i64 0, .int .i64 11]) ?_ rfl ⟨rfl, brow T1.bel (by omega) _⟩
      simp [results, Try.results7, asAddr, T1.ld]
theorem still_load_reg {o : Oper} {a : Act} {w : World} {next : Act → Prop} (x : Operand) (ho : o.op = .load 26 x)
    (g : Nat) (hx : a.eval x = .pointer (some ⟨g, 0, none⟩)) (cs : Array Value) (hg : w.heap[g]? = some (.cells cs 26 (0, 0)))
    (hi : (Try.prog.info? 26).map (·.size) = some cs.size) (h : next (a.put o.dst (.agg cs))) : o.still Try.prog a w next := by
  unfold Oper.still execOp
  simp only [ho, hx, Instr.loadAt, Instr.sureAddr, Sem.run_bind, Sem.run_pure, Result.andThen_ok, run_loadVar_row w g 26 26 cs (0, 0) _ hg Try.underlying26 rfl hi]
  rw [Oper.stillUpon_value]; exact h
theorem bsets {w : World} : ∀ (vs : List Value) (g o : Nat) {a : World}, Below w.heap.size w a → w.heap.size ≤ g → Below w.heap.size w (a.setCells g o vs)
  | [], _, _, _, h, _ => h
  | v :: r, g, o, a, h, hg => bsets r g (o + 1) (Kt.bset h hg v) hg
theorem regL_one (rs : List Room) : ∀ v ∈ regL rs, v.oneCell' = true := by
  have := regA_one rs
  rw [regA_eq, Array.all_eq_true_iff_forall_mem] at this
  intro v hv
  exact this v (by simpa using hv)
theorem rangeR {w : World} {g : Nat} {rs : List Room} (h : w.heap[g]? = some (.cells (regA rs) 26 (0, 0))) : w.rangeAt g 0 (regL rs) := fun j v hv => by
  rw [cell_of_row w g (0 + j) _ _ _ h, regA_eq]; simpa using hv
theorem thereZ {w : World} {g : Nat} (h : w.heap[g]? = some (.cells (regA zeros) 26 (0, 0))) : w.there g 0 48 := fun j hj =>
  ⟨by rw [cell_of_row w g (0 + j) _ _ _ h, Array.getElem?_eq_getElem (by rw [regA_size, zeros_len]; omega)]; rfl, frozen_of_row w g _ _ _ h⟩
set_option maxHeartbeats 1600000 in
theorem let_good (rs : List Room) (hl : rs.length = 16) (what : Int) (ha : AllOk rs) (m : Nat) (hm : m < rs.length) (hf : free rs[m] = true) (h : ∀ j (hj : j < rs.length), j < m → free rs[j] = false) (w : World) : Calls Try.prog 7 #[.agg (regA rs), .int .i64 what] w fun e w' => e = .returned (.tuple #[.agg (regA (rs.set m ⟨rs[m].gen + 1, true, what⟩)), .int .i64 (m + 16 * (rs[m].gen + 1)), .int .i64 0]) ∧ Below w.heap.size w w' := by
  have HC := Lib.hid (check_good rs hl ha)
  have HS := Lib.hid (szR hl)
  have T0 := Two.start w rs
  have HE := Lib.hid (regA_let' rs m hm (rs[m].gen + 1) true what)
  have hl2 : (rs.set m ⟨rs[m].gen + 1, true, what⟩).length = 16 := by simpa using hl
  generalize hrs2 : rs.set m ⟨rs[m].gen + 1, true, what⟩ = rs2 at *
  have HR := Lib.hid (by rw [← hrs2]; simp [hm] : rs2[m]? = some ⟨rs[m].gen + 1, true, what⟩)
  clear hrs2
  have HS2 := Lib.hid (szR hl2)
  have hok := ha m hm
  clear ha
  go_enter Try.func7, Try.ntmps7
  go_upto_region 1 with (fail)
  rw [zeros_lit]
  generalize ((w.alloc (.cells (regA rs) 26)).alloc (.cells (regA zeros) 26)) = W at *
  go_wp2_with (refine wpList_load_row rfl 26 (.tmp 2) rfl w.heap.size rfl 26 (regA rs) (0, 0) _ T0.b0 Try.underlying26 rfl HS.out ?_)
  refine (HC.out _).mono ?_; rintro en w1 ⟨rfl, hb1⟩
  have T1 := T0.on hb1
  go_wp2_with fail
  go_loop [16] (fun i => ∃ k : Nat, k ≤ m ∧ i = .int .i64 k) (fun i => 16 - (intOf i).toNat)
  case atStart => exact ⟨0, by omega, rfl⟩
  case round =>
    obtain ⟨k, hk, rfl⟩ := hrel
    have hk16 : k < 16 := by omega
    obtain ⟨g0, g1, g2⟩ := regA_at rs k (by omega)
    have hc0 : w1.cell? ⟨w.heap.size, k * 3, none⟩ = _ := (cell_of_row w1 _ _ _ _ _ T1.b0).trans g0
    have hc1 : w1.cell? ⟨w.heap.size, k * 3 + 1, none⟩ = _ := (cell_of_row w1 _ _ _ _ _ T1.b0).trans g1
    have hc2 : w1.cell? ⟨w.heap.size, k * 3 + 2, none⟩ = _ := (cell_of_row w1 _ _ _ _ _ T1.b0).trans g2
    clear g0 g1 g2
    by_cases hlt : k < m
    · have hn := h k (by omega) hlt
      clear h hok HE HR
      generalize rs[k] = x at *
      obtain ⟨g, l, u⟩ := x
      simp only at hc0 hc1
      rcases free_cases hn with rfl | ⟨rfl, hg⟩
      · clear hn
        go_wp2
        go_round
        case rel => exact ⟨k + 1, by omega, by go_num⟩
        case measure => simp [intOf]; omega
      · clear hn
        go_wp2
        go_round
        case rel => exact ⟨k + 1, by omega, by go_num⟩
        case measure => simp [intOf]; omega
    · obtain rfl : k = m := by omega
      clear h
      generalize hrk : rs[k] = x at *
      have HX := Lib.hid hrk; clear hrk
      obtain ⟨g, l, u⟩ := x
      obtain ⟨x1, x2, x3, x4⟩ := hok
      simp only at hc0 hc1 hc2 x1 x2 HE HR
      simp only [free, Bool.and_eq_true, Bool.not_eq_true', decide_eq_true_iff] at hf
      obtain ⟨rfl, hg⟩ := hf
      clear x3 x4
      have hfr0 : w1.frozen? ⟨w.heap.size, k * 3, none⟩ = false := frozen_of_row w1 _ _ _ _ T1.b0
      have hfr1 : w1.frozen? ⟨w.heap.size, k * 3 + 1, none⟩ = false := frozen_of_row w1 _ _ _ _ T1.b0
      have hfr2 : w1.frozen? ⟨w.heap.size, k * 3 + 2, none⟩ = false := frozen_of_row w1 _ _ _ _ T1.b0
      go_upto_region 10 with (fail)
      have hrow : (((w1.setCell ⟨w.heap.size, k * 3, none⟩ (.int .i64 (g + 1))).setCell ⟨w.heap.size, k * 3 + 1, none⟩ (.bool true)).setCell ⟨w.heap.size, k * 3 + 2, none⟩ (.int .i64 what)).heap[w.heap.size]? = some (.cells (regA rs2) 26 (0, 0)) := by
        rw [← HE.out]
        exact heap_setCell_same _ _ _ _ _ _ (heap_setCell_same _ _ _ _ _ _ (heap_setCell_same _ _ _ _ _ _ T1.b0))
      have hrow1 : (((w1.setCell ⟨w.heap.size, k * 3, none⟩ (.int .i64 (g + 1))).setCell ⟨w.heap.size, k * 3 + 1, none⟩ (.bool true)).setCell ⟨w.heap.size, k * 3 + 2, none⟩ (.int .i64 what)).heap[w.heap.size + 1]? = some (.cells (regA zeros) 26 (0, 0)) := by
        rw [heap_setCell_other _ _ _ _ (by simp), heap_setCell_other _ _ _ _ (by simp), heap_setCell_other _ _ _ _ (by simp)]; exact T1.b1
      have hbel : Below w.heap.size w (((w1.setCell ⟨w.heap.size, k * 3, none⟩ (.int .i64 (g + 1))).setCell ⟨w.heap.size, k * 3 + 1, none⟩ (.bool true)).setCell ⟨w.heap.size, k * 3 + 2, none⟩ (.int .i64 what)) := Kt.bset (Kt.bset (Kt.bset T1.bel (Nat.le_refl _) _) (Nat.le_refl _) _) (Nat.le_refl _) _
      generalize (((w1.setCell ⟨w.heap.size, k * 3, none⟩ (.int .i64 (g + 1))).setCell ⟨w.heap.size, k * 3 + 1, none⟩ (.bool true)).setCell ⟨w.heap.size, k * 3 + 2, none⟩ (.int .i64 what)) = w3 at *
      have hcn : w3.cell? ⟨w.heap.size, k * 3, none⟩ = some (.int .i64 (g + 1)) := by
        have h2 := HR.out
        obtain ⟨h3, h4⟩ := List.getElem?_eq_some_iff.1 h2
        have h5 := (regA_at rs2 k h3).1
        rw [h4] at h5
        exact (cell_of_row w3 _ _ _ _ _ hrow).trans h5
      clear hc0 hc1 hc2 hfr0 hfr1 hfr2
      have hRA : w3.rangeAt w.heap.size 0 (regL rs2) := rangeR hrow
      have hTH : w3.there (w.heap.size + 1) 0 48 := thereZ hrow1
      have hu26 := Try.underlying26
      have hi26 : (Try.prog.info? 26).map (·.size) = some (regL rs2).length := by rw [regL_len, hl2]; exact info_reg
      have hn26 : (regL rs2).length = 48 := by rw [regL_len, hl2]
      have h1c := regL_one rs2
      have hb26 : w.heap.size ≠ w.heap.size + 1 := by omega
      have hw3 : w.heap.size + 1 < w3.heap.size := (Array.getElem?_eq_some_iff.1 hrow1).1
      have HB := Lib.hid hbel
      clear hrow hrow1 hbel HE HR HS HS2 HC T0 T1 hb1
      have hs1 : IntKind.i64.wrap (16 * (g + 1)) = 16 * (g + 1) := IntWalk.i64_in _ (by omega)
      have hs2 : IntKind.i64.wrap (↑k + 16 * (g + 1)) = ↑k + 16 * (g + 1) := IntWalk.i64_in _ (by omega)
      refine wp_region_noPanic ?_
      refine wp_region_held_drew (S := fun w' => w'.rangeAt w.heap.size 0 (regL rs2) ∧ w'.there (w.heap.size + 1) 0 48 ∧ w'.cell? ⟨w.heap.size, k * 3, none⟩ = some (.int .i64 (g + 1))) (by kernel_rfl) ⟨hRA, hTH, hcn⟩ (fun hHeld => ?_)
      refine wpAnyH_take (i := 0) (oi := { dst := some 43, op := Op.load 26 (Operand.tmp 2), type := 26, pos := "register.go:25", after := #[], guard := none }) rfl (by kernel_rfl) (by kernel_rfl) (by kernel_rfl) (fun _ _ _ h => h) (yieldsIf_load_mid (by rfl) _ _ rfl _ _ rfl (regL rs2) _ (fun _ h => h.1) hu26 rfl hi26) hHeld ?_
      simp only [Act.put, List.setIfInBounds_toArray, List.set_cons_zero, List.set_cons_succ]
      refine wpAnyH_take (i := 1) (oi := { dst := some 44, op := Op.move (Operand.tmp 8), type := 3, pos := "register.go:25", after := #[{ on := 8, ground := Ground.gcOnly Departure.lateStores }], guard := none }) (v := ?_) rfl (by kernel_rfl) (by kernel_rfl) (by kernel_rfl) (fun _ _ _ h => h) (Or.inl ⟨by rfl, ?_⟩) (by assumption) ?_
      rotate_left
      · intro w hSw; (try dsimp only at hSw); go_simp; try with_reducible rfl
      simp only [Act.put, List.setIfInBounds_toArray, List.set_cons_zero, List.set_cons_succ]
      refine wpAnyH_take (i := 2) (oi := { dst := some 45, op := Op.move (Operand.tmp 9), type := 41, pos := "register.go:25", after := #[{ on := 8, ground := Ground.gcOnly Departure.lateStores }], guard := none }) (v := ?_) rfl (by kernel_rfl) (by kernel_rfl) (by kernel_rfl) (fun _ _ _ h => h) (Or.inl ⟨by rfl, ?_⟩) (by assumption) ?_
      rotate_left
      · intro w hSw; (try dsimp only at hSw); go_simp; try with_reducible rfl
      simp only [Act.put, List.setIfInBounds_toArray, List.set_cons_zero, List.set_cons_succ]
      refine wpAnyH_take (i := 3) (oi := { dst := some 46, op := Op.nilCheck (Operand.tmp 45), type := 0, pos := "register.go:25", after := #[{ on := 2, ground := Ground.data }, { on := 8, ground := Ground.gcOnly Departure.lateStores }], guard := none }) (v := ?_) rfl (by kernel_rfl) (by kernel_rfl) (by kernel_rfl) (fun _ _ _ h => h) (Or.inl ⟨by rfl, ?_⟩) (by assumption) ?_
      rotate_left
      · intro w hSw; (try dsimp only at hSw); go_simp; try with_reducible rfl
      simp only [Act.put, List.setIfInBounds_toArray, List.set_cons_zero, List.set_cons_succ]
      refine wpAnyH_take (i := 4) (oi := { dst := some 47, op := Op.fieldAddr 23 (Operand.tmp 46) 0, type := 0, pos := "register.go:25", after := #[{ on := 3, ground := Ground.data }, { on := 8, ground := Ground.gcOnly Departure.lateStores }], guard := none }) (v := ?_) rfl (by kernel_rfl) (by kernel_rfl) (by kernel_rfl) (fun _ _ _ h => h) (Or.inl ⟨by rfl, ?_⟩) (by assumption) ?_
      rotate_left
      · intro w hSw; (try dsimp only at hSw); go_simp; try with_reducible rfl
      simp only [Act.put, List.setIfInBounds_toArray, List.set_cons_zero, List.set_cons_succ]
      refine wpAnyH_take (i := 5) (oi := { dst := some 48, op := Op.load 3 (Operand.tmp 47), type := 3, pos := "register.go:25", after := #[{ on := 4, ground := Ground.data }, { on := 8, ground := Ground.gcOnly Departure.lateStores }], guard := none }) (v := ?_) rfl (by kernel_rfl) (by kernel_rfl) (by kernel_rfl) (fun _ _ _ h => h) (Or.inl ⟨by rfl, ?_⟩) (by assumption) ?_
      rotate_left
      · intro w hSw; (try dsimp only at hSw); go_simp; try with_reducible rfl
      simp only [Act.put, List.setIfInBounds_toArray, List.set_cons_zero, List.set_cons_succ]
      refine wpAnyH_take (i := 6) (oi := { dst := some 49, op := Op.binOp BinOp.mul 3 (Operand.const (Value.int IntKind.i64 16)) (Operand.tmp 48) 3, type := 3, pos := "register.go:25", after := #[{ on := 5, ground := Ground.data }, { on := 8, ground := Ground.gcOnly Departure.lateStores }], guard := none }) (v := ?_) rfl (by kernel_rfl) (by kernel_rfl) (by kernel_rfl) (fun _ _ _ h => h) (Or.inl ⟨by rfl, ?_⟩) (by assumption) ?_
      rotate_left
      · intro w hSw; (try dsimp only at hSw); go_simp; try with_reducible rfl
      simp only [Act.put, List.setIfInBounds_toArray, List.set_cons_zero, List.set_cons_succ]
      refine wpAnyH_take (i := 7) (oi := { dst := some 50, op := Op.binOp BinOp.add 3 (Operand.tmp 44) (Operand.tmp 49) 3, type := 3, pos := "register.go:25", after := #[{ on := 1, ground := Ground.data }, { on := 6, ground := Ground.data }, { on := 8, ground := Ground.gcOnly Departure.lateStores }], guard := none }) (v := ?_) rfl (by kernel_rfl) (by kernel_rfl) (by kernel_rfl) (fun _ _ _ h => h) (Or.inl ⟨by rfl, ?_⟩) (by assumption) ?_
      rotate_left
      · intro w hSw; (try dsimp only at hSw); go_simp; try with_reducible rfl
      simp only [Act.put, List.setIfInBounds_toArray, List.set_cons_zero, List.set_cons_succ]
      trace "A"
      have hthere : w3.drew.there (w.heap.size + 1) 0 (regL rs2).toArray.size := by rw [show (regL rs2).toArray.size = 48 by simpa using hn26]; exact hHeld.2.1
      refine wpAnyH_ready (rs := [8]) (by kernel_rfl) (by simp) ?_
      refine AllReadyH.cons (o := { dst := none, op := Op.store 26 (Operand.tmp 4) (Operand.tmp 43), type := 0, pos := "register.go:25", after := #[{ on := 0, ground := Ground.data }, { on := 0, ground := Ground.phase }, { on := 1, ground := Ground.textOnly Departure.lateStores }, { on := 2, ground := Ground.textOnly Departure.lateStores }, { on := 3, ground := Ground.textOnly Departure.lateStores }, { on := 4, ground := Ground.textOnly Departure.lateStores }, { on := 5, ground := Ground.textOnly Departure.lateStores }, { on := 6, ground := Ground.textOnly Departure.lateStores }, { on := 7, ground := Ground.textOnly Departure.lateStores }], guard := none }) rfl (fun K hK => ?_) AllReadyH.nil
      rw [if_pos (by rfl)]
      refine wp_store_mid 26 (.tmp 4) (.tmp 43) rfl (w.heap.size + 1) 0 (regL rs2).toArray rfl rfl hthere (by rw [List.size_toArray]; exact hi26) (all_oneCell_toArray h1c) ?_
      simp only [Act.put, List.toList_toArray]
      refine hK.out _ _ ⟨World.rangeAt_setCells_apart hHeld.1 _ _ _ (Or.inl hb26), World.there_setCells hHeld.2.1 _ _ _, by rw [World.cell?_setCells_out _ _ _ _ _ (fun hb _ => absurd hb hb26)]; exact hHeld.2.2⟩ (fun hHeld2 => ?_)
      clear hK K
      have HZ : Hid ((w3.drew.setCells (w.heap.size + 1) 0 (regL rs2)).rangeAt (w.heap.size + 1) 0 (regL rs2)) := Lib.hid (World.rangeAt_setCells_same _ _ _ _ (by rw [hn26]; exact hHeld.2.1))
      have HB2 := Lib.hid (bsets (regL rs2) (w.heap.size + 1) 0 (HB.out.drew) (by omega))
      generalize w3.drew.setCells (w.heap.size + 1) 0 (regL rs2) = w4 at *
      clear hHeld hthere
      refine wpAnyH_take (i := 9) (oi := { dst := some 5, op := Op.assign (Operand.tmp 50), type := 3, pos := "register.go:25", after := #[{ on := 7, ground := Ground.data }, { on := 8, ground := Ground.chain }, { on := 0, ground := Ground.phase }, { on := 1, ground := Ground.phase }, { on := 2, ground := Ground.phase }, { on := 3, ground := Ground.phase }, { on := 4, ground := Ground.phase }, { on := 5, ground := Ground.phase }, { on := 6, ground := Ground.phase }, { on := 7, ground := Ground.phase }, { on := 8, ground := Ground.phase }], guard := none }) (v := ?_) rfl (by kernel_rfl) (by kernel_rfl) (by kernel_rfl) (fun _ _ _ h => h) (Or.inl ⟨by rfl, ?_⟩) (by assumption) ?_
      rotate_left
      · intro w hSw; (try dsimp only at hSw); go_simp; try with_reducible rfl
      simp only [Act.put, List.setIfInBounds_toArray, List.set_cons_zero, List.set_cons_succ]
      refine wpAnyH_take (i := 10) (oi := { dst := some 6, op := Op.assign (Operand.const (Value.int IntKind.i64 0)), type := 28, pos := "register.go:25", after := #[{ on := 9, ground := Ground.chain }, { on := 0, ground := Ground.phase }, { on := 1, ground := Ground.phase }, { on := 2, ground := Ground.phase }, { on := 3, ground := Ground.phase }, { on := 4, ground := Ground.phase }, { on := 5, ground := Ground.phase }, { on := 6, ground := Ground.phase }, { on := 7, ground := Ground.phase }, { on := 8, ground := Ground.phase }, { on := 9, ground := Ground.phase }], guard := none }) (v := ?_) rfl (by kernel_rfl) (by kernel_rfl) (by kernel_rfl) (fun _ _ _ h => h) (Or.inl ⟨by rfl, ?_⟩) (by assumption) ?_
      rotate_left
      · intro w hSw; (try dsimp only at hSw); go_simp; try with_reducible rfl
      simp only [Act.put, List.setIfInBounds_toArray, List.set_cons_zero, List.set_cons_succ]
      refine wpAnyH_done (by kernel_rfl) ?_ _
      refine NoPanic.normal ?_
      go_wp2
      rw [← regA_eq]
      refine bodyPost_ret (v := .tuple #[.agg (regA rs2), .int .i64 (k + 16 * (g + 1)), .int .i64 0]) ?_ rfl ⟨by rw [HX.out], HB2.out⟩
      have hld := run_loadVar_mid (P := Try.prog) w4 (w.heap.size + 1) 0 26 (regL rs2) _ HZ.out Try.underlying26 rfl hi26
      rw [← regA_eq] at hld
      simp [results, Try.results7, asAddr, hld]
end Go.Proofs.Ytblcanmkkjfnlaa
