/- The law SlotsKeep, walked. -/
import Derived.Test.YtmnfajndklmpbaaSltL
import Derived.Test.YtmnfajndklmpbaaStm
namespace Go.Proofs.Ytmnfajndklmpbaa
open Go.RowKit Classical Go.Proofs.Ytmnfajndklmpbaa.Slt
def cmdTy : Fr.Ty := .cat 1 intTy (.cat 1 intTy (.cat 1 intTy (.cat 1 intTy .nil)))
theorem board_in {w : World} {B : Nat} {v : Value} (h : Fr.RdV w B boardTy v) : ∃ l : List Int, v = .agg (Kt.ia .i64 l) ∧ l.length = 594 := by
  obtain ⟨cs, rfl, h⟩ := h
  obtain ⟨l, e, hl⟩ := Kt.ints_cl .i64 boardTy cs.toList rfl rfl (Fr.cl_of_rd boardTy _ rfl h)
  refine ⟨l, ?_, hl⟩
  rw [show cs = Kt.ia .i64 l from Array.toList_inj.1 (by rw [e, Kt.ia_list])]
theorem cmd_of {w : World} {B : Nat} {cs : List Value} (h : Fr.Rd w B cmdTy cs) : ∃ k s e a : Int, cs = [.int .i64 k, .int .i64 s, .int .i64 e, .int .i64 a] := by
  obtain ⟨l, e, hl⟩ := Kt.ints_cl .i64 cmdTy cs rfl rfl (Fr.cl_of_rd cmdTy _ rfl h)
  match l, hl with
  | [k, s, e', a], _ => exact ⟨k, s, e', a, e⟩
theorem cmd_in {w : World} {B : Nat} {v : Value} (h : Fr.RdV w B cmdTy v) : ∃ k s e a : Int, v = .agg (cmdV k s e a) := by
  obtain ⟨cs, rfl, h⟩ := h
  obtain ⟨k, s, e, a, hh⟩ := cmd_of h
  refine ⟨k, s, e, a, ?_⟩
  rw [show cs = cmdV k s e a from Array.toList_inj.1 (by rw [hh]; rfl)]
theorem eq_board (x y : List Int) (hx : x.length = 594) (hy : y.length = 594) : (x = y → ∀ w, (binOp .eql 27 (.agg (Kt.ia .i64 x)) (.agg (Kt.ia .i64 y))).run Try.prog w = .ok (.bool true) w ∧ (binOp .neq 27 (.agg (Kt.ia .i64 x)) (.agg (Kt.ia .i64 y))).run Try.prog w = .ok (.bool false) w) ∧
      (x ≠ y → ∀ w, (binOp .eql 27 (.agg (Kt.ia .i64 x)) (.agg (Kt.ia .i64 y))).run Try.prog w = .ok (.bool false) w ∧ (binOp .neq 27 (.agg (Kt.ia .i64 x)) (.agg (Kt.ia .i64 y))).run Try.prog w = .ok (.bool true) w) :=
  Kt.eq_ia (P := Try.prog) .i64 27 boardTy 12 (by omega) fit_board ok_board rfl rfl rfl (fun _ => rfl) x y (by rw [hx]; rfl) (by rw [hy]; rfl)
theorem guard_boardT : Program.eqGuardType Try.prog Try.prog.depth 27 = false := by kernel_rfl
theorem guard_board (op : BinOp) (x y : Operand) (a b : List Int) (w : World) : (eqGuard op 27 x y (.agg (Kt.ia .i64 a)) (.agg (Kt.ia .i64 b))).run Try.prog w = .ok () w := run_eqGuard_agg w op 27 x y _ _ guard_boardT
theorem Slt.Did.len {l : List Int} {k s e a : Int} {l' : List Int} {c n : Int} (hl : l.length = 594) (h : Did l k s e a l' c n) : l'.length = 594 := by
  cases h with
  | bad h => exact hl
  | noop _ _ => exact hl
  | enable i _ _ hF => rw [List.length_set]; exact hl
  | full _ _ _ => exact hl
  | trb _ _ _ _ => exact hl
  | done n y _ _ _ _ n1 n2 hc hM => exact put_len l hl n (by omega) y (made_len hl (by omega) hM)
  | refused _ _ _ _ _ _ _ _ => exact hl
theorem ld_slot {W : World} {g : Nat} {l : List Int} (h : Bx 27 g l W) (hl : l.length = 594) (i : Nat) (hi : i < 9) : (loadVar 24 ⟨g, i * 66, none⟩).run Try.prog W = .ok (.agg (Kt.ia .i64 (at_ l i))) W :=
  run_loadVar_mid W g (i * 66) 24 _ _ (h.slot i) Try.underlying24 rfl (at_size l hl i hi)
theorem Slt.Did.kept {l : List Int} {k s e a : Int} {x : List Int} {c n : Int} (h : Did l k s e a x c n) (hc : c ≠ 1) : x = l := by
  cases h with
  | bad _ => rfl
  | noop _ _ => exact absurd rfl hc
  | enable _ _ _ _ => exact absurd rfl hc
  | full _ _ _ => rfl
  | trb _ _ _ _ => rfl
  | done _ _ _ _ _ _ _ _ _ _ => exact absurd rfl hc
  | refused _ _ _ _ _ _ _ _ => rfl
theorem Slt.Did.made {l : List Int} {k s e a : Int} {x : List Int} {n : Int} (hl : l.length = 594) (h : Did l k s e a x 1 n) : x.length = 594 ∧ Ok x ∧ (k = 1 ∨ k = 2 ∨ n = s) ∧ ∀ i : Nat, i < 9 → (i : Int) ≠ n → at_ x i = at_ l i := by
  generalize hc : (1 : Int) = c at h
  cases h with
  | bad _ => omega
  | noop ho _ => exact ⟨hl, ho, .inl (by assumption), fun _ _ _ => rfl⟩
  | enable j ho hk hF =>
    rw [set_put hl ho hF]
    refine ⟨put_len l hl j hF.2.1 _ rfl, put_ok l hl ho j hF.1 (by have := hF.2.1; omega) _ rfl one_ok (.inl (by decide)), .inr (.inl hk), fun i hi hne => at_put_ne l hl j hF.2.1 _ rfl i hi (by omega)⟩
  | full _ _ _ => omega
  | trb _ _ _ _ => omega
  | done j y ho _ _ hs n1 n2 hcc hM =>
    have hy := made_len hl (by omega) hM
    refine ⟨put_len l hl j (by omega) _ hy, made_ok hl ho n1 n2 hcc hM, .inr (.inr rfl), fun i hi hne => at_put_ne l hl j (by omega) _ hy i hi (by omega)⟩
  | refused _ _ _ _ _ _ _ hne => exact absurd hc.symm hne
set_option maxRecDepth 100000 in
set_option maxHeartbeats 3200000 in
theorem keep_walk {B : Nat} (v0 v1 : Value) (w : World) (r0 : Fr.RdV w B boardTy v0) (r1 : Fr.RdV w B cmdTy v1) :
    Calls Try.prog 3 #[v0, v1] w fun e w' => e = .returned (.bool true) ∧ Below w.heap.size w w' := by
  obtain ⟨l, rfl, hl⟩ := board_in r0
  obtain ⟨k, s, e, a, rfl⟩ := cmd_in r1
  clear r0 r1
  have HD := Lib.hid (fun W => do_calls l hl k s e a W)
  unfold cmdV at *
  have hsz : (Try.prog.info? 27).map (·.size) = some l.length := by rw [hl]; exact size_board
  have Z0 := zero_board
  have h1 : Bx 27 w.heap.size l (w.alloc (.cells (Kt.ia .i64 l) 27)) := heap_alloc_new w _
  have b0 := h1.on (Kt.balloc (Below.refl _ _) (.cells #[.int .i64 k, .int .i64 s, .int .i64 e, .int .i64 a] 29))
  have bc := heap_alloc_new (w.alloc (.cells (Kt.ia .i64 l) 27)) (.cells #[.int .i64 k, .int .i64 s, .int .i64 e, .int .i64 a] 29)
  have e1 : (w.alloc (.cells (Kt.ia .i64 l) 27)).heap.size = w.heap.size + 1 := by simp
  rw [e1] at bc
  have hbel : Below w.heap.size w _ := Kt.balloc (Kt.balloc (Below.refl _ w) (.cells (Kt.ia .i64 l) 27)) (.cells #[.int .i64 k, .int .i64 s, .int .i64 e, .int .i64 a] 29)
  clear h1 e1
  go_enter Try.func3, Try.ntmps3
  go_wp2_with (first
    | (refine load_bx rfl 27 (.tmp 2) rfl w.heap.size rfl l b0 Try.underlying27 hsz ?_)
    | (refine wpList_load_row rfl 29 (.tmp 3) rfl (w.heap.size + 1) rfl 29 #[.int .i64 k, .int .i64 s, .int .i64 e, .int .i64 a] (0, 0) _ bc Try.underlying29 rfl size_cmd ?_))
  refine (HD.out _).mono ?_
  rintro en w1 ⟨x, c, n, hd, rfl, hb⟩
  replace b0 := b0.on hb
  replace bc := Kt.row_on hb bc
  replace hbel := Kt.bthen hbel hb
  have hxl : x.length = 594 := hd.len hl
  have hsx : (Try.prog.info? 27).map (·.size) = some x.length := by rw [hxl]; exact size_board
  have HDD := Lib.hid hd
  have hb5 : Bx 27 w1.heap.size x (w1.alloc (.cells (Kt.ia .i64 x) 27)) := heap_alloc_new _ _
  replace b0 := b0.on (Kt.balloc (Below.refl _ _) (.cells (Kt.ia .i64 x) 27))
  replace bc := Kt.row_on (Kt.balloc (Below.refl _ _) (.cells (Kt.ia .i64 x) 27)) bc
  replace hbel := Kt.balloc hbel (.cells (Kt.ia .i64 x) 27)
  clear hb hd
  go_upto_region 2 with (refine store_new rfl 27 (.tmp 5) (.tmp 13) rfl w1.heap.size rfl rfl x rfl _ (by rw [Kt.ia_size, zb_len, hxl]) hsx ?_)
  generalize w1.alloc (.cells (Kt.ia .i64 x) 27) = W at *
  generalize w1.heap.size = g at *
  go_wp2_with fail
  refine (lives_calls _).mono ?_
  rintro en w2 ⟨rfl, hb⟩
  replace b0 := b0.on hb
  replace bc := Kt.row_on hb bc
  replace hb5 := hb5.on hb
  replace hbel := Kt.bthen hbel hb
  clear hb
  by_cases hc : c = 1
  · subst hc
    have HM := Lib.hid (HDD.out.made hl)
    go_wp2_with fail
    have H0 := Lib.hid (And.intro b0 (And.intro hb5 (And.intro bc hbel)))
    clear b0 hb5 bc hbel
    go_loopw [28] (fun ii wr => ∃ i : Nat, Hid (i ≤ 9) ∧ ii = .int .i64 i ∧ Hid (Bx 27 w.heap.size l wr ∧ Bx 27 g x wr ∧ wr.heap[w.heap.size + 1]? = some (.cells #[.int .i64 k, .int .i64 s, .int .i64 e, .int .i64 a] 29 (0, 0)) ∧ Below w.heap.size w wr)) (fun ii _ => 9 - (intOf ii).toNat)
    case atStart => exact ⟨0, Lib.hid (by omega), rfl, H0⟩
    case round =>
      clear H0
      obtain ⟨i, HI, rfl, H0⟩ := hrel
      by_cases hi : i < 9
      · have hi' : (i : Int) < 9 := by omega
        have HQ := Lib.hid (show Bx 27 w.heap.size l wr.drew ∧ Bx 27 g x wr.drew ∧ wr.drew.heap[w.heap.size + 1]? = some (.cells #[.int .i64 k, .int .i64 s, .int .i64 e, .int .i64 a] 29 (0, 0)) ∧ Below w.heap.size w wr.drew from ⟨H0.out.1, H0.out.2.1, H0.out.2.2.1, H0.out.2.2.2.drew⟩)
        by_cases hn : (i : Int) = n
        · have f1 : ((i : Int) != n) = false := bne_eq_false_iff_eq.2 hn
          clear hn
          go_upto_region 7 with (fail)
          go_quiet (fail)
          go_wp2_with fail
          exact ⟨⟨i + 1, Lib.hid hi, rfl, Lib.hid ⟨H0.out.1.drewN _, H0.out.2.1.drewN _, H0.out.2.2.1, bdrewN H0.out.2.2.2 _⟩⟩, next_i hi⟩
        · have f1 : ((i : Int) != n) = true := bne_iff_ne.2 hn
          have he := HM.out.2.2.2 i hi hn
          have L1 := HQ.out.2.1.slot i
          have L2 := HQ.out.1.slot i
          have hs := at_size l hl i hi
          rw [he] at L1
          have EQ := fun w => ((eq_slot (at_ l i) (at_ l i) (at_len l hl i hi) (at_len l hl i hi)).1 rfl w).2
          have EG := fun p q y z w => guard_slot .neq p q y z w
          clear hn he
          generalize at_ l i = z at *
          go_upto_region 7 with (fail)
          refine wp_region_still_lit (by kernel_rfl) (by kernel_rfl) ?_
          change wpStill _ _ wr.drew _ _ _
          iterate 7 still_step
          refine Kt.still_mid rfl 24 (.tmp 37) rfl g (i * 66) rfl _ _ L1 Try.underlying24 rfl hs ?_
          iterate 3 still_step
          refine Kt.still_mid rfl 24 (.tmp 41) rfl w.heap.size (i * 66) rfl _ _ L2 Try.underlying24 rfl hs ?_
          iterate 2 still_step
          refine wpStill_nil ?_
          change Exit.then _ _ _ _ wr.drew
          go_wp2_with fail
          exact ⟨⟨i + 1, Lib.hid hi, rfl, HQ⟩, next_i hi⟩
      · have hi' : ¬ (i : Int) < 9 := by omega
        have hb5 := H0.out.2.1
        go_wp2_with (refine load_bx rfl 27 (.tmp 5) rfl g rfl x hb5 Try.underlying27 hsx ?_)
        refine (board_ok x hxl HM.out.2.1 _).mono ?_
        rintro en w3 ⟨rfl, hb⟩
        have bc := Kt.row_on hb H0.out.2.2.1
        have hbel := Kt.bthen H0.out.2.2.2 hb
        have c0 : w3.cell? ⟨w.heap.size + 1, 0, none⟩ = some (.int .i64 k) := cell_of_row _ _ 0 _ _ _ bc
        have c1 : w3.cell? ⟨w.heap.size + 1, 1, none⟩ = some (.int .i64 s) := cell_of_row _ _ 1 _ _ _ bc
        have hor := HM.out.2.2.1
        clear bc hb hb5
        by_cases k1 : k = 1
        · subst k1
          go_wp2_with fail
          go_ret
          exact ⟨rfl, hbel⟩
        by_cases k2 : k = 2
        · subst k2
          go_wp2_with fail
          go_ret
          exact ⟨rfl, hbel⟩
        have f1 : (k == 1) = false := beq_eq_false_iff_ne.2 k1
        have f2 : (k == 2) = false := beq_eq_false_iff_ne.2 k2
        obtain rfl : n = s := by rcases hor with h | h | h; exact absurd h k1; exact absurd h k2; exact h
        clear k1 k2 hor
        go_wp2_with fail
        go_ret
        exact ⟨rfl, hbel⟩
  · have f1 : (c != 1) = true := bne_iff_ne.2 hc
    have hx := HDD.out.kept hc
    subst hx
    go_wp2_with fail
    refine (lives_calls _).mono ?_
    rintro en w3 ⟨rfl, hb⟩
    replace b0 := b0.on hb
    replace hb5 := hb5.on hb
    replace hbel := Kt.bthen hbel hb
    have EQ := fun w => ((eq_board x x hl hl).1 rfl w).1
    have EG := fun p q y z w => guard_board .eql p q y z w
    go_wp2_with (first
      | (refine load_bx_g rfl 27 (.tmp 5) rfl g rfl x hb5 Try.underlying27 hsz ?_)
      | (refine load_bx_g rfl 27 (.tmp 2) rfl w.heap.size rfl x b0 Try.underlying27 hsz ?_))
    go_ret
    exact ⟨rfl, hbel⟩
end Go.Proofs.Ytmnfajndklmpbaa
