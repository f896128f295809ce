/- host: SameRing (turned from XRngQ: eqCL, same_trueL), SameMachine. -/
import Derived.Test.YtidcbboonjenhaaHstT
namespace Go.Proofs.Ytidcbboonjenhaa
open Go.RowKit
theorem eqCL_len (u v : Value) (ls ms : List (RC)) (w : World) (ha : Kt.Ar w u 3 ls.length (cvs ls)) (hb : Kt.Ar w v 3 ms.length (cvs ms)) (hl : ((ls.length : Int) != ms.length) = true) :
    Calls Try.prog 48 #[u, v] w fun e w' => e = .returned (.bool false) ∧ Below w.heap.size w w' := by
  obtain ⟨A, c, rfl, _, _⟩ := ha.form
  obtain ⟨A', c', rfl, _, _⟩ := hb.form
  go_enter Try.func48, Try.ntmps48
  go_wp2_with fail
  go_ret
  exact ⟨rfl, Below.refl _ _⟩
set_option maxHeartbeats 1600000 in
theorem eqCL_same (u v : Value) (ls ms : List (RC)) (w : World) (ha : Kt.Ar w u 3 ls.length (cvs ls)) (hb : Kt.Ar w v 3 ls.length (cvs ms)) (hl : ls.length = ms.length) (hm : ls.length ≤ 140737488355328) :
    Calls Try.prog 48 #[u, v] w fun e w' => e = .returned (.bool (decide (ls = ms))) ∧ Below w.heap.size w w' := by
  obtain ⟨A, c, rfl, _, hxa⟩ := ha.form
  obtain ⟨A', c', rfl, _, hxb⟩ := hb.form
  have HL := Lib.hid hl
  have HM := Lib.hid hm
  generalize hn : ls.length = n at *
  have HN := Lib.hid hn; clear hn hl ha hb
  go_enter Try.func48, Try.ntmps48
  go_wp2_with fail
  go_loopw [13] (fun i wr => ∃ k : Nat, k ≤ n ∧ i = .int .i64 k ∧ (∀ j (h1 : j < ls.length) (h2 : j < ms.length), j < k → ls[j] = ms[j]) ∧ Below w.heap.size w wr) (fun i _ => n - (intOf i).toNat)
  case atStart => exact ⟨0, Nat.zero_le _, rfl, fun j _ _ h => absurd h (by omega), Below.refl _ _⟩
  case round =>
    obtain ⟨k, hk, rfl, hpre, hbel⟩ := hrel
    have HP := Lib.hid hpre; clear hpre
    have hkm : k ≤ 140737488355328 := by have := HM.out; omega
    by_cases hlt : k < n
    · obtain ⟨b, o, rfl, hb, hc⟩ := hxa (by omega)
      obtain ⟨b', o', rfl, hb', hc'⟩ := hxb (by omega)
      have h1 : k < ls.length := by have := HN.out; omega
      have h2 : k < ms.length := by have := HN.out; have := HL.out; omega
      obtain ⟨x, hx⟩ : ∃ x, ls[k] = x := ⟨_, rfl⟩
      obtain ⟨y, hy⟩ : ∃ y, ms[k] = y := ⟨_, rfl⟩
      obtain ⟨x0, x1, x2⟩ := x
      have xc0 : wr.cell? ⟨b, o + k * 3, none⟩ = some (.int .u64 x0) := by
        have h := hc (k * 3 + 0) (by rw [cvs_len]; omega)
        rw [← List.getElem?_eq_getElem, cvs_get _ _ _ (by omega), List.getElem?_eq_getElem h1, hx] at h
        rw [hbel.cell (p := ⟨b, o + k * 3, none⟩) hb]
        exact h
      have xc1 : wr.cell? ⟨b, o + k * 3 + 1, none⟩ = some (.int .i64 x1) := by
        have h := hc (k * 3 + 1) (by rw [cvs_len]; omega)
        rw [← List.getElem?_eq_getElem, cvs_get _ _ _ (by omega), List.getElem?_eq_getElem h1, hx] at h
        rw [hbel.cell (p := ⟨b, o + k * 3 + 1, none⟩) hb]
        exact h
      have xc2 : wr.cell? ⟨b, o + k * 3 + 2, none⟩ = some (.bool x2) := by
        have h := hc (k * 3 + 2) (by rw [cvs_len]; omega)
        rw [← List.getElem?_eq_getElem, cvs_get _ _ _ (by omega), List.getElem?_eq_getElem h1, hx] at h
        rw [hbel.cell (p := ⟨b, o + k * 3 + 2, none⟩) hb]
        exact h
      obtain ⟨y0, y1, y2⟩ := y
      have yc0 : wr.cell? ⟨b', o' + k * 3, none⟩ = some (.int .u64 y0) := by
        have h := hc' (k * 3 + 0) (by rw [cvs_len]; omega)
        rw [← List.getElem?_eq_getElem, cvs_get _ _ _ (by omega), List.getElem?_eq_getElem h2, hy] at h
        rw [hbel.cell (p := ⟨b', o' + k * 3, none⟩) hb']
        exact h
      have yc1 : wr.cell? ⟨b', o' + k * 3 + 1, none⟩ = some (.int .i64 y1) := by
        have h := hc' (k * 3 + 1) (by rw [cvs_len]; omega)
        rw [← List.getElem?_eq_getElem, cvs_get _ _ _ (by omega), List.getElem?_eq_getElem h2, hy] at h
        rw [hbel.cell (p := ⟨b', o' + k * 3 + 1, none⟩) hb']
        exact h
      have yc2 : wr.cell? ⟨b', o' + k * 3 + 2, none⟩ = some (.bool y2) := by
        have h := hc' (k * 3 + 2) (by rw [cvs_len]; omega)
        rw [← List.getElem?_eq_getElem, cvs_get _ _ _ (by omega), List.getElem?_eq_getElem h2, hy] at h
        rw [hbel.cell (p := ⟨b', o' + k * 3 + 2, none⟩) hb']
        exact h
      have HX := Lib.hid hx; have HY := Lib.hid hy; clear hx hy hxa hxb hc hc'
      have b1 : (0 : Int) ≤ k := by omega
      have b2 : (k : Int) < n := by omega
      by_cases he : (x0, x1, x2) = (y0, y1, y2)
      · simp only [Prod.mk.injEq] at he; obtain ⟨rfl, rfl, rfl⟩ := he
        go_wp2_with fail
        go_quiet (fail)
        go_wp2
        go_roundw
        case rel =>
          refine ⟨k + 1, by omega, by go_num, fun j a b hj => ?_, bdrewN hbel _⟩
          by_cases hjk : j = k
          · subst hjk; exact HX.out.trans HY.out.symm
          · exact HP.out j a b (by omega)
        case measure => simp [intOf]; omega
      · have HNE := Lib.hid he
        have hparts : (¬ x0 = y0) ∨ (x0 = y0 ∧ ¬ x1 = y1) ∨ (x0 = y0 ∧ x1 = y1 ∧ ¬ x2 = y2) := by
          simp only [Prod.mk.injEq, not_and] at he
          first | (revert he; grind) | grind
        clear he
        rcases hparts with e0 | ⟨rfl, e1⟩ | ⟨rfl, rfl, e2⟩
        all_goals
          go_wp2_with fail
          go_quiet (fail)
          go_wp2
          go_ret
          refine ⟨?_, bdrewN hbel _⟩
          have : decide (ls = ms) = false := by
            rw [decide_eq_false_iff_not]
            rintro rfl
            exact HNE.out (HX.out.symm.trans HY.out)
          rw [this]; rfl
    · obtain rfl : k = n := by omega
      go_wp2
      go_ret
      have : decide (ls = ms) = true := by
        rw [decide_eq_true_iff]
        exact List.ext_getElem (HN.out.trans HL.out) fun j a b => HP.out j a b (by have := HN.out; omega)
      rw [this]
      exact ⟨rfl, hbel⟩
theorem eqCL (u v : Value) (ls ms : List (RC)) (w : World) (ha : Kt.Ar w u 3 ls.length (cvs ls)) (hb : Kt.Ar w v 3 ms.length (cvs ms)) (hm : ls.length ≤ 140737488355328) :
    Calls Try.prog 48 #[u, v] w fun e w' => e = .returned (.bool (decide (ls = ms))) ∧ Below w.heap.size w w' := by
  by_cases hl : ls.length = ms.length
  · exact eqCL_same u v ls ms w ha (by rw [hl]; exact hb) hl hm
  · refine (eqCL_len u v ls ms w ha hb (by rw [bne_iff_ne]; omega)).mono fun e w' ⟨h1, h2⟩ => ⟨?_, h2⟩
    have : decide (ls = ms) = false := by
      rw [decide_eq_false_iff_not]
      rintro rfl
      exact hl rfl
    rw [h1, this]
set_option maxHeartbeats 800000 in
theorem same_trueL (V U : Value) (r : Rg) (w : World) (hV : RA w V r) (hU : RA w U r) (h1 : r.cs.length ≤ 140737488355328) : Calls Try.prog 31 #[V, U] w fun e w' => e = .returned (.bool true) ∧ Below w.heap.size w w' := by
  obtain ⟨C, rfl, hC⟩ := hV
  obtain ⟨C', rfl, hC'⟩ := hU
  have gC := hC; have gC' := hC'
  obtain ⟨LA, Lc, rfl, _, _⟩ := hC.form
  obtain ⟨LA', Lc', rfl, _, _⟩ := hC'.form
  clear hC hC'
  unfold rgV
  go_enter Try.func31, Try.ntmps31
  go_wp2_with fail
  refine (eqCL _ _ r.cs r.cs _ (gC.on (Kt.balloc (Kt.balloc (Below.refl _ w) _) _)) (gC'.on (Kt.balloc (Kt.balloc (Below.refl _ w) _) _)) (by omega)).mono ?_
  rintro en w1 ⟨rfl, hb⟩
  have hbel := Kt.bthen (Kt.balloc (Kt.balloc (Below.refl _ w) _) _) hb
  have e1 : decide (r.cs = r.cs) = true := by simp
  rw [e1]
  clear hb e1
  go_wp2_with fail
  go_ret
  exact ⟨rfl, hbel⟩
open Go.Proofs.Ytidcbboonjenhaa.Slt
theorem fit_hboard : Fr.fits Try.prog 12 43 hboardTy = true := by kernel_rfl
theorem ok_hboard : Fr.eqOk Try.prog 12 43 = true := by kernel_rfl
theorem heq_board (x y : List Int) (hx : x.length = 594) (hy : y.length = 594) : (x = y → ∀ w, (binOp .eql 43 (.agg (Kt.ia .i64 x)) (.agg (Kt.ia .i64 y))).run Try.prog w = .ok (.bool true) w ∧ (binOp .neq 43 (.agg (Kt.ia .i64 x)) (.agg (Kt.ia .i64 y))).run Try.prog w = .ok (.bool false) w) ∧
      (x ≠ y → ∀ w, (binOp .eql 43 (.agg (Kt.ia .i64 x)) (.agg (Kt.ia .i64 y))).run Try.prog w = .ok (.bool false) w ∧ (binOp .neq 43 (.agg (Kt.ia .i64 x)) (.agg (Kt.ia .i64 y))).run Try.prog w = .ok (.bool true) w) :=
  Kt.eq_ia (P := Try.prog) .i64 43 hboardTy 12 (by omega) fit_hboard ok_hboard rfl rfl rfl (fun _ => rfl) x y (by rw [hx]; rfl) (by rw [hy]; rfl)
theorem hguard_boardT : Program.eqGuardType Try.prog Try.prog.depth 43 = false := by kernel_rfl
theorem hguard_board (op : BinOp) (x y : Operand) (a b : List Int) (w : World) : (eqGuard op 43 x y (.agg (Kt.ia .i64 a)) (.agg (Kt.ia .i64 b))).run Try.prog w = .ok () w := run_eqGuard_agg w op 43 x y _ _ hguard_boardT
set_option maxRecDepth 100000 in
set_option maxHeartbeats 1600000 in
theorem same_mach (M X : Mv) (w : World) (hM : MA w M) (hX : MA w X) (he : X.ms = M.ms) (h1 : M.r.cs.length ≤ 140737488355328) (h2 : M.v.cs.length ≤ 140737488355328) :
    Calls Try.prog 16 #[.agg (mA M), .agg (mA X)] w fun e w' => e = .returned (.bool true) ∧ Below w.heap.size w w' := by
  have er : X.r = M.r := congrArg Ms.r he
  have ev : X.v = M.v := congrArg Ms.v he
  have el : X.l = M.l := congrArg Ms.l he
  have HS0 := Lib.hid (fun W (hb : Below w.heap.size w W) => same_trueL (rgV M.C M.r) (rgV X.C X.r) M.r W (hM.on hb).ra (by have := (hX.on hb).ra; rw [er] at this ⊢; exact this) h1)
  have HS1 := Lib.hid (fun W (hb : Below w.heap.size w W) => same_trueL (rgV M.E M.v) (rgV X.E X.v) M.v W (hM.on hb).rb (by have := (hX.on hb).rb; rw [ev] at this ⊢; exact this) h2)
  have HK := Lib.hid hM.k
  have HKX := Lib.hid hX.k
  have EQ := fun W => ((heq_board M.l X.l hM.k.l hX.k.l).1 el.symm W).1
  have GQ := fun op x y W => hguard_board op x y M.l X.l W
  clear hM hX h1 h2 er ev el he
  have b0 : Mb w.heap.size M ((w.alloc (.cells (mA M) 45)).alloc (.cells (mA X) 45)) := (show Mb w.heap.size M (w.alloc (.cells (mA M) 45)) from heap_alloc_new w _).on (Kt.balloc (Below.refl _ _) _)
  have b1 : Mb (w.heap.size + 1) X ((w.alloc (.cells (mA M) 45)).alloc (.cells (mA X) 45)) := by
    have h := heap_alloc_new (w.alloc (.cells (mA M) 45)) (.cells (mA X) 45)
    rwa [show (w.alloc (.cells (mA M) 45)).heap.size = w.heap.size + 1 by simp] at h
  have HB := Lib.hid (Kt.balloc (Kt.balloc (Below.refl _ w) (.cells (mA M) 45)) (.cells (mA X) 45))
  go_enter Try.func16, Try.ntmps16
  go_wp2_with (first
    | (refine load_r0 rfl (.tmp 5) rfl w.heap.size rfl M b0 ?_)
    | (refine load_r0 rfl (.tmp 7) rfl (w.heap.size + 1) rfl X b1 ?_))
  refine (HS0.out _ HB.out).mono ?_
  rintro _ W1 ⟨rfl, hb⟩
  have HB1 := Lib.hid (Kt.bthen HB.out hb)
  replace b0 := b0.on hb
  replace b1 := b1.on hb
  clear hb HB HS0
  go_wp2_with (first
    | (refine load_r1_g (by rfl) (.tmp 11) rfl w.heap.size rfl M b0 ?_)
    | (refine load_r1_g (by rfl) (.tmp 13) rfl (w.heap.size + 1) rfl X b1 ?_))
  refine (HS1.out _ HB1.out).mono ?_
  rintro _ W2 ⟨rfl, hb⟩
  have HB2 := Lib.hid (Kt.bthen HB1.out hb)
  replace b0 := b0.on hb
  replace b1 := b1.on hb
  have hk := HK.out
  have hkx := HKX.out
  clear hb HB1 HS1
  go_wp2_with (first
    | (refine load_bd_g (by rfl) (.tmp 18) rfl w.heap.size rfl M b0 hk ?_)
    | (refine load_bd_g (by rfl) (.tmp 20) rfl (w.heap.size + 1) rfl X b1 hkx ?_))
  go_ret
  exact ⟨rfl, HB2.out⟩
end Go.Proofs.Ytidcbboonjenhaa
