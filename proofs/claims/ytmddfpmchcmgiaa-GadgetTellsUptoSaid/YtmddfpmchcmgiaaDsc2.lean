/- DescBack. -/
import Derived.Test.YtmddfpmchcmgiaaDsc1
import Derived.Test.YtmddfpmchcmgiaaGen
namespace Go.Proofs.Ytmddfpmchcmgiaa
open Go.RowKit Go.Proofs.Ytmddfpmchcmgiaa.Dsc
def devTy : Fr.Ty := .cat 1 (.int .i64) (.cat 1 (.int .i64) (.cat 1 (.int .i64) (.cat 1 (.int .i64) (.cat 1 (.int .i64) (.cat 1 (.int .i64) (.cat 1 (.int .i64) (.cat 1 (.int .i64) (.cat 1 (.int .i64) (.cat 1 (.int .i64) (.cat 1 (.int .i64) (.cat 1 (.int .i64) .nil)))))))))))
theorem fit_dev : Fr.fits Try.prog 12 46 devTy = true := by kernel_rfl
theorem ok_dev : Fr.eqOk Try.prog 12 46 = true := by kernel_rfl
theorem dev_cl (d : Dv) : Fr.Cl devTy (dcells d) := by
  have h : ∀ n : Nat, 1 ≤ n + 1 := fun n => Nat.succ_le_succ (Nat.zero_le n)
  exact ⟨h _, ⟨_, rfl⟩, h _, ⟨_, rfl⟩, h _, ⟨_, rfl⟩, h _, ⟨_, rfl⟩, h _, ⟨_, rfl⟩, h _, ⟨_, rfl⟩, h _, ⟨_, rfl⟩, h _, ⟨_, rfl⟩, h _, ⟨_, rfl⟩, h _, ⟨_, rfl⟩, h _, ⟨_, rfl⟩, h _, ⟨_, rfl⟩, rfl⟩
theorem dev_neq (d : Dv) (w : World) : (binOp .neq 46 (.agg #[.int .i64 d.usb, .int .i64 d.cls, .int .i64 d.sub, .int .i64 d.pro, .int .i64 d.m0, .int .i64 d.ven, .int .i64 d.prd, .int .i64 d.rel, .int .i64 d.mak, .int .i64 d.nam, .int .i64 d.ser, .int .i64 d.cfs]) (.agg #[.int .i64 d.usb, .int .i64 d.cls, .int .i64 d.sub, .int .i64 d.pro, .int .i64 d.m0, .int .i64 d.ven, .int .i64 d.prd, .int .i64 d.rel, .int .i64 d.mak, .int .i64 d.nam, .int .i64 d.ser, .int .i64 d.cfs])).run Try.prog w = .ok (.bool false) w := by
  have h := (Fr.eql_agg (P := Try.prog) 46 devTy 12 (by omega) fit_dev ok_dev rfl (dcells d).toArray (dcells d).toArray (dev_cl d) (dev_cl d) rfl rfl (w := w)).2
  refine h.trans ?_
  simp
theorem guard_dev : Program.eqGuardType Try.prog Try.prog.depth 46 = false := by kernel_rfl
def devS : Fr.Ty := .cat 1 (.int .i64) (.cat 1 (.int .i64) (.cat 1 (.int .i64) (.cat 1 (.int .i64) (.cat 1 (.int .i64) (.cat 1 (.int .i64) (.cat 1 (.int .i64) (.cat 1 (.int .i64) (.cat 1 (.int .i64) (.cat 1 (.int .i64) (.cat 1 (.int .i64) (.cat 1 (.int .i64) .nil)))))))))))
theorem dev_rd {v : Value} {w : World} {B : Nat} (h : Fr.RdV w B devS v) : ∃ d : Dv, v = dV d := by
  obtain ⟨cs, rfl, _, ⟨a0, h0, _⟩, _, ⟨a1, h1, _⟩, _, ⟨a2, h2, _⟩, _, ⟨a3, h3, _⟩, _, ⟨a4, h4, _⟩, _, ⟨a5, h5, _⟩, _, ⟨a6, h6, _⟩, _, ⟨a7, h7, _⟩, _, ⟨a8, h8, _⟩, _, ⟨a9, h9, _⟩, _, ⟨a10, h10, _⟩, _, ⟨a11, h11, _⟩, hend⟩ := h
  generalize hx : cs.toList = x at *
  have e0 := (List.take_append_drop 1 x).symm
  have e1 := (List.take_append_drop 1 (x.drop 1)).symm
  have e2 := (List.take_append_drop 1 ((x.drop 1).drop 1)).symm
  have e3 := (List.take_append_drop 1 (((x.drop 1).drop 1).drop 1)).symm
  have e4 := (List.take_append_drop 1 ((((x.drop 1).drop 1).drop 1).drop 1)).symm
  have e5 := (List.take_append_drop 1 (((((x.drop 1).drop 1).drop 1).drop 1).drop 1)).symm
  have e6 := (List.take_append_drop 1 ((((((x.drop 1).drop 1).drop 1).drop 1).drop 1).drop 1)).symm
  have e7 := (List.take_append_drop 1 (((((((x.drop 1).drop 1).drop 1).drop 1).drop 1).drop 1).drop 1)).symm
  have e8 := (List.take_append_drop 1 ((((((((x.drop 1).drop 1).drop 1).drop 1).drop 1).drop 1).drop 1).drop 1)).symm
  have e9 := (List.take_append_drop 1 (((((((((x.drop 1).drop 1).drop 1).drop 1).drop 1).drop 1).drop 1).drop 1).drop 1)).symm
  have e10 := (List.take_append_drop 1 ((((((((((x.drop 1).drop 1).drop 1).drop 1).drop 1).drop 1).drop 1).drop 1).drop 1).drop 1)).symm
  have e11 := (List.take_append_drop 1 (((((((((((x.drop 1).drop 1).drop 1).drop 1).drop 1).drop 1).drop 1).drop 1).drop 1).drop 1).drop 1)).symm
  rw [h11, hend] at e11
  rw [h10, e11] at e10
  rw [h9, e10] at e9
  rw [h8, e9] at e8
  rw [h7, e8] at e7
  rw [h6, e7] at e6
  rw [h5, e6] at e5
  rw [h4, e5] at e4
  rw [h3, e4] at e3
  rw [h2, e3] at e2
  rw [h1, e2] at e1
  rw [h0, e1] at e0
  refine ⟨⟨a0, a1, a2, a3, a4, a5, a6, a7, a8, a9, a10, a11⟩, ?_⟩
  have : cs = #[.int .i64 a0, .int .i64 a1, .int .i64 a2, .int .i64 a3, .int .i64 a4, .int .i64 a5, .int .i64 a6, .int .i64 a7, .int .i64 a8, .int .i64 a9, .int .i64 a10, .int .i64 a11] := by
    rw [← Array.toList_inj, hx, e0]; rfl
  rw [this]
  rfl
set_option maxRecDepth 100000 in
set_option maxHeartbeats 3200000 in
theorem back_calls (hwd : WDev) (d : Dv) (c : Cf) (v : Value) (w : World) (h : CRd w v c) : Calls Try.prog 6 #[dV d, v] w fun e w' => e = .returned (.bool true) ∧ Below w.heap.size w w' := by
  have HV := Lib.hid h
  obtain ⟨F, css, rfl, hF, hcl, hcr⟩ := h
  obtain ⟨FA, fc, rfl, _, _⟩ := hF.form
  have HWD := Lib.hid (hwd d)
  have HLV := Lib.hid lives_calls
  have HNE := fun w => dev_neq d w
  have HGE := fun p q (a b : Array Value) w => run_eqGuard_agg (P := Try.prog) w .neq 46 p q a b guard_dev
  obtain ⟨r1, r2, b2⟩ := box2s w #[.int .i64 d.usb, .int .i64 d.cls, .int .i64 d.sub, .int .i64 d.pro, .int .i64 d.m0, .int .i64 d.ven, .int .i64 d.prd, .int .i64 d.rel, .int .i64 d.mak, .int .i64 d.nam, .int .i64 d.ser, .int .i64 d.cfs] #[.int .i64 c.va, .int .i64 c.nm, .int .i64 c.at_, .int .i64 c.pw, .slice FA c.fs.length fc] 46 24
  have HR1 := Lib.hid r1
  have HR2 := Lib.hid r2
  have HB := Lib.hid b2
  have q1 := fun i => cell_of_row _ _ i _ _ _ r1
  have q2 := fun i => cell_of_row _ _ i _ _ _ r2
  clear hF hcl hcr r1 r2 b2
  unfold dV at HWD ⊢
  go_enter Try.func6, Try.ntmps6
  go_wp2_with fail
  refine (HWD.out _).mono ?_
  rintro e w1 ⟨rfl, hb1⟩
  have HB1 := Lib.hid (Kt.bthen HB.out hb1)
  have HD1 := Lib.hid (Kt.row_on hb1 HR1.out)
  have HC1 := Lib.hid (Kt.row_on hb1 HR2.out)
  clear hb1 q1 q2 HWD
  have q1 := fun i => cell_of_row _ _ i _ _ _ HD1.out
  have q2 := fun i => cell_of_row _ _ i _ _ _ HC1.out
  by_cases hd : okD d
  · have hw : wDev d = (devT d, 0) := if_pos hd
    rw [hw]
    dsimp only
    have HRD := Lib.hid (rdev_calls hwd (devT d))
    rw [dev_back hd] at HRD
    dsimp only at HRD
    have hz : (bs' (devT d)).size = 18 := by rw [bs_size]; exact devT_len d
    obtain ⟨S, hS⟩ : ∃ S, bs' (devT d) = S := ⟨_, rfl⟩
    rw [hS] at HRD hz ⊢
    clear hS hw hd
    unfold dV at HRD
    go_wp2_with fail
    refine (HRD.out _).mono ?_
    rintro e w2 ⟨rfl, hb2⟩
    have HA := Lib.hid (Kt.balloc (Below.refl _ w2) (.cells #[.int .i64 d.usb, .int .i64 d.cls, .int .i64 d.sub, .int .i64 d.pro, .int .i64 d.m0, .int .i64 d.ven, .int .i64 d.prd, .int .i64 d.rel, .int .i64 d.mak, .int .i64 d.nam, .int .i64 d.ser, .int .i64 d.cfs] 46))
    have HBK : Hid (Below w.heap.size w (w2.alloc (.cells #[.int .i64 d.usb, .int .i64 d.cls, .int .i64 d.sub, .int .i64 d.pro, .int .i64 d.m0, .int .i64 d.ven, .int .i64 d.prd, .int .i64 d.rel, .int .i64 d.mak, .int .i64 d.nam, .int .i64 d.ser, .int .i64 d.cfs] 46))) := Lib.hid (HB1.out.trans ((Kt.bthen hb2 HA.out).mono HB1.out.size))
    have HCK := Lib.hid (Kt.row_on HA.out (Kt.row_on hb2 HC1.out))
    have hr1 := Kt.row_on HA.out (Kt.row_on hb2 HD1.out)
    have hr2 := HCK.out
    clear q1 q2
    have q1 := fun i => cell_of_row _ _ i _ _ _ hr1
    have q2 := fun i => cell_of_row _ _ i _ _ _ hr2
    have hn00 : ((0 : Int) != 0) = false := rfl
    clear hb2 hr1 hr2
    go_wp2_with fail
    refine (wcfg_calls c _ _ (HV.out.on HBK.out)).mono ?_
    rintro e w3 ⟨rfl, hb3⟩
    have HB3 := Lib.hid (Kt.bthen HBK.out hb3)
    have HC3 := Lib.hid (Kt.row_on hb3 HCK.out)
    clear hb3
    rcases wcfg_cases c with ⟨hc, hw⟩ | ⟨hc, hw⟩
    · rw [hw]
      dsimp only
      have HRC := Lib.hid (rcfg_calls (cfgT c))
      have hcb := cfg_back hc
      have hz := bs_size (cfgT c)
      have hle := cfgT_len hc
      have HOK := Lib.hid (cfgC_ok hc)
      obtain ⟨S, hS⟩ : ∃ S, bs' (cfgT c) = S := ⟨_, rfl⟩
      rw [hS] at HRC hz ⊢
      have hsz : decide ((S.size : Int) ≤ 512) = true := decide_eq_true (by omega)
      have HCB := Lib.hid hcb
      clear hw hc hcb hz hle hS
      go_wp2_with fail
      refine (HRC.out _).mono ?_
      rintro e w4 ⟨⟨V, fl, rfl, hfl, hfo⟩, hb4⟩
      have HB4 := Lib.hid (Kt.bthen HB3.out hb4)
      have HC4 := Lib.hid (Kt.row_on hb4 HC3.out)
      rw [HCB.out] at hfl ⊢
      dsimp only at hfl ⊢
      obtain ⟨VA, vc, rfl, _, _⟩ := hfo.sl.form
      have hcrd := hfo.crd c.va c.nm c.at_ c.pw
      rw [hfl] at hcrd
      have HCR : Hid (CRd w4 (.agg #[.int .i64 c.va, .int .i64 c.nm, .int .i64 c.at_, .int .i64 c.pw, .slice VA fl.length vc]) c) := Lib.hid hcrd
      have HA := Lib.hid (Kt.balloc (Below.refl _ w4) (.cells #[.int .i64 c.va, .int .i64 c.nm, .int .i64 c.at_, .int .i64 c.pw, .slice VA fl.length vc] 24))
      have HRA := Lib.hid (heap_alloc_new w4 (.cells #[.int .i64 c.va, .int .i64 c.nm, .int .i64 c.at_, .int .i64 c.pw, .slice VA fl.length vc] 24))
      clear hcrd hfo hb4 hfl
      go_wp2_with fail
      refine (HLV.out _).mono ?_
      rintro e w5 ⟨rfl, hb5⟩
      have hr1 := Kt.row_on hb5 HRA.out
      have hr2 := Kt.row_on (Kt.bthen HA.out hb5) HC4.out
      have q1 := fun i => cell_of_row _ _ i _ _ _ hr1
      have q2 := fun i => cell_of_row _ _ i _ _ _ hr2
      have HB5 := Lib.hid (HB4.out.trans ((Kt.bthen HA.out hb5).mono HB4.out.size))
      have HX := Lib.hid ((HCR.out.on HA.out).on hb5)
      have HY := Lib.hid (HV.out.on HB5.out)
      have hn00 : ((0 : Int) == 0) = true := rfl
      clear hb5 hr1 hr2
      go_wp2_with fail
      refine (same_calls c _ _ w5 HX.out HY.out (Nat.le_trans HOK.out.2.1 (by decide)) (fun f hf => ⟨Nat.le_trans (HOK.out.2.2 f hf).nx (by decide), Nat.le_trans (HOK.out.2.2 f hf).ne (by decide)⟩)).mono ?_
      rintro e w6 ⟨rfl, hb6⟩
      have HB6 := Lib.hid (Kt.bthen HB5.out hb6)
      clear hb6 q1 q2
      go_wp2_with fail
      go_ret
      exact ⟨rfl, HB6.out⟩
    · rw [hw]
      dsimp only
      have hne : (cfgC c != 0) = true := by rw [bne_iff_ne]; exact hc
      have he : (⟨[].toArray⟩ : ByteArray) = ⟨#[]⟩ := rfl
      have hst : (bs' []).toList.isEmpty = true := by rw [ByteArray.toList_eq, bs_list]; rfl
      clear hc
      go_wp2_with fail
      refine (HLV.out _).mono ?_
      rintro e w4 ⟨rfl, hb4⟩
      have HB4 := Lib.hid (Kt.bthen HB3.out hb4)
      clear hb4
      go_wp2_with fail
      go_ret
      exact ⟨rfl, HB4.out⟩
  · have hw : wDev d = ([], 1) := if_neg hd
    rw [hw]
    dsimp only
    have HBK := HB1
    have HCK := HC1
    clear hw hd
    go_wp2_with fail
    refine (wcfg_calls c _ _ (HV.out.on HBK.out)).mono ?_
    rintro e w3 ⟨rfl, hb3⟩
    have HB3 := Lib.hid (Kt.bthen HBK.out hb3)
    have HC3 := Lib.hid (Kt.row_on hb3 HCK.out)
    clear hb3
    rcases wcfg_cases c with ⟨hc, hw⟩ | ⟨hc, hw⟩
    · rw [hw]
      dsimp only
      have HRC := Lib.hid (rcfg_calls (cfgT c))
      have hcb := cfg_back hc
      have hz := bs_size (cfgT c)
      have hle := cfgT_len hc
      have HOK := Lib.hid (cfgC_ok hc)
      obtain ⟨S, hS⟩ : ∃ S, bs' (cfgT c) = S := ⟨_, rfl⟩
      rw [hS] at HRC hz ⊢
      have hsz : decide ((S.size : Int) ≤ 512) = true := decide_eq_true (by omega)
      have HCB := Lib.hid hcb
      clear hw hc hcb hz hle hS
      go_wp2_with fail
      refine (HRC.out _).mono ?_
      rintro e w4 ⟨⟨V, fl, rfl, hfl, hfo⟩, hb4⟩
      have HB4 := Lib.hid (Kt.bthen HB3.out hb4)
      have HC4 := Lib.hid (Kt.row_on hb4 HC3.out)
      rw [HCB.out] at hfl ⊢
      dsimp only at hfl ⊢
      obtain ⟨VA, vc, rfl, _, _⟩ := hfo.sl.form
      have hcrd := hfo.crd c.va c.nm c.at_ c.pw
      rw [hfl] at hcrd
      have HCR : Hid (CRd w4 (.agg #[.int .i64 c.va, .int .i64 c.nm, .int .i64 c.at_, .int .i64 c.pw, .slice VA fl.length vc]) c) := Lib.hid hcrd
      have HA := Lib.hid (Kt.balloc (Below.refl _ w4) (.cells #[.int .i64 c.va, .int .i64 c.nm, .int .i64 c.at_, .int .i64 c.pw, .slice VA fl.length vc] 24))
      have HRA := Lib.hid (heap_alloc_new w4 (.cells #[.int .i64 c.va, .int .i64 c.nm, .int .i64 c.at_, .int .i64 c.pw, .slice VA fl.length vc] 24))
      clear hcrd hfo hb4 hfl
      go_wp2_with fail
      refine (HLV.out _).mono ?_
      rintro e w5 ⟨rfl, hb5⟩
      have hr1 := Kt.row_on hb5 HRA.out
      have hr2 := Kt.row_on (Kt.bthen HA.out hb5) HC4.out
      have q1 := fun i => cell_of_row _ _ i _ _ _ hr1
      have q2 := fun i => cell_of_row _ _ i _ _ _ hr2
      have HB5 := Lib.hid (HB4.out.trans ((Kt.bthen HA.out hb5).mono HB4.out.size))
      have HX := Lib.hid ((HCR.out.on HA.out).on hb5)
      have HY := Lib.hid (HV.out.on HB5.out)
      have hn00 : ((0 : Int) == 0) = true := rfl
      clear hb5 hr1 hr2
      go_wp2_with fail
      refine (same_calls c _ _ w5 HX.out HY.out (Nat.le_trans HOK.out.2.1 (by decide)) (fun f hf => ⟨Nat.le_trans (HOK.out.2.2 f hf).nx (by decide), Nat.le_trans (HOK.out.2.2 f hf).ne (by decide)⟩)).mono ?_
      rintro e w6 ⟨rfl, hb6⟩
      have HB6 := Lib.hid (Kt.bthen HB5.out hb6)
      clear hb6 q1 q2
      go_wp2_with fail
      go_ret
      exact ⟨rfl, HB6.out⟩
    · rw [hw]
      dsimp only
      have hne : (cfgC c != 0) = true := by rw [bne_iff_ne]; exact hc
      have he : (⟨[].toArray⟩ : ByteArray) = ⟨#[]⟩ := rfl
      have hst : (bs' []).toList.isEmpty = true := by rw [ByteArray.toList_eq, bs_list]; rfl
      clear hc
      go_wp2_with fail
      refine (HLV.out _).mono ?_
      rintro e w4 ⟨rfl, hb4⟩
      have HB4 := Lib.hid (Kt.bthen HB3.out hb4)
      clear hb4
      go_wp2_with fail
      go_ret
      exact ⟨rfl, HB4.out⟩
theorem back_walk' (hwd : WDev) (v0 v1 : Value) (w : World) (r0 : Fr.RdV w reachBytes devS v0) (r1 : Fr.RdV w reachBytes cfgS v1) :
    Calls Try.prog 6 #[v0, v1] w fun e w' => e = .returned (.bool true) ∧ Below w.heap.size w w' := by
  obtain ⟨d, rfl⟩ := dev_rd r0
  obtain ⟨c, hc, _⟩ := cfg_rd r1
  exact back_calls hwd d c v1 w hc
theorem one_walk' (hwd : WDev) (v0 v1 : Value) (w : World) (r0 : Fr.RdV w reachBytes .string v0) (r1 : Fr.RdV w reachBytes .string v1) :
    Calls Try.prog 7 #[v0, v1] w fun e w' => e = .returned (.bool true) ∧ Below w.heap.size w w' := by
  obtain ⟨s, hs, _⟩ := r0
  obtain ⟨t, ht, _⟩ := r1
  injection hs with hs _
  injection ht with ht _
  subst hs
  subst ht
  have h := one_calls hwd s.data.toList t.data.toList w
  rw [bs_of, bs_of] at h
  exact h
end Go.Proofs.Ytmddfpmchcmgiaa
