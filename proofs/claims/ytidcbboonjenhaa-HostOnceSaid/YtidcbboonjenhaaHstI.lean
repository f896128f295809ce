/- host: Reap walked. -/
import Derived.Test.YtidcbboonjenhaaHstH
namespace Go.Proofs.Ytidcbboonjenhaa
open Go.RowKit Classical Go.Proofs.Ytidcbboonjenhaa.Slt
def sawR (r : Rg) (x : Nat) : Rg := if x / 65536 < r.cs.length - 1 then { r with sn := (((x / 65536 + 1) % (r.cs.length - 1) : Nat) : Int) } else r
inductive RpR (M : Mv) : Ms → Int → Int → Int → Bool → Prop
  | no : ¬ Vl M → RpR M M.ms 0 0 0 false
  | none : Vl M → getB M.v = false → RpR M M.ms 0 0 0 false
  | some (x : Nat) : Vl M → getB M.v = true → (cellAt M.v).1 = (x : Int) → RpR M ⟨sawR M.r x, learnR (getR M.v), M.l⟩ ((x % 256 : Nat) : Int) ((x / 256 % 256 : Nat) : Int) ((x / 65536 : Nat) : Int) true
def RpIs (M : Mv) (w : World) (en : Ending) (w' : World) : Prop := ∃ M1 c n p q, RpR M M1.ms c n p q ∧ en = .returned (.tuple #[.agg (mA M1), .agg #[.int .i64 c, .int .i64 n, .int .i64 p], .bool q]) ∧ MO w' w.heap.size M1 ∧ Below w.heap.size w w'
structure RR3 (w : World) (M : Mv) (W : World) : Prop where
  b0 : Mb w.heap.size M W
  b1 : Mb (w.heap.size + 1) zM W
  b2 : W.heap[w.heap.size + 1 + 1]? = some (.cells #[.int .i64 0, .int .i64 0, .int .i64 0] 56 (0, 0))
  bel : Below w.heap.size w W
theorem RR3.on {w : World} {M : Mv} {W W' : World} (h : RR3 w M W) (hb : Below W.heap.size W W') : RR3 w M W' := ⟨h.b0.on hb, h.b1.on hb, Kt.row_on hb h.b2, Kt.bthen h.bel hb⟩
theorem RR3.start (w : World) (M : Mv) : RR3 w M (((w.alloc (.cells (mA M) 45)).alloc (.cells (mA zM) 45)).alloc (.cells #[.int .i64 0, .int .i64 0, .int .i64 0] 56)) := by
  have h1 : Mb w.heap.size M (w.alloc (.cells (mA M) 45)) := heap_alloc_new w _
  have z1 : (w.alloc (.cells (mA M) 45)).heap.size = w.heap.size + 1 := World.size_alloc _ _
  have g1 := Kt.balloc (Below.refl w.heap.size w) (.cells (mA M) 45)
  generalize w.alloc (.cells (mA M) 45) = w1 at *
  have h2 : Mb w1.heap.size zM (w1.alloc (.cells (mA zM) 45)) := heap_alloc_new w1 _
  have z2 : (w1.alloc (.cells (mA zM) 45)).heap.size = w1.heap.size + 1 := World.size_alloc _ _
  have g2 := Kt.balloc (Below.refl w1.heap.size w1) (.cells (mA zM) 45)
  generalize w1.alloc (.cells (mA zM) 45) = w2 at *
  have h3 := heap_alloc_new w2 (.cells #[.int .i64 0, .int .i64 0, .int .i64 0] 56)
  have g3 := Kt.balloc (Below.refl w2.heap.size w2) (.cells #[.int .i64 0, .int .i64 0, .int .i64 0] 56)
  rw [z1] at h2
  rw [z2, z1] at h3
  exact ⟨(h1.on g2).on g3, h2.on g3, h3, Kt.bthen (Kt.bthen g1 g2) g3⟩
structure RW3 (w : World) (M : Mv) (W : World) : Prop where
  r : RR3 w M W
  mo : MO W (w.heap.size + 1 + 1 + 1) M
theorem RW3.on {w : World} {M : Mv} {W W' : World} (h : RW3 w M W) (hb : Below W.heap.size W W') : RW3 w M W' := ⟨h.r.on hb, h.mo.on hb⟩
theorem RW3.al {w : World} {M : Mv} {W : World} (h : RW3 w M W) (c : Array Value) (t : TypeId) : RW3 w M (W.alloc (.cells c t)) := h.on (Kt.balloc (Below.refl _ W) _)
theorem RR3.lt {w : World} {M : Mv} {W : World} (h : RR3 w M W) : w.heap.size + 1 + 1 + 1 ≤ W.heap.size := (Array.getElem?_eq_some_iff.1 h.b2).1
theorem mod_n {p n : Nat} (hn : 3 ≤ n) : ((p : Int) + 1) % ((n : Int) - 1) = (((p + 1) % (n - 1) : Nat) : Int) := by
  rw [show (n : Int) - 1 = ((n - 1 : Nat) : Int) by omega]
  rfl
theorem end3 {W : World} {b g : Nat} {M : Mv} {x0 y0 z0 : Value} {t : TypeId} (x y z : Value) (hm : Mb b M W) (he : W.heap[g]? = some (.cells #[x0, y0, z0] t (0, 0))) (hne : b ≠ g) :
    Mb b M (((W.setCell ⟨g, 0, none⟩ x).setCell ⟨g, 1, none⟩ y).setCell ⟨g, 2, none⟩ z) ∧ (((W.setCell ⟨g, 0, none⟩ x).setCell ⟨g, 1, none⟩ y).setCell ⟨g, 2, none⟩ z).heap[g]? = some (.cells #[x, y, z] t (0, 0)) ∧ Upd g W (((W.setCell ⟨g, 0, none⟩ x).setCell ⟨g, 1, none⟩ y).setCell ⟨g, 2, none⟩ z) := by
  have hu : Upd g W (((W.setCell ⟨g, 0, none⟩ x).setCell ⟨g, 1, none⟩ y).setCell ⟨g, 2, none⟩ z) := (((Upd.refl g W).set 0 x).set 1 y).set 2 z
  have h1 : (W.setCell ⟨g, 0, none⟩ x).heap[g]? = some (.cells (#[x0, y0, z0].setIfInBounds 0 x) t (0, 0)) := heap_setCell_same _ _ _ _ _ _ he
  have h2 : ((W.setCell ⟨g, 0, none⟩ x).setCell ⟨g, 1, none⟩ y).heap[g]? = some (.cells ((#[x0, y0, z0].setIfInBounds 0 x).setIfInBounds 1 y) t (0, 0)) := heap_setCell_same _ _ _ _ _ _ h1
  have h3 : (((W.setCell ⟨g, 0, none⟩ x).setCell ⟨g, 1, none⟩ y).setCell ⟨g, 2, none⟩ z).heap[g]? = some (.cells (((#[x0, y0, z0].setIfInBounds 0 x).setIfInBounds 1 y).setIfInBounds 2 z) t (0, 0)) := heap_setCell_same _ _ _ _ _ _ h2
  exact ⟨hu.mb hm hne, h3, hu⟩
theorem ld_ev {W : World} {g : Nat} {x y z : Value} (h : W.heap[g]? = some (.cells #[x, y, z] 56 (0, 0))) {d : _} (hu : Try.prog.underlying 56 = some (.struct d)) : (loadVar 56 ⟨g, 0, none⟩).run Try.prog W = .ok (.agg #[x, y, z]) W :=
  run_loadVar_row W g 56 56 #[x, y, z] (0, 0) _ h hu rfl (by kernel_rfl)
set_option maxRecDepth 100000 in
set_option maxHeartbeats 12800000 in
theorem reap_calls (M : Mv) (w : World) (hM : MA w M) (h1 : M.r.cs.length ≤ 5864062014805) (h2 : M.v.cs.length ≤ 5864062014805) (hw : Wf M.r.cs) (hw2 : Wf M.v.cs) : Calls Try.prog 14 #[.agg (mA M)] w (RpIs M w) := by
  have Z0 := zero_machine
  have HR := Lib.hid (RR3.start w M)
  have HCP := Lib.hid (fun W (hb : Below w.heap.size w W) => hcopied_calls M W (hM.on hb) h1 h2)
  have HK := Lib.hid hM.k
  have HVA := Lib.hid (fun C E W (hm : MA W { M with C := C, E := E }) => valid_calls { M with C := C, E := E } W hm (Nat.le_trans h1 (by decide)) (Nat.le_trans h2 (by decide)) hw hw2)
  have HW := Lib.hid hw; have HW2 := Lib.hid hw2
  clear hM h1 h2 hw hw2
  go_enter Try.func14, Try.ntmps14
  go_upto_region 1 with (fail)
  refine Kt.fold (fun W => RR3 w M W) HR.out ?_
  clear HR
  intro W1 hr
  have HR := Lib.hid hr
  have b0 := hr.b0
  have hk := HK.out
  clear hr
  go_wp2_with (refine load_mb rfl (.tmp 1) rfl w.heap.size rfl M b0 hk ?_)
  refine (HCP.out W1 HR.out.bel).mono ?_
  rintro _ W2 ⟨C, E, rfl, hmo, hb⟩
  have HR2 := Lib.hid (HR.out.on hb)
  have HMO := Lib.hid (hmo.mono (B' := w.heap.size + 1 + 1 + 1) HR.out.lt)
  have b2 := HR2.out.b0
  have hk2 : Mk { M with C := C, E := E } := hmo.k
  clear hb hmo HR b0 HCP
  go_upto_region 2 with (refine store_mb rfl (.tmp 1) (.tmp 12) rfl w.heap.size rfl _ rfl hk2 M b2 hk ?_
                         intro W3 hW3 hU3)
  obtain ⟨M1, hm1⟩ : ∃ M1 : Mv, M1 = { M with C := C, E := E } := ⟨_, rfl⟩
  have HV1 := Lib.hid (HVA.out C E)
  have HMS : Hid (M1.ms = M.ms) := Lib.hid (by rw [hm1]; rfl)
  have HVL : Hid (Vl M1 ↔ Vl M) := Lib.hid (by rw [hm1]; exact ⟨fun h => ⟨h.r, h.v, h.b, h.cw, h.ew⟩, fun h => ⟨h.r, h.v, h.b, h.cw, h.ew⟩⟩)
  rw [← hm1] at HV1 HMO hW3 hk2 ⊢
  have HR3 : Hid (RW3 w M1 W3) := Lib.hid ⟨⟨hW3, hU3.mb HR2.out.b1 (by omega), hU3.row' HR2.out.b2 (by omega), HR2.out.bel.trans hU3.below⟩, HMO.out.upd hU3 (by omega)⟩
  clear HVA hW3 hU3 HR2 HMO b2 hk hm1
  have hk := hk2
  have b0 := HR3.out.r.b0
  clear hk2
  go_wp2_with (refine load_mb rfl (.tmp 1) rfl w.heap.size rfl _ b0 hk ?_)
  refine (HV1.out W3 HR3.out.mo.ma).mono ?_
  rintro _ W4 ⟨q, rfl, hq, hb⟩
  have HR4 := Lib.hid (HR3.out.on hb)
  have HQ := Lib.hid hq
  replace b0 := HR4.out.r.b0
  have bz := HR4.out.r.b1
  have bv := HR4.out.r.b2
  clear hb hq HR3 HV1
  cases q with
  | false =>
    have HRP : Hid (RpR M M1.ms 0 0 0 false) := Lib.hid (by rw [HMS.out]; exact .no (fun h => by have := HQ.out.2 (HVL.out.2 h); cases this))
    clear HQ HVL
    have qv := fun i => cell_of_row _ _ i _ _ _ bv
    have fv := fun i => frozen_of_row _ _ i _ _ bv
    go_wp2_with (first
      | (refine load_mb rfl (.tmp 1) rfl w.heap.size rfl _ b0 hk ?_)
      | (refine store_mb rfl (.tmp 2) (.tmp 16) rfl (w.heap.size + 1) rfl _ rfl hk zM bz zM_ok ?_
         intro W9 hW9 hU9
         have hv9 := hU9.row' bv (by omega)
         have qv9 := fun i => cell_of_row _ _ i _ _ _ hv9
         have fv9 := fun i => frozen_of_row _ _ i _ _ hv9))
    obtain ⟨hA, hE, hU⟩ := end3 (.int .i64 0) (.int .i64 0) (.int .i64 0) hW9 hv9 (by omega)
    have HMO9 := Lib.hid ((HR4.out.mo.upd hU9 (by omega)).upd hU (by omega))
    have HB9 := Lib.hid ((HR4.out.r.bel.trans (hU9.below.mono (by omega))).trans (hU.below.mono (by omega)))
    clear hU qv fv qv9 fv9 hv9 hW9
    generalize ((W9.setCell ⟨w.heap.size + 1 + 1, 0, none⟩ (.int .i64 0)).setCell ⟨w.heap.size + 1 + 1, 1, none⟩ (.int .i64 0)).setCell ⟨w.heap.size + 1 + 1, 2, none⟩ (.int .i64 0) = W10 at *
    refine bodyPost_ret (v := .tuple #[.agg (mA M1), .agg #[.int .i64 0, .int .i64 0, .int .i64 0], .bool false]) (by simp [results, Try.results14, asAddr, ld_mb hA hk Try.underlying45, ld_ev hE Try.underlying56]) rfl ?_
    exact ⟨_, _, _, _, _, HRP.out, rfl, HMO9.out.mono (by omega), HB9.out⟩
  | true =>
    have HVV := Lib.hid (HVL.out.1 (HQ.out.1 rfl))
    have HVS : Hid (Vs M.ms) := Lib.hid (vs_of HK.out HVV.out HW.out HW2.out)
    have hv1 : M1.v = M.v := by have := congrArg Ms.v HMS.out; exact this
    have HV1 := Lib.hid hv1
    clear HQ HVL HW HW2
    cases hg : getB M.v with
    | false =>
      have HRP : Hid (RpR M M1.ms 0 0 0 false) := Lib.hid (by rw [HMS.out]; exact .none HVV.out hg)
      have HGT := Lib.hid (get_no (rgV M1.E M1.v) M1.v W4 HR4.out.mo.ma.rb (by rw [hv1]; exact HVS.out.v) (by rw [hv1]; exact hg))
      clear hg hv1
      go_wp2_with (refine load_r1 rfl (.tmp 19) rfl w.heap.size rfl M1 b0 ?_)
      refine HGT.out.mono ?_
      rintro _ W5 ⟨V, rfl, ⟨C3, rfl, hC3⟩, hb⟩
      obtain ⟨CB, cb, hce, _, _⟩ := hC3.form
      subst hce
      obtain ⟨r3, hr3⟩ : ∃ r, r = M1.v := ⟨_, rfl⟩
      rw [← hr3]
      obtain ⟨nb, hnb⟩ : ∃ n, n = r3.cs.length := ⟨_, rfl⟩
      rw [← hnb]
      have HR5 := Lib.hid ((HR4.out.on hb).al #[.slice CB nb cb, .int .i64 r3.pa, .int .i64 r3.pb, .int .i64 r3.ga, .int .i64 r3.gb, .int .i64 r3.sn] 37)
      unfold rgV
      clear hb HGT HR4 b0 bz bv hC3 hr3 hnb
      go_upto_region 5 with (fail)
      generalize W5.alloc (.cells #[.slice CB nb cb, .int .i64 r3.pa, .int .i64 r3.pb, .int .i64 r3.ga, .int .i64 r3.gb, .int .i64 r3.sn] 37) = W6 at *
      have b0 := HR5.out.r.b0
      have bz := HR5.out.r.b1
      have bv := HR5.out.r.b2
      go_wp2_with (first
        | (refine load_mb rfl (.tmp 1) rfl w.heap.size rfl _ b0 hk ?_)
        | (refine store_mb rfl (.tmp 2) (.tmp 28) rfl (w.heap.size + 1) rfl _ rfl hk zM bz zM_ok ?_
           intro W9 hW9 hU9
           have hv9 := hU9.row' bv (by omega)
           have qv9 := fun i => cell_of_row _ _ i _ _ _ hv9
           have fv9 := fun i => frozen_of_row _ _ i _ _ hv9))
      obtain ⟨hA, hE, hU⟩ := end3 (.int .i64 0) (.int .i64 0) (.int .i64 0) hW9 hv9 (by omega)
      have HMO9 := Lib.hid ((HR5.out.mo.upd hU9 (by omega)).upd hU (by omega))
      have HB9 := Lib.hid ((HR5.out.r.bel.trans (hU9.below.mono (by omega))).trans (hU.below.mono (by omega)))
      clear hU qv9 fv9 hv9 hW9
      generalize ((W9.setCell ⟨w.heap.size + 1 + 1, 0, none⟩ (.int .i64 0)).setCell ⟨w.heap.size + 1 + 1, 1, none⟩ (.int .i64 0)).setCell ⟨w.heap.size + 1 + 1, 2, none⟩ (.int .i64 0) = W10 at *
      refine bodyPost_ret (v := .tuple #[.agg (mA M1), .agg #[.int .i64 0, .int .i64 0, .int .i64 0], .bool false]) (by simp [results, Try.results14, asAddr, ld_mb hA hk Try.underlying45, ld_ev hE Try.underlying56]) rfl ?_
      exact ⟨_, _, _, _, _, HRP.out, rfl, HMO9.out.mono (by omega), HB9.out⟩
    | true =>
      have hxw := HVS.out.ew _ (cell_mem HVS.out.v)
      obtain ⟨x, hx⟩ : ∃ x : Nat, (cellAt M.v).1 = (x : Int) := ⟨(cellAt M.v).1.toNat, (Int.toNat_of_nonneg hxw.1).symm⟩
      have hx24 : x < 16777216 := by have := hxw.2; rw [show M.ms.v = M.v from rfl, hx] at this; omega
      have HGT := Lib.hid (get_yes (rgV M1.E M1.v) M1.v W4 HR4.out.mo.ma.rb (by rw [hv1]; exact HVS.out.v) (by rw [hv1]; exact hg))
      rw [hv1, hx] at HGT
      have HX := Lib.hid hx; have HX24 := Lib.hid hx24; have HG := Lib.hid hg
      have hRG : Right (getR M.v) := get_right HVS.out.v
      obtain ⟨r3, hr3⟩ : ∃ r, r = getR M.v := ⟨_, rfl⟩
      rw [← hr3] at HGT hRG
      have HR3 := Lib.hid hr3; have HRG := Lib.hid hRG
      clear hg hv1 hxw hx hr3 hRG
      go_wp2_with (refine load_r1 rfl (.tmp 19) rfl w.heap.size rfl M1 b0 ?_)
      rw [HV1.out]
      refine HGT.out.mono ?_
      rintro _ W5 ⟨V, rfl, ⟨C3, rfl, hC3⟩, hb⟩
      obtain ⟨CB, cb, hce, _, _⟩ := hC3.form
      subst hce
      obtain ⟨nb, hnb⟩ : ∃ n, n = r3.cs.length := ⟨_, rfl⟩
      rw [← hnb] at hC3 ⊢
      have HNB := Lib.hid hnb
      have HSC := Lib.hid ((hC3.mono (B' := w.heap.size + 1 + 1 + 1) HR4.out.r.lt).alloc (.cells #[.slice CB nb cb, .int .i64 r3.pa, .int .i64 r3.pb, .int .i64 r3.ga, .int .i64 r3.gb, .int .i64 r3.sn] 37))
      have HR5 := Lib.hid ((HR4.out.on hb).al #[.slice CB nb cb, .int .i64 r3.pa, .int .i64 r3.pb, .int .i64 r3.ga, .int .i64 r3.gb, .int .i64 r3.sn] 37)
      have HRW := Lib.hid (heap_alloc_new W5 (.cells #[.slice CB nb cb, .int .i64 r3.pa, .int .i64 r3.pb, .int .i64 r3.ga, .int .i64 r3.gb, .int .i64 r3.sn] 37))
      unfold rgV
      clear hb HGT HR4 b0 bz bv hC3 hnb
      go_upto_region 7 with (fail)
      obtain ⟨K, hK⟩ : ∃ K, K = W5.heap.size := ⟨_, rfl⟩
      rw [← hK] at HRW ⊢
      clear hK
      generalize W5.alloc (.cells #[.slice CB nb cb, .int .i64 r3.pa, .int .i64 r3.pb, .int .i64 r3.ga, .int .i64 r3.gb, .int .i64 r3.sn] 37) = W6 at *
      have qr := fun i => cell_of_row _ _ i _ _ _ HRW.out
      have b0 := HR5.out.r.b0
      have HLN := Lib.hid (show Calls Try.prog 30 #[.agg #[.slice CB nb cb, .int .i64 r3.pa, .int .i64 r3.pb, .int .i64 r3.ga, .int .i64 r3.gb, .int .i64 r3.sn]] W6 _ from learn_ok (.agg #[.slice CB nb cb, .int .i64 r3.pa, .int .i64 r3.pb, .int .i64 r3.ga, .int .i64 r3.gb, .int .i64 r3.sn]) r3 W6 ⟨.slice CB nb cb, rfl, by have := Kt.Ar.of_sl HSC.out; rwa [HNB.out] at this ⊢⟩ HRG.out)
      go_wp2_with fail
      refine HLN.out.mono ?_
      rintro _ W7 ⟨V, rfl, ⟨C4, rfl, hC4⟩, hb⟩
      obtain ⟨r4, hr4⟩ : ∃ r, r = learnR r3 := ⟨_, rfl⟩
      rw [← hr4] at hC4 ⊢
      obtain ⟨CD, cd, hce, _, _⟩ := hC4.form
      subst hce
      have HR4 := Lib.hid hr4
      have HSD := Lib.hid (hC4.mono (B' := w.heap.size + 1 + 1 + 1) HR5.out.r.lt)
      have HR7 := Lib.hid (HR5.out.on hb)
      clear hb HLN HR5 HSC HRW qr b0 hC4 hr4
      have b0 := HR7.out.r.b0
      go_upto_region 8 with (
        refine store_r1 rfl (.tmp 35) (.tmp 33) rfl w.heap.size rfl M1 b0 (.slice CD r4.cs.length cd) r4 rfl rfl ?_
        intro W8 hW8 hU8)
      obtain ⟨M2, hm2⟩ : ∃ M2 : Mv, M2 = { M1 with E := .slice CD r4.cs.length cd, v := r4 } := ⟨_, rfl⟩
      rw [← hm2] at hW8
      have HM2 : Hid (M2.r = M.r ∧ M2.v = r4 ∧ M2.l = M.l ∧ M2.C = M1.C) := Lib.hid (by
        have e1 : M1.r = M.r := congrArg Ms.r HMS.out
        have e2 : M1.l = M.l := congrArg Ms.l HMS.out
        rw [hm2]; exact ⟨e1, rfl, e2, rfl⟩)
      have HR8 : Hid (RW3 w M2 W8) := Lib.hid ⟨⟨hW8, hU8.mb HR7.out.r.b1 (by omega), hU8.row' HR7.out.r.b2 (by omega), HR7.out.r.bel.trans hU8.below⟩, by
        have h6 := HR7.out.mo.upd hU8 (by omega)
        have hs := HSD.out.keep (w' := W8) fun k hk => hU8.other k (by have := (HSD.out.lt k hk).1; omega) (HSD.out.lt k hk).2
        rw [hm2]
        exact ⟨⟨h6.k.l, h6.k.c, rfl⟩, h6.c, hs⟩⟩
      clear hU8 HR7 HSD b0 hm2 hW8 hk
      have hx24 := HX24.out
      have HA := Lib.hid (and_lo x 8 255 rfl (by omega) (by decide))
      have HB := Lib.hid (and_lo (x / 256) 8 255 rfl (by omega) (by decide))
      go_upto_region 9 with (fail)
      have hA : wrap64 (bits BinOp.and IntKind.u64 (x : Int) 255) = ((x % 256 : Nat) : Int) := HA.out
      have hB : wrap64 (bits BinOp.and IntKind.u64 ((x : Int) / 256) 255) = ((x / 256 % 256 : Nat) : Int) := HB.out
      rw [hA, hB]
      have hp0 : (x : Int) / 65536 = ((x / 65536 : Nat) : Int) := rfl
      rw [hp0]
      obtain ⟨p, hp⟩ : ∃ p, p = x / 65536 := ⟨_, rfl⟩
      rw [← hp]
      have HP := Lib.hid hp
      have HR9 := Lib.hid (HR8.out.al #[.int .i64 ((x % 256 : Nat) : Int), .int .i64 ((x / 256 % 256 : Nat) : Int), .int .i64 (p : Int)] 56)
      have HEV := Lib.hid (heap_alloc_new W8 (.cells #[.int .i64 ((x % 256 : Nat) : Int), .int .i64 ((x / 256 % 256 : Nat) : Int), .int .i64 (p : Int)] 56))
      have HKV : Hid (w.heap.size + 1 + 1 < W8.heap.size) := Lib.hid HR8.out.r.lt
      obtain ⟨K2, hK2⟩ : ∃ K, K = W8.heap.size := ⟨_, rfl⟩
      rw [← hK2] at HEV HKV ⊢
      clear hA hB HA HB hp0 hp hK2 HR8 hx24
      generalize W8.alloc (.cells #[.int .i64 ((x % 256 : Nat) : Int), .int .i64 ((x / 256 % 256 : Nat) : Int), .int .i64 (p : Int)] 56) = W9 at *
      obtain ⟨CA, ca, hca, _, _⟩ := HR9.out.mo.c.form
      have hn1 : 3 ≤ M2.r.cs.length := by rw [HM2.out.1]; exact HVS.out.r.lo
      have hn2 : M2.r.cs.length ≤ 64 := by rw [HM2.out.1]; exact HVS.out.r.hi
      obtain ⟨n, hn⟩ : ∃ n, n = M2.r.cs.length := ⟨_, rfl⟩
      rw [← hn] at hca hn1 hn2
      have HN := Lib.hid hn; have HN1 := Lib.hid hn1
      have q0 : W9.cell? ⟨w.heap.size, 0, none⟩ = some (.slice CA n ca) := (HR9.out.r.b0.cell 0).trans (by rw [← hca]; rfl)
      have q5 : W9.cell? ⟨w.heap.size, 5, none⟩ = some (.int .i64 M2.r.sn) := HR9.out.r.b0.cell 5
      have f5 := HR9.out.r.b0.free 5
      have qe := fun i => cell_of_row _ _ i _ _ _ HEV.out
      have i3 : (3 : Int) ≤ n := by omega
      have i64 : (n : Int) ≤ 64 := by omega
      have p24 : p < 256 := by rw [HP.out]; have := HX24.out; omega
      have p25 : (p : Int) < 256 := by omega
      have p0 : (0 : Int) ≤ p := Int.natCast_nonneg p
      clear hca hn hn1 hn2
      by_cases hlt : p < n - 1
      · have t1 : (p : Int) < (n : Int) - 1 := by omega
        have hmod : ((p : Int) + 1) % ((n : Int) - 1) = (((p + 1) % (n - 1) : Nat) : Int) := mod_n HN1.out
        have HMD := Lib.hid hmod
        have HLT := Lib.hid hlt
        clear hmod hlt
        go_upto_region 12 with (fail)
        rw [HMD.out]
        obtain ⟨M3, hm3⟩ : ∃ M3 : Mv, M3 = { M2 with r := { M2.r with sn := (((p + 1) % (n - 1) : Nat) : Int) } } := ⟨_, rfl⟩
        have hs := HR9.out.r.b0.seen (((p + 1) % (n - 1) : Nat) : Int)
        rw [← hm3] at hs
        have hu : Upd w.heap.size W9 (W9.setCell ⟨w.heap.size, 5, none⟩ (.int .i64 (((p + 1) % (n - 1) : Nat) : Int))) := (Upd.refl _ _).set 5 _
        have HR10 : Hid (RW3 w M3 (W9.setCell ⟨w.heap.size, 5, none⟩ (.int .i64 (((p + 1) % (n - 1) : Nat) : Int)))) := Lib.hid ⟨⟨hs, hu.mb HR9.out.r.b1 (by omega), hu.row' HR9.out.r.b2 (by omega), HR9.out.r.bel.trans hu.below⟩, by
          have h6 := HR9.out.mo.upd hu (by omega)
          rw [hm3]
          exact ⟨⟨h6.k.l, h6.k.c, h6.k.e⟩, h6.c, h6.e⟩⟩
        have HEV10 := Lib.hid (hu.row' HEV.out (by have := HKV.out; omega))
        have hk3 := HR10.out.mo.k
        have HRP : Hid (RpR M M3.ms ((x % 256 : Nat) : Int) ((x / 256 % 256 : Nat) : Int) (p : Int) true) := Lib.hid (by
          have h := RpR.some (M := M) x HVV.out HG.out HX.out
          have e : (⟨sawR M.r x, learnR (getR M.v), M.l⟩ : Ms) = M3.ms := by
            show Ms.mk _ _ _ = Ms.mk M3.r M3.v M3.l
            rw [hm3]
            show Ms.mk _ _ _ = Ms.mk { M2.r with sn := (((p + 1) % (n - 1) : Nat) : Int) } M2.v M2.l
            rw [HM2.out.2.1, HM2.out.2.2.1, HR4.out, HR3.out]
            congr 1
            unfold sawR
            rw [← HP.out, if_pos (by rw [← HM2.out.1, ← HN.out]; exact HLT.out), ← HM2.out.1, ← HN.out]
          rw [e, ← HP.out] at h
          exact h)
        clear hs hu hm3 HR9 HEV q0 q5 f5 qe i3 i64 p24 p25 p0 t1
        generalize W9.setCell ⟨w.heap.size, 5, none⟩ (.int .i64 (((p + 1) % (n - 1) : Nat) : Int)) = W10 at *
        have hkv := HKV.out
        obtain ⟨y0, hy0⟩ : ∃ y : Int, y = ((x % 256 : Nat) : Int) := ⟨_, rfl⟩
        obtain ⟨y1, hy1⟩ : ∃ y : Int, y = ((x / 256 % 256 : Nat) : Int) := ⟨_, rfl⟩
        rw [← hy0, ← hy1] at HEV10 HRP
        clear hy0 hy1
        refine Kt.G.start 2 (fun X => RW3 w M3 X ∧ X.heap[K2]? = some (.cells #[.int .i64 y0, .int .i64 y1, .int .i64 (p : Int)] 56 (0, 0))) (by kernel_rfl) ⟨HR10.out.on (bdrewN (Below.refl _ W10) 1), HEV10.out⟩ (fun hHeld => ?_)
        refine Kt.G.load_row 0 { dst := some 63, op := Op.load 45 (Operand.tmp 1), type := 45, pos := "host.go:122", after := #[], guard := none } 45 (Operand.tmp 1) w.heap.size 45 (mA M3) _ hHeld rfl (by kernel_rfl) (fun _ _ _ h => h) (by rfl) rfl rfl (fun _ h => h.1.r.b0) Try.underlying45 rfl (by rw [mA_size hk3]; exact size_machine) ?_
        try simp only [Act.put, List.setIfInBounds_toArray, List.set_cons_zero, List.set_cons_succ]
        refine Kt.G.two 1 2 { dst := some 64, op := Op.load 56 (Operand.tmp 9), type := 56, pos := "host.go:122", after := #[{ on := 2, ground := Ground.gcOnly Departure.lateStores }], guard := none } { dst := none, op := Op.store 45 (Operand.tmp 2) (Operand.tmp 63), type := 0, pos := "host.go:122", after := #[{ on := 0, ground := Ground.data }, { on := 0, ground := Ground.phase }, { on := 1, ground := Ground.textOnly Departure.lateStores }], guard := none } rfl rfl (by kernel_rfl) (by rfl) (by rfl) (fun K hK => ?_) (fun K hK => ?_)
        · have qv := fun i => cell_of_row _ _ i _ _ _ hHeld.2
          go_simp
          clear qv
          refine hK.out _ _ (fun _ => hHeld) (fun hHeld => ?_)
          have hHeld := hHeld rfl
          clear hK K
          try simp only [Act.put, List.setIfInBounds_toArray, List.set_cons_zero, List.set_cons_succ]
          refine Kt.G.one 2 { dst := none, op := Op.store 45 (Operand.tmp 2) (Operand.tmp 63), type := 0, pos := "host.go:122", after := #[{ on := 0, ground := Ground.data }, { on := 0, ground := Ground.phase }, { on := 1, ground := Ground.textOnly Departure.lateStores }], guard := none } rfl (by kernel_rfl) (by rfl) (fun K hK => ?_)
          have hU := Upd.row (W10.drew) (w.heap.size + 1) (mA M3)
          have hN : Mb (w.heap.size + 1) M3 ((W10.drew).setRow (w.heap.size + 1) (mA M3)) := setRow_heap _ _ _ _ _ _ hHeld.1.r.b1
          have hEVL := hU.row' hHeld.2 (by omega)
          have hZL := hU.row' hHeld.1.r.b2 (by omega)
          have hMOL := hHeld.1.mo.upd hU (by omega)
          have hBL := hHeld.1.r.bel.trans (hU.below.mono (Nat.le_succ _))
          refine wp_store_row 45 (.tmp 2) (.tmp 63) rfl (w.heap.size + 1) (mA M3) rfl rfl 45 (mA zM) hHeld.1.r.b1 (by rw [mA_size hk3]; exact size_machine) (by rw [mA_size hk3, mA_size zM_ok]) (mA_one hk3) ?_
          refine hK.out _ _ (Kt.G.late (by kernel_rfl)) (fun _ => ?_)
          clear hK K
          try simp only [Act.put]
          clear hU
          generalize (W10.drew).setRow (w.heap.size + 1) (mA M3) = X1 at *
          refine Kt.G.one 3 { dst := none, op := Op.store 56 (Operand.tmp 3) (Operand.tmp 64), type := 0, pos := "host.go:122", after := #[{ on := 1, ground := Ground.data }, { on := 2, ground := Ground.chain }, { on := 0, ground := Ground.phase }, { on := 1, ground := Ground.phase }, { on := 2, ground := Ground.phase }], guard := none } rfl (by kernel_rfl) (by rfl) (fun K hK => ?_)
          have q9 := fun i => cell_of_row _ _ i _ _ _ hZL
          have f9 := fun i => frozen_of_row _ _ i _ _ hZL
          go_simp
          clear q9 f9
          refine hK.out _ _ (Kt.G.late (by kernel_rfl)) (fun _ => ?_)
          clear hK K
          try simp only [Act.put, List.setIfInBounds_toArray, List.set_cons_zero, List.set_cons_succ]
          refine Kt.G.takeP 4 { dst := some 4, op := Op.assign (Operand.const (Value.bool true)), type := 4, pos := "host.go:122", after := #[{ on := 3, ground := Ground.chain }, { on := 0, ground := Ground.phase }, { on := 1, ground := Ground.phase }, { on := 2, ground := Ground.phase }, { on := 3, ground := Ground.phase }], guard := none } ?_ (Kt.G.late (by kernel_rfl)) rfl (by kernel_rfl) (fun _ _ _ h => h) (by rfl) ?_ ?_
          rotate_left
          · intro w; go_simp; try with_reducible rfl
          try simp only [Act.put, List.setIfInBounds_toArray, List.set_cons_zero, List.set_cons_succ]
          refine Kt.G.done (by kernel_rfl) (NoPanic.normal ?_) _
          obtain ⟨hA, hE, hU⟩ := end3 (.int .i64 y0) (.int .i64 y1) (.int .i64 (p : Int)) hN hZL (by omega)
          have HMO9 := Lib.hid (hMOL.upd hU (by omega))
          have HB9 := Lib.hid (hBL.trans (hU.below.mono (by omega)))
          clear hU hN hZL hEVL hMOL hBL
          go_wp2_with fail
          generalize ((X1.setCell ⟨w.heap.size + 1 + 1, 0, none⟩ (.int .i64 y0)).setCell ⟨w.heap.size + 1 + 1, 1, none⟩ (.int .i64 y1)).setCell ⟨w.heap.size + 1 + 1, 2, none⟩ (.int .i64 (p : Int)) = X2 at *
          refine bodyPost_ret (v := .tuple #[.agg (mA M3), .agg #[.int .i64 y0, .int .i64 y1, .int .i64 (p : Int)], .bool true]) (by simp [results, Try.results14, asAddr, ld_mb hA hk3 Try.underlying45, ld_ev hE Try.underlying56]) rfl ?_
          exact ⟨_, _, _, _, _, HRP.out, rfl, HMO9.out.mono (by omega), HB9.out⟩
        · have hU := Upd.row (W10.drew) (w.heap.size + 1) (mA M3)
          have hN : Mb (w.heap.size + 1) M3 ((W10.drew).setRow (w.heap.size + 1) (mA M3)) := setRow_heap _ _ _ _ _ _ hHeld.1.r.b1
          have hEVL := hU.row' hHeld.2 (by omega)
          have hZL := hU.row' hHeld.1.r.b2 (by omega)
          have hMOL := hHeld.1.mo.upd hU (by omega)
          have hBL := hHeld.1.r.bel.trans (hU.below.mono (Nat.le_succ _))
          refine wp_store_row 45 (.tmp 2) (.tmp 63) rfl (w.heap.size + 1) (mA M3) rfl rfl 45 (mA zM) hHeld.1.r.b1 (by rw [mA_size hk3]; exact size_machine) (by rw [mA_size hk3, mA_size zM_ok]) (mA_one hk3) ?_
          refine hK.out _ _ (Kt.G.late (by kernel_rfl)) (fun _ => ?_)
          clear hK K
          try simp only [Act.put]
          clear hU
          generalize (W10.drew).setRow (w.heap.size + 1) (mA M3) = X1 at *
          refine Kt.G.one 1 { dst := some 64, op := Op.load 56 (Operand.tmp 9), type := 56, pos := "host.go:122", after := #[{ on := 2, ground := Ground.gcOnly Departure.lateStores }], guard := none } rfl (by kernel_rfl) (by rfl) (fun K hK => ?_)
          have qv := fun i => cell_of_row _ _ i _ _ _ hEVL
          go_simp
          clear qv
          refine hK.out _ _ (Kt.G.late (by kernel_rfl)) (fun _ => ?_)
          clear hK K
          try simp only [Act.put, List.setIfInBounds_toArray, List.set_cons_zero, List.set_cons_succ]
          refine Kt.G.one 3 { dst := none, op := Op.store 56 (Operand.tmp 3) (Operand.tmp 64), type := 0, pos := "host.go:122", after := #[{ on := 1, ground := Ground.data }, { on := 2, ground := Ground.chain }, { on := 0, ground := Ground.phase }, { on := 1, ground := Ground.phase }, { on := 2, ground := Ground.phase }], guard := none } rfl (by kernel_rfl) (by rfl) (fun K hK => ?_)
          have q9 := fun i => cell_of_row _ _ i _ _ _ hZL
          have f9 := fun i => frozen_of_row _ _ i _ _ hZL
          go_simp
          clear q9 f9
          refine hK.out _ _ (Kt.G.late (by kernel_rfl)) (fun _ => ?_)
          clear hK K
          try simp only [Act.put, List.setIfInBounds_toArray, List.set_cons_zero, List.set_cons_succ]
          refine Kt.G.takeP 4 { dst := some 4, op := Op.assign (Operand.const (Value.bool true)), type := 4, pos := "host.go:122", after := #[{ on := 3, ground := Ground.chain }, { on := 0, ground := Ground.phase }, { on := 1, ground := Ground.phase }, { on := 2, ground := Ground.phase }, { on := 3, ground := Ground.phase }], guard := none } ?_ (Kt.G.late (by kernel_rfl)) rfl (by kernel_rfl) (fun _ _ _ h => h) (by rfl) ?_ ?_
          rotate_left
          · intro w; go_simp; try with_reducible rfl
          try simp only [Act.put, List.setIfInBounds_toArray, List.set_cons_zero, List.set_cons_succ]
          refine Kt.G.done (by kernel_rfl) (NoPanic.normal ?_) _
          obtain ⟨hA, hE, hU⟩ := end3 (.int .i64 y0) (.int .i64 y1) (.int .i64 (p : Int)) hN hZL (by omega)
          have HMO9 := Lib.hid (hMOL.upd hU (by omega))
          have HB9 := Lib.hid (hBL.trans (hU.below.mono (by omega)))
          clear hU hN hZL hEVL hMOL hBL
          go_wp2_with fail
          generalize ((X1.setCell ⟨w.heap.size + 1 + 1, 0, none⟩ (.int .i64 y0)).setCell ⟨w.heap.size + 1 + 1, 1, none⟩ (.int .i64 y1)).setCell ⟨w.heap.size + 1 + 1, 2, none⟩ (.int .i64 (p : Int)) = X2 at *
          refine bodyPost_ret (v := .tuple #[.agg (mA M3), .agg #[.int .i64 y0, .int .i64 y1, .int .i64 (p : Int)], .bool true]) (by simp [results, Try.results14, asAddr, ld_mb hA hk3 Try.underlying45, ld_ev hE Try.underlying56]) rfl ?_
          exact ⟨_, _, _, _, _, HRP.out, rfl, HMO9.out.mono (by omega), HB9.out⟩
      · have t1 : ¬ (p : Int) < (n : Int) - 1 := by have := HN1.out; omega
        have HLT := Lib.hid hlt
        clear hlt
        go_upto_region 12 with (fail)
        obtain ⟨M3, hm3⟩ : ∃ M3 : Mv, M3 = M2 := ⟨_, rfl⟩
        have HR10 := HR9
        rw [← hm3] at HR10
        have HEV10 := HEV
        have hk3 := HR10.out.mo.k
        have HRP : Hid (RpR M M3.ms ((x % 256 : Nat) : Int) ((x / 256 % 256 : Nat) : Int) (p : Int) true) := Lib.hid (by
          have h := RpR.some (M := M) x HVV.out HG.out HX.out
          have e : (⟨sawR M.r x, learnR (getR M.v), M.l⟩ : Ms) = M3.ms := by
            show Ms.mk _ _ _ = Ms.mk M3.r M3.v M3.l
            rw [hm3, HM2.out.1, HM2.out.2.1, HM2.out.2.2.1, HR4.out, HR3.out]
            congr 1
            unfold sawR
            rw [← HP.out, if_neg (by rw [← HM2.out.1, ← HN.out]; exact HLT.out)]
          rw [e, ← HP.out] at h
          exact h)
        clear hm3 HR9 HEV q0 q5 f5 qe i3 i64 p24 p25 p0 t1
        generalize W9 = W10 at *
        have hkv := HKV.out
        obtain ⟨y0, hy0⟩ : ∃ y : Int, y = ((x % 256 : Nat) : Int) := ⟨_, rfl⟩
        obtain ⟨y1, hy1⟩ : ∃ y : Int, y = ((x / 256 % 256 : Nat) : Int) := ⟨_, rfl⟩
        rw [← hy0, ← hy1] at HEV10 HRP
        clear hy0 hy1
        refine Kt.G.start 2 (fun X => RW3 w M3 X ∧ X.heap[K2]? = some (.cells #[.int .i64 y0, .int .i64 y1, .int .i64 (p : Int)] 56 (0, 0))) (by kernel_rfl) ⟨HR10.out.on (bdrewN (Below.refl _ W10) 1), HEV10.out⟩ (fun hHeld => ?_)
        refine Kt.G.load_row 0 { dst := some 63, op := Op.load 45 (Operand.tmp 1), type := 45, pos := "host.go:122", after := #[], guard := none } 45 (Operand.tmp 1) w.heap.size 45 (mA M3) _ hHeld rfl (by kernel_rfl) (fun _ _ _ h => h) (by rfl) rfl rfl (fun _ h => h.1.r.b0) Try.underlying45 rfl (by rw [mA_size hk3]; exact size_machine) ?_
        try simp only [Act.put, List.setIfInBounds_toArray, List.set_cons_zero, List.set_cons_succ]
        refine Kt.G.two 1 2 { dst := some 64, op := Op.load 56 (Operand.tmp 9), type := 56, pos := "host.go:122", after := #[{ on := 2, ground := Ground.gcOnly Departure.lateStores }], guard := none } { dst := none, op := Op.store 45 (Operand.tmp 2) (Operand.tmp 63), type := 0, pos := "host.go:122", after := #[{ on := 0, ground := Ground.data }, { on := 0, ground := Ground.phase }, { on := 1, ground := Ground.textOnly Departure.lateStores }], guard := none } rfl rfl (by kernel_rfl) (by rfl) (by rfl) (fun K hK => ?_) (fun K hK => ?_)
        · have qv := fun i => cell_of_row _ _ i _ _ _ hHeld.2
          go_simp
          clear qv
          refine hK.out _ _ (fun _ => hHeld) (fun hHeld => ?_)
          have hHeld := hHeld rfl
          clear hK K
          try simp only [Act.put, List.setIfInBounds_toArray, List.set_cons_zero, List.set_cons_succ]
          refine Kt.G.one 2 { dst := none, op := Op.store 45 (Operand.tmp 2) (Operand.tmp 63), type := 0, pos := "host.go:122", after := #[{ on := 0, ground := Ground.data }, { on := 0, ground := Ground.phase }, { on := 1, ground := Ground.textOnly Departure.lateStores }], guard := none } rfl (by kernel_rfl) (by rfl) (fun K hK => ?_)
          have hU := Upd.row (W10.drew) (w.heap.size + 1) (mA M3)
          have hN : Mb (w.heap.size + 1) M3 ((W10.drew).setRow (w.heap.size + 1) (mA M3)) := setRow_heap _ _ _ _ _ _ hHeld.1.r.b1
          have hEVL := hU.row' hHeld.2 (by omega)
          have hZL := hU.row' hHeld.1.r.b2 (by omega)
          have hMOL := hHeld.1.mo.upd hU (by omega)
          have hBL := hHeld.1.r.bel.trans (hU.below.mono (Nat.le_succ _))
          refine wp_store_row 45 (.tmp 2) (.tmp 63) rfl (w.heap.size + 1) (mA M3) rfl rfl 45 (mA zM) hHeld.1.r.b1 (by rw [mA_size hk3]; exact size_machine) (by rw [mA_size hk3, mA_size zM_ok]) (mA_one hk3) ?_
          refine hK.out _ _ (Kt.G.late (by kernel_rfl)) (fun _ => ?_)
          clear hK K
          try simp only [Act.put]
          clear hU
          generalize (W10.drew).setRow (w.heap.size + 1) (mA M3) = X1 at *
          refine Kt.G.one 3 { dst := none, op := Op.store 56 (Operand.tmp 3) (Operand.tmp 64), type := 0, pos := "host.go:122", after := #[{ on := 1, ground := Ground.data }, { on := 2, ground := Ground.chain }, { on := 0, ground := Ground.phase }, { on := 1, ground := Ground.phase }, { on := 2, ground := Ground.phase }], guard := none } rfl (by kernel_rfl) (by rfl) (fun K hK => ?_)
          have q9 := fun i => cell_of_row _ _ i _ _ _ hZL
          have f9 := fun i => frozen_of_row _ _ i _ _ hZL
          go_simp
          clear q9 f9
          refine hK.out _ _ (Kt.G.late (by kernel_rfl)) (fun _ => ?_)
          clear hK K
          try simp only [Act.put, List.setIfInBounds_toArray, List.set_cons_zero, List.set_cons_succ]
          refine Kt.G.takeP 4 { dst := some 4, op := Op.assign (Operand.const (Value.bool true)), type := 4, pos := "host.go:122", after := #[{ on := 3, ground := Ground.chain }, { on := 0, ground := Ground.phase }, { on := 1, ground := Ground.phase }, { on := 2, ground := Ground.phase }, { on := 3, ground := Ground.phase }], guard := none } ?_ (Kt.G.late (by kernel_rfl)) rfl (by kernel_rfl) (fun _ _ _ h => h) (by rfl) ?_ ?_
          rotate_left
          · intro w; go_simp; try with_reducible rfl
          try simp only [Act.put, List.setIfInBounds_toArray, List.set_cons_zero, List.set_cons_succ]
          refine Kt.G.done (by kernel_rfl) (NoPanic.normal ?_) _
          obtain ⟨hA, hE, hU⟩ := end3 (.int .i64 y0) (.int .i64 y1) (.int .i64 (p : Int)) hN hZL (by omega)
          have HMO9 := Lib.hid (hMOL.upd hU (by omega))
          have HB9 := Lib.hid (hBL.trans (hU.below.mono (by omega)))
          clear hU hN hZL hEVL hMOL hBL
          go_wp2_with fail
          generalize ((X1.setCell ⟨w.heap.size + 1 + 1, 0, none⟩ (.int .i64 y0)).setCell ⟨w.heap.size + 1 + 1, 1, none⟩ (.int .i64 y1)).setCell ⟨w.heap.size + 1 + 1, 2, none⟩ (.int .i64 (p : Int)) = X2 at *
          refine bodyPost_ret (v := .tuple #[.agg (mA M3), .agg #[.int .i64 y0, .int .i64 y1, .int .i64 (p : Int)], .bool true]) (by simp [results, Try.results14, asAddr, ld_mb hA hk3 Try.underlying45, ld_ev hE Try.underlying56]) rfl ?_
          exact ⟨_, _, _, _, _, HRP.out, rfl, HMO9.out.mono (by omega), HB9.out⟩
        · have hU := Upd.row (W10.drew) (w.heap.size + 1) (mA M3)
          have hN : Mb (w.heap.size + 1) M3 ((W10.drew).setRow (w.heap.size + 1) (mA M3)) := setRow_heap _ _ _ _ _ _ hHeld.1.r.b1
          have hEVL := hU.row' hHeld.2 (by omega)
          have hZL := hU.row' hHeld.1.r.b2 (by omega)
          have hMOL := hHeld.1.mo.upd hU (by omega)
          have hBL := hHeld.1.r.bel.trans (hU.below.mono (Nat.le_succ _))
          refine wp_store_row 45 (.tmp 2) (.tmp 63) rfl (w.heap.size + 1) (mA M3) rfl rfl 45 (mA zM) hHeld.1.r.b1 (by rw [mA_size hk3]; exact size_machine) (by rw [mA_size hk3, mA_size zM_ok]) (mA_one hk3) ?_
          refine hK.out _ _ (Kt.G.late (by kernel_rfl)) (fun _ => ?_)
          clear hK K
          try simp only [Act.put]
          clear hU
          generalize (W10.drew).setRow (w.heap.size + 1) (mA M3) = X1 at *
          refine Kt.G.one 1 { dst := some 64, op := Op.load 56 (Operand.tmp 9), type := 56, pos := "host.go:122", after := #[{ on := 2, ground := Ground.gcOnly Departure.lateStores }], guard := none } rfl (by kernel_rfl) (by rfl) (fun K hK => ?_)
          have qv := fun i => cell_of_row _ _ i _ _ _ hEVL
          go_simp
          clear qv
          refine hK.out _ _ (Kt.G.late (by kernel_rfl)) (fun _ => ?_)
          clear hK K
          try simp only [Act.put, List.setIfInBounds_toArray, List.set_cons_zero, List.set_cons_succ]
          refine Kt.G.one 3 { dst := none, op := Op.store 56 (Operand.tmp 3) (Operand.tmp 64), type := 0, pos := "host.go:122", after := #[{ on := 1, ground := Ground.data }, { on := 2, ground := Ground.chain }, { on := 0, ground := Ground.phase }, { on := 1, ground := Ground.phase }, { on := 2, ground := Ground.phase }], guard := none } rfl (by kernel_rfl) (by rfl) (fun K hK => ?_)
          have q9 := fun i => cell_of_row _ _ i _ _ _ hZL
          have f9 := fun i => frozen_of_row _ _ i _ _ hZL
          go_simp
          clear q9 f9
          refine hK.out _ _ (Kt.G.late (by kernel_rfl)) (fun _ => ?_)
          clear hK K
          try simp only [Act.put, List.setIfInBounds_toArray, List.set_cons_zero, List.set_cons_succ]
          refine Kt.G.takeP 4 { dst := some 4, op := Op.assign (Operand.const (Value.bool true)), type := 4, pos := "host.go:122", after := #[{ on := 3, ground := Ground.chain }, { on := 0, ground := Ground.phase }, { on := 1, ground := Ground.phase }, { on := 2, ground := Ground.phase }, { on := 3, ground := Ground.phase }], guard := none } ?_ (Kt.G.late (by kernel_rfl)) rfl (by kernel_rfl) (fun _ _ _ h => h) (by rfl) ?_ ?_
          rotate_left
          · intro w; go_simp; try with_reducible rfl
          try simp only [Act.put, List.setIfInBounds_toArray, List.set_cons_zero, List.set_cons_succ]
          refine Kt.G.done (by kernel_rfl) (NoPanic.normal ?_) _
          obtain ⟨hA, hE, hU⟩ := end3 (.int .i64 y0) (.int .i64 y1) (.int .i64 (p : Int)) hN hZL (by omega)
          have HMO9 := Lib.hid (hMOL.upd hU (by omega))
          have HB9 := Lib.hid (hBL.trans (hU.below.mono (by omega)))
          clear hU hN hZL hEVL hMOL hBL
          go_wp2_with fail
          generalize ((X1.setCell ⟨w.heap.size + 1 + 1, 0, none⟩ (.int .i64 y0)).setCell ⟨w.heap.size + 1 + 1, 1, none⟩ (.int .i64 y1)).setCell ⟨w.heap.size + 1 + 1, 2, none⟩ (.int .i64 (p : Int)) = X2 at *
          refine bodyPost_ret (v := .tuple #[.agg (mA M3), .agg #[.int .i64 y0, .int .i64 y1, .int .i64 (p : Int)], .bool true]) (by simp [results, Try.results14, asAddr, ld_mb hA hk3 Try.underlying45, ld_ev hE Try.underlying56]) rfl ?_
          exact ⟨_, _, _, _, _, HRP.out, rfl, HMO9.out.mono (by omega), HB9.out⟩
end Go.Proofs.Ytidcbboonjenhaa
