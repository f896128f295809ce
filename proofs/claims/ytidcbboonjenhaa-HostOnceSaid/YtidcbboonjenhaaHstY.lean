/- The law HostCalm, walked. -/
import Derived.Test.YtidcbboonjenhaaHstX
import Derived.Test.YtidcbboonjenhaaHstT
namespace Go.Proofs.Ytidcbboonjenhaa
open Go.RowKit Classical Go.Proofs.Ytidcbboonjenhaa.Slt
abbrev ddTy : Fr.Ty := .cat 1 (.int .i64) (.cat 4 cmdTy (.cat 1 (.int .i64) (.cat 1 (.int .i64) (.cat 1 (.int .i64) .nil))))
theorem deeds_of {w : World} {B : Nat} : ∀ (els : List (List Value)), (∀ x ∈ els, x.length = 8 ∧ Fr.Rd w B ddTy x) → ∃ ts : List Dd, ts.length = els.length ∧ els.flatten = dvs ts
  | [], _ => ⟨[], rfl, rfl⟩
  | x :: els, h => by
    obtain ⟨ts, h1, h2⟩ := deeds_of els fun y hy => h y (by simp [hy])
    obtain ⟨_, hr⟩ := h x (by simp)
    obtain ⟨_, r1, rfl, _, ⟨n1, rfl, _⟩, hr1⟩ := Fr.cat_open hr
    obtain ⟨l, r2, rfl, _, hc, hr2⟩ := Fr.cat_open hr1
    obtain ⟨_, r3, rfl, _, ⟨n3, rfl, _⟩, hr3⟩ := Fr.cat_open hr2
    obtain ⟨_, r4, rfl, _, ⟨n4, rfl, _⟩, hr4⟩ := Fr.cat_open hr3
    obtain ⟨_, r5, rfl, _, ⟨n5, rfl, _⟩, hr5⟩ := Fr.cat_open hr4
    obtain rfl : r5 = [] := hr5
    obtain ⟨_, c1, rfl, _, ⟨m1, rfl, _⟩, hc1⟩ := Fr.cat_open hc
    obtain ⟨_, c2, rfl, _, ⟨m2, rfl, _⟩, hc2⟩ := Fr.cat_open hc1
    obtain ⟨_, c3, rfl, _, ⟨m3, rfl, _⟩, hc3⟩ := Fr.cat_open hc2
    obtain ⟨_, c4, rfl, _, ⟨m4, rfl, _⟩, hc4⟩ := Fr.cat_open hc3
    obtain rfl : c4 = [] := hc4
    exact ⟨⟨n1, m1, m2, m3, m4, n3, n4, n5⟩ :: ts, by simp [h1], by simp [h2, dvs, Dd.cs]⟩
theorem ar_deeds {w : World} {B : Nat} {v : Value} (r : Fr.RdV w B (.slice 8 ddTy) v) : ∃ ts : List Dd, ts.length ≤ B ∧ Kt.Ar w v 8 ts.length (dvs ts) := by
  obtain ⟨els, h1, h2, h3⟩ := Kt.ar_open r (by decide)
  obtain ⟨ts, h4, h5⟩ := deeds_of els h1
  rw [← h4, h5] at h3
  exact ⟨ts, by omega, h3⟩
theorem St.ms {p q : Nat} {ins evs : List Int} {r : Nat} {m m' : Ms} (h : St p q ins evs r m) (e : m' = m) : St p q ins evs r m' := by subst e; exact h
/-- a submit where there is room -/
theorem Sbm.st {p q : Nat} {ins evs : List Int} {r : Nat} {M M1 : Mv} {k s e a n : Int} (h : St p q ins evs r M.ms) (hv : Vs M.ms) (hc : inC k s e a = true) (hs : Sbm M k s e a M1 n) :
    (ins.length < r + (p - 1) → n = 0 ∧ St p q (ins ++ [pkw k s e a]) evs r M1.ms ∧ Vs M1.ms) ∧ (ins.length = r + (p - 1) → n = 11) := by
  have hf : fullB M.r = decide (ins.length = r + (p - 1)) := h.full
  have hs2 := hs.stp (d := ⟨1, k, s, e, a, 0, 0, 0⟩) hv rfl
  have hv1 := hs2.vs hv
  cases hs with
  | bad h0 _ => exact absurd hv.vl h0
  | arg _ h0 _ => rw [hc] at h0; cases h0
  | full _ _ h0 _ =>
    rw [h0] at hf
    have := of_decide_eq_true hf.symm
    exact ⟨fun q => by omega, fun _ => rfl⟩
  | ok _ _ h0 e1 e2 e3 =>
    rw [h0] at hf
    have := of_decide_eq_false hf.symm
    refine ⟨fun _ => ⟨rfl, ?_, hv1⟩, fun q => absurd q this⟩
    have e : M1.ms = ⟨putR M.ms.r (pkw k s e a), M.ms.v, M.ms.l⟩ := by unfold Mv.ms; rw [e1, e2, e3]
    rw [e]; exact h.sub _ h0
theorem WkR.st1 {p q : Nat} {ins evs : List Int} {r : Nat} {M : Mv} {m : Ms} {j : Int} (h : St p q ins evs r M.ms) (hv : Vs M.ms) (hw : WkR M 1 m j) :
    ∃ evs', St p q ins evs' r m ∧ Vs m ∧ (r < ins.length → r < evs'.length) := by
  cases hw with
  | no h0 => exact absurd ⟨hv.vl, by omega, by omega⟩ h0
  | run k _ _ _ _ hp hk =>
    obtain ⟨evs', h1, h2⟩ := h.work1 hp hk
    exact ⟨evs', h1, hp.vs hv, h2⟩
theorem RpR.st1 {p q : Nat} {ins evs : List Int} {r : Nat} {M : Mv} {m : Ms} {c n a : Int} {b : Bool} (h : St p q ins evs r M.ms) (hv : Vs M.ms) (hr : RpR M m c n a b) :
    Vs m ∧ ((b = true ∧ St p q ins evs (r + 1) m) ∨ (b = false ∧ r = evs.length ∧ St p q ins evs r m)) := by
  have hv1 := (hr.stp (d := ⟨3, 0, 0, 0, 0, 0, 0, 0⟩) hv rfl).vs hv
  refine ⟨hv1, ?_⟩
  cases hr with
  | no h0 => exact absurd hv.vl h0
  | none _ h0 => exact .inr ⟨rfl, h.none h0, h⟩
  | some x _ h0 h1 => obtain ⟨_, _, h2⟩ := h.reap h0 h1; exact .inl ⟨rfl, h2⟩
theorem wrap_nat {n : Nat} (h : n ≤ 1000) : wrap64 ((n : Int) + 1) = ((n + 1 : Nat) : Int) := by unfold wrap64; omega
theorem wrap_nat2 {n : Nat} (h : n ≤ 1000) : wrap64 ((n : Int) + 2) = ((n + 2 : Nat) : Int) := by unfold wrap64; omega
theorem rel_next {k r r2 L : Nat} {ev : Nat} (h : k ≤ r ∨ L ≤ r) (h1 : r < L → r < ev) (h2 : r2 = r + 1 ∨ (r = ev ∧ r2 = r)) : k + 1 ≤ r2 ∨ L ≤ r2 := by omega
/-- all that was taken is done and told -/
structure CalmIs (w : World) (b p q : Nat) (ins : List Int) (r : Nat) (M : Mv) (W : World) : Prop where
  hm : HM w b M W
  st : ∃ evs, St p q ins evs r M.ms
  vs : Vs M.ms
theorem CalmIs.on {w W W' : World} {b p q : Nat} {ins : List Int} {r : Nat} {M : Mv} (h : CalmIs w b p q ins r M W) (hb : Below W.heap.size W W') : CalmIs w b p q ins r M W' := ⟨h.hm.on hb, h.st, h.vs⟩
set_option maxRecDepth 100000 in
set_option maxHeartbeats 6400000 in
theorem calm_walk (v0 v1 v2 : Value) (w : World) (r0 : Fr.RdV w reachBytes (.int .i64) v0) (r1 : Fr.RdV w reachBytes (.int .i64) v1) (r2 : Fr.RdV w reachBytes (.slice 8 ddTy) v2) :
    Calls Try.prog 4 #[v0, v1, v2] w fun e w' => e = .returned (.bool true) ∧ Below w.heap.size w w' := by
  obtain ⟨a, h, _⟩ := r0
  simp only [List.cons.injEq, and_true] at h
  subst h
  obtain ⟨b, h, _⟩ := r1
  simp only [List.cons.injEq, and_true] at h
  subst h
  obtain ⟨ds, _, hU⟩ := ar_deeds r2
  clear r2
  have HU := Lib.hid hU
  obtain ⟨UA, Uc, rfl, _, _⟩ := hU.form
  clear hU
  have Z0 := zero_machine
  have HPL := Lib.hid (play_calls a b _ ds w HU.out)
  go_enter Try.func4, Try.ntmps4
  go_wp2_with fail
  refine HPL.out.mono ?_
  rintro _ W1 ⟨hb, ⟨hbad, n, hn, rfl⟩ | ⟨hok, M, V1, l1, V2, l2, hrun, rfl, hmo, ha1, ha2⟩⟩
  · have HB1 := Lib.hid hb
    clear hb hbad HPL
    go_upto_region 2 with (refine store_mb rfl (.tmp 7) (.tmp 20) rfl W1.heap.size rfl zM rfl zM_ok zM (heap_alloc_new W1 _) zM_ok ?_
                           intro W3 hW3 hU3)
    have HB3 := Lib.hid (HB1.out.trans (((Kt.balloc (Below.refl _ W1) (.cells (mA zM) 45)).trans hU3.below).mono HB1.out.size))
    clear hW3 hU3 HB1
    go_wp2_with fail
    refine (hostLives_calls _).mono ?_
    rintro _ W4 ⟨rfl, hb⟩
    have HB4 := Lib.hid (Kt.bthen HB3.out hb)
    clear hb HB3
    go_wp2_with fail
    refine (hostLives_calls _).mono ?_
    rintro _ W5 ⟨rfl, hb⟩
    have HB5 := Lib.hid (Kt.bthen HB4.out hb)
    clear hb HB4
    go_wp2_with fail
    go_ret
    exact ⟨rfl, HB5.out⟩
  · obtain ⟨p, hp⟩ : ∃ p : Nat, a = ((p + 1 : Nat) : Int) := ⟨a.toNat - 1, by omega⟩
    obtain ⟨q, hq⟩ : ∃ q : Nat, b = ((q + 1 : Nat) : Int) := ⟨b.toNat - 1, by omega⟩
    subst hp hq
    simp only [Int.toNat_natCast] at hrun
    have HP := Lib.hid (show 2 ≤ p ∧ p ≤ 63 from ⟨by omega, by omega⟩)
    have hds : ds.length ≤ 200 := hok.2.2.2.2
    obtain ⟨evs0, hri⟩ := run_is (by omega) (by omega) (by omega) (by omega) hrun
    have hgl := hri.st.e.gp
    have HVS := Lib.hid (hrun.vs (start_vs (by omega) (by omega) (by omega) (by omega)))
    have HRI := Lib.hid hri
    have hl1 : l1.length ≤ 200 := Nat.le_trans hrun.len.1 hds
    have hk := hmo.k
    have HMO := Lib.hid hmo
    have HA2 := Lib.hid ha2
    have HB1 := Lib.hid hb
    obtain ⟨A1, c1, rfl, _, _⟩ := ha1.form
    obtain ⟨A2, c2, rfl, _, _⟩ := ha2.form
    clear hrun hri hmo ha1 ha2 hb hok HPL hgl
    go_upto_region 2 with (refine store_mb rfl (.tmp 7) (.tmp 20) rfl W1.heap.size rfl M rfl hk zM (heap_alloc_new W1 _) zM_ok ?_
                           intro W3 hW3 hU3)
    have hb3 := (Kt.balloc (Below.refl _ W1) (.cells (mA zM) 45)).trans hU3.below
    have HM3 := Lib.hid (HM.new HMO.out (Nat.le_refl _) HB1.out hW3 hU3)
    have HA3 := Lib.hid (HA2.out.on hb3)
    have HU3 := Lib.hid (HU.out.on (HM3.out.bel))
    obtain ⟨bm, hbm⟩ : ∃ bm, bm = W1.heap.size := ⟨_, rfl⟩
    rw [← hbm] at HM3 ⊢
    clear hb3 hW3 hU3 hbm HMO HA2 HB1 HU
    go_wp2_with fail
    refine (hostLives_calls _).mono ?_
    rintro _ W4 ⟨rfl, hb⟩
    have HM4 := Lib.hid (HM3.out.on hb)
    replace HA3 := Lib.hid (HA3.out.on hb)
    replace HU3 := Lib.hid (HU3.out.on hb)
    clear hb HM3
    go_wp2_with fail
    refine (taken_calls _ _ ds l2 _ HU3.out HA3.out HRI.out.len hds).mono ?_
    rintro _ W5 ⟨A3, c3, rfl, _, hb⟩
    obtain ⟨L, hL⟩ : ∃ L, L = (tk ds l2).length := ⟨_, rfl⟩
    have hL2 : L ≤ 200 := by rw [hL]; exact Nat.le_trans (tk_len _ _) hds
    obtain ⟨ins, hins⟩ : ∃ ins, ins = (tk ds l2).map wd := ⟨_, rfl⟩
    have hil : ins.length = L := by rw [hins, List.length_map, hL]
    have HST := Lib.hid HRI.out.st
    rw [← hins] at HST
    rw [← hL]
    have HC0 : Hid (CalmIs w bm p q ins l1.length M W5) := Lib.hid ⟨HM4.out.on hb, ⟨_, HST.out⟩, HVS.out⟩
    clear hb HM4 HA3 HU3 hins hL HRI HST HVS
    go_upto_region 7 with (fail)
    go_loopw [13, 42] (fun n i wr => ∃ (k r : Nat) (M : Mv), k ≤ L + 2 ∧ i = .int .i64 (k : Int) ∧ n = .int .i64 (r : Int) ∧ (k ≤ r ∨ L ≤ r) ∧ CalmIs w bm p q ins r M wr) (fun _ i _ => L + 2 - (intOf i).toNat)
    case atStart => exact ⟨0, l1.length, M, by omega, rfl, rfl, by omega, HC0.out⟩
    case round =>
      clear HC0 hk
      obtain ⟨k, r, X, hk, rfl, rfl, hkr, hc⟩ := hrel
      have HC := Lib.hid hc
      have hrL : r ≤ L := by obtain ⟨evs, h⟩ := hc.st; have := h.e.gp; have := h.c.gp; omega
      have hk0 := hc.hm.mo.k
      have b0 := hc.hm.row
      clear hc
      by_cases hlt : k < L + 2
      · have hki : (k : Int) < (L : Int) + 2 := by omega
        have HW := Lib.hid (have h := HC.out.hm.mo.ls HC.out.vs; work_calls X 1 wr HC.out.hm.mo.ma h.1 h.2.1 h.2.2.1 h.2.2.2)
        go_wp2_with (refine load_mb rfl (.tmp 7) rfl bm rfl X b0 hk0 ?_)
        refine HW.out.mono ?_
        rintro _ W6 ⟨M1, j, hwr, rfl, hmo, hb⟩
        obtain ⟨evs, hst⟩ := HC.out.st
        obtain ⟨evs1, s1, s2, s3⟩ := hwr.st1 hst HC.out.vs
        have HS := Lib.hid s1
        have HV := Lib.hid s2
        have hk1 := hmo.k
        replace b0 := b0.on hb
        clear HW hst s1 s2 hwr
        go_upto_region 10 with (refine store_mb rfl (.tmp 7) (.tmp 47) rfl bm rfl M1 rfl hk1 X b0 hk0 ?_
                                intro W7 hW7 hU7)
        have HC7 : Hid (CalmIs w bm p q ins r M1 W7) := Lib.hid ⟨HC.out.hm.store hb hmo hW7 hU7, ⟨_, HS.out⟩, HV.out⟩
        clear b0 hb hmo hW7 hU7 HC HV
        have b0 := HC7.out.hm.row
        have HR := Lib.hid (have h := HC7.out.hm.mo.ls HC7.out.vs; reap_calls M1 W7 HC7.out.hm.mo.ma h.1 h.2.1 h.2.2.1 h.2.2.2)
        go_wp2_with (refine load_mb rfl (.tmp 7) rfl bm rfl M1 b0 hk1 ?_)
        refine HR.out.mono ?_
        rintro _ W8 ⟨M2, e1, e2, e3, ok, hrp, rfl, hmo, hb⟩
        have hst := hrp.st1 HS.out HC7.out.vs
        have hk2 := hmo.k
        replace b0 := b0.on hb
        clear HR hrp
        go_upto_region 11 with (refine store_mb rfl (.tmp 7) (.tmp 52) rfl bm rfl M2 rfl hk2 M1 b0 hk1 ?_
                                intro W9 hW9 hU9)
        have HM9 := Lib.hid (HC7.out.hm.store hb hmo hW9 hU9)
        clear b0 hb hmo hW9 hU9 HC7 HS
        obtain ⟨hv, ⟨rfl, h1⟩ | ⟨rfl, h0, h1⟩⟩ := hst
        · have HC9 : Hid (CalmIs w bm p q ins (r + 1) M2 W9) := Lib.hid ⟨HM9.out, ⟨_, h1⟩, hv⟩
          clear h1 hv
          go_wp2_with fail
          go_roundw
          case rel => exact ⟨k + 1, r + 1, M2, by omega, by go_num, by go_num, by omega, HC9.out⟩
          case measure => simp [intOf]; omega
        · have HC9 : Hid (CalmIs w bm p q ins r M2 W9) := Lib.hid ⟨HM9.out, ⟨_, h1⟩, hv⟩
          clear h1 hv
          go_wp2_with fail
          go_roundw
          case rel => exact ⟨k + 1, r, M2, by omega, by go_num, rfl, rel_next hkr (hil ▸ s3) (.inr ⟨h0, rfl⟩), HC9.out⟩
          case measure => simp [intOf]; omega
      · have hki : ¬ ((k : Int) < (L : Int) + 2) := by omega
        obtain rfl : r = L := by omega
        obtain ⟨z, hz1, hz2⟩ : ∃ z, X.r.sn = z ∧ X.r.pa = z := by
          obtain ⟨evs, h⟩ := HC.out.st
          exact ⟨_, rfl, by rw [show X.r.pa = X.ms.r.pa from rfl, show X.r.sn = X.ms.r.sn from rfl, h.c.pa, h.c.sn, hil]⟩
        have q1 : wr.cell? ⟨bm, 1, none⟩ = some (.int .i64 z) := by rw [← hz2]; exact (cell_of_row _ _ 1 _ _ _ b0).trans rfl
        have q5 : wr.cell? ⟨bm, 5, none⟩ = some (.int .i64 z) := by rw [← hz1]; exact (cell_of_row _ _ 5 _ _ _ b0).trans rfl
        have hp63 := HP.out.2
        have hp2 := HP.out.1
        clear hz1 hz2 hkr hlt hk
        go_upto_region 17 with (fail)
        clear hki
        have HC1 : Hid (CalmIs w bm p q (ins ++ List.replicate 0 2199023255552) r X wr) := Lib.hid (by simpa using HC.out)
        clear HC b0 hk0 q1 q5
        go_loopw [10, 75] (fun e i wr => ∃ (k : Nat) (X : Mv), k ≤ p - 1 ∧ i = .int .i64 (k : Int) ∧ e = .int .i64 0 ∧ CalmIs w bm p q (ins ++ List.replicate k 2199023255552) r X wr) (fun _ i _ => p - 1 - (intOf i).toNat)
        case atStart => exact ⟨0, X, by omega, rfl, rfl, HC1.out⟩
        case round =>
          clear HC1
          obtain ⟨k, Y, hk, rfl, rfl, hc⟩ := hrel
          have HC := Lib.hid hc
          have hk0 := hc.hm.mo.k
          have b0 := hc.hm.row
          clear hc
          have HSB := Lib.hid (fun W (hY : HM w bm Y W) => have h := hY.mo.ls HC.out.vs; submit_calls Y 1 0 0 0 W hY.mo.ma h.1 h.2.1 h.2.2.1 h.2.2.2)
          have HT : Hid ((k < p - 1 → ∀ {M1 : Mv} {n : Int}, Sbm Y 1 0 0 0 M1 n → n = 0 ∧ (∃ evs, St p q (ins ++ List.replicate (k + 1) 2199023255552) evs r M1.ms) ∧ Vs M1.ms) ∧ (k = p - 1 → ∀ {M1 : Mv} {n : Int}, Sbm Y 1 0 0 0 M1 n → n = 11)) := Lib.hid (by
            obtain ⟨evs, h⟩ := HC.out.st
            have hl : (ins ++ List.replicate k (2199023255552 : Int)).length = r + k := by simp [hil]
            constructor
            · intro hkp M1 n hs
              obtain ⟨h1, h2, h3⟩ := (Sbm.st h HC.out.vs (by decide) hs).1 (by omega)
              exact ⟨h1, ⟨evs, by rw [List.replicate_succ', ← List.append_assoc]; exact h2⟩, h3⟩
            · intro hkp M1 n hs
              exact (Sbm.st h HC.out.vs (by decide) hs).2 (by omega))
          by_cases hlt : k < p - 1
          · have hki : (k : Int) < (p : Int) + 1 - 2 := by omega
            go_wp2_with (refine load_mb rfl (.tmp 7) rfl bm rfl Y b0 hk0 ?_)
            refine (HSB.out _ HC.out.hm).mono ?_
            rintro _ W6 ⟨M1, n, hs, rfl, hmo, hb⟩
            obtain ⟨rfl, h2, h3⟩ := HT.out.1 hlt hs
            have hk1 := hmo.k
            replace b0 := b0.on hb
            clear hs HT HSB
            go_upto_region 19 with (refine store_mb rfl (.tmp 7) (.tmp 81) rfl bm rfl M1 rfl hk1 Y b0 hk0 ?_
                                    intro W7 hW7 hU7)
            have HC7 : Hid (CalmIs w bm p q (ins ++ List.replicate (k + 1) 2199023255552) r M1 W7) := Lib.hid ⟨HC.out.hm.store hb hmo hW7 hU7, h2, h3⟩
            clear b0 hb hmo hW7 hU7 HC h2 h3
            go_wp2_with fail
            go_roundw
            case rel => exact ⟨k + 1, M1, by omega, by go_num, rfl, HC7.out⟩
            case measure => simp [intOf]; omega
          · obtain rfl : k = p - 1 := by omega
            have hki : ¬ (((p - 1 : Nat) : Int) < (p : Int) + 1 - 2) := by omega
            go_wp2_with (refine load_mb rfl (.tmp 7) rfl bm rfl Y b0 hk0 ?_)
            refine (HSB.out _ HC.out.hm).mono ?_
            rintro _ W6 ⟨M1, n, hs, rfl, hmo, hb⟩
            obtain rfl := HT.out.2 trivial hs
            have HB := Lib.hid (HC.out.hm.on hb).bel
            clear hs HT HSB hmo hb HC
            go_wp2_with fail
            go_ret
            exact ⟨rfl, HB.out⟩
end Go.Proofs.Ytidcbboonjenhaa
