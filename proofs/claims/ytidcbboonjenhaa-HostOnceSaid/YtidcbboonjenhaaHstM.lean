/- host.Play walked. -/
import Derived.Test.YtidcbboonjenhaaHstL
namespace Go.Proofs.Ytidcbboonjenhaa
open Go.RowKit Classical Go.Proofs.Ytidcbboonjenhaa.Slt
def PlIs (a b : Int) (ds : List Dd) (w : World) (en : Ending) (w' : World) : Prop := Below w.heap.size w w' ∧
  (((a < 3 ∨ 64 < a ∨ b < 3 ∨ 64 < b ∨ 200 < ds.length) ∧ ∃ n : Int, n ≠ 0 ∧ en = .returned (.tuple #[.agg (mA zM), .slice none 0 0, .slice none 0 0, .int .i64 n])) ∨
   ((3 ≤ a ∧ a ≤ 64 ∧ 3 ≤ b ∧ b ≤ 64 ∧ ds.length ≤ 200) ∧ ∃ M v1 l1 v2 l2, Run (startM a.toNat b.toNat) ds M.ms l1 l2 ∧ en = .returned (.tuple #[.agg (mA M), v1, v2, .int .i64 0]) ∧ MO w' w.heap.size M ∧ Kt.Ar w' v1 3 l1.length (evs l1) ∧ Kt.Ar w' v2 1 l2.length (ers l2)))
structure RP0 (w : World) (W : World) : Prop where
  r0 : Mb w.heap.size zM W
  bel : Below w.heap.size w W
theorem RP0.on {w W W' : World} (h : RP0 w W) (hb : Below W.heap.size W W') : RP0 w W' := ⟨h.r0.on hb, Kt.bthen h.bel hb⟩
theorem news_of {W : World} {b : Nat} {cs : Array Value} {t : TypeId} (h : W.heap[b]? = some (.cells cs t (0, 0))) : ∀ j u, cs.toList[j]? = some u → W.cell? ((⟨b, 0, none⟩ : Addr).add j) = some u := fun j u hj => by
  have e : ((⟨b, 0, none⟩ : Addr).add j) = ⟨b, j, none⟩ := by
    unfold Addr.add
    split
    · rename_i h0; subst h0; rfl
    · simp
  rw [e]
  exact (cell_of_row _ _ j _ _ _ h).trans (by simpa using hj)
theorem sm_ms {M M1 : Mv} (h : M.sm M1) : M1.ms = M.ms := by
  obtain ⟨h1, h2, h3⟩ := h
  unfold Mv.ms; rw [h1, h2, h3]
theorem Sbm.stp {M M1 : Mv} {d : Dd} {n : Int} (hv : Vs M.ms) (h1 : d.kd = 1) (h : Sbm M d.k d.s d.e d.a M1 n) : Stp M.ms d M1.ms [] [n] := by
  cases h with
  | bad hn _ => exact absurd hv.vl hn
  | arg _ hc hs => rw [sm_ms hs]; exact .arg h1 hc
  | full _ hc hf hs => rw [sm_ms hs]; exact .full h1 hc hf
  | ok _ hc hf e1 e2 e3 =>
    have e : M1.ms = ⟨putR M.ms.r (pkw d.k d.s d.e d.a), M.ms.v, M.ms.l⟩ := by unfold Mv.ms; rw [e1, e2, e3]
    rw [e]; exact .sub h1 hc hf
theorem WkR.stp {M : Mv} {m : Ms} {d : Dd} {j : Int} (hv : Vs M.ms) (h1 : d.kd = 2) (h : WkR M d.n m j) : Stp M.ms d m [] [] := by
  cases h with
  | no hn => exact .nowork h1 fun q => hn ⟨hv.vl, q⟩
  | run k _ _ h2 h3 h4 h5 => exact .work k _ h1 h2 h3 h4 h5
theorem RpR.stp {M : Mv} {m : Ms} {d : Dd} {c n p : Int} {q : Bool} (hv : Vs M.ms) (h1 : d.kd = 3) (h : RpR M m c n p q) : Stp M.ms d m (if q then [(c, n, p)] else []) [] := by
  cases h with
  | no hn => exact absurd hv.vl hn
  | none _ hg => exact .none h1 hg
  | some x _ hg hx => exact .reap x h1 hg hx
theorem MO.ls {W : World} {B : Nat} {M : Mv} (_ : MO W B M) (hv : Vs M.ms) : M.r.cs.length ≤ 5864062014805 ∧ M.v.cs.length ≤ 5864062014805 ∧ Wf M.r.cs ∧ Wf M.v.cs := by
  have h1 := hv.r.hi
  have h2 := hv.v.hi
  exact ⟨Nat.le_trans h1 (by decide), Nat.le_trans h2 (by decide), hv.wf, hv.wf2⟩
set_option maxRecDepth 100000 in
set_option maxHeartbeats 6400000 in
theorem play_calls (a b : Int) (U : Value) (ds : List Dd) (w : World) (hU : Kt.Ar w U 8 ds.length (dvs ds)) : Calls Try.prog 11 #[.int .i64 a, .int .i64 b, U] w (PlIs a b ds w) := by
  have Z0 := zero_machine
  obtain ⟨A, c, rfl, hcl, hcells⟩ := hU.form
  have HCELLS := Lib.hid hcells; clear hU hcells
  have HR0 : Hid (RP0 w (w.alloc (.cells (mA zM) 45))) := Lib.hid ⟨heap_alloc_new w _, Kt.balloc (Below.refl _ w) _⟩
  have HN := Lib.hid (fun W => new_calls a b W)
  go_enter Try.func11, Try.ntmps11
  go_upto_region 1 with (fail)
  refine Kt.fold (fun W => RP0 w W) HR0.out ?_
  clear HR0
  intro W1 hr
  have HR1 := Lib.hid hr
  clear hr
  go_wp2_with fail
  refine (HN.out W1).mono ?_
  rintro _ W2 ⟨hb, ⟨hbad, n, hn, rfl⟩ | ⟨hok, C, E, rfl, hmo⟩⟩
  · have HR2 := Lib.hid (HR1.out.on hb)
    have HNN := Lib.hid hn
    have HX := Lib.hid hbad
    clear hb hbad HR1 HN
    go_upto_region 2 with (first
      | (refine store_mb rfl (.tmp 10) (.tmp 25) rfl W2.heap.size rfl zM rfl zM_ok zM (heap_alloc_new W2 _) zM_ok ?_
         intro W3 hW3 hU3))
    have HR3 : Hid (RP0 w W3) := Lib.hid ⟨hU3.mb (HR2.out.on (Kt.balloc (Below.refl _ W2) _)).r0 (by have := HR2.out.r0.lt; omega), (HR2.out.on (Kt.balloc (Below.refl _ W2) _)).bel.trans (hU3.below.mono (by have := HR2.out.r0.lt; omega))⟩
    have b0 := HR3.out.r0
    clear hW3 hU3 HR2
    go_wp2_with (first
      | (refine wpList_plain rfl fun _ hK => Kt.wp_run (.agg (mA zM)) _ (by kernel_rfl) (hK _ _ ?_))
      | (refine store_mb rfl (.tmp 6) (.tmp 29) rfl w.heap.size rfl zM rfl zM_ok zM b0 zM_ok ?_
         intro W5 hW5 hU5))
    refine bodyPost_ret (v := .tuple #[.agg (mA zM), .slice none 0 0, .slice none 0 0, .int .i64 n]) (by simp [results, Try.results11, asAddr, ld_mb hW5 zM_ok Try.underlying45]) rfl ?_
    exact ⟨HR3.out.bel.trans hU5.below, .inl ⟨by have := HX.out; omega, n, HNN.out, rfl⟩⟩
  · have hwz := HR1.out.r0.lt'
    have HAB := Lib.hid hok
    obtain ⟨x, hx⟩ : ∃ x : Nat, a = (x : Int) := ⟨a.toNat, by omega⟩
    obtain ⟨y, hy⟩ : ∃ y : Nat, b = (y : Int) := ⟨b.toNat, by omega⟩
    subst hx hy
    simp only [Int.toNat_natCast] at hmo ⊢
    have HVS := Lib.hid (start_vs (a := x) (b := y) (by omega) (by omega) (by omega) (by omega))
    obtain ⟨M0, hm0⟩ : ∃ M0 : Mv, M0 = newM C x E y := ⟨_, rfl⟩
    have HM0 : Hid (M0.ms = startM x y) := Lib.hid (by rw [hm0]; rfl)
    rw [← hm0] at hmo ⊢
    have hk0 := hmo.k
    have HR2 := Lib.hid (HR1.out.on hb)
    have HMO := Lib.hid hmo
    have hz2 := HR2.out.r0.lt'
    have HB12 := Lib.hid hb
    clear hb hok HN hm0 hmo
    go_upto_region 2 with (first
      | (refine store_mb rfl (.tmp 10) (.tmp 25) rfl W2.heap.size rfl M0 rfl hk0 zM (heap_alloc_new W2 _) zM_ok ?_
         intro W3 hW3 hU3))
    have hal := Kt.balloc (Below.refl W2.heap.size W2) (.cells (mA zM) 45)
    have HP3 : Hid (HP w W2.heap.size M0 (.slice none 0 0) [] (.slice none 0 0) [] W3) := Lib.hid
      ⟨hW3, MO.mono ⟨hk0, (HMO.out.on hal).c.keep fun k hk => hU3.other k (by have := (HMO.out.c.lt k hk).2; omega) ((HMO.out.on hal).c.lt k hk).2, (HMO.out.on hal).e.keep fun k hk => hU3.other k (by have := (HMO.out.e.lt k hk).2; omega) ((HMO.out.on hal).e.lt k hk).2⟩ hwz, hU3.mb (HR2.out.on hal).r0 (by omega), Kt.Sl.nil _ _ _ _, Kt.Sl.nil _ _ _ _, fun k hk => by have := (HMO.out.c.lt k hk).2; omega, fun k hk => by have := (HMO.out.e.lt k hk).2; omega, HOff.nil _, HOff.nil _, HApart.nil _, HApart.nil _, HApart.nil _, HApart.nil _, HApart.nil _, (HR2.out.on hal).bel.trans (hU3.below.mono (by omega)), by omega⟩
    have hbz := HP3.out.blt
    obtain ⟨bM, hbM⟩ : ∃ bM, bM = W2.heap.size := ⟨_, rfl⟩
    rw [← hbM] at HP3 hbz ⊢
    clear hW3 hU3 hal HR1 HR2 HMO HB12 hz2 hbM hwz
    by_cases hlen : 200 < ds.length
    · have l2 : (200 : Int) < (ds.length : Int) := by omega
      have HL := Lib.hid hlen
      have b0 := HP3.out.r0
      clear hlen
      go_wp2_with (first
        | (refine wpList_plain rfl fun _ hK => Kt.wp_run (.agg (mA zM)) _ (by kernel_rfl) (hK _ _ ?_))
        | (refine store_mb rfl (.tmp 6) (.tmp 34) rfl w.heap.size rfl zM rfl zM_ok zM b0 zM_ok ?_
           intro W5 hW5 hU5))
      refine bodyPost_ret (v := .tuple #[.agg (mA zM), .slice none 0 0, .slice none 0 0, .int .i64 2]) (by simp [results, Try.results11, asAddr, ld_mb hW5 zM_ok Try.underlying45]) rfl ?_
      exact ⟨HP3.out.bel.trans hU5.below, .inl ⟨by have := HL.out; omega, 2, by decide, rfl⟩⟩
    · have l2 : ¬ (200 : Int) < (ds.length : Int) := by omega
      have hn : ds.length ≤ 200 := by omega
      clear hlen
      go_upto_region 9 with (fail)
      go_loopw [12, 13, 37] (fun v1 v2 i wr => ∃ (k : Nat) (M : Mv) (l1 : List E3) (l2 : List Int), k ≤ ds.length ∧ i = .int .i64 (k : Int) ∧ Run (startM x y) (ds.take k) M.ms l1 l2 ∧ HP w bM M v1 l1 v2 l2 wr) (fun _ _ i _ => ds.length - (intOf i).toNat)
      case atStart => exact ⟨0, M0, [], [], Nat.zero_le _, rfl, by rw [HM0.out]; exact .nil, HP3.out⟩
      case round =>
        clear HP3 hk0 HM0 hbz
        obtain ⟨k, M, l1, l2, hk, rfl, hrun, hps⟩ := hrel
        obtain ⟨A1, c1, rfl, _, _⟩ := hps.s1.form
        obtain ⟨A2, c2, rfl, _, _⟩ := hps.s2.form
        have HPS := Lib.hid hps
        have HRUN := Lib.hid hrun
        have HVM := Lib.hid (hrun.vs HVS.out)
        have hk0 := hps.mo.k
        have hz := hps.blt
        have hzz := hps.lt
        by_cases hlt : k < ds.length
        · have HTK := Lib.hid (List.take_succ_eq_append_getElem hlt)
          obtain ⟨d, hd⟩ : ∃ d, ds[k] = d := ⟨_, rfl⟩
          have hki : (k : Int) < (ds.length : Int) := by omega
          rw [hd] at HTK
          obtain ⟨g, o, rfl, hg, hcell⟩ := HCELLS.out (by omega)
          have q : ∀ j (hj : j < 8), wr.cell? ⟨g, o + (k * 8 + j), none⟩ = d.cs[j]? := fun j hj => by
            rw [hps.bel.cell (p := ⟨g, o + (k * 8 + j), none⟩) hg, hcell (k * 8 + j) (by rw [dvs_len]; omega), ← List.getElem?_eq_getElem, dvs_get _ _ _ hj, List.getElem?_eq_getElem hlt, hd]; rfl
          have g0 : wr.cell? ⟨g, o + k * 8, none⟩ = some (.int .i64 d.kd) := q 0 (by omega)
          have g1 : wr.cell? ⟨g, o + k * 8 + 1, none⟩ = some (.int .i64 d.k) := q 1 (by omega)
          have g2 : wr.cell? ⟨g, o + k * 8 + 2, none⟩ = some (.int .i64 d.s) := q 2 (by omega)
          have g3 : wr.cell? ⟨g, o + k * 8 + 3, none⟩ = some (.int .i64 d.e) := q 3 (by omega)
          have g4 : wr.cell? ⟨g, o + k * 8 + 4, none⟩ = some (.int .i64 d.a) := q 4 (by omega)
          have g5 : wr.cell? ⟨g, o + k * 8 + 5, none⟩ = some (.int .i64 d.n) := q 5 (by omega)
          have g6 : wr.cell? ⟨g, o + k * 8 + 6, none⟩ = some (.int .i64 d.sl) := q 6 (by omega)
          have g7 : wr.cell? ⟨g, o + k * 8 + 7, none⟩ = some (.int .i64 d.en) := q 7 (by omega)
          clear hps hrun hd hcell q
          go_upto_region 12 with (fail)
          have HPA := Lib.hid (HPS.out.al #[.int .i64 d.kd, .int .i64 d.k, .int .i64 d.s, .int .i64 d.e, .int .i64 d.a, .int .i64 d.n, .int .i64 d.sl, .int .i64 d.en] 66)
          have hD : (wr.alloc (.cells #[.int .i64 d.kd, .int .i64 d.k, .int .i64 d.s, .int .i64 d.e, .int .i64 d.a, .int .i64 d.n, .int .i64 d.sl, .int .i64 d.en] 66)).heap[wr.heap.size]? = some (.cells #[.int .i64 d.kd, .int .i64 d.k, .int .i64 d.s, .int .i64 d.e, .int .i64 d.a, .int .i64 d.n, .int .i64 d.sl, .int .i64 d.en] 66 (0, 0)) := heap_alloc_new wr _
          obtain ⟨gd, hgd⟩ : ∃ gd, gd = wr.heap.size := ⟨_, rfl⟩
          rw [← hgd] at hD hz ⊢
          have HGD := Lib.hid (show bM < gd by omega)
          clear HPS g0 g1 g2 g3 g4 g5 g6 g7 hgd hz
          generalize wr.alloc (.cells #[.int .i64 d.kd, .int .i64 d.k, .int .i64 d.s, .int .i64 d.e, .int .i64 d.a, .int .i64 d.n, .int .i64 d.sl, .int .i64 d.en] 66) = W5 at *
          have hD5 := fun i => cell_of_row _ _ i _ _ _ hD
          have b0 := HPA.out.row
          by_cases k1 : d.kd = 1
          · have HSB := Lib.hid (have h := HPA.out.mo.ls HVM.out; submit_calls M d.k d.s d.e d.a W5 HPA.out.mo.ma h.1 h.2.1 h.2.2.1 h.2.2.2)
            have hl2 : l2.length ≤ 200 := Nat.le_trans (Nat.le_trans HRUN.out.len.2 (by rw [List.length_take]; omega)) hn
            go_wp2_with (refine load_mb rfl (.tmp 10) rfl bM rfl M b0 hk0 ?_)
            refine HSB.out.mono ?_
            rintro _ W6 ⟨M1, e, hwr, rfl, hmo, hb⟩
            have HST := Lib.hid (hwr.stp HVM.out k1)
            have HMO := Lib.hid hmo
            have HB := Lib.hid hb
            have hk1 := hmo.k
            have hz6 : Mb W6.heap.size zM (W6.alloc (.cells (mA zM) 45)) := heap_alloc_new W6 _
            clear hwr hmo hb HSB b0
            go_upto_region 14 with (refine store_mb rfl (.tmp 16) (.tmp 50) rfl W6.heap.size rfl M1 rfl hk1 zM hz6 zM_ok ?_
                                    intro W7 hW7 hU7)
            have HB67 := Lib.hid ((Kt.balloc (Below.refl _ W6) (.cells (mA zM) 45)).trans hU7.below)
            have HQ7 : Hid (HQ w bM W6.heap.size M M1 (.slice A1 l1.length c1) l1 (.slice A2 l2.length c2) l2 W7) := Lib.hid (HQ.of HPA.out (Kt.bthen HB.out HB67.out) (HMO.out.on HB67.out) hW7 HB.out.size)
            obtain ⟨g6, hg6⟩ : ∃ g6, g6 = W6.heap.size := ⟨_, rfl⟩
            rw [← hg6] at HQ7 ⊢
            clear hU7 hW7 hz6 HMO HB HB67 HPA hg6
            refine Kt.G.start 5 (fun X => Mb g6 M1 X) (by kernel_rfl) (HQ7.out.g0.on (bdrewN (Below.refl _ W7) 1)) (fun hHeld => ?_)
            have HS : Hid (HQ w bM g6 M M1 (.slice A1 l1.length c1) l1 (.slice A2 l2.length c2) l2 W7.drew) := Lib.hid (HQ7.out.on (bdrewN (Below.refl _ W7) 1))
            clear HQ7
            generalize W7.drew = X0 at *
            refine Kt.G.load_row 0 { dst := some 52, op := Op.load 45 (Operand.tmp 16), type := 45, pos := "host.go:140", after := #[], guard := none } 45 (Operand.tmp 16) g6 45 (mA M1) _ hHeld rfl (by kernel_rfl) (fun _ _ _ h => h) (by rfl) rfl rfl (fun _ h => h) Try.underlying45 rfl (by rw [mA_size hk1]; exact size_machine) ?_
            try simp only [Act.put, List.setIfInBounds_toArray, List.set_cons_zero, List.set_cons_succ]
            refine Kt.G.takeP 1 { dst := some 53, op := Op.move (Operand.tmp 13), type := 47, pos := "host.go:140", after := #[], guard := none } ?_ (fun _ => hHeld) rfl (by kernel_rfl) (fun _ _ _ h => h) (by rfl) ?_ ?_
            rotate_left
            · intro w; go_simp; try with_reducible rfl
            try simp only [Act.put, List.setIfInBounds_toArray, List.set_cons_zero, List.set_cons_succ]
            refine Kt.G.takeP 2 { dst := some 54, op := Op.move (Operand.tmp 17), type := 25, pos := "host.go:140", after := #[], guard := none } ?_ (fun _ => hHeld) rfl (by kernel_rfl) (fun _ _ _ h => h) (by rfl) ?_ ?_
            rotate_left
            · intro w; go_simp; try with_reducible rfl
            try simp only [Act.put, List.setIfInBounds_toArray, List.set_cons_zero, List.set_cons_succ]
            refine Kt.G.one 3 { dst := some 55, op := Op.buildSlice 47 1 #[(0, Operand.tmp 54)], type := 47, pos := "host.go:140", after := #[{ on := 2, ground := Ground.data }], guard := none } rfl (by kernel_rfl) (by rfl) (fun K hK => ?_)
            go_simp
            refine hK.out _ _ (fun _ => hHeld.on (Kt.balloc (Below.refl _ (X0)) (.cells #[.int .i64 e] 25))) (fun hHeld => ?_)
            have hHeld := hHeld rfl
            clear hK K
            try simp only [Act.put, List.setIfInBounds_toArray, List.set_cons_zero, List.set_cons_succ]
            have HR : Hid (((X0).alloc (.cells #[.int .i64 e] 25)).heap[(X0).heap.size]? = some (.cells #[.int .i64 e] 25 (0, 0))) := Lib.hid (heap_alloc_new _ _)
            have hkz : bM < (X0).heap.size := HS.out.hp.blt
            replace HS := Lib.hid (HS.out.al #[.int .i64 e] 25)
            generalize (X0).heap.size = kz at *
            generalize (X0).alloc (.cells #[.int .i64 e] 25) = Xb at *
            refine Kt.G.one 4 { dst := some 56, op := Op.call { callee := Callee.builtin Builtin.append, args := #[Operand.tmp 53, Operand.tmp 55], argTypes := #[47, 47] }, type := 47, pos := "host.go:140", after := #[{ on := 1, ground := Ground.data }, { on := 3, ground := Ground.data }], guard := none } rfl (by kernel_rfl) (by rfl) (fun K hK => ?_)
            have hzz : w.heap.size + 1 ≤ Xb.heap.size := by have := HS.out.hp.blt; have := HS.out.hp.lt; omega
            refine Kt.wp_append_sl _ (.tmp 53) (.tmp 55) 47 rfl (w.heap.size + 1) 25 (.int .i64 0) 1 8 infoN Try.underlying47 rfl (by decide) _ _ _ rfl HS.out.hp.s2 _ 1 1 [.int .i64 e] rfl rfl (news_of HR.out) (by simp [Value.oneCell']) (by unfold maxLen; omega) (by omega) hzz ?_
            intro A4 c4 Xa hs4 hb4 hz5 hk4 hl4
            have HSn := Lib.hid (HS.out.app2 hs4 hk4 hl4 hb4)
            clear hs4 hb4 hk4 hl4 HR HS
            refine hK.out _ _ (fun _ => HSn.out.g0) (fun hHeld => ?_)
            have hHeld := hHeld rfl
            clear hK K
            try simp only [Act.put, List.setIfInBounds_toArray, List.set_cons_zero, List.set_cons_succ]
            have HS := HSn
            clear HSn
            refine Kt.G.one 5 { dst := none, op := Op.store 45 (Operand.tmp 10) (Operand.tmp 52), type := 0, pos := "host.go:140", after := #[{ on := 0, ground := Ground.data }, { on := 4, ground := Ground.chain }, { on := 0, ground := Ground.phase }, { on := 1, ground := Ground.textOnly Departure.lateStores }, { on := 2, ground := Ground.textOnly Departure.lateStores }, { on := 3, ground := Ground.textOnly Departure.lateStores }, { on := 4, ground := Ground.textOnly Departure.lateStoresUnsure }], guard := none } rfl (by kernel_rfl) (by rfl) (fun K hK => ?_)
            have hU := Upd.row (Xa) bM (mA M1)
            have hN : Mb bM M1 ((Xa).setRow bM (mA M1)) := setRow_heap _ _ _ _ _ _ HS.out.hp.row
            have HSn := Lib.hid (HS.out.store hN hU)
            refine wp_store_row 45 (.tmp 10) (.tmp 52) rfl bM (mA M1) rfl rfl 45 (mA M) HS.out.hp.row (by rw [mA_size hk1]; exact size_machine) (by rw [mA_size hk1, mA_size hk0]) (mA_one hk1) ?_
            refine hK.out _ _ (Kt.G.late (by kernel_rfl)) (fun _ => ?_)
            clear hK K
            try simp only [Act.put]
            clear hN hU HS
            have HS := HSn
            clear HSn
            generalize (Xa).setRow bM (mA M1) = Xs at *
            refine Kt.G.takeP 6 { dst := some 13, op := Op.assign (Operand.tmp 56), type := 47, pos := "host.go:140", after := #[{ on := 4, ground := Ground.data }, { on := 5, ground := Ground.chain }, { on := 0, ground := Ground.phase }, { on := 1, ground := Ground.phase }, { on := 2, ground := Ground.phase }, { on := 3, ground := Ground.phase }, { on := 4, ground := Ground.phase }, { on := 5, ground := Ground.phase }], guard := none } ?_ (Kt.G.late (by kernel_rfl)) rfl (by kernel_rfl) (fun _ _ _ h => h) (by rfl) ?_ ?_
            rotate_left
            · intro w; go_simp; try with_reducible rfl
            try simp only [Act.put, List.setIfInBounds_toArray, List.set_cons_zero, List.set_cons_succ]
            refine Kt.G.done (by kernel_rfl) (NoPanic.normal ?_) _
            go_wp2_with fail
            go_roundw
            case rel => exact ⟨k + 1, M1, l1 ++ [], l2 ++ [e], by omega, by go_num, by rw [HTK.out]; exact .snoc HRUN.out HST.out, by rw [List.append_nil]; exact HS.out⟩
            case measure => simp [intOf]; omega
          by_cases k2 : d.kd = 2
          · have HWK := Lib.hid (have h := HPA.out.mo.ls HVM.out; work_calls M d.n W5 HPA.out.mo.ma h.1 h.2.1 h.2.2.1 h.2.2.2)
            go_wp2_with (refine load_mb rfl (.tmp 10) rfl bM rfl M b0 hk0 ?_)
            refine HWK.out.mono ?_
            rintro _ W6 ⟨M1, j, hwr, rfl, hmo, hb⟩
            have HST := Lib.hid (hwr.stp HVM.out k2)
            have HMO := Lib.hid hmo
            have HB := Lib.hid hb
            have hk1 := hmo.k
            replace b0 := (HPA.out.on hb).row
            clear hwr hmo hb HWK
            go_wp2_with (refine store_mb rfl (.tmp 10) (.tmp 64) rfl bM rfl _ rfl hk1 M b0 hk0 ?_
                         intro W9 hW9 hU9)
            have HP9 := Lib.hid (HPA.out.store HB.out HMO.out hW9 hU9)
            clear b0 hW9 hU9 HMO HB
            go_roundw
            case rel => exact ⟨k + 1, M1, l1 ++ [], l2 ++ [], by omega, by go_num, by rw [HTK.out]; exact .snoc HRUN.out HST.out, by rw [List.append_nil, List.append_nil]; exact HP9.out⟩
            case measure => simp [intOf]; omega
          by_cases k3 : d.kd = 3
          · have HRP := Lib.hid (have h := HPA.out.mo.ls HVM.out; reap_calls M W5 HPA.out.mo.ma h.1 h.2.1 h.2.2.1 h.2.2.2)
            go_wp2_with (refine load_mb rfl (.tmp 10) rfl bM rfl M b0 hk0 ?_)
            refine HRP.out.mono ?_
            rintro _ W6 ⟨M1, e1, e2, e3, qq, hwr, rfl, hmo, hb⟩
            have HST := Lib.hid (hwr.stp HVM.out k3)
            have HMO := Lib.hid hmo
            have HB := Lib.hid hb
            have hk1 := hmo.k
            replace b0 := (HPA.out.on hb).row
            have hbl := b0.lt
            clear hwr hmo hb HRP
            have hl1 : l1.length ≤ 200 := Nat.le_trans (Nat.le_trans HRUN.out.len.1 (by rw [List.length_take]; omega)) hn
            have hz6 : Mb W6.heap.size zM ((W6.alloc (.cells (mA zM) 45)).alloc (.cells #[.int .i64 0, .int .i64 0, .int .i64 0] 56)) := (show Mb W6.heap.size zM (W6.alloc (.cells (mA zM) 45)) from heap_alloc_new W6 _).on (Kt.balloc (Below.refl _ _) _)
            have hv6 : ((W6.alloc (.cells (mA zM) 45)).alloc (.cells #[.int .i64 0, .int .i64 0, .int .i64 0] 56)).heap[W6.heap.size + 1]? = some (.cells #[.int .i64 0, .int .i64 0, .int .i64 0] 56 (0, 0)) := by
              have h := heap_alloc_new (W6.alloc (.cells (mA zM) 45)) (.cells #[.int .i64 0, .int .i64 0, .int .i64 0] 56)
              rwa [show (W6.alloc (.cells (mA zM) 45)).heap.size = W6.heap.size + 1 by simp] at h
            go_upto_region 19 with (refine store_mb rfl (.tmp 18) (.tmp 71) rfl W6.heap.size rfl M1 rfl hk1 zM hz6 zM_ok ?_
                                    intro W7 hW7 hU7
                                    have hv7 := hU7.row' hv6 (by omega)
                                    have qv7 := fun i => cell_of_row _ _ i _ _ _ hv7
                                    have fv7 := fun i => frozen_of_row _ _ i _ _ hv7)
            obtain ⟨hA, hE, hU⟩ := end3 (.int .i64 e1) (.int .i64 e2) (.int .i64 e3) hW7 hv7 (by omega)
            have HB68 := Lib.hid (((Kt.balloc (Kt.balloc (Below.refl _ W6) (.cells (mA zM) 45)) (.cells #[.int .i64 0, .int .i64 0, .int .i64 0] 56)).trans hU7.below).trans (hU.below.mono (Nat.le_succ _)))
            clear hU hU7 hW7 hv7 qv7 fv7 hz6 hv6
            generalize ((W7.setCell ⟨W6.heap.size + 1, 0, none⟩ (.int .i64 e1)).setCell ⟨W6.heap.size + 1, 1, none⟩ (.int .i64 e2)).setCell ⟨W6.heap.size + 1, 2, none⟩ (.int .i64 e3) = W8 at *
            have hs8 : W6.heap.size + 1 < W8.heap.size := (Array.getElem?_eq_some_iff.1 hE).1
            have HQ8 : Hid (HQ w bM W6.heap.size M M1 (.slice A1 l1.length c1) l1 (.slice A2 l2.length c2) l2 W8) := Lib.hid (HQ.of HPA.out (Kt.bthen HB.out HB68.out) (HMO.out.on HB68.out) hA HB.out.size)
            replace b0 := HQ8.out.hp.row
            clear HMO HB HB68 HPA
            go_upto_region 20 with (first
              | (refine load_mb rfl (.tmp 18) rfl W6.heap.size rfl M1 hA hk1 ?_)
              | (refine store_mb rfl (.tmp 10) (.tmp 74) rfl bM rfl M1 rfl hk1 M b0 hk0 ?_
                 intro W9 hW9 hU9))
            have HP9 := Lib.hid (HQ8.out.store hW9 hU9)
            have hE9 := hU9.row' hE (by omega)
            have hs9 : W6.heap.size + 1 < W9.heap.size := (Array.getElem?_eq_some_iff.1 hE9).1
            have qv9 := fun i => cell_of_row _ _ i _ _ _ hE9
            clear hW9 hU9 hA hE HQ8 b0
            cases qq with
            | false =>
              go_wp2_with fail
              go_roundw
              case rel => exact ⟨k + 1, M1, l1 ++ [], l2 ++ [], by omega, by go_num, by rw [HTK.out]; exact .snoc HRUN.out HST.out, by rw [List.append_nil, List.append_nil]; exact HP9.out⟩
              case measure => simp [intOf]; omega
            | true =>
              have HPB := Lib.hid (HP9.out.al #[.int .i64 e1, .int .i64 e2, .int .i64 e3] 56)
              have hs1 := HPB.out.s1
              go_wp2_with (
                at_builtin
                go_loud (refine Kt.append_sl _ (by rfl) (.tmp 76) (.tmp 78) 46 rfl (w.heap.size + 1) 56 (.agg #[.int .i64 0, .int .i64 0, .int .i64 0]) 3 24 infoV Try.underlying46 rfl (by decide) _ _ _ rfl hs1 ⟨_, 0, none⟩ 1 1 [.int .i64 e1, .int .i64 e2, .int .i64 e3] rfl rfl (Kt.new_cells' _ #[.int .i64 e1, .int .i64 e2, .int .i64 e3] _ _ (by simp)) (by simp [Value.oneCell']) (by unfold maxLen; omega) (by omega) (by simp; omega) ?_)
                intro A4 c4 w4 hs4 hb4 hz5 hk4 hl4)
              have HP10 := Lib.hid (HPB.out.app1 (x := (e1, e2, e3)) hs4 hk4 hl4 hb4)
              clear hs4 hb4 hz5 hk4 hl4 hs1
              go_roundw
              case rel => exact ⟨k + 1, M1, l1 ++ [(e1, e2, e3)], l2 ++ [], by omega, by go_num, by rw [HTK.out]; exact .snoc HRUN.out HST.out, by rw [List.append_nil]; exact HP10.out⟩
              case measure => simp [intOf]; omega
          by_cases k4 : d.kd = 4
          · have HHA := Lib.hid (fun W => halt_calls M.l hk0.l d.sl d.en W)
            go_wp2_with (refine load_bd rfl (.tmp 82) rfl bM rfl M b0 hk0 ?_)
            refine (HHA.out W5).mono ?_
            rintro _ W6 ⟨l', hh, hl', rfl, hb⟩
            have HST := Lib.hid (Stp.halt (m := M.ms) (d := d) l' k4 hh)
            have HP6 := Lib.hid (HPA.out.on hb)
            replace b0 := HP6.out.row
            clear hh hb HHA
            go_wp2_with (refine store_bd rfl (.tmp 89) (.tmp 88) rfl bM rfl M b0 hk0 l' rfl hl' ?_
                         intro W9 hW9 hU9)
            have HP9 := Lib.hid (HP6.out.keepM (M1 := { M with l := l' }) hW9 rfl rfl ⟨⟨hl', hk0.c, hk0.e⟩, HP6.out.mo.c, HP6.out.mo.e⟩ hU9)
            clear b0 hW9 hU9
            go_roundw
            case rel => exact ⟨k + 1, { M with l := l' }, l1 ++ [], l2 ++ [], by omega, by go_num, by rw [HTK.out]; exact .snoc HRUN.out HST.out, by rw [List.append_nil, List.append_nil]; exact HP9.out⟩
            case measure => simp [intOf]; omega
          · have HST := Lib.hid (Stp.other (m := M.ms) k1 k2 k3 k4)
            go_wp2_with fail
            go_roundw
            case rel => exact ⟨k + 1, M, l1 ++ [], l2 ++ [], by omega, by go_num, by rw [HTK.out]; exact .snoc HRUN.out HST.out, by rw [List.append_nil, List.append_nil]; exact HPA.out⟩
            case measure => simp [intOf]; omega
        · obtain rfl : k = ds.length := by omega
          have b0 := HPS.out.row
          have r0 := HPS.out.r0
          go_wp2_with (first
            | (refine load_mb rfl (.tmp 10) rfl bM rfl M b0 hk0 ?_)
            | (refine store_mb rfl (.tmp 6) (.tmp 91) rfl w.heap.size rfl M rfl hk0 zM r0 zM_ok ?_
               intro W9 hW9 hU9))
          refine bodyPost_ret (v := .tuple #[.agg (mA M), .slice A1 l1.length c1, .slice A2 l2.length c2, .int .i64 0]) (by simp [results, Try.results11, asAddr, ld_mb hW9 hk0 Try.underlying45]) rfl ?_
          have hrun := HRUN.out
          rw [List.take_length] at hrun
          refine ⟨HPS.out.bel.trans hU9.below, .inr ⟨by have := HAB.out; omega, M, _, l1, _, l2, by simpa using hrun, rfl, (HPS.out.mo.upd hU9 (Nat.lt_succ_self _)).mono (Nat.le_succ _), ?_, ?_⟩⟩
          · exact Kt.Ar.of_sl (HPS.out.s1.keep fun k hk => hU9.other k (by have := (HPS.out.s1.lt k hk).1; omega) (HPS.out.s1.lt k hk).2)
          · exact Kt.Ar.of_sl (HPS.out.s2.keep fun k hk => hU9.other k (by have := (HPS.out.s2.lt k hk).1; omega) (HPS.out.s2.lt k hk).2)
end Go.Proofs.Ytidcbboonjenhaa
