/- host: Submit walked. -/
import Derived.Test.YtidcbboonjenhaaHstE
namespace Go.Proofs.Ytidcbboonjenhaa
open Go.RowKit Classical Go.Proofs.Ytidcbboonjenhaa.Slt
theorem MO.upd {W W' : World} {B g : Nat} {M : Mv} (h : MO W B M) (hu : Upd g W W') (hg : g < B) : MO W' B M :=
  ⟨h.k, h.c.keep fun k hk => hu.other k (by have := (h.c.lt k hk).1; omega) (h.c.lt k hk).2, h.e.keep fun k hk => hu.other k (by have := (h.e.lt k hk).1; omega) (h.e.lt k hk).2⟩
theorem Mb.lt' {b : Nat} {M : Mv} {w : World} (h : Mb b M w) : b + 1 ≤ w.heap.size := h.lt
/-- what Submit tells: the code, the machine behind it -/
inductive Sbm (M : Mv) (k s e a : Int) : Mv → Int → Prop
  | bad (M1 : Mv) : ¬ Vl M → M.sm M1 → Sbm M k s e a M1 4
  | arg (M1 : Mv) : Vl M → inC k s e a = false → M.sm M1 → Sbm M k s e a M1 1
  | full (M1 : Mv) : Vl M → inC k s e a = true → fullB M.r = true → M.sm M1 → Sbm M k s e a M1 11
  | ok (M1 : Mv) : Vl M → inC k s e a = true → fullB M.r = false → M1.r = putR M.r (pkw k s e a) → M1.v = M.v → M1.l = M.l → Sbm M k s e a M1 0
def SbIs (M : Mv) (k s e a : Int) (w : World) (en : Ending) (w' : World) : Prop := ∃ M1 n, Sbm M k s e a M1 n ∧ en = .returned (.tuple #[.agg (mA M1), .int .i64 n]) ∧ MO w' w.heap.size M1 ∧ Below w.heap.size w w'
structure RSb (w : World) (M : Mv) (c : Array Value) (W : World) : Prop where
  b0 : Mb w.heap.size M W
  bc : W.heap[w.heap.size + 1]? = some (.cells c 23 (0, 0))
  b2 : Mb (w.heap.size + 1 + 1) zM W
  bel : Below w.heap.size w W
theorem RSb.on {w : World} {M : Mv} {c : Array Value} {W W' : World} (h : RSb w M c W) (hb : Below W.heap.size W W') : RSb w M c W' := ⟨h.b0.on hb, Kt.row_on hb h.bc, h.b2.on hb, Kt.bthen h.bel hb⟩
theorem RSb.start (w : World) (M : Mv) (c : Array Value) : RSb w M c (((w.alloc (.cells (mA M) 45)).alloc (.cells c 23)).alloc (.cells (mA zM) 45)) := by
  have h1 : Mb w.heap.size M (w.alloc (.cells (mA M) 45)) := heap_alloc_new w _
  have z1 : (w.alloc (.cells (mA M) 45)).heap.size = w.heap.size + 1 := World.size_alloc _ _
  have g1 := Kt.balloc (Below.refl w.heap.size w) (.cells (mA M) 45)
  generalize w.alloc (.cells (mA M) 45) = w1 at *
  have h2 := heap_alloc_new w1 (.cells c 23)
  have z2 : (w1.alloc (.cells c 23)).heap.size = w1.heap.size + 1 := World.size_alloc _ _
  have g2 := Kt.balloc (Below.refl w1.heap.size w1) (.cells c 23)
  generalize w1.alloc (.cells c 23) = w2 at *
  have h3 : Mb w2.heap.size zM (w2.alloc (.cells (mA zM) 45)) := heap_alloc_new w2 _
  have g3 := Kt.balloc (Below.refl w2.heap.size w2) (.cells (mA zM) 45)
  rw [z1] at h2
  rw [z2, z1] at h3
  exact ⟨(h1.on g2).on g3, Kt.row_on g3 h2, h3, Kt.bthen (Kt.bthen g1 g2) g3⟩
theorem Upd.row' {g : Nat} {w w' : World} (h : Upd g w w') {b : Nat} {x : Obj} (hm : w.heap[b]? = some x) (hne : b ≠ g) : w'.heap[b]? = some x := (h.other b hne (Array.getElem?_eq_some_iff.1 hm).1).trans hm
set_option maxRecDepth 100000 in
set_option maxHeartbeats 6400000 in
theorem submit_calls (M : Mv) (k s e a : Int) (w : World) (hM : MA w M) (h1 : M.r.cs.length ≤ 5864062014805) (h2 : M.v.cs.length ≤ 5864062014805) (hw : Wf M.r.cs) (hw2 : Wf M.v.cs) : Calls Try.prog 15 #[.agg (mA M), .agg #[.int .i64 k, .int .i64 s, .int .i64 e, .int .i64 a]] w (SbIs M k s e a w) := by
  have Z0 := zero_machine
  have HR := Lib.hid (RSb.start w M #[.int .i64 k, .int .i64 s, .int .i64 e, .int .i64 a])
  have HCP := Lib.hid (fun W (hb : Below w.heap.size w W) => hcopied_calls M W (hM.on hb) h1 h2)
  have HK := Lib.hid hM.k
  have HVA := Lib.hid (fun C E W (hm : MA W { M with C := C, E := E }) => valid_calls { M with C := C, E := E } W hm (Nat.le_trans h1 (by decide)) (Nat.le_trans h2 (by decide)) hw hw2)
  have HPK := Lib.hid (fun W => pack_calls k s e a W)
  clear hM h1 h2 hw hw2
  go_enter Try.func15, Try.ntmps15
  go_upto_region 1 with (fail)
  refine Kt.fold (fun W => RSb w M #[.int .i64 k, .int .i64 s, .int .i64 e, .int .i64 a] W) HR.out ?_
  clear HR
  intro W1 hr
  have HR := Lib.hid hr
  have b0 := hr.b0
  have hk := HK.out
  clear hr
  go_wp2_with (refine load_mb rfl (.tmp 2) rfl w.heap.size rfl M b0 hk ?_)
  refine (HCP.out W1 HR.out.bel).mono ?_
  rintro _ W2 ⟨C, E, rfl, hmo, hb⟩
  have HR2 := Lib.hid (HR.out.on hb)
  have HMO := Lib.hid (hmo.mono (B' := w.heap.size + 1 + 1 + 1) HR.out.b2.lt')
  have b2 := HR2.out.b0
  have hk2 : Mk { M with C := C, E := E } := hmo.k
  clear hb hmo HR b0 HCP
  go_upto_region 2 with (refine store_mb rfl (.tmp 2) (.tmp 10) rfl w.heap.size rfl _ rfl hk2 M b2 hk ?_
                         intro W3 hW3 hU3)
  obtain ⟨M1, hm1⟩ : ∃ M1 : Mv, M1 = { M with C := C, E := E } := ⟨_, rfl⟩
  have HV1 := Lib.hid (HVA.out C E)
  have HSM : Hid (M.sm M1) := Lib.hid (by rw [hm1]; exact ⟨rfl, rfl, rfl⟩)
  have HVL : Hid (Vl M1 ↔ Vl M) := Lib.hid (by rw [hm1]; exact ⟨fun h => ⟨h.r, h.v, h.b, h.cw, h.ew⟩, fun h => ⟨h.r, h.v, h.b, h.cw, h.ew⟩⟩)
  rw [← hm1] at HV1 HMO hW3 hk2 ⊢
  have HR3 : Hid (RSb w M1 #[.int .i64 k, .int .i64 s, .int .i64 e, .int .i64 a] W3) := Lib.hid ⟨hW3, hU3.row' HR2.out.bc (Nat.succ_ne_self _), hU3.mb HR2.out.b2 (by omega), HR2.out.bel.trans hU3.below⟩
  have HMO3 := Lib.hid (HMO.out.upd hU3 (by omega))
  have HM1 := Lib.hid hm1
  clear HVA hW3 hU3 HR2 HMO b2 hk hm1
  have hk := hk2
  have b0 := HR3.out.b0
  clear hk2
  go_wp2_with (refine load_mb rfl (.tmp 2) rfl w.heap.size rfl _ b0 hk ?_)
  refine (HV1.out W3 HMO3.out.ma).mono ?_
  rintro _ W4 ⟨q, rfl, hq, hb⟩
  have HR4 := Lib.hid (HR3.out.on hb)
  have HMO4 := Lib.hid (HMO3.out.on hb)
  have HQ := Lib.hid hq
  replace b0 := HR4.out.b0
  have bz := HR4.out.b2
  clear hb hq HR3 HMO3 HV1
  cases q with
  | false =>
    have HSB := Lib.hid (Sbm.bad (k := k) (s := s) (e := e) (a := a) M1 (fun h => by have := HQ.out.2 (HVL.out.2 h); cases this) HSM.out)
    go_wp2_with (first
      | (refine load_mb rfl (.tmp 2) rfl w.heap.size rfl _ b0 hk ?_)
      | (refine store_mb rfl (.tmp 4) (.tmp 14) rfl (w.heap.size + 1 + 1) rfl _ rfl hk zM bz zM_ok ?_
         intro W9 hW9 hU9))
    refine bodyPost_ret (v := .tuple #[.agg (mA M1), .int .i64 4]) (by simp [results, Try.results15, asAddr, ld_mb hW9 hk Try.underlying45]) rfl ?_
    exact ⟨_, _, HSB.out, rfl, (HMO4.out.upd hU9 (Nat.lt_succ_self _)).mono (Nat.le_trans (Nat.le_succ _) (Nat.le_trans (Nat.le_succ _) (Nat.le_succ _))), HR4.out.bel.trans (hU9.below.mono (Nat.le_trans (Nat.le_succ _) (Nat.le_succ _)))⟩
  | true =>
    have HVV := Lib.hid (HVL.out.1 (HQ.out.1 rfl))
    have qc := fun i => cell_of_row _ _ i _ _ _ HR4.out.bc
    clear HQ HVL
    cases hc : inC k s e a with
    | false =>
      have HSB := Lib.hid (Sbm.arg (k := k) (s := s) (e := e) (a := a) M1 HVV.out hc HSM.out)
      have HP2 := Lib.hid (fun W => show Calls Try.prog 8 #[.agg #[.int .i64 k, .int .i64 s, .int .i64 e, .int .i64 a]] W fun en w' => en = .returned (.tuple #[.int .u64 0, .int .i64 1]) ∧ Below W.heap.size W w' by have := HPK.out W; unfold pkR at this; rw [hc] at this; exact this)
      clear hc HPK
      go_wp2_with fail
      refine (HP2.out W4).mono ?_
      rintro _ W5 ⟨rfl, hb⟩
      have HR5 := Lib.hid (HR4.out.on hb)
      have HMO5 := Lib.hid (HMO4.out.on hb)
      replace b0 := HR5.out.b0
      replace bz := HR5.out.b2
      clear hb HR4 HMO4 qc HP2
      go_wp2_with (first
        | (refine load_mb rfl (.tmp 2) rfl w.heap.size rfl _ b0 hk ?_)
        | (refine store_mb rfl (.tmp 4) (.tmp 22) rfl (w.heap.size + 1 + 1) rfl _ rfl hk zM bz zM_ok ?_
           intro W9 hW9 hU9))
      refine bodyPost_ret (v := .tuple #[.agg (mA M1), .int .i64 1]) (by simp [results, Try.results15, asAddr, ld_mb hW9 hk Try.underlying45]) rfl ?_
      exact ⟨_, _, HSB.out, rfl, (HMO5.out.upd hU9 (Nat.lt_succ_self _)).mono (Nat.le_trans (Nat.le_succ _) (Nat.le_trans (Nat.le_succ _) (Nat.le_succ _))), HR5.out.bel.trans (hU9.below.mono (Nat.le_trans (Nat.le_succ _) (Nat.le_succ _)))⟩
    | true =>
      have HP2 := Lib.hid (fun W => show Calls Try.prog 8 #[.agg #[.int .i64 k, .int .i64 s, .int .i64 e, .int .i64 a]] W fun en w' => en = .returned (.tuple #[.int .u64 (pkw k s e a), .int .i64 0]) ∧ Below W.heap.size W w' by have := HPK.out W; unfold pkR at this; rw [hc] at this; exact this)
      have HC := Lib.hid hc
      obtain ⟨X, hX⟩ : ∃ X, X = pkw k s e a := ⟨_, rfl⟩
      rw [← hX] at HP2
      have HX := Lib.hid hX
      clear hc HPK hX
      go_wp2_with fail
      refine (HP2.out W4).mono ?_
      rintro _ W5 ⟨rfl, hb⟩
      have HR5 := Lib.hid (HR4.out.on hb)
      have HMO5 := Lib.hid (HMO4.out.on hb)
      replace b0 := HR5.out.b0
      replace bz := HR5.out.b2
      have hrt : Right M1.r := by rw [HM1.out]; exact HVV.out.r
      have HRT := Lib.hid hrt
      clear hb HR4 HMO4 qc HP2 hrt
      cases hf : fullB M.r with
      | true =>
        have HSB := Lib.hid (Sbm.full (k := k) (s := s) (e := e) (a := a) M1 HVV.out HC.out hf HSM.out)
        have HPT := Lib.hid (put_full (rgV M1.C M1.r) M1.r X W5 HMO5.out.ma.ra HRT.out (by rw [HM1.out]; exact hf))
        clear hf
        go_wp2_with (refine load_r0 rfl (.tmp 25) rfl w.heap.size rfl M1 b0 ?_)
        refine HPT.out.mono ?_
        rintro _ W6 ⟨n, hn, rfl, hb⟩
        subst hn
        have HR6 := Lib.hid ((HR5.out.on hb).on (Kt.balloc (Below.refl _ W6) (.cells #[.slice none 0 0, .int .i64 0, .int .i64 0, .int .i64 0, .int .i64 0, .int .i64 0] 37)))
        have HMO6 := Lib.hid ((HMO5.out.on hb).on (Kt.balloc (Below.refl _ W6) (.cells #[.slice none 0 0, .int .i64 0, .int .i64 0, .int .i64 0, .int .i64 0, .int .i64 0] 37)))
        unfold zeroR rgV
        clear hb HPT HR5 HMO5 b0 bz
        go_upto_region 8 with (fail)
        generalize W6.alloc (.cells #[.slice none 0 0, .int .i64 0, .int .i64 0, .int .i64 0, .int .i64 0, .int .i64 0] 37) = W7 at *
        have b0 := HR6.out.b0
        have bz := HR6.out.b2
        go_wp2_with (first
          | (refine load_mb rfl (.tmp 2) rfl w.heap.size rfl _ b0 hk ?_)
          | (refine store_mb rfl (.tmp 4) (.tmp 33) rfl (w.heap.size + 1 + 1) rfl _ rfl hk zM bz zM_ok ?_
             intro W9 hW9 hU9))
        refine bodyPost_ret (v := .tuple #[.agg (mA M1), .int .i64 11]) (by simp [results, Try.results15, asAddr, ld_mb hW9 hk Try.underlying45]) rfl ?_
        exact ⟨_, _, HSB.out, rfl, (HMO6.out.upd hU9 (Nat.lt_succ_self _)).mono (Nat.le_trans (Nat.le_succ _) (Nat.le_trans (Nat.le_succ _) (Nat.le_succ _))), HR6.out.bel.trans (hU9.below.mono (Nat.le_trans (Nat.le_succ _) (Nat.le_succ _)))⟩
      | false =>
        have HPT := Lib.hid (put_ok (rgV M1.C M1.r) M1.r X W5 HMO5.out.ma.ra HRT.out (by rw [HM1.out]; exact hf))
        have HF := Lib.hid hf
        clear hf
        go_wp2_with (refine load_r0 rfl (.tmp 25) rfl w.heap.size rfl M1 b0 ?_)
        refine HPT.out.mono ?_
        rintro _ W6 ⟨V, rfl, ⟨C2, rfl, hC2⟩, hb⟩
        obtain ⟨r2, hr2⟩ : ∃ r, r = putR M1.r X := ⟨_, rfl⟩
        rw [← hr2] at hC2 ⊢
        obtain ⟨CA, cc, hce, _, _⟩ := hC2.form
        subst hce
        obtain ⟨n, hn⟩ : ∃ n, n = r2.cs.length := ⟨_, rfl⟩
        rw [← hn] at hC2 ⊢
        have HNN := Lib.hid hn; have HR22 := Lib.hid hr2
        have HSC := Lib.hid ((hC2.mono (B' := w.heap.size + 1 + 1 + 1) HR5.out.b2.lt').alloc (.cells #[.slice CA n cc, .int .i64 r2.pa, .int .i64 r2.pb, .int .i64 r2.ga, .int .i64 r2.gb, .int .i64 r2.sn] 37))
        have HR6 := Lib.hid ((HR5.out.on hb).on (Kt.balloc (Below.refl _ W6) (.cells #[.slice CA n cc, .int .i64 r2.pa, .int .i64 r2.pb, .int .i64 r2.ga, .int .i64 r2.gb, .int .i64 r2.sn] 37)))
        have HMO6 := Lib.hid ((HMO5.out.on hb).on (Kt.balloc (Below.refl _ W6) (.cells #[.slice CA n cc, .int .i64 r2.pa, .int .i64 r2.pb, .int .i64 r2.ga, .int .i64 r2.gb, .int .i64 r2.sn] 37)))
        have HRW := Lib.hid (heap_alloc_new W6 (.cells #[.slice CA n cc, .int .i64 r2.pa, .int .i64 r2.pb, .int .i64 r2.ga, .int .i64 r2.gb, .int .i64 r2.sn] 37))
        clear hb HPT HR5 HMO5 b0 bz hn hr2 hC2
        unfold rgV
        go_upto_region 8 with (fail)
        obtain ⟨K, hK⟩ : ∃ K, K = W6.heap.size := ⟨_, rfl⟩
        rw [← hK] at HRW ⊢
        clear hK
        generalize W6.alloc (.cells #[.slice CA n cc, .int .i64 r2.pa, .int .i64 r2.pb, .int .i64 r2.ga, .int .i64 r2.gb, .int .i64 r2.sn] 37) = W7 at *
        have b0 := HR6.out.b0
        have qr := fun i => cell_of_row _ _ i _ _ _ HRW.out
        go_upto_region 11 with (
          refine store_r0 rfl (.tmp 36) (.tmp 35) rfl w.heap.size rfl M1 b0 (.slice CA n cc) r2 rfl rfl ?_
          intro W8 hW8 hU8)
        obtain ⟨M2, hm2⟩ : ∃ M2 : Mv, M2 = { M1 with C := .slice CA n cc, r := r2 } := ⟨_, rfl⟩
        rw [← hm2] at hW8
        have HR8 : Hid (RSb w M2 #[.int .i64 k, .int .i64 s, .int .i64 e, .int .i64 a] W8) := Lib.hid ⟨hW8, hU8.row' HR6.out.bc (Nat.succ_ne_self _), hU8.mb HR6.out.b2 (by omega), HR6.out.bel.trans hU8.below⟩
        have HMO8 : Hid (MO W8 (w.heap.size + 1 + 1 + 1) M2) := Lib.hid (by
          have h6 := HMO6.out.upd hU8 (by omega)
          have hs := HSC.out.keep (w' := W8) fun k hk => hU8.other k (by have := (HSC.out.lt k hk).1; omega) (HSC.out.lt k hk).2
          rw [HNN.out] at hs hm2
          rw [hm2]
          exact ⟨⟨h6.k.l, rfl, h6.k.e⟩, hs, h6.e⟩)
        have HSB : Hid (Sbm M k s e a M2 0) := Lib.hid (Sbm.ok M2 HVV.out HC.out HF.out (by rw [hm2, ← HX.out]; show r2 = _; rw [HR22.out, HM1.out]) (by rw [hm2, HM1.out]) (by rw [hm2, HM1.out]))
        clear hU8 HR6 HMO6 HSC HRW qr b0 hm2 hW8
        have b0 := HR8.out.b0
        have bz := HR8.out.b2
        have hk := HMO8.out.k
        go_wp2_with (first
          | (refine load_mb rfl (.tmp 2) rfl w.heap.size rfl _ b0 hk ?_)
          | (refine store_mb rfl (.tmp 4) (.tmp 37) rfl (w.heap.size + 1 + 1) rfl _ rfl hk zM bz zM_ok ?_
             intro W9 hW9 hU9))
        refine bodyPost_ret (v := .tuple #[.agg (mA M2), .int .i64 0]) (by simp [results, Try.results15, asAddr, ld_mb hW9 hk Try.underlying45]) rfl ?_
        exact ⟨_, _, HSB.out, rfl, (HMO8.out.upd hU9 (Nat.lt_succ_self _)).mono (Nat.le_trans (Nat.le_succ _) (Nat.le_trans (Nat.le_succ _) (Nat.le_succ _))), HR8.out.bel.trans (hU9.below.mono (Nat.le_trans (Nat.le_succ _) (Nat.le_succ _)))⟩
end Go.Proofs.Ytidcbboonjenhaa
