/- host: Work walked. -/
import Derived.Test.YtidcbboonjenhaaHstG
namespace Go.Proofs.Ytidcbboonjenhaa
open Go.RowKit Classical Go.Proofs.Ytidcbboonjenhaa.Slt
structure RW2 (w : World) (M : Mv) (W : World) : Prop where
  b0 : Mb w.heap.size M W
  b1 : Mb (w.heap.size + 1) zM W
  bel : Below w.heap.size w W
  mo : MO W (w.heap.size + 1 + 1) M
theorem RW2.on {w : World} {M : Mv} {W W' : World} (h : RW2 w M W) (hb : Below W.heap.size W W') : RW2 w M W' := ⟨h.b0.on hb, h.b1.on hb, Kt.bthen h.bel hb, h.mo.on hb⟩
theorem RW2.al {w : World} {M : Mv} {W : World} (h : RW2 w M W) (c : Array Value) (t : TypeId) : RW2 w M (W.alloc (.cells c t)) := h.on (Kt.balloc (Below.refl _ W) _)
inductive WkR (M : Mv) (n : Int) : Ms → Int → Prop
  | no : ¬ (Vl M ∧ 1 ≤ n ∧ n ≤ 1000) → WkR M n M.ms 0
  | run (k : Nat) (m : Ms) : Vl M → 1 ≤ n → n ≤ 1000 → Pre M.ms k m → ((k : Int) = n ∨ ((k : Int) < n ∧ Stop m)) → WkR M n m k
def WkIs (M : Mv) (n : Int) (w : World) (en : Ending) (w' : World) : Prop := ∃ M1 k, WkR M n M1.ms k ∧ en = .returned (.tuple #[.agg (mA M1), .int .i64 k]) ∧ MO w' w.heap.size M1 ∧ Below w.heap.size w w'
theorem RC2.lt {w : World} {M : Mv} {W : World} (h : RC2 w M W) : w.heap.size + 1 + 1 ≤ W.heap.size := h.b1.lt'
theorem MO.ra0 {W : World} {B : Nat} {M : Mv} (h : MO W B M) : RA W (rgV M.C M.r) M.r := h.ma.ra
theorem k1000 {k n : Int} (h : 0 ≤ k ∧ k < n) (hn : n ≤ 1000) : wrap64 (k + 1) = k + 1 := by unfold wrap64; omega
set_option maxRecDepth 100000 in
set_option maxHeartbeats 12800000 in
theorem work_calls (M : Mv) (n : Int) (w : World) (hM : MA w M) (h1 : M.r.cs.length ≤ 5864062014805) (h2 : M.v.cs.length ≤ 5864062014805) (hw : Wf M.r.cs) (hw2 : Wf M.v.cs) : Calls Try.prog 13 #[.agg (mA M), .int .i64 n] w (WkIs M n w) := by
  have Z0 := zero_machine
  have HR := Lib.hid (RC2.start w M)
  have HCP := Lib.hid (fun W (hb : Below w.heap.size w W) => hcopied_calls M W (hM.on hb) h1 h2)
  have HK := Lib.hid hM.k
  have HVA := Lib.hid (fun C E W (hm : MA W { M with C := C, E := E }) => valid_calls { M with C := C, E := E } W hm (Nat.le_trans h1 (by decide)) (Nat.le_trans h2 (by decide)) hw hw2)
  have HW := Lib.hid hw; have HW2 := Lib.hid hw2
  clear hM h1 h2 hw hw2
  go_enter Try.func13, Try.ntmps13
  go_upto_region 1 with (fail)
  refine Kt.fold (fun W => RC2 w M W) HR.out ?_
  clear HR
  intro W1 hr
  have HR := Lib.hid hr
  have b0 := hr.b0
  have hk := HK.out
  clear hr
  go_wp2_with (refine load_mb rfl (.tmp 2) rfl w.heap.size rfl M b0 hk ?_)
  refine (HCP.out W1 HR.out.bel).mono ?_
  rintro _ W2 ⟨C, E, rfl, hmo, hb⟩
  have HR2 := Lib.hid (HR.out.on hb)
  have HMO := Lib.hid (hmo.mono (B' := w.heap.size + 1 + 1) HR.out.lt)
  have b2 := HR2.out.b0
  have hk2 : Mk { M with C := C, E := E } := hmo.k
  clear hb hmo HR b0 HCP
  go_upto_region 2 with (refine store_mb rfl (.tmp 2) (.tmp 20) rfl w.heap.size rfl _ rfl hk2 M b2 hk ?_
                         intro W3 hW3 hU3)
  obtain ⟨M1, hm1⟩ : ∃ M1 : Mv, M1 = { M with C := C, E := E } := ⟨_, rfl⟩
  have HV1 := Lib.hid (HVA.out C E)
  have HMS : Hid (M1.ms = M.ms) := Lib.hid (by rw [hm1]; rfl)
  have HVL : Hid (Vl M1 ↔ Vl M) := Lib.hid (by rw [hm1]; exact ⟨fun h => ⟨h.r, h.v, h.b, h.cw, h.ew⟩, fun h => ⟨h.r, h.v, h.b, h.cw, h.ew⟩⟩)
  rw [← hm1] at HV1 HMO hW3 hk2 ⊢
  have HR3 : Hid (RW2 w M1 W3) := Lib.hid ⟨hW3, hU3.mb HR2.out.b1 (by omega), HR2.out.bel.trans hU3.below, HMO.out.upd hU3 (by omega)⟩
  clear HVA hW3 hU3 HR2 HMO b2 hk hm1
  have hk := hk2
  have b0 := HR3.out.b0
  clear hk2
  go_wp2_with (refine load_mb rfl (.tmp 2) rfl w.heap.size rfl _ b0 hk ?_)
  refine (HV1.out W3 HR3.out.mo.ma).mono ?_
  rintro _ W4 ⟨q, rfl, hq, hb⟩
  have HR4 := Lib.hid (HR3.out.on hb)
  have HQ := Lib.hid hq
  replace b0 := HR4.out.b0
  have bz := HR4.out.b1
  clear hb hq HR3 HV1
  by_cases hgo : q = true ∧ 1 ≤ n ∧ n ≤ 1000
  · obtain ⟨rfl, hn1, hn2⟩ := hgo
    have HVV := Lib.hid (HVL.out.1 (HQ.out.1 rfl))
    have HN1 := Lib.hid hn1; have HN2 := Lib.hid hn2
    have HVS : Hid (Vs M1.ms) := Lib.hid (by rw [HMS.out]; exact vs_of HK.out HVV.out HW.out HW2.out)
    obtain ⟨N, hN⟩ : ∃ N : Nat, n = (N : Int) := ⟨n.toNat, by omega⟩
    subst hN
    have HPR : Hid (Pre M.ms 0 M1.ms) := Lib.hid (by rw [HMS.out]; exact .zero)
    have HVM : Hid (Vs M.ms) := Lib.hid (vs_of HK.out HVV.out HW.out HW2.out)
    clear HQ HVL b0 bz hk
    go_wp2_with fail
    generalize decide ((N : Int) < 1) = dz1
    generalize decide ((1000 : Int) < (N : Int)) = dz2
    generalize (dz1 || dz2) = dz3
    clear hn1 hn2
    go_loopw [34] (fun vi wr => ∃ (k : Nat) (Mx : Mv), Hid (k ≤ N) ∧ vi = .int .i64 k ∧ Hid (Pre M.ms k Mx.ms) ∧ Hid (RW2 w Mx wr)) (fun vi _ => N - (intOf vi).toNat)
    case atStart => exact ⟨0, M1, Lib.hid (Nat.zero_le _), rfl, HPR, HR4⟩
    case round =>
      clear HPR HR4 HVS
      obtain ⟨k, Mx, HKK, rfl, HPR, HR4⟩ := hrel
      have HVS := Lib.hid (HPR.out.vs HVM.out)
      have hk := HR4.out.mo.k
      have b0 := HR4.out.b0
      have bz := HR4.out.b1
      by_cases hlt : k < N
      · have t1 := lt_intk hlt
        have HLT := Lib.hid hlt
        have hwk := k1000 (k := (k : Int)) (n := (N : Int)) ⟨Int.natCast_nonneg _, by omega⟩ HN2.out
        have HWK := Lib.hid hwk
        clear hlt hwk
        cases hf : fullB Mx.v with
        | true =>
          have HWR : Hid (WkR M (N : Int) Mx.ms (k : Int)) := Lib.hid (.run k Mx.ms HVV.out HN1.out HN2.out HPR.out (.inr ⟨by have := HLT.out; omega, .inl hf⟩))
          have HPT := Lib.hid (put_full (rgV Mx.E Mx.v) Mx.v 0 wr HR4.out.mo.ma.rb HVS.out.v hf)
          clear hf
          go_wp2_with (refine load_r1 rfl (.tmp 38) rfl w.heap.size rfl Mx b0 ?_)
          refine HPT.out.mono ?_
          rintro _ W6 ⟨n, hn, rfl, hb⟩
          subst hn
          have HR6 := Lib.hid ((HR4.out.on hb).al #[.slice none 0 0, .int .i64 0, .int .i64 0, .int .i64 0, .int .i64 0, .int .i64 0] 37)
          unfold zeroR rgV
          clear hb HPT HR4 b0 bz
          go_upto_region 8 with (fail)
          generalize W6.alloc (.cells #[.slice none 0 0, .int .i64 0, .int .i64 0, .int .i64 0, .int .i64 0, .int .i64 0] 37) = W7 at *
          have b0 := HR6.out.b0
          have bz := HR6.out.b1
          go_wp2_with (first
            | (refine load_mb rfl (.tmp 2) rfl w.heap.size rfl _ b0 hk ?_)
            | (refine store_mb rfl (.tmp 4) (.tmp 45) rfl (w.heap.size + 1) rfl _ rfl hk zM bz zM_ok ?_
               intro W9 hW9 hU9))
          refine bodyPost_ret (v := .tuple #[.agg (mA Mx), .int .i64 (k : Int)]) (by simp [results, Try.results13, asAddr, ld_mb hW9 hk Try.underlying45]) rfl ?_
          exact ⟨_, _, HWR.out, rfl, (HR6.out.mo.upd hU9 (Nat.lt_succ_self _)).mono (Nat.le_trans (Nat.le_succ _) (Nat.le_succ _)), HR6.out.bel.trans (hU9.below.mono (Nat.le_succ _))⟩
        | false =>
          have HPT := Lib.hid (put_ok (rgV Mx.E Mx.v) Mx.v 0 wr HR4.out.mo.ma.rb HVS.out.v hf)
          have HF := Lib.hid hf
          clear hf
          go_wp2_with (refine load_r1 rfl (.tmp 38) rfl w.heap.size rfl Mx b0 ?_)
          refine HPT.out.mono ?_
          rintro _ W6 ⟨V, rfl, ⟨C2, rfl, hC2⟩, hb⟩
          obtain ⟨CA, cc, hce, _, _⟩ := hC2.form
          subst hce
          obtain ⟨r2, hr2⟩ : ∃ r, r = putR Mx.v 0 := ⟨_, rfl⟩
          rw [← hr2]
          obtain ⟨nn, hnn⟩ : ∃ n, n = r2.cs.length := ⟨_, rfl⟩
          rw [← hnn]
          have HR6 := Lib.hid ((HR4.out.on hb).al #[.slice CA nn cc, .int .i64 r2.pa, .int .i64 r2.pb, .int .i64 r2.ga, .int .i64 r2.gb, .int .i64 r2.sn] 37)
          unfold rgV
          clear hb HPT HR4 b0 bz hC2 hr2 hnn
          go_upto_region 8 with (fail)
          generalize W6.alloc (.cells #[.slice CA nn cc, .int .i64 r2.pa, .int .i64 r2.pb, .int .i64 r2.ga, .int .i64 r2.gb, .int .i64 r2.sn] 37) = W7 at *
          have b0 := HR6.out.b0
          have bz := HR6.out.b1
          have q3 : W7.cell? ⟨w.heap.size, 3, none⟩ = some (.int .i64 Mx.r.ga) := b0.cell 3
          go_upto_region 11 with (fail)
          clear q3
          cases hg : getB Mx.r with
          | false =>
            have HWR : Hid (WkR M (N : Int) Mx.ms (k : Int)) := Lib.hid (.run k Mx.ms HVV.out HN1.out HN2.out HPR.out (.inr ⟨by have := HLT.out; omega, .inr hg⟩))
            have HGT := Lib.hid (get_no (rgV Mx.C Mx.r) Mx.r W7 HR6.out.mo.ma.ra HVS.out.r hg)
            clear hg
            go_wp2_with (refine load_r0 rfl (.tmp 52) rfl w.heap.size rfl Mx b0 ?_)
            refine HGT.out.mono ?_
            rintro _ W8 ⟨V, rfl, ⟨C3, rfl, hC3⟩, hb⟩
            obtain ⟨CB, cb, hce, _, _⟩ := hC3.form
            subst hce
            obtain ⟨r3, hr3⟩ : ∃ r, r = Mx.r := ⟨_, rfl⟩
            rw [← hr3]
            obtain ⟨nb, hnb⟩ : ∃ n, n = r3.cs.length := ⟨_, rfl⟩
            rw [← hnb]
            have HR8 := Lib.hid ((HR6.out.on hb).al #[.slice CB nb cb, .int .i64 r3.pa, .int .i64 r3.pb, .int .i64 r3.ga, .int .i64 r3.gb, .int .i64 r3.sn] 37)
            unfold rgV
            clear hb HGT HR6 b0 bz hC3 hr3 hnb
            go_upto_region 12 with (fail)
            generalize W8.alloc (.cells #[.slice CB nb cb, .int .i64 r3.pa, .int .i64 r3.pb, .int .i64 r3.ga, .int .i64 r3.gb, .int .i64 r3.sn] 37) = W9 at *
            have b0 := HR8.out.b0
            have bz := HR8.out.b1
            go_wp2_with (first
              | (refine load_mb rfl (.tmp 2) rfl w.heap.size rfl _ b0 hk ?_)
              | (refine store_mb rfl (.tmp 4) (.tmp 61) rfl (w.heap.size + 1) rfl _ rfl hk zM bz zM_ok ?_
                 intro W9 hW9 hU9))
            refine bodyPost_ret (v := .tuple #[.agg (mA Mx), .int .i64 (k : Int)]) (by simp [results, Try.results13, asAddr, ld_mb hW9 hk Try.underlying45]) rfl ?_
            exact ⟨_, _, HWR.out, rfl, (HR8.out.mo.upd hU9 (Nat.lt_succ_self _)).mono (Nat.le_trans (Nat.le_succ _) (Nat.le_succ _)), HR8.out.bel.trans (hU9.below.mono (Nat.le_succ _))⟩
          | true =>
            have HG := Lib.hid hg
            have HGT := Lib.hid (get_yes (rgV Mx.C Mx.r) Mx.r W7 HR6.out.mo.ma.ra HVS.out.r hg)
            have hxw := HVS.out.cw _ (cell_mem HVS.out.r)
            obtain ⟨x, hx⟩ : ∃ x : Nat, (cellAt Mx.r).1 = (x : Int) := ⟨(cellAt Mx.r).1.toNat, (Int.toNat_of_nonneg hxw.1).symm⟩
            have hx45 : x < 35184372088832 := by have := hxw.2; rw [show Mx.ms.r = Mx.r from rfl, hx] at this; omega
            rw [hx] at HGT
            have HX := Lib.hid hx; have HX45 := Lib.hid hx45
            have HUN := Lib.hid (fun W => unpack_calls x (by omega) W)
            rw [unR_is hx45] at HUN
            clear hg hxw hx hx45
            go_wp2_with (refine load_r0 rfl (.tmp 52) rfl w.heap.size rfl Mx b0 ?_)
            refine HGT.out.mono ?_
            rintro _ W8 ⟨V, rfl, ⟨C3, rfl, hC3⟩, hb⟩
            obtain ⟨CB, cb, hce, _, _⟩ := hC3.form
            subst hce
            obtain ⟨r3, hr3⟩ : ∃ r, r = getR Mx.r := ⟨_, rfl⟩
            rw [← hr3] at hC3 ⊢
            obtain ⟨nb, hnb⟩ : ∃ n, n = r3.cs.length := ⟨_, rfl⟩
            rw [← hnb] at hC3 ⊢
            have HSC := Lib.hid ((hC3.mono (B' := w.heap.size + 1 + 1) HR6.out.b1.lt').alloc (.cells #[.slice CB nb cb, .int .i64 r3.pa, .int .i64 r3.pb, .int .i64 r3.ga, .int .i64 r3.gb, .int .i64 r3.sn] 37))
            have HR8 := Lib.hid ((HR6.out.on hb).al #[.slice CB nb cb, .int .i64 r3.pa, .int .i64 r3.pb, .int .i64 r3.ga, .int .i64 r3.gb, .int .i64 r3.sn] 37)
            have HRW := Lib.hid (heap_alloc_new W8 (.cells #[.slice CB nb cb, .int .i64 r3.pa, .int .i64 r3.pb, .int .i64 r3.ga, .int .i64 r3.gb, .int .i64 r3.sn] 37))
            have HNB := Lib.hid hnb; have HR3 := Lib.hid hr3
            unfold rgV
            clear hb HGT HR6 b0 bz hC3 hr3 hnb
            go_upto_region 12 with (fail)
            obtain ⟨K, hK⟩ : ∃ K, K = W8.heap.size := ⟨_, rfl⟩
            rw [← hK] at HRW ⊢
            clear hK
            generalize W8.alloc (.cells #[.slice CB nb cb, .int .i64 r3.pa, .int .i64 r3.pb, .int .i64 r3.ga, .int .i64 r3.gb, .int .i64 r3.sn] 37) = W9 at *
            have b0 := HR8.out.b0
            have qr := fun i => cell_of_row _ _ i _ _ _ HRW.out
            go_upto_region 15 with (
              refine store_r0 rfl (.tmp 64) (.tmp 63) rfl w.heap.size rfl Mx b0 (.slice CB nb cb) r3 rfl rfl ?_
              intro W10 hW10 hU10)
            obtain ⟨M2, hm2⟩ : ∃ M2 : Mv, M2 = { Mx with C := .slice CB nb cb, r := r3 } := ⟨_, rfl⟩
            rw [← hm2] at hW10
            have HM2 : Hid (M2.r = r3 ∧ M2.v = Mx.v ∧ M2.l = Mx.l) := Lib.hid (by rw [hm2]; exact ⟨rfl, rfl, rfl⟩)
            have HR10 : Hid (RW2 w M2 W10) := Lib.hid ⟨hW10, hU10.mb HR8.out.b1 (by omega), HR8.out.bel.trans hU10.below, by
              have h6 := HR8.out.mo.upd hU10 (by omega)
              have hs := HSC.out.keep (w' := W10) fun k hk => hU10.other k (by have := (HSC.out.lt k hk).1; omega) (HSC.out.lt k hk).2
              rw [HNB.out] at hs hm2
              rw [hm2]
              exact ⟨⟨h6.k.l, rfl, h6.k.e⟩, hs, h6.e⟩⟩
            clear hU10 HR8 HSC HRW qr b0 hm2 hW10 hk
            go_wp2_with fail
            refine (HUN.out W10).mono ?_
            rintro _ W11 ⟨rfl, hb⟩
            have HR11 := Lib.hid ((HR10.out.on hb).al #[.int .i64 (uk x), .int .i64 (us x), .int .i64 (ue x), .int .i64 (ua x)] 23)
            have HCW := Lib.hid (heap_alloc_new W11 (.cells #[.int .i64 (uk x), .int .i64 (us x), .int .i64 (ue x), .int .i64 (ua x)] 23))
            clear hb HR10 HUN
            go_upto_region 16 with (fail)
            obtain ⟨K2, hK2⟩ : ∃ K, K = W11.heap.size := ⟨_, rfl⟩
            rw [← hK2] at HCW ⊢
            clear hK2
            generalize W11.alloc (.cells #[.int .i64 (uk x), .int .i64 (us x), .int .i64 (ue x), .int .i64 (ua x)] 23) = W12 at *
            have b0 := HR11.out.b0
            have hk := HR11.out.mo.k
            have qc := fun i => cell_of_row _ _ i _ _ _ HCW.out
            have HDO := Lib.hid (show Calls Try.prog 19 #[.agg (Kt.ia .i64 M2.l), .agg #[.int .i64 (uk x), .int .i64 (us x), .int .i64 (ue x), .int .i64 (ua x)]] W12 _ from do_calls M2.l hk.l (uk x) (us x) (ue x) (ua x) W12)
            go_wp2_with (refine load_bd rfl (.tmp 71) rfl w.heap.size rfl M2 b0 hk ?_)
            refine HDO.out.mono ?_
            rintro _ W13 ⟨l', c, m, hd, rfl, hb⟩
            have HD := Lib.hid hd
            have hl' : l'.length = 594 := (Did.ok hk.l (by rw [HM2.out.2.2]; exact HVS.out.b) hd).1
            have HL' := Lib.hid hl'
            have HR13 := Lib.hid ((HR11.out.on hb).al (Kt.ia .i64 l') 43)
            have HBX : Hid (Bx 43 W13.heap.size l' (W13.alloc (.cells (Kt.ia .i64 l') 43))) := Lib.hid (heap_alloc_new W13 _)
            have Z1 := zero_board
            have hs1 : (Try.prog.info? 43).map (·.size) = some l'.length := by rw [hl']; exact size_board
            have hs2 : (Kt.ia .i64 zb).size = l'.length := by rw [Kt.ia_size, zb_len, hl']
            clear hb HR11 HCW b0 qc HDO hd hk
            go_upto_region 17 with (refine store_new rfl 43 (.tmp 16) (.tmp 75) rfl W13.heap.size rfl rfl l' rfl (Kt.ia .i64 zb) hs2 hs1 ?_)
            clear Z1 hs2
            obtain ⟨K3, hK3⟩ : ∃ K, K = W13.heap.size := ⟨_, rfl⟩
            rw [← hK3] at HBX ⊢
            clear hK3
            generalize W13.alloc (.cells (Kt.ia .i64 l') 43) = W14 at *
            have b0 := HR13.out.b0
            have hk := HR13.out.mo.k
            have bx := HBX.out
            go_upto_region 18 with (first
              | (refine load_bx rfl 43 (.tmp 16) rfl K3 rfl l' bx Try.underlying43 hs1 ?_)
              | (refine store_bd rfl (.tmp 79) (.tmp 78) rfl w.heap.size rfl M2 b0 hk l' rfl hl' ?_
                 intro W15 hW15 hU15))
            obtain ⟨M3, hm3⟩ : ∃ M3 : Mv, M3 = { M2 with l := l' } := ⟨_, rfl⟩
            rw [← hm3] at hW15
            have HM3 : Hid (M3.r = r3 ∧ M3.v = Mx.v ∧ M3.l = l') := Lib.hid (by rw [hm3]; exact ⟨HM2.out.1, HM2.out.2.1, rfl⟩)
            have HR15 : Hid (RW2 w M3 W15) := Lib.hid ⟨hW15, hU15.mb HR13.out.b1 (by omega), HR13.out.bel.trans hU15.below, by
              have h6 := HR13.out.mo.upd hU15 (by omega)
              rw [hm3]
              exact ⟨⟨hl', h6.k.c, h6.k.e⟩, h6.c, h6.e⟩⟩
            clear hU15 HR13 HBX bx b0 hk hm3 hW15 hs1 hl'
            have b0 := HR15.out.b0
            obtain ⟨⟨hc0, hc1⟩, hm0, hm1⟩ := Did.bd HD.out
            have hg0 : 0 ≤ Mx.r.ga := HVS.out.r.ga.1
            have hg1 : Mx.r.ga < 64 := by have h := HVS.out.r.ga.2; have h2 := HVS.out.r.hi; have e : Mx.ms.r = Mx.r := rfl; rw [e] at h h2; omega
            have HEV := Lib.hid (ev_bits (c := c) (n := m) (p := Mx.r.ga) ⟨hc0, hc1⟩ ⟨hm0, hm1⟩ ⟨hg0, hg1⟩)
            have HPT := Lib.hid (put_ok (rgV M3.E M3.v) M3.v (ev c m Mx.r.ga) W15 HR15.out.mo.ma.rb (by rw [HM3.out.2.1]; exact HVS.out.v) (by rw [HM3.out.2.1]; exact HF.out))
            go_wp2_with (refine load_r1 rfl (.tmp 81) rfl w.heap.size rfl M3 b0 ?_)
            rw [HEV.out]
            refine HPT.out.mono ?_
            rintro _ W16 ⟨V, rfl, ⟨C4, rfl, hC4⟩, hb⟩
            obtain ⟨CD, cd, hce, _, _⟩ := hC4.form
            subst hce
            obtain ⟨r4, hr4⟩ : ∃ r, r = putR M3.v (ev c m Mx.r.ga) := ⟨_, rfl⟩
            rw [← hr4] at hC4 ⊢
            have HSC := Lib.hid (hC4.mono (B' := w.heap.size + 1 + 1) HR15.out.b1.lt')
            have HR16 := Lib.hid (HR15.out.on hb)
            have HR4' := Lib.hid hr4
            have b6 := HR16.out.b0
            clear hb HR15 hC4 hr4 b0 HPT HEV hc0 hc1 hm0 hm1 hg0 hg1
            go_wp2_with (
              refine store_r1 rfl (.tmp 96) (.tmp 94) rfl w.heap.size rfl M3 b6 (.slice CD r4.cs.length cd) r4 rfl rfl ?_
              intro W17 hW17 hU17)
            go_roundw
            case rel =>
              refine ⟨k + 1, { M3 with E := .slice CD r4.cs.length cd, v := r4 }, HLT, congrArg _ (by first | rfl | exact HWK.out), Lib.hid (.step HPR.out ?_), Lib.hid ⟨hW17, hU17.mb HR16.out.b1 (by omega), HR16.out.bel.trans hU17.below, ?_⟩⟩
              · have e : ({ M3 with E := .slice CD r4.cs.length cd, v := r4 } : Mv).ms = ⟨getR Mx.ms.r, putR Mx.ms.v (ev c m Mx.ms.r.ga), l'⟩ := by
                  show Ms.mk M3.r r4 M3.l = Ms.mk (getR Mx.r) (putR Mx.v (ev c m Mx.r.ga)) l'
                  rw [HM3.out.1, HM3.out.2.2, HR3.out, HR4'.out, HM3.out.2.1]
                rw [e]
                have hd := HD.out
                rw [HM2.out.2.2] at hd
                exact .mk x l' c m HF.out HG.out HX.out hd
              · have h6 := HR16.out.mo.upd hU17 (by omega)
                have hs := HSC.out.keep (w' := W17) fun k hk => hU17.other k (by have := (HSC.out.lt k hk).1; omega) (HSC.out.lt k hk).2
                exact ⟨⟨h6.k.l, h6.k.c, rfl⟩, h6.c, hs⟩
            case measure =>
              first
                | exact meas_up HLT.out
                | (rw [HWK.out]; exact meas_up HLT.out)
      · have t1 : ¬ (k : Int) < N := fun h => hlt (Int.ofNat_lt.1 h)
        have HWR : Hid (WkR M (N : Int) Mx.ms (N : Int)) := Lib.hid (by
          have e : k = N := Nat.le_antisymm HKK.out (Nat.not_lt.1 hlt)
          subst e
          exact .run k Mx.ms HVV.out HN1.out HN2.out HPR.out (.inl rfl))
        clear hlt
        go_wp2_with (first
          | (refine load_mb rfl (.tmp 2) rfl w.heap.size rfl _ b0 hk ?_)
          | (refine store_mb rfl (.tmp 4) (.tmp 98) rfl (w.heap.size + 1) rfl _ rfl hk zM bz zM_ok ?_
             intro W9 hW9 hU9))
        refine bodyPost_ret (v := .tuple #[.agg (mA Mx), .int .i64 (N : Int)]) (by simp [results, Try.results13, asAddr, ld_mb hW9 hk Try.underlying45]) rfl ?_
        exact ⟨_, _, HWR.out, rfl, (HR4.out.mo.upd hU9 (Nat.lt_succ_self _)).mono (Nat.le_trans (Nat.le_succ _) (Nat.le_succ _)), HR4.out.bel.trans (hU9.below.mono (Nat.le_succ _))⟩
  · have HNO : Hid (¬ (Vl M ∧ 1 ≤ n ∧ n ≤ 1000)) := Lib.hid (fun h => hgo ⟨HQ.out.2 (HVL.out.2 h.1), h.2⟩)
    have HWR : Hid (WkR M n M1.ms 0) := Lib.hid (by rw [HMS.out]; exact .no HNO.out)
    have h3 : q = false ∨ (q = true ∧ (n < 1 ∨ (1 ≤ n ∧ 1000 < n))) := by
      cases q with
      | false => exact .inl rfl
      | true =>
        refine .inr ⟨rfl, ?_⟩
        by_cases h : n < 1
        · exact .inl h
        · exact .inr ⟨by omega, Int.not_le.1 fun h2 => hgo ⟨rfl, by omega, h2⟩⟩
    clear hgo HNO HQ HVL
    rcases h3 with rfl | ⟨rfl, h3 | ⟨h3, h4⟩⟩
    all_goals
      go_wp2_with (first
        | (refine load_mb rfl (.tmp 2) rfl w.heap.size rfl _ b0 hk ?_)
        | (refine store_mb rfl (.tmp 4) (.tmp 32) rfl (w.heap.size + 1) rfl _ rfl hk zM bz zM_ok ?_
           intro W9 hW9 hU9))
      refine bodyPost_ret (v := .tuple #[.agg (mA M1), .int .i64 0]) (by simp [results, Try.results13, asAddr, ld_mb hW9 hk Try.underlying45]) rfl ?_
      exact ⟨_, _, HWR.out, rfl, (HR4.out.mo.upd hU9 (Nat.lt_succ_self _)).mono (Nat.le_trans (Nat.le_succ _) (Nat.le_succ _)), HR4.out.bel.trans (hU9.below.mono (Nat.le_succ _))⟩
end Go.Proofs.Ytidcbboonjenhaa
