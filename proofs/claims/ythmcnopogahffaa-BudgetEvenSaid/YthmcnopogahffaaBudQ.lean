/- The law of budgets BudgetEven, walked. -/
import Derived.Test.YthmcnopogahffaaBudO
namespace Go.Proofs.Ythmcnopogahffaa
open Go.RowKit Go.Shelf Go.Proofs.Ythmcnopogahffaa.Bud
theorem fr_add {F f : Nat} (hF : F ≤ 1099511627776) (hf : f < 32) : wrap64 ((F : Int) + (f : Int)) = ((F + f : Nat) : Int) := by unfold wrap64; omega
set_option maxRecDepth 100000 in
set_option maxHeartbeats 6400000 in
theorem even_walk (v0 v1 v2 v3 : Value) (w : World) (r0 : Fr.RdV w reachBytes (.slice 1 (.int .i64)) v0) (r1 : Fr.RdV w reachBytes (.slice 2 (.cat 1 (.int .i64) (.cat 1 (.int .i64) .nil))) v1) (r2 : Fr.RdV w reachBytes (.int .i64) v2) (r3 : Fr.RdV w reachBytes (.int .i64) v3) (m0 : ∀ a l c, v0 = .slice a l c → l * Try.prog.bytesOf 3 ≤ reachBytes) (m1 : ∀ a l c, v1 = .slice a l c → l * Try.prog.bytesOf 31 ≤ reachBytes) :
    Calls Try.prog 7 #[v0, v1, v2, v3] w fun e w' => e = .returned (.bool true) ∧ Below w.heap.size w w' := by
  obtain ⟨A0, c0, n, ps, hn, rfl, hv, hm⟩ := ps_of r0 m0
  obtain ⟨A1, c1, n1, bs, hn1, rfl, hv1, hm1⟩ := bs_of r1 m1
  obtain ⟨lanes, e1, _⟩ := r2
  obtain ⟨frame, e2, _⟩ := r3
  cases e1; cases e2
  clear r0 m0 r1 m1
  have HC := Lib.hid (fun W (hb : Below w.heap.size w W) => check_calls lanes ps bs A0 A1 n n1 c0 c1 hn hn1 W (hv.on hb) (hv1.on hb) hm hm1)
  have HLD := Lib.hid (fun W frame (hb : Below w.heap.size w W) => load_calls lanes frame ps bs A0 A1 n n1 c0 c1 hn hn1 W (hv.on hb) (hv1.on hb) hm hm1)
  have HL := Lib.hid lives_calls
  have HV := Lib.hid hv
  have HN := Lib.hid hn
  clear hv hm hv1 hm1 hn hn1
  go_enter Try.func7, Try.ntmps7
  go_wp2_with fail
  refine (HL.out w).mono ?_
  rintro _ w1 ⟨rfl, hb⟩
  have HB1 := Lib.hid hb
  clear hb
  go_wp2_with fail
  refine (HC.out w1 HB1.out).mono ?_
  rintro _ w2 ⟨hb, c, rfl, hc⟩
  have HB2 := Lib.hid (Kt.bthen HB1.out hb)
  have HCC := Lib.hid hc
  clear hb HB1 HC hc
  by_cases hgo : c = 0 ∧ 0 ≤ frame ∧ frame ≤ 1099511627776
  · obtain ⟨rfl, hf0, hf1⟩ := hgo
    have HG := Lib.hid (HCC.out.1 rfl)
    obtain ⟨⟨hl1, hl2⟩, hlen, hall⟩ := args_zero HG.out.a
    obtain ⟨L, hL⟩ : ∃ L : Nat, lanes = (L : Int) := ⟨lanes.toNat, by omega⟩
    obtain ⟨F, hF⟩ : ∃ F : Nat, frame = (F : Int) := ⟨frame.toNat, by omega⟩
    subst hL hF
    have HF1 : Hid (F ≤ 1099511627776) := Lib.hid (by omega)
    have HL8 : Hid (L ≤ 8) := Lib.hid (by omega)
    have HN64 : Hid (n ≤ 64) := Lib.hid (by rw [← HN.out]; exact hlen)
    have HIV := Lib.hid (show Kt.Ar w (.slice A0 n c0) 1 n (iz (nats ps)) by rw [← iv_nats hall]; exact HV.out)
    have HNQ : Hid ((nats ps).length = n) := Lib.hid (by rw [nats_len]; exact HN.out)
    have HPW : Hid (∀ i, i < n → pw (per (nats ps) i)) := Lib.hid (fun i hi => pw_nats hall i (by rw [HN.out]; exact hi))
    have HRT := Lib.hid (fun u t h1 (h2 : u < n) => rt_out HG.out.r u t h1 (by rw [HN.out]; exact h2))
    have HIB : Hid (∀ i, i < n → (bt (btn bs) i).1 < L ∧ (bt (btn bs) i).2 < per (nats ps) i) := Lib.hid (fun i hi => HG.out.r.inb i (List.mem_range.2 (by rw [HN.out]; exact hi)))
    have HLX : Hid (∀ f c l, LdIs (L : Int) ((F + f : Nat) : Int) ps bs c l → c = 0 ∧ l = ldl (nats ps) (btn bs) (F + f) n L) := Lib.hid (fun f c l h => by
      have := h HG.out (Int.natCast_nonneg _)
      rw [HN.out] at this
      exact this)
    have hmk := mk_ints n HN64.out
    have n0 : (0 : Int) ≤ n := Int.natCast_nonneg n
    have n1' : (n : Int) ≤ 64 := by have := HN64.out; omega
    clear hl1 hl2 hlen hall HV HCC
    go_wp2_with fail
    clear hmk n0 n1' hf0 hf1 HG
    generalize decide ((F : Int) < 0) = dz1
    generalize decide ((1099511627776 : Int) < (F : Int)) = dz2
    generalize (dz1 || dz2) = dz3
    have HHD : Hid (Hd w2.heap.size (cnts (nats ps) (btn bs) F 0 n []) (w2.alloc (.cells (iz (List.replicate n 0)).toArray 3))) := Lib.hid (by rw [cnts_zero]; exact heap_alloc_new w2 (.cells (iz (List.replicate n 0)).toArray 3))
    have HBD := Lib.hid (Kt.balloc HB2.out (.cells (iz (List.replicate n 0)).toArray 3))
    obtain ⟨G, hG⟩ : ∃ G, G = w2.heap.size := ⟨_, rfl⟩
    have HWG : Hid (w.heap.size ≤ G) := Lib.hid (by rw [hG]; exact HB2.out.size)
    rw [← hG] at HHD ⊢
    clear hG HB2
    generalize w2.alloc (.cells (iz (List.replicate n 0)).toArray 3) = w3 at *
    generalize nats ps = qs at *
    generalize btn bs = plan at *
    go_loopw [38] (fun vi wr => ∃ f : Nat, Hid (f ≤ 32) ∧ vi = .int .i64 f ∧ Hid (Hd G (cnts qs plan F f n []) wr) ∧ Hid (Below w.heap.size w wr)) (fun vi _ => 32 - (intOf vi).toNat)
    case atStart => exact ⟨0, Lib.hid (Nat.zero_le _), rfl, HHD, HBD⟩
    case round =>
      clear HHD HBD
      obtain ⟨f, HF, rfl, HHD, HB⟩ := hrel
      by_cases hlt : f < 32
      · have t1 : (f : Int) < 32 := lt_int (n := 32) hlt
        have hw := i_next hlt (n := 32) (by decide)
        have HW := Lib.hid hw
        have HLT := Lib.hid hlt
        have HLC := Lib.hid (HLD.out wr ((F : Int) + (f : Int)) HB.out)
        have HLX2 := Lib.hid (HLX.out f)
        clear hw hlt
        go_wp2_with fail
        refine HLC.out.mono ?_
        rintro _ w4 ⟨hb, V, c, m, l, rfl, hs, hm, hld⟩
        obtain ⟨rfl, hll⟩ := HLX2.out c l hld
        have HB4 := Lib.hid (Kt.bthen HB.out hb)
        have HH4 : Hid (Hd G (cnts qs plan F f n []) w4) := Lib.hid (Kt.row_on hb HHD.out)
        have hml : m = l.length := by have := hs.1; rw [iz_len, Nat.mul_one] at this; exact this.symm
        have HML := Lib.hid hml
        have hmL : m ≤ L := by rw [hml, hll]; exact ldl_few HPW.out HRT.out L
        have hmi : ¬ (L : Int) < m := by omega
        have HM8 : Hid (m ≤ 8) := Lib.hid (Nat.le_trans hmL HL8.out)
        have HS : Hid (Kt.Sl w4 (G + 1) 3 1 V m (iz l)) := Lib.hid (hs.mono (Nat.succ_le_of_lt HHD.out.lt))
        have HLE := Lib.hid hll
        have HMEM : Hid (∀ x ∈ l, x < n) := Lib.hid (fun x hx => by rw [hll] at hx; exact ldl_mem hx)
        clear hb hs hm hld hll hml hmL HB HHD HLC HLX2
        obtain ⟨VA, Vc, rfl, _, _⟩ := HS.out.form
        go_wp2_with fail
        clear hmi
        generalize decide (L < m) = dz4
        go_loopw [61] (fun vi wr => ∃ j : Nat, Hid (j ≤ m) ∧ vi = .int .i64 j ∧ Hid (Hd G (cnts qs plan F f n (l.take j)) wr) ∧ Hid (Below w.heap.size w wr) ∧ Hid (Kt.Sl wr (G + 1) 3 1 (.slice VA m Vc) m (iz l))) (fun vi _ => m - (intOf vi).toNat)
        case atStart => exact ⟨0, Lib.hid (Nat.zero_le _), rfl, HH4, HB4, HS⟩
        case round =>
          clear HH4 HB4 HS
          obtain ⟨j, HJ, rfl, HH, HB, HS⟩ := hrel
          by_cases hlt : j < m
          · have t2 := lt_int hlt
            have hw := i_next hlt (Nat.le_trans HM8.out (by decide))
            have HW2 := Lib.hid hw
            have HLT2 := Lib.hid hlt
            have hjl : j < l.length := by rw [← HML.out]; exact hlt
            obtain ⟨g, o, cap, e, hg1, _, _, _, hcells, _⟩ := HS.out.cells (Nat.lt_of_le_of_lt (Nat.zero_le _) hlt)
            cases e
            have hx0 := hcells j (by rw [iz_len]; exact hjl)
            have hxe : (iz l)[j]'(by rw [iz_len]; exact hjl) = .int .i64 ((l[j] : Nat) : Int) := by simp [iz]
            rw [hxe] at hx0
            have hxn := HMEM.out l[j] (List.getElem_mem hjl)
            have HTK : Hid (l.take (j + 1) = l.take j ++ [l[j]]) := Lib.hid (List.take_succ_eq_append_getElem hjl)
            obtain ⟨x, hx⟩ : ∃ x, x = l[j] := ⟨_, rfl⟩
            rw [← hx] at hx0 hxn HTK
            have hcx := HH.out.cell x (by rw [cnts_len]; exact hxn)
            have hfx := HH.out.free x
            have hbd := cnts_le (qs := qs) (plan := plan) (F := F) (f := f) (l := l.take j) x hxn (by rw [List.length_take]; have := HM8.out; omega)
            have hat := cnts_at qs plan F f n (l.take j) x hxn
            obtain ⟨T1, hT1⟩ : ∃ y, y = at' (cnts qs plan F f n (l.take j)) x := ⟨_, rfl⟩
            have HSET := Lib.hid (HH.out.set x (T1 + 1))
            rw [← hT1] at hcx hbd hat
            rw [hat, cnts_set qs plan F f n (l.take j) x hxn, ← HTK.out, ← hat] at HSET
            have hadd : wrap64 ((T1 : Int) + 1) = ((T1 + 1 : Nat) : Int) ∧ IntKind.i64.wrap ((T1 : Int) + 1) = ((T1 + 1 : Nat) : Int) := add1_facts rfl (by have := HLT.out; omega)
            obtain ⟨ha1, ha2⟩ := hadd
            have hgG : g ≠ G := by omega
            have HSN : Hid (Kt.Sl (wr.setCell ⟨G, x, none⟩ (.int .i64 ((T1 + 1 : Nat) : Int))) (G + 1) 3 1 (.slice (some ⟨g, o, none⟩) m Vc) m (iz l)) := Lib.hid (HS.out.set (p := ⟨G, x, none⟩) (fun k hk => by simp [Value.ownBlock] at hk; rw [← hk]; exact hgG) _)
            have HBN := Lib.hid (HB.out.setCell (p := ⟨G, x, none⟩) HWG.out (.int .i64 ((T1 + 1 : Nat) : Int)))
            have t3 := lt_int hxn
            have t4 : (0 : Int) ≤ x := Int.natCast_nonneg x
            clear hlt hw hjl hcells hxe hx hbd hat hT1 hgG hxn hg1
            go_wp2_with fail
            go_roundw
            case rel => exact ⟨j + 1, HLT2, congrArg _ (by first | rfl | exact HW2.out), HSET, HBN, HSN⟩
            case measure => (try rw [HW2.out]); exact meas_up HLT2.out
          · obtain rfl : j = m := Nat.le_antisymm HJ.out (Nat.not_lt.1 hlt)
            have t2 : ¬ (j : Int) < j := Int.lt_irrefl _
            have HHN : Hid (Hd G (cnts qs plan F (f + 1) n []) wr) := Lib.hid (by
              have h := HH.out
              rw [HML.out, List.take_length, HLE.out, cnts_frame (fun i hi => (HIB.out i hi).1)] at h
              exact h)
            clear hlt HH HS
            go_wp2_with fail
            go_roundw
            case rel => exact ⟨f + 1, HLT, congrArg _ (by first | rfl | exact HW.out), HHN, HB⟩
            case measure => (try rw [HW.out]); exact meas_up HLT.out
      · obtain rfl : f = 32 := Nat.le_antisymm HF.out (Nat.not_lt.1 hlt)
        have t1 : ¬ (((32 : Nat) : Int)) < 32 := by decide
        clear hlt
        go_wp2_with fail
        go_loopw [83] (fun vi wq => ∃ i : Nat, Hid (i ≤ n) ∧ vi = .int .i64 i ∧ Hid (Hd G (cnts qs plan F 32 n []) wq) ∧ Hid (Below w.heap.size w wq)) (fun vi _ => n - (intOf vi).toNat)
        case atStart => exact ⟨0, Lib.hid (Nat.zero_le _), rfl, HHD, HB⟩
        case round =>
          clear HHD HB
          obtain ⟨i, HI, rfl, HHD, HB⟩ := hrel
          by_cases hlt : i < n
          · have t2 := lt_int hlt
            have hw := i_next hlt HN64.out
            have HW := Lib.hid hw
            have HLT := Lib.hid hlt
            obtain ⟨g1, o1, rfl, _, x1⟩ := (HIV.out.on HB.out).izAt HNQ.out i hlt
            have hcx := HHD.out.cell i (by rw [cnts_len]; exact hlt)
            rw [cnts_all HPW.out (fun i hi => (HIB.out i hi).2) i hlt] at hcx
            have hp := HPW.out i hlt
            obtain ⟨P, hP⟩ : ∃ P, P = per qs i := ⟨_, rfl⟩
            rw [← hP] at hcx x1 hp
            have hq := quo_is P hp
            have p1 : (1 : Int) ≤ P := by have := (pw_pos hp).1; omega
            obtain ⟨Q, hQ⟩ : ∃ Q, Q = 32 / P := ⟨_, rfl⟩
            rw [← hQ] at hq hcx
            have hne : ((Q : Int) != (Q : Int)) = false := by simp
            clear hP hQ hp hw hlt
            go_upto_region 21 with (fail)
            go_quiet (fail)
            have HBN := Lib.hid (bdrewN HB.out nq)
            have HHN : Hid (Hd G (cnts qs plan F 32 n []) (wr.drewN nq)) := HHD
            clear x1 hcx
            go_wp2_with fail
            go_roundw
            case rel => exact ⟨i + 1, HLT, congrArg _ (by first | rfl | exact HW.out), HHN, HBN⟩
            case measure => (try rw [HW.out]); exact meas_up HLT.out
          · have t2 : ¬ (i : Int) < n := fun h => hlt (Int.ofNat_lt.1 h)
            clear hlt
            go_wp2_with fail
            go_ret
            exact ⟨rfl, HB.out⟩
  · have H3 : Hid (c ≠ 0 ∨ (c = 0 ∧ (frame < 0 ∨ (0 ≤ frame ∧ 1099511627776 < frame)))) := Lib.hid (by omega)
    rcases H3.out with h | ⟨rfl, h | ⟨h, h2⟩⟩
    all_goals
      clear hgo H3
      go_wp2_with fail
      refine (HL.out w2).mono ?_
      rintro _ w3 ⟨rfl, hb⟩
      have HB3 := Lib.hid (Kt.bthen HB2.out hb)
      clear hb HB2
      go_wp2_with fail
      go_ret
      exact ⟨rfl, HB3.out⟩
end Go.Proofs.Ythmcnopogahffaa
