/- The laws of budgets, walked: Kraft, Apart. -/
import Derived.Test.YthmcnopogahffaaBudL
namespace Go.Proofs.Ythmcnopogahffaa
open Go.RowKit Go.Shelf Go.Proofs.Ythmcnopogahffaa.Bud
theorem ps_of {w : World} {v : Value} (r : Fr.RdV w reachBytes (.slice 1 (.int .i64)) v) (m : ∀ a l c, v = .slice a l c → l * Try.prog.bytesOf 3 ≤ reachBytes) : ∃ A c n l, l.length = n ∧ v = .slice A n c ∧ Kt.Ar w (.slice A n c) 1 n (iv l) ∧ n ≤ 17592186044416 := by
  obtain ⟨ns, _, _, h⟩ := Kt.ar_ints r
  obtain ⟨A, c, rfl, _, _⟩ := h.form
  have hby : Try.prog.bytesOf 3 = 8 := by kernel_rfl
  have b := m _ _ _ rfl
  rw [hby] at b
  refine ⟨A, c, ns.length, ns, rfl, rfl, h, ?_⟩
  unfold reachBytes at b
  omega
set_option maxRecDepth 100000 in
set_option maxHeartbeats 3200000 in
theorem kraft_walk (v0 v1 : Value) (w : World) (r0 : Fr.RdV w reachBytes (.slice 1 (.int .i64)) v0) (r1 : Fr.RdV w reachBytes (.int .i64) v1) (m0 : ∀ a l c, v0 = .slice a l c → l * Try.prog.bytesOf 3 ≤ reachBytes) :
    Calls Try.prog 3 #[v0, v1] w fun e w' => e = .returned (.bool true) ∧ Below w.heap.size w w' := by
  obtain ⟨A0, c0, n, ps, hn, rfl, hv, hm⟩ := ps_of r0 m0
  obtain ⟨lanes, e1, _⟩ := r1
  cases e1
  clear r0 m0
  have HP := Lib.hid (plan_calls lanes ps A0 n c0 hn w hv hm)
  have HV := Lib.hid hv
  have HL := Lib.hid lives_calls
  clear hv hm
  go_enter Try.func3, Try.ntmps3
  go_wp2_with fail
  refine HP.out.mono ?_
  rintro _ w1 ⟨hb, V, c, rfl, hpl⟩
  have HB1 := Lib.hid hb
  have ht := told_of hpl
  clear hb hpl HP
  cases ht with
  | bad c ha hc =>
    clear ha HV
    go_wp2_with fail
    refine (HL.out w1).mono ?_
    rintro _ w2 ⟨rfl, hb⟩
    have HB2 := Lib.hid (Kt.bthen HB1.out hb)
    clear hb HB1
    rcases hc with rfl | rfl
    all_goals
      go_wp2_with fail
      refine (HL.out w2).mono ?_
      rintro _ w3 ⟨rfl, hb⟩
      have HB3 := Lib.hid (Kt.bthen HB2.out hb)
      clear hb HB2
      go_wp2_with fail
      go_ret
      exact ⟨rfl, HB3.out⟩
  | full ha hs =>
    obtain ⟨⟨hl1, hl2⟩, hlen, hall⟩ := args_zero ha
    have HSH := Lib.hid (fun W (hb : Below w.heap.size w W) => share_calls ps A0 n c0 hn W (HV.out.on hb) hall (by rw [← hn]; exact hlen))
    obtain ⟨L, hL⟩ : ∃ L : Nat, lanes = (L : Int) := ⟨lanes.toNat, by omega⟩
    subst hL
    have hss : ¬ (shareN ps : Int) ≤ 32 * (L : Int) := by have h := hs; rw [Int.toNat_natCast] at h; omega
    obtain ⟨S, hS⟩ : ∃ S : Int, S = (shareN ps : Int) := ⟨_, rfl⟩
    rw [← hS] at HSH hss
    clear hs hS hlen hall ha HV
    go_wp2_with fail
    refine (HL.out w1).mono ?_
    rintro _ w2 ⟨rfl, hb⟩
    have HB2 := Lib.hid (Kt.bthen HB1.out hb)
    clear hb HB1
    go_wp2_with fail
    refine (HSH.out w2 HB2.out).mono ?_
    rintro _ w3 ⟨rfl, hb⟩
    have HB3 := Lib.hid (Kt.bthen HB2.out hb)
    clear hb HB2 HSH
    go_wp2_with fail
    go_ret
    have hs2 : decide (S ≤ 32 * (L : Int)) = false := decide_eq_false (Int.not_le.2 hss)
    exact ⟨by rw [hs2]; rfl, HB3.out⟩
  | ok plan g ha hs hl hr hg hrow =>
    obtain ⟨⟨hl1, hl2⟩, hlen, hall⟩ := args_zero ha
    have HSH := Lib.hid (fun W (hb : Below w.heap.size w W) => share_calls ps A0 n c0 hn W (HV.out.on hb) hall (by rw [← hn]; exact hlen))
    obtain ⟨L, hL⟩ : ∃ L : Nat, lanes = (L : Int) := ⟨lanes.toNat, by omega⟩
    subst hL
    have hss : (shareN ps : Int) ≤ 32 * (L : Int) := by have h := hs; rw [Int.toNat_natCast] at h; omega
    obtain ⟨S, hS⟩ : ∃ S : Int, S = (shareN ps : Int) := ⟨_, rfl⟩
    rw [← hS] at HSH hss
    clear hs hS hlen hall ha HV hl hr hg hrow
    go_wp2_with fail
    refine (HL.out w1).mono ?_
    rintro _ w2 ⟨rfl, hb⟩
    have HB2 := Lib.hid (Kt.bthen HB1.out hb)
    clear hb HB1
    go_wp2_with fail
    refine (HSH.out w2 HB2.out).mono ?_
    rintro _ w3 ⟨rfl, hb⟩
    have HB3 := Lib.hid (Kt.bthen HB2.out hb)
    clear hb HB2 HSH
    go_wp2_with fail
    go_ret
    exact ⟨rfl, HB3.out⟩
theorem apart3 {X1 Y1 X2 Y2 P Q f : Nat} (hp : pw P) (hq : pw Q) (hc : confl (X1, Y1) (X2, Y2) P Q = false) (h1 : X1 = X2) (h2 : f % P = Y1) (h3 : f % Q = Y2) : False := by
  obtain ⟨d1, d2⟩ := dvd_min hp hq
  have e1 : (f % P) % min P Q = f % min P Q := Nat.mod_mod_of_dvd f d1
  have e2 : (f % Q) % min P Q = f % min P Q := Nat.mod_mod_of_dvd f d2
  have : confl (X1, Y1) (X2, Y2) P Q = true := by
    unfold confl
    simp only [Bool.and_eq_true, beq_iff_eq]
    exact ⟨h1, by rw [← h2, ← h3, e1, e2]⟩
  rw [this] at hc
  cases hc
theorem ar_at {w : World} {g n : Nat} {plan : List Bt} (h : Kt.Ar w (.slice (some ⟨g, 0, none⟩) n n) 2 n (bv plan)) (hn : plan.length = n) (i : Nat) (hi : i < n) : w.cell? ⟨g, i * 2, none⟩ = some (.int .i64 ((bt plan i).1 : Int)) ∧ w.cell? ⟨g, i * 2 + 1, none⟩ = some (.int .i64 ((bt plan i).2 : Int)) := by
  obtain ⟨b, o, e, _, h1, h2⟩ := h.bvAt hn i hi
  cases e
  rw [Nat.zero_add] at h1 h2
  exact ⟨h1, h2⟩
def cas (plan : List Bt) : List (Int × Int) := plan.map fun b => ((b.1 : Int), (b.2 : Int))
theorem cas_len (plan : List Bt) : (cas plan).length = plan.length := by simp [cas]
theorem spv_cas (plan : List Bt) : spv (cas plan) = bv plan := by
  unfold spv cas bv
  rw [List.flatMap_map]
theorem btn_cas (plan : List Bt) : btn (cas plan) = plan := by
  unfold btn cas
  rw [List.map_map]
  exact (List.map_congr_left (fun b _ => rfl)).trans (List.map_id plan)
theorem gd_cas {lanes : Int} {ps : List Int} {plan : List Bt} (ha : args lanes ps = 0) (hl : plan.length = ps.length) (hr : Rt (nats ps) lanes.toNat plan (List.range ps.length)) : Gd lanes ps (cas plan) := by
  obtain ⟨_, _, hall⟩ := args_zero ha
  refine ⟨ha, (cas_len plan).trans hl, fun j hj => ?_, by rw [btn_cas]; exact hr⟩
  have hj2 : j < (cas plan).length := by rw [cas_len, hl]; exact hj
  have hj3 : j < plan.length := by rw [hl]; exact hj
  obtain ⟨h1, h2⟩ := hr.inb j (List.mem_range.2 hj)
  have e1 : (cas plan)[j] = (((bt plan j).1 : Int), ((bt plan j).2 : Int)) := by
    simp [cas, bt, List.getD_eq_getElem?_getD, List.getElem?_eq_getElem hj3]
  have e2 : ((per (nats ps) j : Nat) : Int) = ps[j] := by
    unfold per nats
    rw [List.getD_eq_getElem?_getD, List.getElem?_map, List.getElem?_eq_getElem hj]
    exact (pw_of (List.all_eq_true.1 hall _ (List.getElem_mem hj))).2
  refine ⟨hj2, hj, ?_⟩
  rw [e1, ← e2]
  exact ⟨Int.natCast_nonneg _, by show ((bt plan j).1 : Int) < lanes; omega, Int.natCast_nonneg _, by show ((bt plan j).2 : Int) < _; omega⟩
set_option maxRecDepth 100000 in
set_option maxHeartbeats 6400000 in
theorem apart_walk (v0 v1 : Value) (w : World) (r0 : Fr.RdV w reachBytes (.slice 1 (.int .i64)) v0) (r1 : Fr.RdV w reachBytes (.int .i64) v1) (m0 : ∀ a l c, v0 = .slice a l c → l * Try.prog.bytesOf 3 ≤ reachBytes) :
    Calls Try.prog 4 #[v0, v1] w fun e w' => e = .returned (.bool true) ∧ Below w.heap.size w w' := by
  obtain ⟨A0, c0, n, ps, hn, rfl, hv, hm⟩ := ps_of r0 m0
  obtain ⟨lanes, e1, _⟩ := r1
  cases e1
  clear r0 m0
  have HP := Lib.hid (plan_calls lanes ps A0 n c0 hn w hv hm)
  have HV := Lib.hid hv
  have HL := Lib.hid lives_calls
  clear hv hm
  go_enter Try.func4, Try.ntmps4
  go_wp2_with fail
  refine HP.out.mono ?_
  rintro _ w1 ⟨hb, V, c, rfl, hpl⟩
  have HB1 := Lib.hid hb
  have ht := told_of hpl
  clear hb hpl HP
  have HNO : Hid (∀ c, Told lanes ps w.heap.size w1 V c → c ≠ 0 → V = .slice none 0 0 ∧ (c != 0) = true) := Lib.hid (fun c h hc => by cases h <;> first | exact ⟨rfl, by rw [bne_iff_ne]; exact hc⟩ | exact absurd rfl hc)
  by_cases hc : c = 0
  · cases ht with
    | bad _ _ h => rcases h with h | h <;> rw [h] at hc <;> cases hc
    | full => cases hc
    | ok plan g ha hs hl hr hg hrow =>
      obtain ⟨⟨hl1, hl2⟩, hlen, hall⟩ := args_zero ha
      have HGD := Lib.hid (gd_cas ha hl hr)
      rw [hn] at hl hr hlen ⊢
      have HN64 := Lib.hid hlen
      have HPW : Hid (∀ i, i < n → pw (per (nats ps) i)) := Lib.hid (fun i hi => pw_nats hall i (by rw [hn]; exact hi))
      have HNQ : Hid ((nats ps).length = n) := Lib.hid (by rw [nats_len, hn])
      have HNP : Hid (plan.length = n) := Lib.hid hl
      have HIV := Lib.hid (show Kt.Ar w (.slice A0 n c0) 1 n (iz (nats ps)) by rw [← iv_nats hall]; exact HV.out)
      have HAP := Lib.hid (ar_plan hrow hl)
      have HRT := Lib.hid (fun u t h1 h2 => rt_out hr u t h1 h2)
      have HCK := Lib.hid (fun W (hb : Below w.heap.size w W) (hb1 : Below w1.heap.size w1 W) => check_calls lanes ps (cas plan) A0 (some ⟨g, 0, none⟩) n n c0 n hn ((cas_len plan).trans hl) W (HV.out.on hb) (by rw [spv_cas]; exact HAP.out.on hb1) (Nat.le_trans hlen (by decide)) (Nat.le_trans hlen (by decide)))
      clear ha hs hl hr hg hrow hl1 hl2 hlen hall HNO HV hc
      generalize nats ps = qs at *
      go_wp2_with fail
      refine (HL.out w1).mono ?_
      rintro _ w2 ⟨rfl, hb⟩
      have HB2 := Lib.hid (Kt.bthen HB1.out hb)
      have HB12 := Lib.hid hb
      clear hb
      go_wp2_with fail
      go_loopw [30] (fun vi wr => ∃ i : Nat, Hid (i ≤ n) ∧ vi = .int .i64 i ∧ Hid (Below w.heap.size w wr) ∧ Hid (Below w1.heap.size w1 wr)) (fun vi _ => n - (intOf vi).toNat)
      case atStart => exact ⟨0, Lib.hid (Nat.zero_le _), rfl, HB2, HB12⟩
      case round =>
        clear HB2 HB12
        obtain ⟨i, HI, rfl, HB2, HB12⟩ := hrel
        by_cases hlt : i < n
        · have t1 := lt_int hlt
          have hw := i_next hlt HN64.out
          have HW := Lib.hid hw
          have HLT := Lib.hid hlt
          clear hw hlt
          go_wp2_with fail
          go_loopw [34] (fun vi wr => ∃ k : Nat, Hid (k ≤ i) ∧ vi = .int .i64 k ∧ Hid (Below w.heap.size w wr) ∧ Hid (Below w1.heap.size w1 wr)) (fun vi _ => i - (intOf vi).toNat)
          case atStart => exact ⟨0, Lib.hid (Nat.zero_le _), rfl, HB2, HB12⟩
          case round =>
            clear HB2 HB12
            obtain ⟨k, HK, rfl, HB2, HB12⟩ := hrel
            by_cases hlt : k < i
            · have t2 := lt_int hlt
              have hkn : k < n := Nat.lt_trans hlt HLT.out
              have t3 := lt_int hkn
              have hw := i_next hkn HN64.out
              have HW2 := Lib.hid hw
              have HLT2 := Lib.hid hlt
              have HKN := Lib.hid hkn
              clear hw hlt hkn
              go_wp2_with fail
              go_loopw [37] (fun vi wr => ∃ f : Nat, Hid (f ≤ 32) ∧ vi = .int .i64 f ∧ Hid (Below w.heap.size w wr) ∧ Hid (Below w1.heap.size w1 wr)) (fun vi _ => 32 - (intOf vi).toNat)
              case atStart => exact ⟨0, Lib.hid (Nat.zero_le _), rfl, HB2, HB12⟩
              case round =>
                clear HB2 HB12
                obtain ⟨f, HF, rfl, HB2, HB12⟩ := hrel
                by_cases hlt : f < 32
                · have t4 : (f : Int) < 32 := lt_int (n := 32) hlt
                  have hw := i_next hlt (n := 32) (by decide)
                  have HW3 := Lib.hid hw
                  have HLT3 := Lib.hid hlt
                  obtain ⟨g1, o1, rfl, _, x1⟩ := (HIV.out.on HB2.out).izAt HNQ.out i HLT.out
                  obtain ⟨g1', o1', e1, _, x2⟩ := (HIV.out.on HB2.out).izAt HNQ.out k HKN.out
                  cases e1
                  obtain ⟨y1, y2⟩ := ar_at (HAP.out.on HB12.out) HNP.out i HLT.out
                  obtain ⟨z1, z2⟩ := ar_at (HAP.out.on HB12.out) HNP.out k HKN.out
                  have hcf := HRT.out i k HLT2.out HLT.out
                  have hp1 := HPW.out i HLT.out
                  have hp2 := HPW.out k HKN.out
                  have t5 := lt_int HLT.out
                  have f0 : (0 : Int) ≤ f := Int.natCast_nonneg f
                  have HA3 := Lib.hid (fun (h1 : (bt plan i).1 = (bt plan k).1) h2 h3 => apart3 (X1 := (bt plan i).1) (Y1 := (bt plan i).2) (X2 := (bt plan k).1) (Y2 := (bt plan k).2) (f := f) hp1 hp2 hcf h1 h2 h3)
                  obtain ⟨X1, e1⟩ : ∃ x, x = (bt plan i).1 := ⟨_, rfl⟩
                  obtain ⟨Y1, e2⟩ : ∃ x, x = (bt plan i).2 := ⟨_, rfl⟩
                  obtain ⟨X2, e3⟩ : ∃ x, x = (bt plan k).1 := ⟨_, rfl⟩
                  obtain ⟨Y2, e4⟩ : ∃ x, x = (bt plan k).2 := ⟨_, rfl⟩
                  obtain ⟨P, e5⟩ : ∃ x, x = per qs i := ⟨_, rfl⟩
                  obtain ⟨Q, e6⟩ : ∃ x, x = per qs k := ⟨_, rfl⟩
                  rw [← e1] at y1 HA3
                  rw [← e2] at y2 HA3
                  rw [← e3] at z1 HA3
                  rw [← e4] at z2 HA3
                  rw [← e5] at x1 hp1 HA3
                  rw [← e6] at x2 hp2 HA3
                  have p1 : ¬ (P : Int) = 0 := by have := (pw_pos hp1).1; omega
                  have p2 : ¬ (Q : Int) = 0 := by have := (pw_pos hp2).1; omega
                  clear e1 e2 e3 e4 e5 e6 hp1 hp2 hcf hw hlt
                  go_upto_region 13 with (fail)
                  cases c1 : decide (X1 = X2) with
                  | false =>
                    have d1 : ((X1 : Int) == X2) = false := int_ne c1
                    go_quiet (fail)
                    have HN1 := Lib.hid (bdrewN HB2.out nq)
                    have HN2 := Lib.hid (bdrewN HB12.out nq)
                    clear x1 x2 y1 y2 z1 z2 c1 d1
                    go_wp2_with fail
                    go_roundw
                    case rel => exact ⟨f + 1, HLT3, congrArg _ (by first | rfl | exact HW3.out), HN1, HN2⟩
                    case measure => (try rw [HW3.out]); exact meas_up HLT3.out
                  | true =>
                    have d1 : ((X1 : Int) == X2) = true := int_eq c1
                    cases c2 : decide (f % P = Y1) with
                    | false =>
                      have d2 : ((f : Int) % (P : Int) == (Y1 : Int)) = false := (mod_is f P Y1).trans c2
                      go_quiet (fail)
                      have HN1 := Lib.hid (bdrewN HB2.out nq)
                      have HN2 := Lib.hid (bdrewN HB12.out nq)
                      clear x1 x2 y1 y2 z1 z2 c1 d1 c2 d2
                      go_wp2_with fail
                      go_roundw
                      case rel => exact ⟨f + 1, HLT3, congrArg _ (by first | rfl | exact HW3.out), HN1, HN2⟩
                      case measure => (try rw [HW3.out]); exact meas_up HLT3.out
                    | true =>
                      have d2 : ((f : Int) % (P : Int) == (Y1 : Int)) = true := (mod_is f P Y1).trans c2
                      have d3 : ((f : Int) % (Q : Int) == (Y2 : Int)) = false := (mod_is f Q Y2).trans (decide_eq_false (fun h => HA3.out (of_decide_eq_true c1) (of_decide_eq_true c2) h))
                      go_quiet (fail)
                      have HN1 := Lib.hid (bdrewN HB2.out nq)
                      have HN2 := Lib.hid (bdrewN HB12.out nq)
                      clear x1 x2 y1 y2 z1 z2 c1 d1 c2 d2 d3
                      go_wp2_with fail
                      go_roundw
                      case rel => exact ⟨f + 1, HLT3, congrArg _ (by first | rfl | exact HW3.out), HN1, HN2⟩
                      case measure => (try rw [HW3.out]); exact meas_up HLT3.out
                · have t4 : ¬ (f : Int) < 32 := fun h => hlt (Int.ofNat_lt.1 h)
                  clear hlt
                  go_wp2_with fail
                  go_roundw
                  case rel => exact ⟨k + 1, HLT2, congrArg _ (by first | rfl | exact HW2.out), HB2, HB12⟩
                  case measure => (try rw [HW2.out]); exact meas_up HLT2.out
            · have t2 : ¬ (k : Int) < i := fun h => hlt (Int.ofNat_lt.1 h)
              clear hlt
              go_wp2_with fail
              go_roundw
              case rel => exact ⟨i + 1, HLT, congrArg _ (by first | rfl | exact HW.out), HB2, HB12⟩
              case measure => (try rw [HW.out]); exact meas_up HLT.out
        · have t1 : ¬ (i : Int) < n := fun h => hlt (Int.ofNat_lt.1 h)
          clear hlt
          go_wp2_with fail
          refine (HCK.out wr HB2.out HB12.out).mono ?_
          rintro _ w3 ⟨hb, c, rfl, hc⟩
          have HB3 := Lib.hid (Kt.bthen HB2.out hb)
          obtain rfl : c = 0 := hc.2 HGD.out
          clear hb hc
          go_wp2_with fail
          go_ret
          exact ⟨rfl, HB3.out⟩
  · obtain ⟨rfl, hcn⟩ := HNO.out c ht hc
    clear ht HV HNO
    go_wp2_with fail
    refine (HL.out w1).mono ?_
    rintro _ w2 ⟨rfl, hb⟩
    have HB2 := Lib.hid (Kt.bthen HB1.out hb)
    clear hb HB1
    go_wp2_with fail
    refine (HL.out w2).mono ?_
    rintro _ w3 ⟨rfl, hb⟩
    have HB3 := Lib.hid (Kt.bthen HB2.out hb)
    clear hb HB2
    go_wp2_with fail
    go_ret
    exact ⟨rfl, HB3.out⟩
end Go.Proofs.Ythmcnopogahffaa
