/- The law of budgets BudgetOwn, walked. -/
import Derived.Test.YthmcnopogahffaaBudN
namespace Go.Proofs.Ythmcnopogahffaa
open Go.RowKit Go.Shelf Go.Proofs.Ythmcnopogahffaa.Bud
/-- a plan that is one's own, or nothing -/
structure OwnP (W : World) (B : Nat) (V : Value) (m : Nat) (plan : List Bt) : Prop where
  few : m ≤ 64
  len : plan.length = m
  sl : Kt.Sl W B 31 2 V m (bv plan)
theorem own_of {lanes : Int} {ps : List Int} {B : Nat} {w' : World} {V : Value} {c : Int} (h : Told lanes ps B w' V c) : ∃ A m plan, V = .slice A m m ∧ OwnP w' B (.slice A m m) m plan ∧ (c = 0 ∨ m = 0) := by
  cases h with
  | bad => exact ⟨none, 0, [], rfl, ⟨by decide, rfl, Kt.Sl.nil _ _ _ _⟩, .inr rfl⟩
  | full => exact ⟨none, 0, [], rfl, ⟨by decide, rfl, Kt.Sl.nil _ _ _ _⟩, .inr rfl⟩
  | ok plan g ha hs hl hr hg hrow =>
    obtain ⟨_, hlen, _⟩ := args_zero ha
    refine ⟨_, _, plan, rfl, ⟨hlen, hl, by rw [bv_len, hl], .inr ⟨g, 0, ps.length, _, rfl, hg, hrow, Nat.le_refl _, by unfold maxLen; omega, ?_, fun j u hj => ?_⟩⟩, .inl rfl⟩
    · simp [bv_len, hl]
    · simpa using hj
theorem wrap512 {j m : Nat} (h : j < m) (hm : m ≤ 512) : wrap64 ((j : Int) + 1) = ((j + 1 : Nat) : Int) := by unfold wrap64; omega
theorem bv_cells' (l : List Bt) : ∀ u ∈ bv l, u.oneCell' = true := fun u hu => by
  obtain ⟨b, _, h⟩ := List.mem_flatMap.1 hu
  simp at h
  rcases h with rfl | rfl <;> rfl
set_option maxRecDepth 100000 in
set_option maxHeartbeats 6400000 in
theorem own_walk (v0 v1 : Value) (w : World) (r0 : Fr.RdV w reachBytes (.slice 1 (.int .i64)) v0) (r1 : Fr.RdV w reachBytes (.int .i64) v1) (m0 : ∀ a l c, v0 = .slice a l c → l * Try.prog.bytesOf 3 ≤ reachBytes) :
    Calls Try.prog 8 #[v0, v1] w fun e w' => e = .returned (.bool true) ∧ Below w.heap.size w w' := by
  obtain ⟨A0, c0, n, ps, hn, rfl, hv, hm⟩ := ps_of r0 m0
  obtain ⟨lanes, e1, _⟩ := r1
  cases e1
  clear r0 m0
  have HP := Lib.hid (fun W (hb : Below w.heap.size w W) => plan_calls lanes ps A0 n c0 hn W (hv.on hb) hm)
  have HLD := Lib.hid (fun W lanes bs PA n2 pc hn2 (hb : Below w.heap.size w W) hp hm2 => load_calls lanes 0 ps bs A0 PA n n2 c0 pc hn hn2 W (hv.on hb) hp hm hm2)
  have HCL := Lib.hid (clonen_calls (.slice A0 n c0) n (iv ps) w hv (iv_cells ps) hm)
  have HEQ := Lib.hid (fun W V (hb : Below w.heap.size w W) h2 => eqn_calls (.slice A0 n c0) V ps ps W (by rw [hn]; exact hv.on hb) h2 (by rw [hn]; exact hm))
  have HL := Lib.hid lives_calls
  have HN := Lib.hid hn
  have HM := Lib.hid hm
  clear hv hm hn
  go_enter Try.func8, Try.ntmps8
  go_wp2_with fail
  refine HCL.out.mono ?_
  rintro _ w1 ⟨CA, cc, rfl, hs, hb⟩
  have HB1 := Lib.hid hb
  have HAC := Lib.hid (Kt.Ar.of_sl hs)
  clear hs hb HCL
  go_wp2_with fail
  refine (HP.out w1 HB1.out).mono ?_
  rintro _ w2 ⟨hb, V, c, rfl, hpl⟩
  obtain ⟨PA, m, plan, rfl, hop, hc0⟩ := own_of (told_of hpl)
  have HB2 := Lib.hid (Kt.bthen HB1.out hb)
  have HAC2 := Lib.hid (HAC.out.on hb)
  have HOP := Lib.hid hop
  have HC0 := Lib.hid hc0
  have HCB := Lib.hid (cloneb_calls (.slice PA m m) m (bv plan) w2 (Kt.Ar.of_sl hop.sl) (bv_cells' plan) (Nat.le_trans hop.few (by decide)))
  clear hb hpl hop hc0 HB1 HAC
  go_wp2_with fail
  refine HCB.out.mono ?_
  rintro _ w3 ⟨WA, wc, rfl, hs, hb⟩
  have HB3 := Lib.hid (Kt.bthen HB2.out hb)
  have HAC3 := Lib.hid (HAC2.out.on hb)
  have HPA := Lib.hid ((Kt.Ar.of_sl HOP.out.sl).on hb)
  have HWA := Lib.hid (Kt.Ar.of_sl hs)
  clear hb hs HB2 HAC2 HCB
  go_wp2_with fail
  refine (HP.out w3 HB3.out).mono ?_
  rintro _ w4 ⟨hb, V, c4, rfl, hpl⟩
  obtain ⟨QA, mq, pq, rfl, hoq, _⟩ := own_of (told_of hpl)
  have HB4 : Hid (Below w3.heap.size w3 w4) := Lib.hid hb
  have HSQ := Lib.hid hoq.sl
  have HMQ := Lib.hid hoq.few
  clear hb hpl hoq HP
  go_wp2_with fail
  go_loopw [33] (fun vi wr => ∃ (i : Nat) (xs : List Value), Hid (i ≤ mq) ∧ vi = .int .i64 i ∧ Hid (Kt.Sl wr w3.heap.size 31 2 (.slice QA mq mq) mq xs) ∧ Hid (Below w3.heap.size w3 wr)) (fun vi _ => mq - (intOf vi).toNat)
  case atStart => exact ⟨0, _, Lib.hid (Nat.zero_le _), rfl, HSQ, HB4⟩
  case round =>
    clear HSQ HB4
    obtain ⟨i, xs, HI, rfl, HSQ, HB4⟩ := hrel
    by_cases hlt : i < mq
    · have t1 := lt_int hlt
      have hw := i_next hlt HMQ.out
      have HW := Lib.hid hw
      have HLT := Lib.hid hlt
      obtain ⟨g, o, cap, e, hg1, hgs, _, _, hcells, hfr⟩ := HSQ.out.cells (Nat.lt_of_le_of_lt (Nat.zero_le _) hlt)
      cases e
      have hxl := HSQ.out.1
      obtain ⟨a1, x1⟩ : ∃ a, wr.cell? ⟨g, o + i * 2, none⟩ = some a := ⟨_, hcells (i * 2) (by rw [hxl]; omega)⟩
      obtain ⟨a2, x2⟩ : ∃ a, wr.cell? ⟨g, o + i * 2 + 1, none⟩ = some a := ⟨_, hcells (i * 2 + 1) (by rw [hxl]; omega)⟩
      have f1 := hfr (o + i * 2)
      have f2 := hfr (o + i * 2 + 1)
      have HS1 := Lib.hid ((HSQ.out.put (i * 2) (by omega) (.int .i64 9)).put (i * 2 + 1) (by omega) (.int .i64 0))
      have HBN := Lib.hid ((HB4.out.setCell (p := ⟨g, o + i * 2, none⟩) hg1 (.int .i64 9)).setCell (p := ⟨g, o + (i * 2 + 1), none⟩) hg1 (.int .i64 0))
      clear hcells hfr hxl hlt hw hgs hg1
      go_wp2_with fail
      go_roundw
      case rel => exact ⟨i + 1, _, HLT, congrArg _ (by first | rfl | exact HW.out), HS1, HBN⟩
      case measure => (try rw [HW.out]); exact meas_up HLT.out
    · have t1 : ¬ (i : Int) < mq := fun h => hlt (Int.ofNat_lt.1 h)
      have HB5 := Lib.hid (Kt.bthen HB3.out HB4.out)
      have HPN := Lib.hid (HPA.out.on HB4.out)
      have HLC := Lib.hid (fun X => HLD.out wr X (cas plan) PA m m ((cas_len plan).trans HOP.out.len) HB5.out (by rw [spv_cas]; exact HPN.out) (Nat.le_trans HOP.out.few (by decide)))
      clear hlt HSQ
      go_wp2_with fail
      refine (HLC.out _).mono ?_
      rintro _ w5 ⟨hb, VL, cl, ml, l, rfl, hs, hml, _⟩
      have HB6 : Hid (Below w3.heap.size w3 w5) := Lib.hid (HB4.out.trans (hb.mono HB4.out.size))
      have HSL := Lib.hid (hs.mono HB4.out.size)
      have HML := Lib.hid hml
      obtain ⟨LA, lc, rfl, _, _⟩ := HSL.out.form
      clear hb hs hml HB4 HB5 HLC HPN
      go_wp2_with fail
      go_loopw [52] (fun vi wq => ∃ (j : Nat) (ys : List Value), Hid (j ≤ ml) ∧ vi = .int .i64 j ∧ Hid (Kt.Sl wq w3.heap.size 3 1 (.slice LA ml lc) ml ys) ∧ Hid (Below w3.heap.size w3 wq)) (fun vi _ => ml - (intOf vi).toNat)
      case atStart => exact ⟨0, _, Lib.hid (Nat.zero_le _), rfl, HSL, HB6⟩
      case round =>
        clear HSL HB6
        obtain ⟨j, ys, HJ, rfl, HSL, HB6⟩ := hrel
        by_cases hlt : j < ml
        · have t2 := lt_int hlt
          have hw : wrap64 ((j : Int) + 1) = ((j + 1 : Nat) : Int) := wrap512 hlt HML.out
          have HW := Lib.hid hw
          have HLT := Lib.hid hlt
          obtain ⟨g, o, cap, e, hg1, hgs, _, _, hcells, hfr⟩ := HSL.out.cells (Nat.lt_of_le_of_lt (Nat.zero_le _) hlt)
          cases e
          have hxl := HSL.out.1
          obtain ⟨a1, x1⟩ : ∃ a, wr.cell? ⟨g, o + j, none⟩ = some a := ⟨_, hcells j (by rw [hxl]; omega)⟩
          have f1 := hfr (o + j)
          have HS1 := Lib.hid (HSL.out.put j (by omega) (.int .i64 99))
          have HBN := Lib.hid (HB6.out.setCell (p := ⟨g, o + j, none⟩) hg1 (.int .i64 99))
          clear hcells hfr hxl hlt hw hgs hg1
          go_wp2_with fail
          go_roundw
          case rel => exact ⟨j + 1, _, HLT, congrArg _ (by first | rfl | exact HW.out), HS1, HBN⟩
          case measure => (try rw [HW.out]); exact meas_up HLT.out
        · have t2 : ¬ (j : Int) < ml := fun h => hlt (Int.ofNat_lt.1 h)
          have HB7 := Lib.hid (Kt.bthen HB3.out HB6.out)
          have HA1 := Lib.hid (HAC3.out.on HB6.out)
          have HA2 := Lib.hid (HPA.out.on HB6.out)
          have HA3 := Lib.hid (HWA.out.on HB6.out)
          clear hlt HSL HB6 HB3
          go_wp2_with fail
          refine (HL.out wr).mono ?_
          rintro _ w7 ⟨rfl, hb⟩
          have HB8 := Lib.hid (Kt.bthen HB7.out hb)
          have HA4 := Lib.hid (HA1.out.on hb)
          have HA5 := Lib.hid (HA2.out.on hb)
          have HA6 := Lib.hid (HA3.out.on hb)
          clear hb HB7 HA1 HA2 HA3
          go_wp2_with fail
          refine (HEQ.out w7 _ HB8.out (by rw [HN.out]; exact HA4.out)).mono ?_
          rintro _ w8 ⟨rfl, hb⟩
          have HB9 := Lib.hid (Kt.bthen HB8.out hb)
          have HEB := Lib.hid (eqb_calls (.slice PA m m) (.slice WA m wc) m m (bv plan) (bv plan) w8 (HA5.out.on hb) (HA6.out.on hb) (fun i hi => bv_cl plan i (by rw [HOP.out.len]; exact hi)) (fun i hi => bv_cl plan i (by rw [HOP.out.len]; exact hi)) (Nat.le_trans HOP.out.few (by decide)))
          have hdt : decide True = true := rfl
          try rw [hdt]
          clear hb HB8 HA4 HA5 HA6 hdt
          go_wp2_with fail
          refine HEB.out.mono ?_
          rintro _ w9 ⟨b, rfl, hbt, hb⟩
          obtain rfl : b = true := hbt.2 (by first | rfl | trivial)
          have HB10 := Lib.hid (Kt.bthen HB9.out hb)
          clear hb hbt HB9 HEB
          rcases HC0.out with hc | hc
          · subst hc
            go_wp2_with fail
            go_ret
            exact ⟨rfl, HB10.out⟩
          · subst hc
            go_wp2_with fail
            all_goals (go_ret; exact ⟨by first | rfl | simp, HB10.out⟩)
end Go.Proofs.Ythmcnopogahffaa
