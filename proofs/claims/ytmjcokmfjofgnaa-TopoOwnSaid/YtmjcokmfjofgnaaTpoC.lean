/- topo: fits, Check walked. -/
import Derived.Test.YtmjcokmfjofgnaaTpoX
import Derived.Test.YtmjcokmfjofgnaaSlm
namespace Go.Proofs.Ytmjcokmfjofgnaa
open Go.RowKit Go.Shelf Go.Proofs.Ytmjcokmfjofgnaa.Rou Go.Proofs.Ytmjcokmfjofgnaa.Tpo
theorem box3 (w : World) (c1 c2 c3 : Array Value) (t1 t2 t3 : TypeId) :
    (((w.alloc (.cells c1 t1)).alloc (.cells c2 t2)).alloc (.cells c3 t3)).heap[w.heap.size]? = some (.cells c1 t1 (0, 0)) ∧
    (((w.alloc (.cells c1 t1)).alloc (.cells c2 t2)).alloc (.cells c3 t3)).heap[w.heap.size + 1]? = some (.cells c2 t2 (0, 0)) ∧
    (((w.alloc (.cells c1 t1)).alloc (.cells c2 t2)).alloc (.cells c3 t3)).heap[w.heap.size + 1 + 1]? = some (.cells c3 t3 (0, 0)) ∧
    Below w.heap.size w (((w.alloc (.cells c1 t1)).alloc (.cells c2 t2)).alloc (.cells c3 t3)) := by
  have b1 := Kt.balloc (Below.refl _ (w.alloc (.cells c1 t1))) (.cells c2 t2)
  have b2 := Kt.balloc (Below.refl _ ((w.alloc (.cells c1 t1)).alloc (.cells c2 t2))) (.cells c3 t3)
  have r1 := heap_alloc_new w (.cells c1 t1)
  have r2 := heap_alloc_new (w.alloc (.cells c1 t1)) (.cells c2 t2)
  have r3 := heap_alloc_new ((w.alloc (.cells c1 t1)).alloc (.cells c2 t2)) (.cells c3 t3)
  rw [World.size_alloc] at r2
  rw [World.size_alloc, World.size_alloc] at r3
  exact ⟨Kt.row_on b2 (Kt.row_on b1 r1), Kt.row_on b2 r2, r3, Kt.balloc (Kt.balloc (Kt.balloc (Below.refl _ w) _) _) _⟩
set_option maxHeartbeats 1600000 in
theorem fits_calls (x : Nh) (l : List Nh) (V : Value) (w : World) (hv : Tr w V l) (hm : l.length ≤ mx) (hx : Rn w x) (h1 : 1 ≤ x.n.path.length) (h6 : x.n.path.length ≤ 6) :
    Calls Try.prog 23 #[V, x.v] w fun e w' => e = .returned (.bool (fitsB (nds l) x.n)) ∧ Below w.heap.size w w' := by
  obtain ⟨A0, c0, rfl, _, _⟩ := hv.ar.form
  obtain ⟨A, c, n⟩ := x
  obtain ⟨p, kd, po, se⟩ := n
  dsimp only at h1 h6
  obtain ⟨k, hk⟩ : ∃ k, p.length = k + 1 := ⟨p.length - 1, by omega⟩
  have HK := Lib.hid (And.intro hk h6)
  obtain ⟨b, o, hA, hb, hc⟩ := hx.way.cell k (by dsimp only; omega)
  dsimp only at hA
  subst hA
  obtain ⟨port, hport⟩ : ∃ z, p[k]'(by omega) = z := ⟨_, rfl⟩
  have hlast : lastOf p = port := by
    unfold lastOf
    rw [show p.length - 1 = k by omega, List.getD_eq_getElem?_getD, List.getElem?_eq_getElem (by omega), hport]; rfl
  rw [show (Nd.path ⟨p, kd, po, se⟩)[k] = port from hport] at hc
  have HL := Lib.hid hlast
  have HV := Lib.hid hv
  have HM := Lib.hid hm
  have HX := Lib.hid hx
  have HF : Hid (fitsB (nds l) ⟨p, kd, po, se⟩ = if p.length = 1 then decide (lastOf p ≤ 4) else (nds l).any (hubB ⟨p, kd, po, se⟩)) := Lib.hid rfl
  have hw1 : wrap64 ((p.length : Int) - 1) = (k : Int) := by unfold wrap64; omega
  have hk1 : (k : Int) < p.length := by omega
  clear hv hm hx h1 h6 hport hlast hk
  obtain ⟨r3, r5, r6, hb3⟩ := box3 w #[.slice (some ⟨b, o, none⟩) p.length c, .int .i64 kd, .int .i64 po, .int .i64 se] #[.int .i64 k] #[.int .i64 port] 25 3 3
  have hcon := contains_calls (hubB ⟨p, kd, po, se⟩) 36 #[.pointer (some ⟨w.heap.size + 1 + 1, 0, none⟩), .pointer (some ⟨w.heap.size, 0, none⟩), .pointer (some ⟨w.heap.size + 1, 0, none⟩)] l (.slice A0 l.length c0) _ (HV.out.on hb3) HM.out eg36 (fun x hx W hW =>
    hub_calls ⟨some ⟨b, o, none⟩, c, ⟨p, kd, po, se⟩⟩ x k _ _ _ W HK.out.1 (by dsimp only; rw [HL.out]; exact Kt.row_on hW r6) (Kt.row_on hW r3) (Kt.row_on hW r5) ((HX.out.on hb3).on hW) (((HV.out.on hb3).rn x hx).on hW))
  have HCON := Lib.hid hcon
  have HB3 := Lib.hid hb3
  have q6 := fun i => cell_of_row _ _ i _ _ _ r6
  have q5 := fun i => cell_of_row _ _ i _ _ _ r5
  clear hcon r3 r5 r6 hb3
  unfold Nh.v
  dsimp only
  by_cases h0 : k = 0
  · rw [if_pos (by have := HK.out.1; omega), HL.out] at HF
    have h0' : ((k : Int) == 0) = true := by rw [beq_iff_eq]; omega
    clear h0
    go_enter Try.func23, Try.ntmps23
    go_upto_region 3 with (fail)
    go_wp2_with fail
    go_ret
    exact ⟨by rw [HF.out]; rfl, HB3.out⟩
  · rw [if_neg (by have := HK.out.1; omega)] at HF
    have h0' : ((k : Int) == 0) = false := by rw [beq_eq_false_iff_ne]; omega
    clear h0
    obtain ⟨R, hR⟩ : ∃ R, (nds l).any (hubB ⟨p, kd, po, se⟩) = R := ⟨_, rfl⟩
    rw [hR] at HCON HF
    clear hR
    go_enter Try.func23, Try.ntmps23
    go_upto_region 3 with (fail)
    go_wp2_with fail
    refine HCON.out.mono ?_
    rintro e w1 ⟨rfl, hb1⟩
    have HB4 := Lib.hid (Kt.bthen HB3.out hb1)
    clear hb1 HCON q5 q6
    go_wp2_with fail
    go_ret
    exact ⟨by rw [HF.out]; rfl, HB4.out⟩
theorem sd_adj : ∀ (t : List Nd), (∀ j (h : j + 1 < t.length), lt (t[j]'(Nat.lt_of_succ_lt h)) t[j + 1]) → Sd t
  | [], _ => List.Pairwise.nil
  | [x], _ => List.pairwise_cons.2 ⟨fun _ h => (by cases h), List.Pairwise.nil⟩
  | x :: y :: t, h => by
    have ih : Sd (y :: t) := sd_adj (y :: t) (fun j hj => h (j + 1) (Nat.succ_lt_succ hj))
    have h0 : lt x y := h 0 (by simp)
    refine List.pairwise_cons.2 ⟨fun z hz => ?_, ih⟩
    rcases List.mem_cons.1 hz with rfl | hz
    · exact h0
    · exact lt_tr h0 ((List.pairwise_cons.1 ih).1 z hz)
theorem adj_sd {t : List Nd} (h : Sd t) (j : Nat) (hj : j + 1 < t.length) : lt (t[j]'(Nat.lt_of_succ_lt hj)) t[j + 1] := List.pairwise_iff_getElem.1 h j (j + 1) (Nat.lt_of_succ_lt hj) hj (Nat.lt_succ_self j)
theorem mem_nds {l : List Nh} {n : Nd} : n ∈ nds l ↔ ∃ x ∈ l, x.n = n := by unfold nds; rw [List.mem_map]
theorem up1 (k : Nat) (h : k ≤ 64) : wrap64 ((k : Int) + 1) = ((k + 1 : Nat) : Int) := by unfold wrap64; omega
theorem up1' (k : Nat) (h : k ≤ 64) : IntKind.i64.wrap ((k : Int) + 1) = ((k + 1 : Nat) : Int) := by rw [IntWalk.i64_in _ (by omega)]; omega
theorem dec1 {k L : Nat} (h : k < L) : L - (intOf (.int .i64 ((k + 1 : Nat) : Int))).toNat < L - (intOf (.int .i64 (k : Int))).toNat := by
  simp only [intOf]
  omega
set_option maxRecDepth 100000 in
set_option maxHeartbeats 3200000 in
theorem tcheck_calls (l : List Nh) (V : Value) (w : World) (hv : Tr w V l) :
    Calls Try.prog 13 #[V] w fun e w' => ∃ z, e = .returned (.int .i64 z) ∧ (z = 0 ↔ Rt (nds l)) ∧ Below w.heap.size w w' := by
  obtain ⟨A0, c0, rfl, _, _⟩ := hv.ar.form
  have HV := Lib.hid hv
  clear hv
  by_cases h40 : 40 < l.length
  · have h40' : (40 : Int) < l.length := by omega
    have HN : Hid (¬ Rt (nds l)) := Lib.hid (fun h => by have := h.len; rw [nds_len] at this; omega)
    clear h40
    go_enter Try.func13, Try.ntmps13
    go_wp2_with fail
    go_ret
    exact ⟨2, rfl, ⟨fun h => (by cases h), fun h => absurd h HN.out⟩, Below.refl _ _⟩
  · have h40' : ¬ (40 : Int) < l.length := by omega
    have H40 : Hid (l.length ≤ 40) := Lib.hid (by omega)
    clear h40
    go_enter Try.func13, Try.ntmps13
    go_wp2_with fail
    go_loopw [13] (fun ii wr => ∃ k : Nat, ii = .int .i64 k ∧ Hid (k ≤ l.length ∧ ∀ j (h : j < l.length), j < k → validB (l[j]).n = true) ∧ Hid (Below w.heap.size w wr)) (fun ii _ => l.length - (intOf ii).toNat)
    case atStart => exact ⟨0, rfl, Lib.hid ⟨Nat.zero_le _, fun j h hj => absurd hj (by omega)⟩, Lib.hid (Below.refl _ _)⟩
    case round =>
      obtain ⟨k, rfl, HK, HB⟩ := hrel
      by_cases hlt : k < l.length
      · have ek : (k : Int) < l.length := by omega
        obtain ⟨b, o, c, hve, hb0, x0, x1, x2, x3⟩ := Tr.node (HV.out.on HB.out) k hlt
        cases hve
        have hw1 := up1 k (by have := H40.out; omega)
        obtain ⟨x, hx⟩ : ∃ x, l[k]'hlt = x := ⟨_, rfl⟩
        rw [hx] at x0 x1 x2 x3
        have HX := Lib.hid (And.intro (show ∃ h : k < l.length, l[k]'h = x from ⟨hlt, hx⟩) hw1)
        have hrn := HV.out.nth k hlt
        rw [hx] at hrn
        have HRN := Lib.hid hrn
        obtain ⟨A, cc, n⟩ := x
        obtain ⟨p, kd, po, se⟩ := n
        dsimp only at x0 x1 x2 x3
        have hal := Kt.balloc HB.out (.cells #[.slice A p.length cc, .int .i64 kd, .int .i64 po, .int .i64 se] 25)
        have HC := Lib.hid (valid_calls ⟨A, cc, ⟨p, kd, po, se⟩⟩ _ (HRN.out.on hal))
        have HB1 := Lib.hid hal
        obtain ⟨v, hvb⟩ : ∃ v, validB ⟨p, kd, po, se⟩ = v := ⟨_, rfl⟩
        dsimp only at HC
        rw [hvb] at HC
        have HVB := Lib.hid hvb
        unfold Nh.v at HC
        clear hvb hal hrn hx hlt hw1
        cases v
        · go_wp2_with fail
          refine HC.out.mono ?_
          rintro e w1 ⟨rfl, hb⟩
          have HB2 := Lib.hid (Kt.bthen HB1.out hb)
          clear hb HC
          go_wp2_with fail
          go_ret
          refine ⟨1, rfl, ⟨fun h => (by cases h), fun h => ?_⟩, HB2.out⟩
          obtain ⟨h1, h2⟩ := HX.out.1
          have := h.valid _ (mem_nds.2 ⟨_, List.getElem_mem h1, rfl⟩)
          rw [h2, HVB.out] at this
          cases this
        · go_wp2_with fail
          refine HC.out.mono ?_
          rintro e w1 ⟨rfl, hb⟩
          have HB2 := Lib.hid (Kt.bthen HB1.out hb)
          clear hb HC x0 x1 x2 x3
          have hw1 := HX.out.2
          obtain ⟨hx1, hx2⟩ := HX.out.1
          have HX1 := Lib.hid (show k < l.length from hx1)
          have HX2 : Hid (∀ h : k < l.length, l[k]'h = (⟨A, cc, ⟨p, kd, po, se⟩⟩ : Nh)) := Lib.hid (fun h => hx2)
          clear hx1 hx2 HX
          go_wp2_with fail
          refine ⟨⟨k + 1, by first | rfl | rw [hw1], Lib.hid ⟨HX1.out, fun j h hj => ?_⟩, HB2⟩, by first | exact dec1 HX1.out | (rw [hw1]; exact dec1 HX1.out)⟩
          by_cases e : j = k
          · subst e; rw [HX2.out h]; exact HVB.out
          · exact HK.out.2 j h (by omega)
      · have ek : ¬ (k : Int) < l.length := by omega
        obtain rfl : k = l.length := by have := HK.out.1; omega
        have HVA : Hid (∀ x ∈ l, validB x.n = true) := Lib.hid (fun x hx => by
          obtain ⟨j, hj, rfl⟩ := List.mem_iff_getElem.1 hx
          exact HK.out.2 j hj hj)
        clear hlt HK
        go_wp2_with fail
        go_loopw [5] (fun ii wr => ∃ i : Nat, ii = .int .i64 i ∧ Hid (1 ≤ i ∧ i ≤ 64 ∧ ∀ j (h : j + 1 < l.length), j + 1 < i → lt (l[j]'(Nat.lt_of_succ_lt h)).n (l[j + 1]).n) ∧ Hid (Below w.heap.size w wr)) (fun ii _ => l.length - (intOf ii).toNat)
        case atStart => exact ⟨1, rfl, Lib.hid ⟨Nat.le_refl _, by decide, fun j h hj => absurd hj (by omega)⟩, HB⟩
        case round =>
          obtain ⟨i, rfl, HI, HB2⟩ := hrel
          clear HB
          by_cases hlt : i < l.length
          · have ei : (i : Int) < l.length := by omega
            obtain ⟨m, hm⟩ : ∃ m, i = m + 1 := ⟨i - 1, by have := HI.out.1; omega⟩
            have hml : m < l.length := by omega
            obtain ⟨b, o, c, hve, hb0, x0, z1, z2, z3⟩ := Tr.node (HV.out.on HB2.out) m hml
            obtain ⟨b2, o2, c2, hve2, z4, y0, z5, z6, z7⟩ := Tr.node (HV.out.on HB2.out) i hlt
            cases hve
            cases hve2
            clear z1 z2 z3 z4 z5 z6 z7
            have hw1 := up1 i (by have := H40.out; omega)
            have hwm : wrap64 ((i : Int) - 1) = (m : Int) := by unfold wrap64; omega
            have hwm' : IntKind.i64.wrap ((i : Int) - 1) = (m : Int) := by rw [IntWalk.i64_in _ (by have := H40.out; omega)]; omega
            have em : (m : Int) < l.length := by omega
            obtain ⟨x, hx⟩ : ∃ x, l[m]'hml = x := ⟨_, rfl⟩
            obtain ⟨y, hy⟩ : ∃ y, l[i]'hlt = y := ⟨_, rfl⟩
            have hr1 := HV.out.nth m hml
            have hr2 := HV.out.nth i hlt
            rw [hx] at x0 hr1
            rw [hy] at y0 hr2
            have HX1 := Lib.hid (show i < l.length from hlt)
            have HX2 : Hid (i = m + 1 ∧ (∀ h : m < l.length, l[m]'h = x) ∧ (∀ h : i < l.length, l[i]'h = y)) := Lib.hid ⟨hm, fun _ => hx, fun _ => hy⟩
            have HO := Lib.hid (fun n => orderD x.n.path y.n.path x.A y.A x.c y.c (wr.drewN n) ((hr1.way.on HB2.out).on (bdrewN (Below.refl _ _) n)) ((hr2.way.on HB2.out).on (bdrewN (Below.refl _ _) n)) (by have := hr1.le; unfold mx at this; unfold big; omega) (by have := hr2.le; unfold mx at this; unfold big; omega))
            obtain ⟨z, hz⟩ : ∃ z, ordR x.n.path y.n.path = z := ⟨_, rfl⟩
            rw [hz] at HO
            have HZ := Lib.hid hz
            clear hx hy hr1 hr2 hm hz hlt hml
            by_cases hz0 : 0 ≤ z
            · have HZ0 := Lib.hid hz0
              go_wp2_with fail
              go_quiet (exact Calls.quiet_of (HO.out _))
              go_wp2_with fail
              go_ret
              refine ⟨4, rfl, ⟨fun h => (by cases h), fun h => ?_⟩, bdrewN HB2.out _⟩
              obtain ⟨e1, e2, e3⟩ := HX2.out
              subst e1
              have hq := adj_sd h.sd m (by rw [nds_len]; exact HX1.out)
              rw [nds_at l m (by have := HX1.out; omega), nds_at l (m + 1) HX1.out, e2, e3] at hq
              unfold lt at hq
              rw [HZ.out] at hq
              have := HZ0.out
              omega
            · have hz1 : z < 0 := by omega
              have hz2 : decide (0 ≤ z) = false := decide_eq_false hz0
              have HZ0 := Lib.hid hz1
              clear hz0
              go_wp2_with fail
              go_quiet (exact Calls.quiet_of (HO.out _))
              go_wp2_with fail
              refine ⟨⟨i + 1, by first | rfl | rw [hw1], Lib.hid ⟨by omega, by have := H40.out; have := HX1.out; omega, fun j h hj => ?_⟩, Lib.hid (bdrewN HB2.out _)⟩, by first | exact dec1 HX1.out | (rw [hw1]; exact dec1 HX1.out)⟩
              by_cases e : j = m
              · obtain ⟨e1, e2, e3⟩ := HX2.out
                subst e e1
                rw [e2 (by omega), e3 h]
                unfold lt
                rw [HZ.out]
                exact HZ0.out
              · exact HI.out.2.2 j h (by have := HX2.out.1; omega)
          · have ei : ¬ (i : Int) < l.length := by omega
            have HSD : Hid (Sd (nds l)) := Lib.hid (sd_adj _ (fun j h => by
              rw [nds_len] at h
              rw [nds_at l j (by omega), nds_at l (j + 1) h]
              exact HI.out.2.2 j h (by omega)))
            clear hlt HI
            go_wp2_with fail
            go_loopw [42] (fun ii wr => ∃ k : Nat, ii = .int .i64 k ∧ Hid (k ≤ l.length ∧ ∀ j (h : j < l.length), j < k → fitsB (nds l) (l[j]).n = true) ∧ Hid (Below w.heap.size w wr)) (fun ii _ => l.length - (intOf ii).toNat)
            case atStart => exact ⟨0, rfl, Lib.hid ⟨Nat.zero_le _, fun j h hj => absurd hj (by omega)⟩, HB2⟩
            case round =>
              obtain ⟨k, rfl, HK, HB⟩ := hrel
              clear HB2
              by_cases hlt : k < l.length
              · have ek : (k : Int) < l.length := by omega
                obtain ⟨b, o, c, hve, hb0, x0, x1, x2, x3⟩ := Tr.node (HV.out.on HB.out) k hlt
                cases hve
                have hw1 := up1 k (by have := H40.out; omega)
                have hval := valid_len (HVA.out _ (List.getElem_mem hlt))
                obtain ⟨x, hx⟩ : ∃ x, l[k]'hlt = x := ⟨_, rfl⟩
                have hrn := HV.out.nth k hlt
                rw [hx] at x0 x1 x2 x3 hrn hval
                have HX1 := Lib.hid (show k < l.length from hlt)
                have HX2 : Hid (∀ h : k < l.length, l[k]'h = x) := Lib.hid (fun _ => hx)
                obtain ⟨A, cc, n⟩ := x
                obtain ⟨p, kd, po, se⟩ := n
                dsimp only at x0 x1 x2 x3
                have hal := Kt.balloc HB.out (.cells #[.slice A p.length cc, .int .i64 kd, .int .i64 po, .int .i64 se] 25)
                have HC := Lib.hid (fits_calls ⟨A, cc, ⟨p, kd, po, se⟩⟩ l _ _ (HV.out.on hal) (by have := H40.out; unfold mx; omega) (hrn.on hal) hval.1 hval.2)
                have HB1 := Lib.hid hal
                obtain ⟨v, hvb⟩ : ∃ v, fitsB (nds l) ⟨p, kd, po, se⟩ = v := ⟨_, rfl⟩
                dsimp only at HC
                rw [hvb] at HC
                have HVB := Lib.hid hvb
                unfold Nh.v at HC
                clear hvb hal hrn hx hlt hval
                cases v
                · go_wp2_with fail
                  refine HC.out.mono ?_
                  rintro e w1 ⟨rfl, hb⟩
                  have HB2 := Lib.hid (Kt.bthen HB1.out hb)
                  clear hb HC
                  go_wp2_with fail
                  go_ret
                  refine ⟨12, rfl, ⟨fun h => (by cases h), fun h => ?_⟩, HB2.out⟩
                  have := h.fits _ (mem_nds.2 ⟨_, List.getElem_mem HX1.out, rfl⟩)
                  rw [HX2.out HX1.out, HVB.out] at this
                  cases this
                · go_wp2_with fail
                  refine HC.out.mono ?_
                  rintro e w1 ⟨rfl, hb⟩
                  have HB2 := Lib.hid (Kt.bthen HB1.out hb)
                  clear hb HC x0 x1 x2 x3
                  go_wp2_with fail
                  refine ⟨⟨k + 1, by first | rfl | rw [hw1], Lib.hid ⟨HX1.out, fun j h hj => ?_⟩, HB2⟩, by first | exact dec1 HX1.out | (rw [hw1]; exact dec1 HX1.out)⟩
                  by_cases e : j = k
                  · subst e; rw [HX2.out h]; exact HVB.out
                  · exact HK.out.2 j h (by omega)
              · have ek : ¬ (k : Int) < l.length := by omega
                obtain rfl : k = l.length := by have := HK.out.1; omega
                have HFA : Hid (∀ x ∈ l, fitsB (nds l) x.n = true) := Lib.hid (fun x hx => by
                  obtain ⟨j, hj, rfl⟩ := List.mem_iff_getElem.1 hx
                  exact HK.out.2 j hj hj)
                clear hlt HK
                go_wp2_with fail
                go_ret
                refine ⟨0, rfl, ⟨fun _ => ⟨by rw [nds_len]; exact H40.out, fun n hn => ?_, HSD.out, fun n hn => ?_⟩, fun _ => rfl⟩, HB.out⟩
                · obtain ⟨x, hx, rfl⟩ := mem_nds.1 hn; exact HVA.out x hx
                · obtain ⟨x, hx, rfl⟩ := mem_nds.1 hn; exact HFA.out x hx
end Go.Proofs.Ytmjcokmfjofgnaa
