/- topo: Plug walked. -/
import Derived.Test.YtmjcokmfjofgnaaTpoM
namespace Go.Proofs.Ytmjcokmfjofgnaa
open Go.RowKit Go.Shelf Go.Proofs.Ytmjcokmfjofgnaa.Rou Go.Proofs.Ytmjcokmfjofgnaa.Tpo
/-- what Plug tells -/
structure PlugIs (w : World) (l : List Nh) (n : Nd) (z : Int) (V : Value) (l' : List Nh) (w' : World) : Prop where
  ok : z = 0 ↔ PlugOk (nds l) n
  new : z = 0 → nds l' = insP (nds l) n
  bad : z ≠ 0 → l' = []
  full : Rt (nds l) → validB n = true → (∀ x ∈ nds l, x.path ≠ n.path) → fitsB (nds l) n = true → ¬ l.length < 40 → z = 2
  own : To w' w.heap.size V l'
  bel : Below w.heap.size w w'
theorem PlugIs.err {w w' : World} {l : List Nh} {n : Nd} {z : Int} (hz : z ≠ 0) (h : ¬ PlugOk (nds l) n) (hf : Rt (nds l) → validB n = true → (∀ x ∈ nds l, x.path ≠ n.path) → fitsB (nds l) n = true → ¬ l.length < 40 → z = 2) (hb : Below w.heap.size w w') : PlugIs w l n z (.slice none 0 0) [] w' :=
  ⟨⟨fun e => absurd e hz, fun q => absurd q h⟩, fun e => absurd e hz, fun _ => rfl, hf, To.nil _ _, hb⟩
theorem ins_pos : ∀ (t : List Nd) (n : Nd), ∃ i, i ≤ t.length ∧ (∀ j (h : j < t.length), j < i → lt t[j] n) ∧ (∀ h : i < t.length, ¬ lt t[i] n)
  | [], n => ⟨0, Nat.le_refl _, fun j h => absurd h (Nat.not_lt_zero _), fun h => absurd h (Nat.not_lt_zero _)⟩
  | x :: t, n => by
    by_cases hx : lt x n
    · obtain ⟨i, h1, h2, h3⟩ := ins_pos t n
      refine ⟨i + 1, Nat.succ_le_succ h1, fun j h hj => ?_, fun h => h3 (Nat.lt_of_succ_lt_succ h)⟩
      cases j with
      | zero => exact hx
      | succ j => exact h2 j (Nat.lt_of_succ_lt_succ h) (Nat.lt_of_succ_lt_succ hj)
    · exact ⟨0, Nat.zero_le _, fun j _ hj => absurd hj (Nat.not_lt_zero _), fun _ => hx⟩
theorem nds_ins (l : List Nh) (i : Nat) (x : Nh) : nds (l.take i ++ x :: l.drop i) = (nds l).take i ++ x.n :: (nds l).drop i := by
  simp [nds, List.map_take, List.map_drop]
set_option maxRecDepth 100000 in
set_option maxHeartbeats 6400000 in
theorem plug_calls (x : Nh) (l : List Nh) (V : Value) (w : World) (hv : Tr w V l) (hl : l.length ≤ mx) (hx : Rn w x) :
    Calls Try.prog 9 #[V, x.v] w fun e w' => ∃ z V' l', e = .returned (.tuple #[V', .int .i64 z]) ∧ PlugIs w l x.n z V' l' w' := by
  obtain ⟨A0, c0, rfl, _, _⟩ := hv.ar.form
  obtain ⟨A, c, n⟩ := x
  obtain ⟨p, kd, po, se⟩ := n
  have hal := Kt.balloc (Below.refl _ w) (.cells #[.slice A p.length c, .int .i64 kd, .int .i64 po, .int .i64 se] 25)
  have hrow := heap_alloc_new w (.cells #[.slice A p.length c, .int .i64 kd, .int .i64 po, .int .i64 se] 25)
  have HC := Lib.hid (tcheck_calls l (.slice A0 l.length c0) _ (hv.on hal))
  have HV := Lib.hid hv
  have HX := Lib.hid hx
  have HL := Lib.hid hl
  have HB := Lib.hid hal
  have HR := Lib.hid hrow
  obtain ⟨N, hN⟩ : ∃ N : Nd, (⟨p, kd, po, se⟩ : Nd) = N := ⟨_, rfl⟩
  unfold Nh.v
  dsimp only
  rw [hN]
  have HN := Lib.hid hN
  clear hv hx hl hal hrow hN
  go_enter Try.func9, Try.ntmps9
  go_wp2_with fail
  refine HC.out.mono ?_
  rintro e w1 ⟨z, rfl, hz, hb⟩
  have HR1 := Lib.hid (Kt.row_on hb HR.out)
  have HB1 := Lib.hid (Kt.bthen HB.out hb)
  clear hb HC HR HB
  by_cases hz0 : z = 0
  · subst hz0
    have HRT := Lib.hid (hz.1 rfl)
    have hr := HR1.out
    have q1 := fun i => cell_of_row _ _ i _ _ _ hr
    clear hz hr
    go_wp2_with fail
    refine (valid_calls ⟨A, c, ⟨p, kd, po, se⟩⟩ _ (HX.out.on HB1.out)).mono ?_
    rintro e w2 ⟨rfl, hb⟩
    have HR2 := Lib.hid (Kt.row_on hb HR1.out)
    have HB2 := Lib.hid (Kt.bthen HB1.out hb)
    clear hb HR1 HB1 q1
    obtain ⟨vb, hvb⟩ : ∃ v, validB ⟨p, kd, po, se⟩ = v := ⟨_, rfl⟩
    dsimp only
    rw [hvb]
    rw [HN.out] at hvb
    cases vb
    · have HVB := Lib.hid hvb
      clear hvb
      go_wp2_with fail
      refine bodyPost_ret (v := .tuple #[.slice none 0 0, .int .i64 1]) (by simp [results, Try.results9, go_sem]) rfl ?_
      exact ⟨1, _, [], rfl, PlugIs.err (by decide) (fun h => by have := h.valid; rw [HVB.out] at this; cases this) (fun _ h => by rw [HVB.out] at h; cases h) HB2.out⟩
    · have HVB := Lib.hid hvb
      clear hvb
      have hr := HR2.out
      have q1 := fun i => cell_of_row _ _ i _ _ _ hr
      clear hr
      go_wp2_with fail
      refine (find_calls p A c l _ _ (HV.out.on HB2.out) HL.out (HX.out.way.on HB2.out) HX.out.le).mono ?_
      rintro e w3 ⟨r, rfl, hr, hb⟩
      have HR3 := Lib.hid (Kt.row_on hb HR2.out)
      have HB3 := Lib.hid (Kt.bthen HB2.out hb)
      have HFM := Lib.hid (first_mem hr)
      clear hb hr HR2 HB2 q1
      by_cases hr0 : 0 ≤ r
      · have HNO : Hid (∃ x ∈ nds l, x.path = N.path) := Lib.hid (by
          obtain ⟨s, h1, h2⟩ := HFM.out.1 hr0
          exact ⟨s, h1, by rw [← HN.out]; exact of_decide_eq_true h2⟩)
        go_wp2_with fail
        refine bodyPost_ret (v := .tuple #[.slice none 0 0, .int .i64 13]) (by simp [results, Try.results9, go_sem]) rfl ?_
        exact ⟨13, _, [], rfl, PlugIs.err (by decide) (fun h => by obtain ⟨s, h1, h2⟩ := HNO.out; exact h.fresh s h1 h2) (fun _ _ h => by obtain ⟨s, h1, h2⟩ := HNO.out; exact absurd h2 (h s h1)) HB3.out⟩
      · have HFR : Hid (∀ x ∈ nds l, x.path ≠ N.path) := Lib.hid (fun s h1 h2 => hr0 (HFM.out.2 ⟨s, h1, by rw [← HN.out] at h2; exact decide_eq_true h2⟩))
        have hr1 : r < 0 := by omega
        have hr2 : decide (0 ≤ r) = false := decide_eq_false hr0
        clear hr0 HFM
        have hr := HR3.out
        have q1 := fun i => cell_of_row _ _ i _ _ _ hr
        clear hr
        go_wp2_with fail
        have hvl : 1 ≤ p.length ∧ p.length ≤ 6 := by have := valid_len HVB.out; rw [← HN.out] at this; exact this
        refine (fits_calls ⟨A, c, ⟨p, kd, po, se⟩⟩ l _ _ (HV.out.on HB3.out) HL.out (HX.out.on HB3.out) hvl.1 hvl.2).mono ?_
        rintro e w4 ⟨rfl, hb⟩
        have HR4 := Lib.hid (Kt.row_on hb HR3.out)
        have HB4 := Lib.hid (Kt.bthen HB3.out hb)
        clear hb HR3 HB3 q1 hvl hr1 hr2
        obtain ⟨fb, hfb⟩ : ∃ v, fitsB (nds l) ⟨p, kd, po, se⟩ = v := ⟨_, rfl⟩
        dsimp only
        rw [hfb]
        rw [HN.out] at hfb
        cases fb
        · have HFB := Lib.hid hfb
          clear hfb
          go_wp2_with fail
          refine bodyPost_ret (v := .tuple #[.slice none 0 0, .int .i64 12]) (by simp [results, Try.results9, go_sem]) rfl ?_
          exact ⟨12, _, [], rfl, PlugIs.err (by decide) (fun h => by have := h.fits; rw [HFB.out] at this; cases this) (fun _ _ _ h => by rw [HFB.out] at h; cases h) HB4.out⟩
        · have HFB := Lib.hid hfb
          clear hfb
          by_cases h40 : l.length = 40
          · have HNR : Hid (¬ l.length < 40) := Lib.hid (by omega)
            have e40 : ((l.length : Int) == 40) = true := by rw [beq_iff_eq]; omega
            clear h40
            go_wp2_with fail
            refine bodyPost_ret (v := .tuple #[.slice none 0 0, .int .i64 2]) (by simp [results, Try.results9, go_sem]) rfl ?_
            exact ⟨2, _, [], rfl, PlugIs.err (by decide) (fun h => by have := h.room; rw [nds_len] at this; exact HNR.out this) (fun _ _ _ _ _ => rfl) HB4.out⟩
          · have e40 : ((l.length : Int) == 40) = false := by rw [beq_eq_false_iff_ne]; omega
            have H40 : Hid (l.length < 40) := Lib.hid (by have := HRT.out.len; rw [nds_len] at this; omega)
            clear h40
            have HOK := Lib.hid (PlugOk.mk HRT.out HVB.out HFR.out HFB.out (by rw [nds_len]; exact H40.out))
            clear HRT HVB HFR HFB
            go_wp2_with fail
            go_loopw [7, 37] (fun V7 ii wr => ∃ (k : Nat) (A' : Option Addr) (c' : Nat) (l' : List Nh), ii = .int .i64 k ∧ V7 = .slice A' k c' ∧ Hid (k ≤ l.length ∧ nds l' = (nds l).take k ∧ l'.length = k) ∧ Hid (To wr (w.heap.size + 1) (.slice A' k c') l' ∧ wr.heap[w.heap.size]? = some (.cells #[.slice A p.length c, .int .i64 kd, .int .i64 po, .int .i64 se] 25 (0, 0)) ∧ Below w.heap.size w wr)) (fun _ ii _ => l.length - (intOf ii).toNat)
            case atStart => exact ⟨0, none, 0, [], rfl, rfl, Lib.hid ⟨Nat.zero_le _, rfl, rfl⟩, Lib.hid ⟨To.nil _ _, HR4.out, HB4.out⟩⟩
            case round =>
              obtain ⟨k, A', c', l', rfl, rfl, HK, HWR⟩ := hrel
              by_cases hlt : k < l.length
              · have ek : (k : Int) < l.length := by omega
                have hw1 := up1 k (by have := H40.out; omega)
                obtain ⟨b, o, cc, hve, hb0, x0, x1, x2, x3⟩ := Tr.node (HV.out.on HWR.out.2.2) k hlt
                cases hve
                have hrn := (HV.out.nth k hlt).on HWR.out.2.2
                have HNX : Hid (∀ y : Nd, (l[k]).n = y → (nds l).take (k + 1) = (nds l).take k ++ [y]) := Lib.hid (fun y hy => by
                  rw [List.take_succ_eq_append_getElem (by rw [nds_len]; exact hlt), nds_at l k hlt, hy])
                have HLT := Lib.hid (show k < l.length from hlt)
                have HVL : Hid (validB (l[k]).n = true) := Lib.hid (HOK.out.rt.valid _ (mem_nds.2 ⟨_, List.getElem_mem hlt, rfl⟩))
                generalize l[k] = x at *
                obtain ⟨Ax, cx, nx⟩ := x
                obtain ⟨pp, kx, ox, sx⟩ := nx
                dsimp only at x0 x1 x2 x3
                have HTK := Lib.hid (HNX.out _ rfl)
                dsimp only at HTK
                have b1 := Kt.balloc (Below.refl _ wr) (.cells #[.slice Ax pp.length cx, .int .i64 kx, .int .i64 ox, .int .i64 sx] 25)
                have HCP := Lib.hid (copied_calls ⟨Ax, cx, ⟨pp, kx, ox, sx⟩⟩ _ (hrn.on b1) (by have := (valid_len HVL.out).2; unfold px; dsimp only at this ⊢; omega))
                have HB5 := Lib.hid b1
                unfold Nh.v at HCP
                dsimp only at HCP
                clear hrn b1 HNX hlt
                go_wp2_with fail
                refine HCP.out.mono ?_
                rintro e w5 ⟨A2, c2, rfl, hon, hb⟩
                have b6 := Kt.balloc (Below.refl _ w5) (.cells #[.slice A2 pp.length c2, .int .i64 kx, .int .i64 ox, .int .i64 sx] 25)
                have HB6 := Lib.hid (Kt.bthen (Kt.bthen HB5.out hb) b6)
                have HAR := Lib.hid (Kt.Ar.new w5 #[.slice A2 pp.length c2, .int .i64 kx, .int .i64 ox, .int .i64 sx] 25 1 4 rfl)
                have HLTW := Lib.hid (lt_of_row0 HWR.out.2.1)
                have HON := Lib.hid ((hon.on b6).mono (show w.heap.size + 1 ≤ _ from Nat.le_trans HLTW.out HB5.out.size))
                have HTO := Lib.hid (HWR.out.1.onw HB6.out)
                have HS6 : Hid (Kt.Sl _ (w.heap.size + 1) 25 4 (.slice A' k c') k (ncs l')) := Lib.hid (by
                  have := HTO.out.sl
                  rw [HK.out.2.2] at this
                  exact this)
                clear hon hb b6 HCP x0 x1 x2 x3
                go_wp2_with (
                  refine Kt.append_ar (by rfl) (.tmp 41) (.tmp 44) 22 rfl (w.heap.size + 1) 25 (.agg #[.slice none 0 0, .int .i64 0, .int .i64 0, .int .i64 0]) 4 48 infoN Try.underlying22 rfl (by decide) (.slice A' k c') _ _ rfl HS6.out _ _ _ rfl HAR.out (cs_one ⟨A2, c2, ⟨pp, kx, ox, sx⟩⟩) (by have := H40.out; have := HLT.out; unfold maxLen; omega) (by have := H40.out; have := HLT.out; omega) (Nat.le_trans HLTW.out HB6.out.size) ?_
                  intro A7 c7 w7 hs7 hb7 hz7 hk7 hl7)
                have hwr : wr.heap.size ≤ _ := HB6.out.size
                refine ⟨⟨k + 1, A7, c7, l' ++ [⟨A2, c2, ⟨pp, kx, ox, sx⟩⟩], by first | rfl | rw [hw1], rfl, Lib.hid ⟨HLT.out, ?_, ?_⟩, Lib.hid ⟨⟨?_, ?_⟩, ?_, ?_⟩⟩, by first | exact dec1 HLT.out | (rw [hw1]; exact dec1 HLT.out)⟩
                · rw [HTK.out, ← HK.out.2.1]; simp [nds]
                · rw [List.length_append, HK.out.2.2]; rfl
                · rw [List.length_append, HK.out.2.2, ncs_app]
                  exact hs7
                · intro y hy
                  rcases List.mem_append.1 hy with hy | hy
                  · exact (HTO.out.on y hy).keep hk7 HS6.out
                  · rw [List.mem_singleton] at hy
                    subst hy
                    exact HON.out.keep hk7 HS6.out
                · exact (hb7.block _ (Nat.lt_succ_self _)).trans (Kt.row_on HB6.out HWR.out.2.1)
                · exact (Kt.bthen HWR.out.2.2 HB6.out).trans (hb7.mono (Nat.le_succ _))
              · have ek : ¬ (k : Int) < l.length := by omega
                obtain rfl : k = l.length := by have := HK.out.1; omega
                have HND : Hid (nds l' = nds l) := Lib.hid (by rw [HK.out.2.1, ← nds_len l, List.take_length])
                have HLL := Lib.hid HK.out.2.2
                clear hlt HK HR4 HB4
                obtain ⟨i0, hi0, hlow, hat⟩ := ins_pos (nds l') N
                rw [nds_len, HLL.out] at hi0
                have HI := Lib.hid (And.intro hi0 (And.intro hlow hat))
                clear hi0 hlow hat
                go_wp2_with fail
                obtain ⟨W2, hW2⟩ : ∃ W, wr = W := ⟨_, rfl⟩
                rw [hW2] at HWR ⊢
                clear hW2 wr
                go_loopw [10] (fun ii wx => ∃ i : Nat, ii = .int .i64 i ∧ Hid (i ≤ i0) ∧ Hid (Dn W2 wx)) (fun ii _ => i0 - (intOf ii).toNat)
                case atStart => exact ⟨0, rfl, Lib.hid (Nat.zero_le _), Lib.hid (Dn.refl _)⟩
                case round =>
                  obtain ⟨i, rfl, HLI, HD⟩ := hrel
                  have hrb := Kt.row_on HD.out.bel HWR.out.2.1
                  have q3 := fun j => cell_of_row _ _ j _ _ _ hrb
                  have htr := HWR.out.1.tr.on HD.out.bel
                  rw [← HLL.out] at htr
                  clear hrb
                  by_cases hlt : i < i0
                  · have hil : i < l'.length := by have := HI.out.1; have := HLL.out; omega
                    have ei : (i : Int) < l.length := by have := HI.out.1; omega
                    have hw1 := up1 i (by have := H40.out; have := HI.out.1; omega)
                    obtain ⟨b, o, cc, hve, hb0, x0, z1, z2, z3⟩ := Tr.node htr i hil
                    have hrn := htr.nth i hil
                    have hlo := HI.out.2.1 i (by rw [nds_len]; exact hil) hlt
                    rw [nds_at l' i hil] at hlo
                    rw [HLL.out] at hve
                    cases hve
                    generalize l'[i] = y at *
                    have HO := Lib.hid (fun n => orderD y.n.path p y.A A y.c c (wr.drewN n) (hrn.way.on (bdrewN (Below.refl _ _) n)) (((HX.out.on HWR.out.2.2).on HD.out.bel).way.on (bdrewN (Below.refl _ _) n)) (by have := hrn.le; unfold mx at this; unfold big; omega) (by have := HX.out.le; unfold mx at this; unfold big; dsimp only at this; omega))
                    obtain ⟨z, hz⟩ : ∃ z, ordR y.n.path p = z := ⟨_, rfl⟩
                    have hz0 : z < 0 := by
                      rw [← hz]
                      unfold lt at hlo
                      rw [← HN.out] at hlo
                      exact hlo
                    rw [hz] at HO
                    have HLT := Lib.hid hlt
                    clear z1 z2 z3 hrn hlo hz htr hil hlt
                    go_wp2_with fail
                    go_quiet (exact Calls.quiet_of (HO.out _))
                    go_wp2_with fail
                    exact ⟨⟨i + 1, by first | rfl | rw [hw1], Lib.hid HLT.out, Lib.hid (HD.out.more _)⟩, by first | exact dec1 HLT.out | (rw [hw1]; exact dec1 HLT.out)⟩
                  · obtain rfl : i = i0 := by have := HLI.out; omega
                    clear hlt HLI
                    rcases Nat.lt_or_ge i l'.length with hil | hil
                    · have ei : (i : Int) < l.length := by have := HLL.out; omega
                      obtain ⟨b, o, cc, hve, hb0, x0, z1, z2, z3⟩ := Tr.node htr i hil
                      have hrn := htr.nth i hil
                      have hlo := HI.out.2.2 (by rw [nds_len]; exact hil)
                      rw [nds_at l' i hil] at hlo
                      rw [HLL.out] at hve
                      cases hve
                      generalize l'[i] = y at *
                      have HO := Lib.hid (fun n => orderD y.n.path p y.A A y.c c (wr.drewN n) (hrn.way.on (bdrewN (Below.refl _ _) n)) (((HX.out.on HWR.out.2.2).on HD.out.bel).way.on (bdrewN (Below.refl _ _) n)) (by have := hrn.le; unfold mx at this; unfold big; omega) (by have := HX.out.le; unfold mx at this; unfold big; dsimp only at this; omega))
                      obtain ⟨z, hz⟩ : ∃ z, ordR y.n.path p = z := ⟨_, rfl⟩
                      have hz0 : ¬ z < 0 := by
                        rw [← hz]
                        unfold lt at hlo
                        rw [← HN.out] at hlo
                        exact hlo
                      have hz1 : decide (z < 0) = false := decide_eq_false hz0
                      rw [hz] at HO
                      clear z1 z2 z3 hrn hlo hz htr hil
                      go_wp2_with fail
                      go_quiet (exact Calls.quiet_of (HO.out _))
                      have HDN := Lib.hid (HD.out.more nq)
                      have hrn5 := (HX.out.on HWR.out.2.2).on HDN.out.bel
                      have hrb5 := Kt.row_on HDN.out.bel HWR.out.2.1
                      have HCP := Lib.hid (copied_calls ⟨A, c, ⟨p, kd, po, se⟩⟩ _ hrn5 (by have := (valid_len HOK.out.valid).2; rw [← HN.out] at this; unfold px; dsimp only at this ⊢; omega))
                      have q5 := fun j => cell_of_row _ _ j _ _ _ hrb5
                      unfold Nh.v at HCP
                      dsimp only at HCP
                      clear hrn5 hrb5 q3
                      go_wp2_with fail
                      refine HCP.out.mono ?_
                      rintro e w5 ⟨A2, c2, rfl, hon, hb⟩
                      have HB5 := Lib.hid (Kt.bthen HDN.out.bel hb)
                      have b6 := Kt.balloc (Below.refl _ w5) (.cells #[.slice A2 p.length c2, .int .i64 kd, .int .i64 po, .int .i64 se] 25)
                      have HW6 := Lib.hid (Kt.bthen HB5.out b6)
                      have HTO5 := Lib.hid (HWR.out.1.onw HB5.out)
                      have HTO := Lib.hid (HWR.out.1.onw HW6.out)
                      have HSW := Lib.hid (lt_of_row0 HWR.out.2.1)
                      have HON := Lib.hid ((hon.on b6).mono (show w.heap.size + 1 ≤ _ from Nat.le_trans HSW.out HDN.out.bel.size))
                      have hsl := HTO.out.sl
                      have hsl5 := HTO5.out.sl
                      have hins := insert_calls (w.heap.size + 1) _ _ l' i ⟨A2, c2, ⟨p, kd, po, se⟩⟩ w5.heap.size 1 _ (show w.heap.size + 1 ≤ _ from Nat.le_trans HSW.out HW6.out.size) (by rw [HLL.out]; rw [HLL.out] at hsl; exact hsl) (by have := H40.out; have := HLL.out; omega) (by have := HI.out.1; have := HLL.out; omega) (heap_alloc_new w5 _) (Nat.le_refl _) (fun k hk => by have := (hsl5.lt k (by rw [HLL.out] at hk; exact hk)).2; omega)
                      rw [HLL.out] at hins
                      have HINS := Lib.hid hins
                      have HSL := Lib.hid hsl
                      clear hon hb b6 hsl hsl5 hins HCP q5
                      go_wp2_with fail
                      refine HINS.out.mono ?_
                      rintro e w7 ⟨A9, c9, rfl, hs9, hb9, hk9⟩
                      rw [HLL.out] at hs9
                      have HS9 := Lib.hid hs9
                      have HB9 := Lib.hid hb9
                      have HK9 := Lib.hid hk9
                      clear hs9 hb9 hk9 HINS
                      rw [HLL.out]
                      go_wp2_with fail
                      refine bodyPost_ret (v := .tuple #[.slice A9 (l.length + 1) c9, .int .i64 0]) (by simp [results, Try.results9, go_sem]) rfl ?_
                      refine ⟨0, _, l'.take i ++ ⟨A2, c2, ⟨p, kd, po, se⟩⟩ :: l'.drop i, rfl, ⟨⟨fun _ => HOK.out, fun _ => rfl⟩, fun _ => ?_, fun h => absurd rfl h, fun _ _ _ _ h => absurd H40.out h, ⟨?_, ?_⟩, ?_⟩⟩
                      · rw [nds_ins, HN.out, ← HND.out]
                        exact (ins_at _ _ _ (by rw [nds_len]; have := HI.out.1; have := HLL.out; omega) HI.out.2.1 HI.out.2.2).symm
                      · have e : (l'.take i ++ (⟨A2, c2, ⟨p, kd, po, se⟩⟩ : Nh) :: l'.drop i).length = l.length + 1 := by
                          rw [List.length_append, List.length_cons, List.length_take, List.length_drop, HLL.out]
                          have := HI.out.1
                          omega
                        rw [e]
                        exact HS9.out.mono (Nat.le_succ _)
                      · intro y hy
                        have hsl := HSL.out
                        rcases List.mem_append.1 hy with hy | hy
                        · exact ((HTO.out.on y (List.mem_of_mem_take hy)).keep HK9.out hsl).mono (Nat.le_succ _)
                        · rcases List.mem_cons.1 hy with rfl | hy
                          · exact (HON.out.keep HK9.out hsl).mono (Nat.le_succ _)
                          · exact ((HTO.out.on y (List.mem_of_mem_drop hy)).keep HK9.out hsl).mono (Nat.le_succ _)
                      · exact (Kt.bthen HWR.out.2.2 HW6.out).trans (HB9.out.mono (Nat.le_succ _))
                    · have ei : ¬ (i : Int) < l.length := by have := HLL.out; omega
                      have ed : decide ((i : Int) < l.length) = false := decide_eq_false ei
                      have ed2 : decide (i < l.length) = false := decide_eq_false (by omega)
                      clear htr hil
                      go_wp2_with fail
                      go_quiet (fail)
                      have HDN := Lib.hid (HD.out.more nq)
                      have hrn5 := (HX.out.on HWR.out.2.2).on HDN.out.bel
                      have hrb5 := Kt.row_on HDN.out.bel HWR.out.2.1
                      have HCP := Lib.hid (copied_calls ⟨A, c, ⟨p, kd, po, se⟩⟩ _ hrn5 (by have := (valid_len HOK.out.valid).2; rw [← HN.out] at this; unfold px; dsimp only at this ⊢; omega))
                      have q5 := fun j => cell_of_row _ _ j _ _ _ hrb5
                      unfold Nh.v at HCP
                      dsimp only at HCP
                      clear hrn5 hrb5 q3
                      go_wp2_with fail
                      refine HCP.out.mono ?_
                      rintro e w5 ⟨A2, c2, rfl, hon, hb⟩
                      have HB5 := Lib.hid (Kt.bthen HDN.out.bel hb)
                      have b6 := Kt.balloc (Below.refl _ w5) (.cells #[.slice A2 p.length c2, .int .i64 kd, .int .i64 po, .int .i64 se] 25)
                      have HW6 := Lib.hid (Kt.bthen HB5.out b6)
                      have HTO5 := Lib.hid (HWR.out.1.onw HB5.out)
                      have HTO := Lib.hid (HWR.out.1.onw HW6.out)
                      have HSW := Lib.hid (lt_of_row0 HWR.out.2.1)
                      have HON := Lib.hid ((hon.on b6).mono (show w.heap.size + 1 ≤ _ from Nat.le_trans HSW.out HDN.out.bel.size))
                      have hsl := HTO.out.sl
                      have hsl5 := HTO5.out.sl
                      have hins := insert_calls (w.heap.size + 1) _ _ l' i ⟨A2, c2, ⟨p, kd, po, se⟩⟩ w5.heap.size 1 _ (show w.heap.size + 1 ≤ _ from Nat.le_trans HSW.out HW6.out.size) (by rw [HLL.out]; rw [HLL.out] at hsl; exact hsl) (by have := H40.out; have := HLL.out; omega) (by have := HI.out.1; have := HLL.out; omega) (heap_alloc_new w5 _) (Nat.le_refl _) (fun k hk => by have := (hsl5.lt k (by rw [HLL.out] at hk; exact hk)).2; omega)
                      rw [HLL.out] at hins
                      have HINS := Lib.hid hins
                      have HSL := Lib.hid hsl
                      clear hon hb b6 hsl hsl5 hins HCP q5
                      go_wp2_with fail
                      refine HINS.out.mono ?_
                      rintro e w7 ⟨A9, c9, rfl, hs9, hb9, hk9⟩
                      rw [HLL.out] at hs9
                      have HS9 := Lib.hid hs9
                      have HB9 := Lib.hid hb9
                      have HK9 := Lib.hid hk9
                      clear hs9 hb9 hk9 HINS
                      rw [HLL.out]
                      go_wp2_with fail
                      refine bodyPost_ret (v := .tuple #[.slice A9 (l.length + 1) c9, .int .i64 0]) (by simp [results, Try.results9, go_sem]) rfl ?_
                      refine ⟨0, _, l'.take i ++ ⟨A2, c2, ⟨p, kd, po, se⟩⟩ :: l'.drop i, rfl, ⟨⟨fun _ => HOK.out, fun _ => rfl⟩, fun _ => ?_, fun h => absurd rfl h, fun _ _ _ _ h => absurd H40.out h, ⟨?_, ?_⟩, ?_⟩⟩
                      · rw [nds_ins, HN.out, ← HND.out]
                        exact (ins_at _ _ _ (by rw [nds_len]; have := HI.out.1; have := HLL.out; omega) HI.out.2.1 HI.out.2.2).symm
                      · have e : (l'.take i ++ (⟨A2, c2, ⟨p, kd, po, se⟩⟩ : Nh) :: l'.drop i).length = l.length + 1 := by
                          rw [List.length_append, List.length_cons, List.length_take, List.length_drop, HLL.out]
                          have := HI.out.1
                          omega
                        rw [e]
                        exact HS9.out.mono (Nat.le_succ _)
                      · intro y hy
                        have hsl := HSL.out
                        rcases List.mem_append.1 hy with hy | hy
                        · exact ((HTO.out.on y (List.mem_of_mem_take hy)).keep HK9.out hsl).mono (Nat.le_succ _)
                        · rcases List.mem_cons.1 hy with rfl | hy
                          · exact (HON.out.keep HK9.out hsl).mono (Nat.le_succ _)
                          · exact ((HTO.out.on y (List.mem_of_mem_drop hy)).keep HK9.out hsl).mono (Nat.le_succ _)
                      · exact (Kt.bthen HWR.out.2.2 HW6.out).trans (HB9.out.mono (Nat.le_succ _))
  · have HNZ : Hid (¬ Rt (nds l)) := Lib.hid (fun h => hz0 (hz.2 h))
    have HZ := Lib.hid hz0
    have hz1 : (z != 0) = true := by rw [bne_iff_ne]; exact hz0
    clear hz hz0
    go_wp2_with fail
    refine bodyPost_ret (v := .tuple #[.slice none 0 0, .int .i64 z]) (by simp [results, Try.results9, go_sem]) rfl ?_
    exact ⟨z, _, [], rfl, PlugIs.err HZ.out (fun h => HNZ.out h.rt) (fun h => absurd h HNZ.out) HB1.out⟩
end Go.Proofs.Ytmjcokmfjofgnaa
