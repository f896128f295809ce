/- topo: Unplug walked. -/
import Derived.Test.YtmjcokmfjofgnaaTpoM
namespace Go.Proofs.Ytmjcokmfjofgnaa
open Go.RowKit Go.Shelf Go.Proofs.Ytmjcokmfjofgnaa.Rou Go.Proofs.Ytmjcokmfjofgnaa.Tpo
/-- what Unplug tells -/
structure UnplugIs (w : World) (l : List Nh) (p : List Int) (z : Int) (V1 : Value) (l1 : List Nh) (V2 : Value) (l2 : List Nh) (w' : World) : Prop where
  ok : z = 0 ↔ (Rt (nds l) ∧ ∃ x ∈ nds l, x.path = p)
  left : z = 0 → nds l1 = (nds l).filter (fun x => !un p x)
  gone : z = 0 → nds l2 = (nds l).filter (un p)
  bad : z ≠ 0 → l1 = [] ∧ l2 = []
  own1 : To w' w.heap.size V1 l1
  own2 : To w' w.heap.size V2 l2
  ne : ∀ k, V1.ownBlock = some k → V2.ownBlock ≠ some k
  bel : Below w.heap.size w w'
theorem UnplugIs.err {w w' : World} {l : List Nh} {p : List Int} {z : Int} (hz : z ≠ 0) (h : ¬ (Rt (nds l) ∧ ∃ x ∈ nds l, x.path = p)) (hb : Below w.heap.size w w') : UnplugIs w l p z (.slice none 0 0) [] (.slice none 0 0) [] w' :=
  ⟨⟨fun e => absurd e hz, fun q => absurd q h⟩, fun e => absurd e hz, fun e => absurd e hz, fun _ => ⟨rfl, rfl⟩, To.nil _ _, To.nil _ _, fun _ h => (by cases h), hb⟩
set_option maxRecDepth 100000 in
set_option maxHeartbeats 6400000 in
theorem unplug_calls (p : List Int) (A : Option Addr) (c : Nat) (l : List Nh) (V : Value) (w : World) (hv : Tr w V l) (hl : l.length ≤ mx) (hp : Wy w A c p) (hm : p.length ≤ mx) :
    Calls Try.prog 16 #[V, .slice A p.length c] w fun e w' => ∃ z V1 l1 V2 l2, e = .returned (.tuple #[V1, V2, .int .i64 z]) ∧ UnplugIs w l p z V1 l1 V2 l2 w' := by
  obtain ⟨A0, c0, rfl, _, _⟩ := hv.ar.form
  have HC := Lib.hid (tcheck_calls l (.slice A0 l.length c0) _ hv)
  have HV := Lib.hid hv
  have HP := Lib.hid hp
  have HM := Lib.hid hm
  have HL := Lib.hid hl
  clear hv hp hl hm
  go_enter Try.func16, Try.ntmps16
  go_wp2_with fail
  refine HC.out.mono ?_
  rintro e w1 ⟨z, rfl, hz, hb⟩
  have HB1 := Lib.hid hb
  clear hb HC
  by_cases hz0 : z = 0
  · subst hz0
    have HRT := Lib.hid (hz.1 rfl)
    clear hz
    go_wp2_with fail
    refine (find_calls p A c l _ _ (HV.out.on HB1.out) HL.out (HP.out.on HB1.out) HM.out).mono ?_
    rintro e w3 ⟨r, rfl, hr, hb⟩
    have HB3 := Lib.hid (Kt.bthen HB1.out hb)
    have HFM := Lib.hid (first_mem hr)
    clear hb hr HB1
    by_cases hr0 : r < 0
    · have HNO : Hid (¬ ∃ x ∈ nds l, x.path = p) := Lib.hid (fun ⟨s, h1, h2⟩ => by have := HFM.out.2 ⟨s, h1, decide_eq_true h2⟩; omega)
      clear HFM
      go_wp2_with fail
      refine bodyPost_ret (v := .tuple #[.slice none 0 0, .slice none 0 0, .int .i64 12]) (by simp [results, Try.results16, go_sem]) rfl ?_
      exact ⟨12, _, [], _, [], rfl, UnplugIs.err (by decide) (fun h => HNO.out h.2) HB3.out⟩
    · have HOK : Hid (∃ x ∈ nds l, x.path = p) := Lib.hid (by
        obtain ⟨s, h1, h2⟩ := HFM.out.1 (by omega)
        exact ⟨s, h1, of_decide_eq_true h2⟩)
      have H40 : Hid (l.length ≤ 40) := Lib.hid (by have := HRT.out.len; rw [nds_len] at this; exact this)
      have hr1 : decide (r < 0) = false := decide_eq_false hr0
      clear HFM
      go_wp2_with fail
      clear hr0 hr1
      go_loopw [8, 9, 23] (fun V8 V9 ii wr => ∃ (k n1 : Nat) (A1 : Option Addr) (c1 : Nat) (l1 : List Nh) (n2 : Nat) (A2 : Option Addr) (c2 : Nat) (l2 : List Nh), ii = .int .i64 k ∧ V8 = .slice A1 n1 c1 ∧ V9 = .slice A2 n2 c2 ∧ Hid (k ≤ l.length ∧ nds l1 = ((nds l).take k).filter (fun x => !un p x) ∧ nds l2 = ((nds l).take k).filter (un p) ∧ n1 = l1.length ∧ n2 = l2.length) ∧ Hid (To wr w.heap.size (.slice A1 n1 c1) l1 ∧ To wr w.heap.size (.slice A2 n2 c2) l2 ∧ (∀ k, (Value.slice A1 n1 c1).ownBlock = some k → (Value.slice A2 n2 c2).ownBlock ≠ some k) ∧ Below w.heap.size w wr)) (fun _ _ ii _ => l.length - (intOf ii).toNat)
      case atStart => exact ⟨0, 0, none, 0, [], 0, none, 0, [], rfl, rfl, rfl, Lib.hid ⟨Nat.zero_le _, rfl, rfl, rfl, rfl⟩, Lib.hid ⟨To.nil _ _, To.nil _ _, fun _ h => (by cases h), HB3.out⟩⟩
      case round =>
        obtain ⟨k, n1, A1, c1, l1, n2, A2, c2, l2, rfl, rfl, rfl, HK, HWR⟩ := hrel
        by_cases hlt : k < l.length
        · have ek : (k : Int) < l.length := by omega
          have hw1 := up1 k (by have := H40.out; omega)
          have HSM : Hid (n1 ≤ 40 ∧ n2 ≤ 40) := Lib.hid (by
            have h1 := congrArg List.length HK.out.2.1
            have h2 := congrArg List.length HK.out.2.2.1
            rw [nds_len] at h1 h2
            have h3 := List.length_filter_le (fun x => !un p x) ((nds l).take k)
            have h4 := List.length_filter_le (un p) ((nds l).take k)
            rw [List.length_take] at h3 h4
            have := HK.out.2.2.2.1
            have := HK.out.2.2.2.2
            have := H40.out
            omega)
          obtain ⟨b, o, cc, hve, hb0, x0, x1, x2, x3⟩ := Tr.node (HV.out.on HWR.out.2.2.2) k hlt
          cases hve
          have hrn := (HV.out.nth k hlt).on HWR.out.2.2.2
          have HNX : Hid (∀ y : Nd, (l[k]).n = y → (nds l).take (k + 1) = (nds l).take k ++ [y]) := Lib.hid (fun y hy => by
            rw [List.take_succ_eq_append_getElem (by rw [nds_len]; exact hlt), nds_at l k hlt, hy])
          have HLT := Lib.hid (show k < l.length from hlt)
          have HVL : Hid (validB (l[k]).n = true) := Lib.hid (HRT.out.valid _ (mem_nds.2 ⟨_, List.getElem_mem hlt, rfl⟩))
          generalize l[k] = x at *
          obtain ⟨Ax, cx, nx⟩ := x
          obtain ⟨pp, kx, ox, sx⟩ := nx
          dsimp only at x0 x1 x2 x3
          have HTK := Lib.hid (HNX.out _ rfl)
          dsimp only at HTK
          have b1 := Kt.balloc (Below.refl _ wr) (.cells #[.slice Ax pp.length cx, .int .i64 kx, .int .i64 ox, .int .i64 sx] 25)
          have HUN := Lib.hid (under_calls pp p Ax A cx c _ (hrn.way.on b1) ((HP.out.on HWR.out.2.2.2).on b1) (by have := hrn.le; unfold mx at this; unfold big; dsimp only at this; omega) (by have := HM.out; unfold mx at this; unfold big; omega))
          have HB4 := Lib.hid b1
          have HR4 := Lib.hid (heap_alloc_new wr (.cells #[.slice Ax pp.length cx, .int .i64 kx, .int .i64 ox, .int .i64 sx] 25))
          obtain ⟨u, hu⟩ : ∃ u, decide (p <+: pp) = u := ⟨_, rfl⟩
          rw [hu] at HUN
          have HU : Hid (un p ⟨pp, kx, ox, sx⟩ = u) := Lib.hid hu
          have HRN := Lib.hid hrn
          clear hrn b1 HNX hlt hu
          go_wp2_with fail
          refine HUN.out.mono ?_
          rintro e w5 ⟨rfl, hb⟩
          have HB5 := Lib.hid (Kt.bthen HB4.out hb)
          have HCP := Lib.hid (copied_calls ⟨Ax, cx, ⟨pp, kx, ox, sx⟩⟩ _ (HRN.out.on HB5.out) (by have := (valid_len HVL.out).2; unfold px; dsimp only at this ⊢; omega))
          have hr5 := Kt.row_on hb HR4.out
          have q5 := fun j => cell_of_row _ _ j _ _ _ hr5
          unfold Nh.v at HCP
          dsimp only at HCP
          clear hb HUN HB4 HR4 HRN hr5 x0 x1 x2 x3
          cases u
          · go_wp2_with fail
            refine HCP.out.mono ?_
            rintro e w6 ⟨A5, c5, rfl, hon, hb⟩
            have b7 := Kt.balloc (Below.refl _ w6) (.cells #[.slice A5 pp.length c5, .int .i64 kx, .int .i64 ox, .int .i64 sx] 25)
            have HB7 := Lib.hid (Kt.bthen (Kt.bthen HB5.out hb) b7)
            have HAR := Lib.hid (Kt.Ar.new w6 #[.slice A5 pp.length c5, .int .i64 kx, .int .i64 ox, .int .i64 sx] 25 1 4 rfl)
            have HON := Lib.hid ((hon.on b7).mono (show w.heap.size ≤ _ from Nat.le_trans HWR.out.2.2.2.size HB5.out.size))
            have HTO1 := Lib.hid (HWR.out.1.onw HB7.out)
            have HTO2 := Lib.hid (HWR.out.2.1.onw HB7.out)
            have HS7 : Hid (Kt.Sl _ w.heap.size 25 4 (.slice A1 n1 c1) n1 (ncs l1)) := Lib.hid (by
              have := HTO1.out.sl
              rw [← HK.out.2.2.2.1] at this
              exact this)
            clear hon hb b7 HCP
            go_wp2_with (
              refine Kt.append_ar (by rfl) (.tmp 36) (.tmp 39) 22 rfl w.heap.size 25 (.agg #[.slice none 0 0, .int .i64 0, .int .i64 0, .int .i64 0]) 4 48 infoN Try.underlying22 rfl (by decide) (.slice A1 n1 c1) _ _ rfl HS7.out _ _ _ rfl HAR.out (cs_one ⟨A5, c5, ⟨pp, kx, ox, sx⟩⟩) (by have := HSM.out; unfold maxLen; omega) (by have := HSM.out; omega) (Nat.le_trans HWR.out.2.2.2.size HB7.out.size) ?_
              intro A8 c8 w8 hs8 hb8 hz8 hk8 hl8)
            have hne8 : ∀ k, (Value.slice A2 n2 c2).ownBlock = some k → (Value.slice A1 n1 c1).ownBlock ≠ some k := fun k h1 h2 => HWR.out.2.2.1 k h2 h1
            refine ⟨⟨k + 1, n1 + 1, A8, c8, l1 ++ [⟨A5, c5, ⟨pp, kx, ox, sx⟩⟩], n2, A2, c2, l2, by first | rfl | rw [hw1], rfl, rfl, Lib.hid ⟨HLT.out, ?_, ?_, ?_, HK.out.2.2.2.2⟩, Lib.hid ⟨⟨?_, ?_⟩, ⟨?_, ?_⟩, ?_, ?_⟩⟩, by first | exact dec1 HLT.out | (rw [hw1]; exact dec1 HLT.out)⟩
            · rw [HTK.out, List.filter_append, ← HK.out.2.1, List.filter_cons_of_pos (by rw [HU.out]; rfl)]; simp [nds]
            · rw [HTK.out, List.filter_append, ← HK.out.2.2.1, List.filter_cons_of_neg (by rw [HU.out]; decide)]; simp
            · rw [List.length_append, ← HK.out.2.2.2.1]; rfl
            · rw [List.length_append, ← HK.out.2.2.2.1, ncs_app]
              exact hs8
            · intro y hy
              rcases List.mem_append.1 hy with hy | hy
              · exact (HTO1.out.on y hy).keep hk8 HS7.out
              · rw [List.mem_singleton] at hy
                subst hy
                exact HON.out.keep hk8 HS7.out
            · exact HTO2.out.sl.keep fun k hk => hk8 k (HTO2.out.sl.lt k hk).2 (hne8 k hk)
            · exact fun y hy => (HTO2.out.on y hy).keep hk8 HS7.out
            · intro k h1 h2
              rcases hl8 k h1 with h | h
              · exact HWR.out.2.2.1 k h h2
              · have := (HTO2.out.sl.lt k h2).2; omega
            · exact (Kt.bthen HWR.out.2.2.2 HB7.out).trans hb8
          · go_wp2_with fail
            refine HCP.out.mono ?_
            rintro e w6 ⟨A5, c5, rfl, hon, hb⟩
            have b7 := Kt.balloc (Below.refl _ w6) (.cells #[.slice A5 pp.length c5, .int .i64 kx, .int .i64 ox, .int .i64 sx] 25)
            have HB7 := Lib.hid (Kt.bthen (Kt.bthen HB5.out hb) b7)
            have HAR := Lib.hid (Kt.Ar.new w6 #[.slice A5 pp.length c5, .int .i64 kx, .int .i64 ox, .int .i64 sx] 25 1 4 rfl)
            have HON := Lib.hid ((hon.on b7).mono (show w.heap.size ≤ _ from Nat.le_trans HWR.out.2.2.2.size HB5.out.size))
            have HTO1 := Lib.hid (HWR.out.1.onw HB7.out)
            have HTO2 := Lib.hid (HWR.out.2.1.onw HB7.out)
            have HS7 : Hid (Kt.Sl _ w.heap.size 25 4 (.slice A2 n2 c2) n2 (ncs l2)) := Lib.hid (by
              have := HTO2.out.sl
              rw [← HK.out.2.2.2.2] at this
              exact this)
            clear hon hb b7 HCP
            go_wp2_with (
              refine Kt.append_ar (by rfl) (.tmp 31) (.tmp 34) 22 rfl w.heap.size 25 (.agg #[.slice none 0 0, .int .i64 0, .int .i64 0, .int .i64 0]) 4 48 infoN Try.underlying22 rfl (by decide) (.slice A2 n2 c2) _ _ rfl HS7.out _ _ _ rfl HAR.out (cs_one ⟨A5, c5, ⟨pp, kx, ox, sx⟩⟩) (by have := HSM.out; unfold maxLen; omega) (by have := HSM.out; omega) (Nat.le_trans HWR.out.2.2.2.size HB7.out.size) ?_
              intro A8 c8 w8 hs8 hb8 hz8 hk8 hl8)
            have hne8 : ∀ k, (Value.slice A1 n1 c1).ownBlock = some k → (Value.slice A2 n2 c2).ownBlock ≠ some k := fun k h1 h2 => HWR.out.2.2.1 k h1 h2
            refine ⟨⟨k + 1, n1, A1, c1, l1, n2 + 1, A8, c8, l2 ++ [⟨A5, c5, ⟨pp, kx, ox, sx⟩⟩], by first | rfl | rw [hw1], rfl, rfl, Lib.hid ⟨HLT.out, ?_, ?_, HK.out.2.2.2.1, ?_⟩, Lib.hid ⟨⟨?_, ?_⟩, ⟨?_, ?_⟩, ?_, ?_⟩⟩, by first | exact dec1 HLT.out | (rw [hw1]; exact dec1 HLT.out)⟩
            · rw [HTK.out, List.filter_append, ← HK.out.2.1, List.filter_cons_of_neg (by rw [HU.out]; decide)]; simp
            · rw [HTK.out, List.filter_append, ← HK.out.2.2.1, List.filter_cons_of_pos (by rw [HU.out])]; simp [nds]
            · rw [List.length_append, ← HK.out.2.2.2.2]; rfl
            · exact HTO1.out.sl.keep fun k hk => hk8 k (HTO1.out.sl.lt k hk).2 (hne8 k hk)
            · exact fun y hy => (HTO1.out.on y hy).keep hk8 HS7.out
            · rw [List.length_append, ← HK.out.2.2.2.2, ncs_app]
              exact hs8
            · intro y hy
              rcases List.mem_append.1 hy with hy | hy
              · exact (HTO2.out.on y hy).keep hk8 HS7.out
              · rw [List.mem_singleton] at hy
                subst hy
                exact HON.out.keep hk8 HS7.out
            · intro k h1 h2
              rcases hl8 k h2 with h | h
              · exact HWR.out.2.2.1 k h1 h
              · have := (HTO1.out.sl.lt k h1).2; omega
            · exact (Kt.bthen HWR.out.2.2.2 HB7.out).trans hb8
        · have ek : ¬ (k : Int) < l.length := by omega
          obtain rfl : k = l.length := by have := HK.out.1; omega
          clear hlt
          go_wp2_with fail
          refine bodyPost_ret (v := .tuple #[.slice A1 n1 c1, .slice A2 n2 c2, .int .i64 0]) (by simp [results, Try.results16, go_sem]) rfl ?_
          have hall : (nds l).take l.length = nds l := by rw [← nds_len l, List.take_length]
          refine ⟨0, .slice A1 n1 c1, l1, .slice A2 n2 c2, rfl, l2, ⟨⟨fun _ => ⟨HRT.out, HOK.out⟩, fun _ => rfl⟩, fun _ => ?_, fun _ => ?_, fun h => absurd rfl h, HWR.out.1, HWR.out.2.1, HWR.out.2.2.1, HWR.out.2.2.2⟩⟩
          · rw [HK.out.2.1, hall]
          · rw [HK.out.2.2.1, hall]
  · have HNZ : Hid (¬ Rt (nds l)) := Lib.hid (fun h => hz0 (hz.2 h))
    have HZ := Lib.hid hz0
    have hz1 : (z != 0) = true := by rw [bne_iff_ne]; exact hz0
    clear hz hz0
    go_wp2_with fail
    refine bodyPost_ret (v := .tuple #[.slice none 0 0, .slice none 0 0, .int .i64 z]) (by simp [results, Try.results16, go_sem]) rfl ?_
    exact ⟨z, _, [], _, [], rfl, UnplugIs.err HZ.out (fun h => HNZ.out h.1) HB1.out⟩
end Go.Proofs.Ytmjcokmfjofgnaa
