/- The law TopoGone, walked. -/
import Derived.Test.YtmjcokmfjofgnaaTpoA
namespace Go.Proofs.Ytmjcokmfjofgnaa
open Go.RowKit Go.Shelf Go.Proofs.Ytmjcokmfjofgnaa.Rou Go.Proofs.Ytmjcokmfjofgnaa.Tpo
set_option maxRecDepth 100000 in
set_option maxHeartbeats 6400000 in
theorem gone_calls (l : List Nh) (V : Value) (q : List Int) (Aq : Option Addr) (cq : Nat) (w : World) (hv : Tr w V l) (hl : l.length ≤ mx) (hq : Wy w Aq cq q) (hql : q.length ≤ mx) :
    Calls Try.prog 6 #[V, .slice Aq q.length cq] w fun e w' => e = .returned (.bool true) ∧ Below w.heap.size w w' := by
  obtain ⟨A0, c0, rfl⟩ := hv.form
  have HUN := Lib.hid (unplug_calls q Aq cq l _ w hv hl hq hql)
  have HV := Lib.hid hv
  have HL := Lib.hid hl
  have HQ := Lib.hid hq
  have HQL := Lib.hid hql
  clear hv hl hq hql
  go_enter Try.func6, Try.ntmps6
  go_wp2_with fail
  refine HUN.out.mono ?_
  rintro e w1 ⟨z, V1, l1, V2, l2, rfl, hu⟩
  obtain ⟨A1, c1, rfl⟩ := hu.own1.tr.form
  obtain ⟨A2, c2, rfl⟩ := hu.own2.tr.form
  have HU := Lib.hid hu
  have HB1 := Lib.hid hu.bel
  clear hu HUN
  go_wp2_with fail
  refine (plives_calls _).mono ?_
  rintro e w2 ⟨rfl, hb⟩
  have HB2 := Lib.hid (Kt.bthen HB1.out hb)
  have HT1 := Lib.hid (HU.out.own1.onw hb)
  have HT2 := Lib.hid (HU.out.own2.onw hb)
  clear hb HB1
  by_cases hz : z = 0
  · have hok := HU.out.ok.1 hz
    have HE1 := Lib.hid (HU.out.left hz)
    have HE2 := Lib.hid (HU.out.gone hz)
    obtain ⟨g, r, e1, e2⟩ := gone_first hok.1 hok.2
    subst hz
    have hpos : 0 < l2.length := by
      have := congrArg List.length (HE2.out.trans e1)
      rw [nds_len, List.length_cons] at this
      omega
    have h40 : l2.length ≤ 40 := by
      have h1 := congrArg List.length HE2.out
      have h2 := List.length_filter_le (un q) (nds l)
      have h3 := hok.1.len
      rw [nds_len] at h1
      omega
    have hg0 : (l2[0]).n.path = q := by
      rw [← nds_at l2 0 hpos]
      have : nds l2 = g :: r := HE2.out.trans e1
      have h0 : (nds l2)[0]? = some g := by rw [this]; rfl
      rw [List.getElem?_eq_getElem (by rw [nds_len]; exact hpos)] at h0
      injection h0 with h0
      rw [h0]; exact e2
    obtain ⟨b, o, cc, hve, hb0, x0, z1, z2, z3⟩ := Tr.node HT2.out.tr 0 hpos
    cases hve
    have hrn := HT2.out.tr.nth 0 hpos
    have HOK := Lib.hid hok
    have H40 := Lib.hid h40
    have hne : ((l2.length : Int) == 0) = false := by rw [beq_eq_false_iff_ne]; omega
    have hlt0 : (0 : Int) < l2.length := by omega
    generalize l2[0] = y at *
    obtain ⟨Ay, cy, ny⟩ := y
    dsimp only at hg0
    rw [hg0] at x0
    have HE := Lib.hid (ieqD q q Ay Aq cy cq _ (by have := hrn.way; dsimp only at this; rw [hg0] at this; exact this) (HQ.out.on HB2.out) (by have := HQL.out; unfold mx at this; unfold big; omega) (by have := HQL.out; unfold mx at this; unfold big; omega))
    rw [decide_eq_true rfl] at HE
    rw [Nat.zero_mul, Nat.add_zero] at x0
    clear hok e1 e2 hpos h40 hg0 z1 z2 z3 hrn HU
    go_wp2_with fail
    refine HE.out.mono ?_
    rintro e w3 ⟨rfl, hd⟩
    have HB3 := Lib.hid (Kt.bthen HB2.out hd.bel)
    have HT3 := Lib.hid (HT1.out.onw hd.bel)
    have HT4 := Lib.hid (HT2.out.onw hd.bel)
    clear hd HE x0 HB2 HT1 HT2
    go_wp2_with fail
    clear hne hlt0
    go_loopw [5, 49] (fun V5 ii wr => ∃ (k n1 : Nat) (A1 : Option Addr) (c1 : Nat) (lb : List Nh), ii = .int .i64 k ∧ V5 = .slice A1 n1 c1 ∧ Hid (k ≤ l2.length ∧ nds lb = Tpo.part (nds l) q ((nds l2).take k) ∧ n1 = lb.length) ∧ Hid (To wr w.heap.size (.slice A1 n1 c1) lb ∧ To wr w.heap.size (.slice (some ⟨b, o, none⟩) l2.length c2) l2 ∧ Below w.heap.size w wr)) (fun _ ii _ => l2.length - (intOf ii).toNat)
    case atStart => exact ⟨0, l1.length, A1, c1, l1, rfl, rfl, Lib.hid ⟨Nat.zero_le _, by rw [HE1.out, List.take_zero, part_nil], rfl⟩, Lib.hid ⟨HT3.out, HT4.out, HB3.out⟩⟩
    case round =>
      obtain ⟨k, n1, A1, c1, lb, rfl, rfl, HK, HWR⟩ := hrel
      have HLB : Hid (lb.length ≤ mx) := Lib.hid (by
        have h1 := congrArg List.length HK.out.2.1
        have h2 := List.length_filter_le (fun x => !un q x || ((nds l2).take k).any (fun y => decide (y.path = x.path))) (nds l)
        have h3 := HOK.out.1.len
        rw [nds_len] at h1
        unfold Tpo.part at h1
        unfold mx; omega)
      by_cases hlt : k < l2.length
      · have ek : (k : Int) < l2.length := by omega
        have hw1 := up1 k (by have := H40.out; omega)
        obtain ⟨b', o', cc, hve, hb0, x0, x1, x2, x3⟩ := Tr.node HWR.out.2.1.tr k hlt
        cases hve
        have hrn := HWR.out.2.1.tr.nth k hlt
        have HST : Hid (PlugOk (Tpo.part (nds l) q ((nds l2).take k)) (l2[k]).n ∧ insP (Tpo.part (nds l) q ((nds l2).take k)) (l2[k]).n = Tpo.part (nds l) q ((nds l2).take (k + 1))) := Lib.hid (by
          have hkn : k < (nds l2).length := by rw [nds_len]; exact hlt
          have hspl : (nds l).filter (un q) = (nds l2).take k ++ (l2[k]).n :: (nds l2).drop (k + 1) := by
            rw [← HE2.out, ← nds_at l2 k hlt]
            conv => lhs; rw [← List.take_append_drop k (nds l2), List.drop_eq_getElem_cons hkn]
          have := gone_step HOK.out.1 hspl
          rw [List.take_succ_eq_append_getElem hkn, nds_at l2 k hlt]
          exact this)
        have HLT := Lib.hid (show k < l2.length from hlt)
        generalize l2[k] = y at *
        obtain ⟨Ax, cx, nx⟩ := y
        obtain ⟨pp, kx, ox, sx⟩ := nx
        dsimp only at x0 x1 x2 x3 HST
        have b1 := Kt.balloc (Below.refl _ wr) (.cells #[.slice Ax pp.length cx, .int .i64 kx, .int .i64 ox, .int .i64 sx] 25)
        have htb := HWR.out.1
        rw [HK.out.2.2] at htb
        have HPL := Lib.hid (plug_calls ⟨Ax, cx, ⟨pp, kx, ox, sx⟩⟩ lb _ _ (htb.onw b1).tr HLB.out (hrn.on b1))
        have HB4 := Lib.hid b1
        unfold Nh.v at HPL
        dsimp only at HPL
        rw [← HK.out.2.2] at HPL
        clear hrn b1 hlt htb
        go_wp2_with fail
        refine HPL.out.mono ?_
        rintro e w4 ⟨z, V4, l4, rfl, hp⟩
        obtain rfl : z = 0 := hp.ok.2 (by rw [HK.out.2.1]; exact HST.out.1)
        obtain ⟨A4, c4, rfl⟩ := hp.own.tr.form
        have HP4 := Lib.hid hp
        clear hp HPL x0 x1 x2 x3
        go_wp2_with fail
        refine ⟨⟨k + 1, l4.length, A4, c4, l4, by first | rfl | rw [hw1], rfl, Lib.hid ⟨HLT.out, ?_, rfl⟩, Lib.hid ⟨HP4.out.own.mono (Nat.le_trans HWR.out.2.2.size HB4.out.size), HWR.out.2.1.onw (Kt.bthen HB4.out HP4.out.bel), Kt.bthen HWR.out.2.2 (Kt.bthen HB4.out HP4.out.bel)⟩⟩, by first | exact dec1 HLT.out | (rw [hw1]; exact dec1 HLT.out)⟩
        rw [HP4.out.new rfl, HK.out.2.1]
        exact HST.out.2
      · have ek : ¬ (k : Int) < l2.length := by omega
        obtain rfl : k = l2.length := by have := HK.out.1; omega
        have hfin : nds lb = nds l := by
          rw [HK.out.2.1, ← nds_len l2, List.take_length, HE2.out]
          exact part_all q
        have htb := HWR.out.1
        rw [HK.out.2.2] at htb
        have HSTR := Lib.hid (stree_calls lb l _ _ _ hfin htb.tr (HV.out.on HWR.out.2.2) HLB.out)
        rw [← HK.out.2.2] at HSTR
        clear hlt hfin htb
        go_wp2_with fail
        refine HSTR.out.mono ?_
        rintro e w5 ⟨rfl, hb⟩
        have HB5 := Lib.hid (Kt.bthen HWR.out.2.2 hb)
        clear hb
        go_wp2_with fail
        go_ret
        exact ⟨rfl, HB5.out⟩
  · obtain ⟨rfl, rfl⟩ := HU.out.bad hz
    have hz1 : (z != 0) = true := by rw [bne_iff_ne]; exact hz
    clear hz
    go_wp2_with fail
    refine (plives_calls _).mono ?_
    rintro e w3 ⟨rfl, hb⟩
    have HB3 := Lib.hid (Kt.bthen HB2.out hb)
    clear hb
    go_wp2_with fail
    go_ret
    exact ⟨rfl, HB3.out⟩
theorem gone_walk (v0 v1 : Value) (w : World) (r0 : Fr.RdV w reachBytes (.slice 4 (.cat 1 (.slice 1 (.int .i64)) (.cat 1 (.int .i64) (.cat 1 (.int .i64) (.cat 1 (.int .i64) .nil))))) v0) (r1 : Fr.RdV w reachBytes (.slice 1 (.int .i64)) v1) :
    Calls Try.prog 6 #[v0, v1] w fun e w' => e = .returned (.bool true) ∧ Below w.heap.size w w' := by
  obtain ⟨l, hv, hl⟩ := tree_of r0
  obtain ⟨Aq, cq, q, rfl, hq, hql⟩ := way_of r1
  exact gone_calls l v0 q Aq cq w hv hl hq hql
end Go.Proofs.Ytmjcokmfjofgnaa
