/- The law TopoOrder, walked. -/
import Derived.Test.YtmjcokmfjofgnaaTpoA
namespace Go.Proofs.Ytmjcokmfjofgnaa
open Go.RowKit Go.Shelf Go.Proofs.Ytmjcokmfjofgnaa.Rou Go.Proofs.Ytmjcokmfjofgnaa.Tpo
set_option maxRecDepth 100000 in
set_option maxHeartbeats 6400000 in
theorem torder_calls (x y : Nh) (l : List Nh) (V : Value) (w : World) (hv : Tr w V l) (hl : l.length ≤ mx) (hx : Rn w x) (hy : Rn w y) :
    Calls Try.prog 3 #[V, x.v, y.v] w fun e w' => e = .returned (.bool true) ∧ Below w.heap.size w w' := by
  obtain ⟨A0, c0, rfl⟩ := hv.form
  obtain ⟨A, c, n⟩ := x
  obtain ⟨p, kd, po, se⟩ := n
  obtain ⟨A', c', n'⟩ := y
  obtain ⟨p', kd', po', se'⟩ := n'
  obtain ⟨r1, r2, hal⟩ := box2n w #[.slice A p.length c, .int .i64 kd, .int .i64 po, .int .i64 se] #[.slice A' p'.length c', .int .i64 kd', .int .i64 po', .int .i64 se'] 25 25
  have HP := Lib.hid (plug_calls ⟨A, c, ⟨p, kd, po, se⟩⟩ l (.slice A0 l.length c0) _ (hv.on hal) hl (hx.on hal))
  have HV := Lib.hid hv
  have HX := Lib.hid hx
  have HY := Lib.hid hy
  have HL := Lib.hid hl
  have HB := Lib.hid hal
  have HR := Lib.hid (And.intro r1 r2)
  have q0 := fun i => cell_of_row _ _ i _ _ _ r1
  have q0' := fun i => cell_of_row _ _ i _ _ _ r2
  unfold Nh.v at HP ⊢
  dsimp only at HP ⊢
  clear hv hx hy hl hal r1 r2
  go_enter Try.func3, Try.ntmps3
  go_wp2_with fail
  refine HP.out.mono ?_
  rintro e w1 ⟨z1, V1, l1, rfl, hp⟩
  obtain ⟨A1, c1, rfl⟩ := hp.own.tr.form
  have HP1 := Lib.hid (show (z1 = 0 ↔ PlugOk (nds l) ⟨p, kd, po, se⟩) ∧ (z1 = 0 → nds l1 = insP (nds l) ⟨p, kd, po, se⟩) from ⟨hp.ok, hp.new⟩)
  have HB1 := Lib.hid (Kt.bthen HB.out hp.bel)
  have HR1 := Lib.hid (And.intro (Kt.row_on hp.bel HR.out.1) (Kt.row_on hp.bel HR.out.2))
  have HT1 := Lib.hid (hp.own.mono HB.out.size)
  clear hp HP HB HR q0 q0'
  have hr1 := HR1.out.1
  have hr2 := HR1.out.2
  have q1 := fun i => cell_of_row _ _ i _ _ _ hr1
  have q2 := fun i => cell_of_row _ _ i _ _ _ hr2
  have HP' := Lib.hid (plug_calls ⟨A', c', ⟨p', kd', po', se'⟩⟩ l (.slice A0 l.length c0) _ (HV.out.on HB1.out) HL.out (HY.out.on HB1.out))
  unfold Nh.v at HP'
  dsimp only at HP'
  clear hr1 hr2
  go_wp2_with fail
  refine HP'.out.mono ?_
  rintro e w2 ⟨z2, V2, l2, rfl, hp⟩
  obtain ⟨A2, c2, rfl⟩ := hp.own.tr.form
  have HP2 := Lib.hid (show (z2 = 0 ↔ PlugOk (nds l) ⟨p', kd', po', se'⟩) ∧ (z2 = 0 → nds l2 = insP (nds l) ⟨p', kd', po', se'⟩) from ⟨hp.ok, hp.new⟩)
  have HB2 := Lib.hid (Kt.bthen HB1.out hp.bel)
  have HR2 := Lib.hid (And.intro (Kt.row_on hp.bel HR1.out.1) (Kt.row_on hp.bel HR1.out.2))
  have HT2 := Lib.hid (And.intro (HT1.out.onw hp.bel) (hp.own.mono HB1.out.size))
  clear hp HP' q1 q2 HR1 HT1 HB1
  go_wp2_with fail
  refine (plives_calls _).mono ?_
  rintro e w3 ⟨rfl, hb⟩
  have HB3 := Lib.hid (Kt.bthen HB2.out hb)
  have HR3 := Lib.hid (And.intro (Kt.row_on hb HR2.out.1) (Kt.row_on hb HR2.out.2))
  have HT3 := Lib.hid (And.intro (HT2.out.1.onw hb) (HT2.out.2.onw hb))
  clear hb HB2 HR2 HT2
  by_cases hz1 : z1 = 0
  · by_cases hz2 : z2 = 0
    · have ok1 := HP1.out.1.1 hz1
      have ok2 := HP2.out.1.1 hz2
      have hn1 := HP1.out.2 hz1
      have hn2 := HP2.out.2 hz2
      subst hz1 hz2
      have HE := Lib.hid (ieqD p p' A A' c c' _ (HX.out.way.on HB3.out) (HY.out.way.on HB3.out) (by have := HX.out.le; unfold mx at this; unfold big; dsimp only at this; omega) (by have := HY.out.le; unfold mx at this; unfold big; dsimp only at this; omega))
      have hr1 := HR3.out.1
      have hr2 := HR3.out.2
      have q1 := fun i => cell_of_row _ _ i _ _ _ hr1
      have q2 := fun i => cell_of_row _ _ i _ _ _ hr2
      have HOK := Lib.hid (And.intro ok1 ok2)
      have HN := Lib.hid (And.intro hn1 hn2)
      clear hr1 hr2 ok1 ok2 hn1 hn2 HP1 HP2
      by_cases hpp : p = p'
      · rw [decide_eq_true hpp] at HE
        clear hpp
        go_wp2_with fail
        refine HE.out.mono ?_
        rintro e w4 ⟨rfl, hd⟩
        have HB4 := Lib.hid (Kt.bthen HB3.out hd.bel)
        clear hd q1 q2
        go_wp2_with fail
        refine (plives_calls _).mono ?_
        rintro e w5 ⟨rfl, hb⟩
        have HB5 := Lib.hid (Kt.bthen HB4.out hb)
        clear hb
        go_wp2_with fail
        go_ret
        exact ⟨rfl, HB5.out⟩
      · rw [decide_eq_false hpp] at HE
        have HPP := Lib.hid hpp
        clear hpp
        go_wp2_with fail
        refine HE.out.mono ?_
        rintro e w4 ⟨rfl, hd⟩
        have HB4 := Lib.hid (Kt.bthen HB3.out hd.bel)
        have HR4 := Lib.hid (And.intro (Kt.row_on hd.bel HR3.out.1) (Kt.row_on hd.bel HR3.out.2))
        have HT4 := Lib.hid (And.intro (HT3.out.1.onw hd.bel) (HT3.out.2.onw hd.bel))
        clear hd q1 q2 HR3 HT3 HB3 HE
        have hr1 := HR4.out.1
        have hr2 := HR4.out.2
        have q1 := fun i => cell_of_row _ _ i _ _ _ hr1
        have q2 := fun i => cell_of_row _ _ i _ _ _ hr2
        have hl1 : l1.length = l.length + 1 := by have := congrArg List.length HN.out.1; rw [nds_len, ins_len, nds_len] at this; exact this
        have hl2 : l2.length = l.length + 1 := by have := congrArg List.length HN.out.2; rw [nds_len, ins_len, nds_len] at this; exact this
        have hl0 : l.length < 40 := by have := HOK.out.1.room; rw [nds_len] at this; exact this
        have HLL := Lib.hid (And.intro hl1 (And.intro hl2 hl0))
        have HPa := Lib.hid (plug_calls ⟨A', c', ⟨p', kd', po', se'⟩⟩ l1 _ _ HT4.out.1.tr (by unfold mx; omega) (HY.out.on HB4.out))
        unfold Nh.v at HPa
        dsimp only at HPa
        clear hr1 hr2 hl1 hl2 hl0
        go_wp2_with fail
        refine HPa.out.mono ?_
        rintro e w5 ⟨z3, V3, l3, rfl, hp⟩
        obtain ⟨A3, c3, rfl⟩ := hp.own.tr.form
        have HP3 := Lib.hid hp
        have HB5 := Lib.hid (Kt.bthen HB4.out hp.bel)
        have HR5 := Lib.hid (Kt.row_on hp.bel HR4.out.1)
        have HT5 := Lib.hid (HT4.out.2.onw hp.bel)
        clear hp HPa q1 q2 HR4 HT4 HB4
        have hr1 := HR5.out
        have q1 := fun i => cell_of_row _ _ i _ _ _ hr1
        have HPb := Lib.hid (plug_calls ⟨A, c, ⟨p, kd, po, se⟩⟩ l2 _ _ HT5.out.tr (by have := HLL.out; unfold mx; omega) (HX.out.on HB5.out))
        unfold Nh.v at HPb
        dsimp only at HPb
        clear hr1
        go_wp2_with fail
        refine HPb.out.mono ?_
        rintro e w6 ⟨z4, V4, l4, rfl, hp⟩
        obtain ⟨A4, c4, rfl⟩ := hp.own.tr.form
        have HP4 := Lib.hid hp
        have HB6 := Lib.hid (Kt.bthen HB5.out hp.bel)
        have HT6 := Lib.hid (HP3.out.own.onw hp.bel)
        clear hp HPb q1 HR5 HT5
        by_cases h39 : l.length + 1 < 40
        · have ka : PlugOk (nds l1) ⟨p', kd', po', se'⟩ := by rw [HN.out.1]; exact order_ok HOK.out.1 HOK.out.2 HPP.out (by rw [nds_len]; exact h39)
          have kb : PlugOk (nds l2) ⟨p, kd, po, se⟩ := by rw [HN.out.2]; exact order_ok HOK.out.2 HOK.out.1 (fun e => HPP.out e.symm) (by rw [nds_len]; exact h39)
          obtain rfl : z3 = 0 := HP3.out.ok.2 ka
          obtain rfl : z4 = 0 := HP4.out.ok.2 kb
          have he : nds l3 = nds l4 := by
            rw [HP3.out.new rfl, HP4.out.new rfl, HN.out.1, HN.out.2]
            exact order_plain HOK.out.1 HOK.out.2 HPP.out
          have hl3 : l3.length ≤ mx := by
            have := (plug_rt ka).len
            rw [← HP3.out.new rfl, nds_len] at this
            unfold mx; omega
          have HST := Lib.hid (stree_calls l3 l4 _ _ _ he HT6.out.tr HP4.out.own.tr hl3)
          clear ka kb he hl3 h39
          go_wp2_with fail
          refine HST.out.mono ?_
          rintro e w7 ⟨rfl, hb⟩
          have HB7 := Lib.hid (Kt.bthen HB6.out hb)
          clear hb HST
          go_wp2_with fail
          go_ret
          exact ⟨rfl, HB7.out⟩
        · have h39' : l.length = 39 := by have := HLL.out; omega
          have fa : ∀ x ∈ nds l1, x.path ≠ p' := fun x hx => by
            rw [HN.out.1] at hx
            rcases ins_mem.1 hx with rfl | hx
            · exact HPP.out
            · exact HOK.out.2.fresh x hx
          have fb : ∀ x ∈ nds l2, x.path ≠ p := fun x hx => by
            rw [HN.out.2] at hx
            rcases ins_mem.1 hx with rfl | hx
            · exact fun e => HPP.out e.symm
            · exact HOK.out.1.fresh x hx
          obtain rfl : z3 = 2 := HP3.out.full (by rw [HN.out.1]; exact plug_rt HOK.out.1) HOK.out.2.valid fa (fits_on HOK.out.2.fits (fun y hy _ => by rw [HN.out.1]; exact ins_mem.2 (.inr hy))) (by have := HLL.out; omega)
          obtain rfl : z4 = 2 := HP4.out.full (by rw [HN.out.2]; exact plug_rt HOK.out.2) HOK.out.1.valid fb (fits_on HOK.out.1.fits (fun y hy _ => by rw [HN.out.2]; exact ins_mem.2 (.inr hy))) (by have := HLL.out; omega)
          obtain rfl : l3 = [] := HP3.out.bad (by decide)
          obtain rfl : l4 = [] := HP4.out.bad (by decide)
          have HST := Lib.hid (stree_calls [] [] _ _ _ rfl HT6.out.tr HP4.out.own.tr (Nat.zero_le _))
          have e39 : ((l.length : Int) == 39) = true := by rw [beq_iff_eq]; omega
          clear fa fb h39 h39'
          go_wp2_with fail
          refine HST.out.mono ?_
          rintro e w7 ⟨rfl, hb⟩
          have HB7 := Lib.hid (Kt.bthen HB6.out hb)
          clear hb HST
          go_wp2_with fail
          go_ret
          exact ⟨rfl, HB7.out⟩
    · subst hz1
      have h2 : (z2 != 0) = true := by rw [bne_iff_ne]; exact hz2
      clear hz2
      go_wp2_with fail
      refine (plives_calls _).mono ?_
      rintro e w4 ⟨rfl, hb⟩
      have HB4 := Lib.hid (Kt.bthen HB3.out hb)
      clear hb
      go_wp2_with fail
      go_ret
      exact ⟨rfl, HB4.out⟩
  · have h1 : (z1 != 0) = true := by rw [bne_iff_ne]; exact hz1
    clear hz1
    go_wp2_with fail
    refine (plives_calls _).mono ?_
    rintro e w4 ⟨rfl, hb⟩
    have HB4 := Lib.hid (Kt.bthen HB3.out hb)
    clear hb
    go_wp2_with fail
    go_ret
    exact ⟨rfl, HB4.out⟩
theorem torder_walk (v0 v1 v2 : Value) (w : World) (r0 : Fr.RdV w reachBytes (.slice 4 (.cat 1 (.slice 1 (.int .i64)) (.cat 1 (.int .i64) (.cat 1 (.int .i64) (.cat 1 (.int .i64) .nil))))) v0) (r1 : Fr.RdV w reachBytes (.cat 1 (.slice 1 (.int .i64)) (.cat 1 (.int .i64) (.cat 1 (.int .i64) (.cat 1 (.int .i64) .nil)))) v1) (r2 : Fr.RdV w reachBytes (.cat 1 (.slice 1 (.int .i64)) (.cat 1 (.int .i64) (.cat 1 (.int .i64) (.cat 1 (.int .i64) .nil)))) v2) :
    Calls Try.prog 3 #[v0, v1, v2] w fun e w' => e = .returned (.bool true) ∧ Below w.heap.size w w' := by
  obtain ⟨l, hv, hl⟩ := tree_of r0
  obtain ⟨x, rfl, hx⟩ := node_of r1
  obtain ⟨y, rfl, hy⟩ := node_of r2
  exact torder_calls x y l v0 w hv hl hx hy
end Go.Proofs.Ytmjcokmfjofgnaa
