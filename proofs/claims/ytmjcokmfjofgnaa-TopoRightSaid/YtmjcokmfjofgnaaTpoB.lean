/- The law TopoRight, walked. -/
import Derived.Test.YtmjcokmfjofgnaaTpoA
namespace Go.Proofs.Ytmjcokmfjofgnaa
open Go.RowKit Go.Shelf Go.Proofs.Ytmjcokmfjofgnaa.Rou Go.Proofs.Ytmjcokmfjofgnaa.Tpo
set_option maxRecDepth 100000 in
set_option maxHeartbeats 6400000 in
theorem right_calls (x : Nh) (l : List Nh) (V : Value) (q : List Int) (Aq : Option Addr) (cq : Nat) (w : World) (hv : Tr w V l) (hl : l.length ≤ mx) (hx : Rn w x) (hq : Wy w Aq cq q) (hql : q.length ≤ mx) :
    Calls Try.prog 4 #[V, x.v, .slice Aq q.length cq] w fun e w' => e = .returned (.bool true) ∧ Below w.heap.size w w' := by
  obtain ⟨A0, c0, rfl⟩ := hv.form
  obtain ⟨A, c, n⟩ := x
  obtain ⟨p, kd, po, se⟩ := n
  have hal := Kt.balloc (Below.refl _ w) (.cells #[.slice A p.length c, .int .i64 kd, .int .i64 po, .int .i64 se] 25)
  have hrow := heap_alloc_new w (.cells #[.slice A p.length c, .int .i64 kd, .int .i64 po, .int .i64 se] 25)
  have HP := Lib.hid (plug_calls ⟨A, c, ⟨p, kd, po, se⟩⟩ l (.slice A0 l.length c0) _ (hv.on hal) hl (hx.on hal))
  have HV := Lib.hid hv
  have HX := Lib.hid hx
  have HL := Lib.hid hl
  have HQ := Lib.hid hq
  have HQL := Lib.hid hql
  have HB := Lib.hid hal
  have HR := Lib.hid hrow
  have q0 := fun i => cell_of_row _ _ i _ _ _ hrow
  unfold Nh.v at HP ⊢
  dsimp only at HP ⊢
  clear hv hx hl hal hrow hq hql
  go_enter Try.func4, Try.ntmps4
  go_wp2_with fail
  refine HP.out.mono ?_
  rintro e w1 ⟨z, V1, l1, rfl, hp⟩
  obtain ⟨A1, c1, rfl⟩ := hp.own.tr.form
  have HP1 := Lib.hid hp
  have HB1 := Lib.hid (Kt.bthen HB.out hp.bel)
  have HR1 := Lib.hid (Kt.row_on hp.bel HR.out)
  clear hp HP HB HR q0
  go_wp2_with fail
  refine (plives_calls _).mono ?_
  rintro e w2 ⟨rfl, hb⟩
  have HB2 := Lib.hid (Kt.bthen HB1.out hb)
  have HR2 := Lib.hid (Kt.row_on hb HR1.out)
  have HT2 := Lib.hid (HP1.out.own.onw hb)
  clear hb HB1 HR1
  by_cases hz : z = 0
  · have HOK := Lib.hid (HP1.out.ok.1 hz)
    have HNW := Lib.hid (HP1.out.new hz)
    subst hz
    have hlen : l1.length = l.length + 1 := by
      have h1 := congrArg List.length HNW.out
      rw [nds_len, ins_len, nds_len] at h1
      exact h1
    have hrm : l.length < 40 := by have := HOK.out.room; rw [nds_len] at this; exact this
    have HRT1 : Hid (Rt (nds l1)) := Lib.hid (by rw [HNW.out]; exact plug_rt HOK.out)
    have HC1 := Lib.hid (tcheck_calls l1 _ _ HT2.out.tr)
    have HLEN := Lib.hid (And.intro hlen hrm)
    clear hlen hrm HP1
    go_wp2_with fail
    refine HC1.out.mono ?_
    rintro e w3 ⟨zc, rfl, hzc, hb⟩
    obtain rfl : zc = 0 := hzc.2 HRT1.out
    have HB3 := Lib.hid (Kt.bthen HB2.out hb)
    have HR3 := Lib.hid (Kt.row_on hb HR2.out)
    have HT3 := Lib.hid (HT2.out.onw hb)
    have hw1 : wrap64 ((l.length : Int) + 1) = l1.length := by have := HLEN.out; unfold wrap64; omega
    have hw2 : IntKind.i64.wrap ((l.length : Int) + 1) = l1.length := by have := HLEN.out; rw [IntWalk.i64_in _ (by omega)]; omega
    have hr3 := HR3.out
    have q3 := fun i => cell_of_row _ _ i _ _ _ hr3
    clear hb hzc HC1 HB2 HR2 HT2 hr3
    go_wp2_with fail
    refine (tfind_calls p A c l1 _ _ HT3.out.tr (by have := HLEN.out; unfold mx; omega) (HX.out.way.on HB3.out) HX.out.le (fun y hy => by have := (valid_len (HRT1.out.valid y hy)).2; unfold px; omega)).mono ?_
    rintro e w4 ⟨y, ok, rfl, hok, hin, _, hon, hb⟩
    obtain rfl : ok = true := by
      rw [hok, HNW.out, List.any_eq_true]
      exact ⟨_, ins_mem.2 (.inl rfl), decide_eq_true rfl⟩
    obtain ⟨hy1, hy2⟩ := hin rfl
    have hyn : y.n = ⟨p, kd, po, se⟩ := by
      rw [HNW.out] at hy1
      rcases ins_mem.1 hy1 with h | h
      · exact h
      · exact absurd hy2 (HOK.out.fresh _ h)
    obtain ⟨Ay, cy, ny⟩ := y
    dsimp only at hyn
    subst hyn
    have hal4 := Kt.balloc hb (.cells #[.slice Ay p.length cy, .int .i64 kd, .int .i64 po, .int .i64 se] 25)
    have HB4 := Lib.hid (Kt.bthen HB3.out hal4)
    have HS4 := Lib.hid (same_calls ⟨Ay, cy, ⟨p, kd, po, se⟩⟩ ⟨A, c, ⟨p, kd, po, se⟩⟩ _ rfl (hon.on (Kt.balloc (Below.refl _ w4) (.cells #[.slice Ay p.length cy, .int .i64 kd, .int .i64 po, .int .i64 se] 25))).rn (HX.out.on HB4.out))
    have hr4 := Kt.row_on hal4 HR3.out
    have hr5 := heap_alloc_new w4 (.cells #[.slice Ay p.length cy, .int .i64 kd, .int .i64 po, .int .i64 se] 25)
    have q4 := fun i => cell_of_row _ _ i _ _ _ hr4
    have q5 := fun i => cell_of_row _ _ i _ _ _ hr5
    unfold Nh.v at HS4 ⊢
    dsimp only at HS4 ⊢
    clear hok hin hy1 hy2 hon hb hal4 hr4 hr5 q3 hw1 hw2
    go_wp2_with fail
    refine HS4.out.mono ?_
    rintro e w5 ⟨rfl, hb⟩
    have HBX := Lib.hid (Kt.bthen HB4.out hb)
    clear hb HS4 q4 q5 HB4 HB3
    go_wp2_with fail
    refine (unplug_calls q Aq cq l _ _ (HV.out.on HBX.out) HL.out (HQ.out.on HBX.out) HQL.out).mono ?_
    rintro e wu ⟨f, V2, l2, V3, l3, rfl, hu⟩
    obtain ⟨A2, c2, rfl⟩ := hu.own1.tr.form
    obtain ⟨A3, c3, rfl⟩ := hu.own2.tr.form
    have HU := Lib.hid hu
    have HBU := Lib.hid (Kt.bthen HBX.out hu.bel)
    have HS2 : Hid (l2.length ≤ mx ∧ ∀ y ∈ nds l2, y.path.length ≤ px) := Lib.hid (by
      by_cases hf : f = 0
      · have hrt := left_rt (hu.ok.1 hf).1 q
        rw [← hu.left hf] at hrt
        refine ⟨by have := hrt.len; rw [nds_len] at this; unfold mx; omega, fun y hy => by have := (valid_len (hrt.valid y hy)).2; unfold px; omega⟩
      · rw [(hu.bad hf).1]
        exact ⟨Nat.zero_le _, fun y hy => (by cases hy)⟩)
    clear hu HBX
    go_wp2_with fail
    refine (tfind_calls q Aq cq l2 _ _ HU.out.own1.tr HS2.out.1 (HQ.out.on HBU.out) HQL.out HS2.out.2).mono ?_
    rintro e wf ⟨y2, ok2, rfl, hok2, _, _, _, hb⟩
    obtain ⟨Ay2, cy2, ⟨py2, ky2, oy2, sy2⟩⟩ := y2
    have hal2 := Kt.balloc hb (.cells #[.slice Ay2 py2.length cy2, .int .i64 ky2, .int .i64 oy2, .int .i64 sy2] 25)
    have HBF := Lib.hid (Kt.bthen HBU.out hal2)
    have HT2 := Lib.hid (HU.out.own1.onw hal2)
    have HOK2 := Lib.hid hok2
    unfold Nh.v
    dsimp only
    clear hb hok2 hal2
    by_cases hf : f = 0
    · have h1 := HU.out.left hf
      have h2 := HU.out.gone hf
      obtain ⟨h3, h4⟩ := HU.out.ok.1 hf
      subst hf
      have hrt := left_rt h3 q
      rw [← h1] at hrt
      have hno : ok2 = false := by
        rw [HOK2.out, List.any_eq_false]
        intro s hs he
        rw [h1] at hs
        exact left_none q s hs (of_decide_eq_true he)
      subst hno
      have hsum : l2.length + l3.length = l.length := by
        have := parts_len (nds l) (un q)
        rw [← h1, ← h2, nds_len, nds_len, nds_len] at this
        exact this
      have hpos : (0 : Int) < l3.length := by
        obtain ⟨g, r, e1, _⟩ := gone_first h3 h4
        have := congrArg List.length (h2.trans e1)
        rw [nds_len, List.length_cons] at this
        omega
      have hlm := HL.out
      unfold mx at hlm
      have hw1 : wrap64 ((l2.length : Int) + l3.length) = l.length := by unfold wrap64; omega
      have hw2 : IntKind.i64.wrap ((l2.length : Int) + l3.length) = l.length := by rw [IntWalk.i64_in _ (by omega)]; omega
      have HC2 := Lib.hid (tcheck_calls l2 _ _ HT2.out.tr)
      have HRT2 := Lib.hid hrt
      have HFA := Lib.hid (And.intro hpos (And.intro hw1 hw2))
      clear h1 h2 h3 h4 hrt hsum hlm hpos hw1 hw2
      go_wp2_with fail
      refine HC2.out.mono ?_
      rintro e wg ⟨zc, rfl, hzc, hb⟩
      obtain rfl : zc = 0 := hzc.2 HRT2.out
      have HBG := Lib.hid (Kt.bthen HBF.out hb)
      obtain ⟨hpos, hw1, hw2⟩ := HFA.out
      have hposn : decide (0 < l3.length) = true := decide_eq_true (by omega)
      clear hb hzc HC2
      go_wp2_with fail
      go_ret
      exact ⟨rfl, HBG.out⟩
    · have hf1 : (f != 0) = true := by rw [bne_iff_ne]; exact hf
      clear hf
      go_wp2_with fail
      go_ret
      exact ⟨rfl, HBF.out⟩
  · obtain rfl : l1 = [] := HP1.out.bad hz
    have hz1 : (z == 0) = false := by rw [beq_eq_false_iff_ne]; exact hz
    have hr2 := HR2.out
    have q2 := fun i => cell_of_row _ _ i _ _ _ hr2
    clear hz hr2
    go_wp2_with fail
    refine (tfind_calls p A c [] _ _ HT2.out.tr (Nat.zero_le _) (HX.out.way.on HB2.out) HX.out.le (fun y hy => (by cases hy))).mono ?_
    rintro e w4 ⟨y, ok, rfl, _, _, _, _, hb⟩
    obtain ⟨Ay, cy, ⟨py, ky, oy, sy⟩⟩ := y
    have HBX := Lib.hid (Kt.bthen HB2.out (Kt.balloc hb (.cells #[.slice Ay py.length cy, .int .i64 ky, .int .i64 oy, .int .i64 sy] 25)))
    unfold Nh.v
    dsimp only
    clear hb q2 HB2 HR2 HT2
    go_wp2_with fail
    refine (unplug_calls q Aq cq l _ _ (HV.out.on HBX.out) HL.out (HQ.out.on HBX.out) HQL.out).mono ?_
    rintro e wu ⟨f, V2, l2, V3, l3, rfl, hu⟩
    obtain ⟨A2, c2, rfl⟩ := hu.own1.tr.form
    obtain ⟨A3, c3, rfl⟩ := hu.own2.tr.form
    have HU := Lib.hid hu
    have HBU := Lib.hid (Kt.bthen HBX.out hu.bel)
    have HS2 : Hid (l2.length ≤ mx ∧ ∀ y ∈ nds l2, y.path.length ≤ px) := Lib.hid (by
      by_cases hf : f = 0
      · have hrt := left_rt (hu.ok.1 hf).1 q
        rw [← hu.left hf] at hrt
        refine ⟨by have := hrt.len; rw [nds_len] at this; unfold mx; omega, fun y hy => by have := (valid_len (hrt.valid y hy)).2; unfold px; omega⟩
      · rw [(hu.bad hf).1]
        exact ⟨Nat.zero_le _, fun y hy => (by cases hy)⟩)
    clear hu HBX
    go_wp2_with fail
    refine (tfind_calls q Aq cq l2 _ _ HU.out.own1.tr HS2.out.1 (HQ.out.on HBU.out) HQL.out HS2.out.2).mono ?_
    rintro e wf ⟨y2, ok2, rfl, hok2, _, _, _, hb⟩
    obtain ⟨Ay2, cy2, ⟨py2, ky2, oy2, sy2⟩⟩ := y2
    have hal2 := Kt.balloc hb (.cells #[.slice Ay2 py2.length cy2, .int .i64 ky2, .int .i64 oy2, .int .i64 sy2] 25)
    have HBF := Lib.hid (Kt.bthen HBU.out hal2)
    have HT2 := Lib.hid (HU.out.own1.onw hal2)
    have HOK2 := Lib.hid hok2
    unfold Nh.v
    dsimp only
    clear hb hok2 hal2
    by_cases hf : f = 0
    · have h1 := HU.out.left hf
      have h2 := HU.out.gone hf
      obtain ⟨h3, h4⟩ := HU.out.ok.1 hf
      subst hf
      have hrt := left_rt h3 q
      rw [← h1] at hrt
      have hno : ok2 = false := by
        rw [HOK2.out, List.any_eq_false]
        intro s hs he
        rw [h1] at hs
        exact left_none q s hs (of_decide_eq_true he)
      subst hno
      have hsum : l2.length + l3.length = l.length := by
        have := parts_len (nds l) (un q)
        rw [← h1, ← h2, nds_len, nds_len, nds_len] at this
        exact this
      have hpos : (0 : Int) < l3.length := by
        obtain ⟨g, r, e1, _⟩ := gone_first h3 h4
        have := congrArg List.length (h2.trans e1)
        rw [nds_len, List.length_cons] at this
        omega
      have hlm := HL.out
      unfold mx at hlm
      have hw1 : wrap64 ((l2.length : Int) + l3.length) = l.length := by unfold wrap64; omega
      have hw2 : IntKind.i64.wrap ((l2.length : Int) + l3.length) = l.length := by rw [IntWalk.i64_in _ (by omega)]; omega
      have HC2 := Lib.hid (tcheck_calls l2 _ _ HT2.out.tr)
      have HRT2 := Lib.hid hrt
      have HFA := Lib.hid (And.intro hpos (And.intro hw1 hw2))
      clear h1 h2 h3 h4 hrt hsum hlm hpos hw1 hw2
      go_wp2_with fail
      refine HC2.out.mono ?_
      rintro e wg ⟨zc, rfl, hzc, hb⟩
      obtain rfl : zc = 0 := hzc.2 HRT2.out
      have HBG := Lib.hid (Kt.bthen HBF.out hb)
      obtain ⟨hpos, hw1, hw2⟩ := HFA.out
      have hposn : decide (0 < l3.length) = true := decide_eq_true (by omega)
      clear hb hzc HC2
      go_wp2_with fail
      go_ret
      exact ⟨rfl, HBG.out⟩
    · have hf1 : (f != 0) = true := by rw [bne_iff_ne]; exact hf
      clear hf
      go_wp2_with fail
      go_ret
      exact ⟨rfl, HBF.out⟩
theorem right_walk (v0 v1 v2 : Value) (w : World) (r0 : Fr.RdV w reachBytes (.slice 4 (.cat 1 (.slice 1 (.int .i64)) (.cat 1 (.int .i64) (.cat 1 (.int .i64) (.cat 1 (.int .i64) .nil))))) v0) (r1 : Fr.RdV w reachBytes (.cat 1 (.slice 1 (.int .i64)) (.cat 1 (.int .i64) (.cat 1 (.int .i64) (.cat 1 (.int .i64) .nil)))) v1) (r2 : Fr.RdV w reachBytes (.slice 1 (.int .i64)) v2) :
    Calls Try.prog 4 #[v0, v1, v2] w fun e w' => e = .returned (.bool true) ∧ Below w.heap.size w w' := by
  obtain ⟨l, hv, hl⟩ := tree_of r0
  obtain ⟨x, rfl, hx⟩ := node_of r1
  obtain ⟨Aq, cq, q, rfl, hq, hql⟩ := way_of r2
  exact right_calls x l v0 q Aq cq w hv hl hx hq hql
end Go.Proofs.Ytmjcokmfjofgnaa
