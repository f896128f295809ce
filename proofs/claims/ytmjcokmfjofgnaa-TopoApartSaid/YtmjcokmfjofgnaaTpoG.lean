/- The law TopoApart, walked. -/
import Derived.Test.YtmjcokmfjofgnaaTpoF
namespace Go.Proofs.Ytmjcokmfjofgnaa
open Go.RowKit Go.Shelf Go.Proofs.Ytmjcokmfjofgnaa.Rou Go.Proofs.Ytmjcokmfjofgnaa.Tpo
set_option maxRecDepth 100000 in
set_option maxHeartbeats 6400000 in
theorem apart_calls (l : List Nh) (V : Value) (p q : List Int) (Ap Aq : Option Addr) (cp' cq : Nat) (w : World) (hv : Tr w V l) (hl : l.length ≤ mx) (hp : Wy w Ap cp' p) (hpl : p.length ≤ mx) (hq : Wy w Aq cq q) (hql : q.length ≤ mx) :
    Calls Try.prog 8 #[V, .slice Ap p.length cp', .slice Aq q.length cq] w fun e w' => e = .returned (.bool true) ∧ Below w.heap.size w w' := by
  obtain ⟨A0, c0, rfl⟩ := hv.form
  have HU1 := Lib.hid (unplug_calls p Ap cp' l _ w hv hl hp hpl)
  have HV := Lib.hid hv
  have HL := Lib.hid hl
  have HP := Lib.hid hp
  have HPL := Lib.hid hpl
  have HQ := Lib.hid hq
  have HQL := Lib.hid hql
  clear hv hl hp hpl hq hql
  go_enter Try.func8, Try.ntmps8
  go_wp2_with fail
  refine HU1.out.mono ?_
  rintro e w1 ⟨z1, V1, l1, V2, l2, rfl, hu⟩
  obtain ⟨A1, c1, rfl⟩ := hu.own1.tr.form
  obtain ⟨A2, c2, rfl⟩ := hu.own2.tr.form
  have HS1 := Lib.hid (show (z1 = 0 ↔ (Rt (nds l) ∧ ∃ x ∈ nds l, x.path = p)) ∧ (z1 = 0 → nds l1 = (nds l).filter (fun x => !un p x)) ∧ (z1 = 0 → nds l2 = (nds l).filter (un p)) from ⟨hu.ok, hu.left, hu.gone⟩)
  have HB1 := Lib.hid hu.bel
  have HT1 := Lib.hid (And.intro hu.own1 hu.own2)
  clear hu HU1
  go_wp2_with fail
  refine (unplug_calls q Aq cq l _ _ (HV.out.on HB1.out) HL.out (HQ.out.on HB1.out) HQL.out).mono ?_
  rintro e w2 ⟨z2, V3, l3, V4, l4, rfl, hu⟩
  obtain ⟨A3, c3, rfl⟩ := hu.own1.tr.form
  obtain ⟨A4, c4, rfl⟩ := hu.own2.tr.form
  have HS2 := Lib.hid (show (z2 = 0 ↔ (Rt (nds l) ∧ ∃ x ∈ nds l, x.path = q)) ∧ (z2 = 0 → nds l3 = (nds l).filter (fun x => !un q x)) ∧ (z2 = 0 → nds l4 = (nds l).filter (un q)) from ⟨hu.ok, hu.left, hu.gone⟩)
  have HB2 := Lib.hid (Kt.bthen HB1.out hu.bel)
  have HT2 := Lib.hid (And.intro (HT1.out.1.onw hu.bel) (And.intro (HT1.out.2.onw hu.bel) (And.intro (hu.own1.mono HB1.out.size) (hu.own2.mono HB1.out.size))))
  clear hu HB1 HT1
  go_wp2_with fail
  refine (plives_calls _).mono ?_
  rintro e w3 ⟨rfl, hb⟩
  have HB3 := Lib.hid (Kt.bthen HB2.out hb)
  have HT3 := Lib.hid (And.intro (HT2.out.1.onw hb) (And.intro (HT2.out.2.1.onw hb) (And.intro (HT2.out.2.2.1.onw hb) (HT2.out.2.2.2.onw hb))))
  clear hb HB2 HT2
  by_cases hz1 : z1 = 0
  · by_cases hz2 : z2 = 0
    · obtain ⟨hrt, hep⟩ := HS1.out.1.1 hz1
      have heq := (HS2.out.1.1 hz2).2
      have HE := Lib.hid (And.intro (HS1.out.2.1 hz1) (And.intro (HS1.out.2.2 hz1) (And.intro (HS2.out.2.1 hz2) (HS2.out.2.2 hz2))))
      have HRT := Lib.hid (And.intro hrt (And.intro hep heq))
      subst hz1 hz2
      have HTR := Lib.hid (rtree_calls l _ _ (HV.out.on HB3.out) hrt)
      clear hrt hep heq HS1 HS2
      go_wp2_with fail
      refine HTR.out.mono ?_
      rintro e w4 ⟨zt, rfl, hb⟩
      have HB4 := Lib.hid (Kt.bthen HB3.out hb)
      have HT4 := Lib.hid (And.intro (HT3.out.1.onw hb) (And.intro (HT3.out.2.1.onw hb) (And.intro (HT3.out.2.2.1.onw hb) (HT3.out.2.2.2.onw hb))))
      clear hb HB3 HT3 HTR
      by_cases hzt : zt = 0
      · subst hzt
        go_wp2_with fail
        refine (begin_calls p q Ap Aq cp' cq _ (HP.out.on HB4.out) (HQ.out.on HB4.out) HPL.out HQL.out).mono ?_
        rintro e w5 ⟨Am, cm, rfl, hd⟩
        have HB5 := Lib.hid (Kt.bthen HB4.out hd.bel)
        have HT5 := Lib.hid (And.intro (HT4.out.1.onw hd.bel) (And.intro (HT4.out.2.1.onw hd.bel) (And.intro (HT4.out.2.2.1.onw hd.bel) (HT4.out.2.2.2.onw hd.bel))))
        clear hd HB4 HT4
        obtain ⟨m, hm⟩ : ∃ m, cp p q = m := ⟨_, rfl⟩
        rw [hm]
        by_cases c1 : m = p.length
        · have e1 : ((m : Int) == p.length) = true := by rw [beq_iff_eq]; omega
          clear c1
          go_wp2_with fail
          go_ret
          exact ⟨rfl, HB5.out⟩
        · have e1 : ((m : Int) == p.length) = false := by rw [beq_eq_false_iff_ne]; omega
          by_cases c2 : m = q.length
          · have e2 : ((m : Int) == q.length) = true := by rw [beq_iff_eq]; omega
            clear c1 c2
            go_wp2_with fail
            go_ret
            exact ⟨rfl, HB5.out⟩
          · have e2 : ((m : Int) == q.length) = false := by rw [beq_eq_false_iff_ne]; omega
            have hqp : ¬ q <+: p := fun h => c2 (by rw [← hm]; exact (cp_all p q).2 h)
            have hpq : ¬ p <+: q := fun h => c1 (by rw [← hm, cp_comm]; exact (cp_all q p).2 h)
            obtain ⟨a1, a2⟩ := apart_plain (t := nds l) hpq hqp
            obtain ⟨b1, b2⟩ := apart_plain (t := nds l) hqp hpq
            have HA := Lib.hid (And.intro a1 (And.intro a2 b2))
            have hin : ∀ (a b : List Int), ¬ a <+: b → (∃ x ∈ nds l, x.path = b) → ∃ x ∈ (nds l).filter (fun x => !un a x), x.path = b := fun a b hab h => by
              obtain ⟨x, hx, he⟩ := h
              refine ⟨x, List.mem_filter.2 ⟨hx, ?_⟩, he⟩
              unfold un
              rw [he, decide_eq_false hab]; rfl
            have HIN := Lib.hid (And.intro (hin p q hpq HRT.out.2.2) (hin q p hqp HRT.out.2.1))
            have hlen : ∀ (l' : List Nh) (f : Nd → Bool), nds l' = (nds l).filter f → l'.length ≤ mx := fun l' f h => by
              have h1 := congrArg List.length h
              have h2 := List.length_filter_le f (nds l)
              have h3 := HRT.out.1.len
              rw [nds_len] at h1
              unfold mx; omega
            have HLE := Lib.hid hlen
            clear c1 c2 hqp hpq a1 a2 b1 b2 hin hlen hm
            go_wp2_with fail
            refine (unplug_calls q Aq cq l1 _ _ HT5.out.1.tr (HLE.out _ _ HE.out.1) (HQ.out.on HB5.out) HQL.out).mono ?_
            rintro e w6 ⟨z3, V5, l5, V6, l6, rfl, hu⟩
            obtain rfl : z3 = 0 := hu.ok.2 (by rw [HE.out.1]; exact ⟨left_rt HRT.out.1 p, HIN.out.1⟩)
            obtain ⟨A5, c5, rfl⟩ := hu.own1.tr.form
            obtain ⟨A6, c6, rfl⟩ := hu.own2.tr.form
            have HE6 : Hid (nds l5 = ((nds l).filter (fun x => !un p x)).filter (fun x => !un q x) ∧ nds l6 = (nds l).filter (un q)) := Lib.hid ⟨by rw [hu.left rfl, HE.out.1], by rw [hu.gone rfl, HE.out.1]; exact HA.out.2.1⟩
            have HB6 := Lib.hid (Kt.bthen HB5.out hu.bel)
            have HT6 := Lib.hid (And.intro (HT5.out.2.1.onw hu.bel) (And.intro (HT5.out.2.2.1.onw hu.bel) (And.intro (HT5.out.2.2.2.onw hu.bel) (And.intro hu.own1 hu.own2))))
            clear hu HB5 HT5
            go_wp2_with fail
            refine (unplug_calls p Ap cp' l3 _ _ HT6.out.2.1.tr (HLE.out _ _ HE.out.2.2.1) (HP.out.on HB6.out) HPL.out).mono ?_
            rintro e w7 ⟨z4, V7, l7, V8, l8, rfl, hu⟩
            obtain rfl : z4 = 0 := hu.ok.2 (by rw [HE.out.2.2.1]; exact ⟨left_rt HRT.out.1 q, HIN.out.2⟩)
            obtain ⟨A7, c7, rfl⟩ := hu.own1.tr.form
            obtain ⟨A8, c8, rfl⟩ := hu.own2.tr.form
            have HE7 : Hid (nds l7 = ((nds l).filter (fun x => !un q x)).filter (fun x => !un p x) ∧ nds l8 = (nds l).filter (un p)) := Lib.hid ⟨by rw [hu.left rfl, HE.out.2.2.1], by rw [hu.gone rfl, HE.out.2.2.1]; exact HA.out.2.2⟩
            have HB7 := Lib.hid (Kt.bthen HB6.out hu.bel)
            have HT7 := Lib.hid (And.intro (HT6.out.1.onw hu.bel) (And.intro (HT6.out.2.2.1.onw hu.bel) (And.intro (HT6.out.2.2.2.1.onw hu.bel) (And.intro (HT6.out.2.2.2.2.onw hu.bel) (And.intro hu.own1 hu.own2)))))
            have hl5 : l5.length ≤ mx := by
              have h1 := congrArg List.length HE6.out.1
              have h2 := List.length_filter_le (fun x => !un q x) ((nds l).filter (fun x => !un p x))
              have h3 := List.length_filter_le (fun x => !un p x) (nds l)
              have h4 := HRT.out.1.len
              rw [nds_len] at h1
              unfold mx; omega
            have HST1 := Lib.hid (stree_calls l5 l7 _ _ _ (by rw [HE6.out.1, HE7.out.1]; exact HA.out.1) HT7.out.2.2.1.tr HT7.out.2.2.2.2.1.tr hl5)
            clear hu HB6 HT6 hl5
            go_wp2_with fail
            refine HST1.out.mono ?_
            rintro e w8 ⟨rfl, hb⟩
            have HB8 := Lib.hid (Kt.bthen HB7.out hb)
            have HT8 := Lib.hid (And.intro (HT7.out.1.onw hb) (And.intro (HT7.out.2.1.onw hb) (And.intro (HT7.out.2.2.2.1.onw hb) (HT7.out.2.2.2.2.2.onw hb))))
            have HST2 := Lib.hid (stree_calls l6 l4 _ _ _ (by rw [HE6.out.2, HE.out.2.2.2]) HT8.out.2.2.1.tr HT8.out.2.1.tr (HLE.out _ _ HE6.out.2))
            clear hb HB7 HT7 HST1
            go_wp2_with fail
            refine HST2.out.mono ?_
            rintro e w9 ⟨rfl, hb⟩
            have HB9 := Lib.hid (Kt.bthen HB8.out hb)
            have HT9 := Lib.hid (And.intro (HT8.out.1.onw hb) (HT8.out.2.2.2.onw hb))
            have HST3 := Lib.hid (stree_calls l8 l2 _ _ _ (by rw [HE7.out.2, HE.out.2.1]) HT9.out.2.tr HT9.out.1.tr (HLE.out _ _ HE7.out.2))
            clear hb HB8 HT8 HST2
            go_wp2_with fail
            refine HST3.out.mono ?_
            rintro e w10 ⟨rfl, hb⟩
            have HB10 := Lib.hid (Kt.bthen HB9.out hb)
            clear hb HST3
            go_wp2_with fail
            go_ret
            exact ⟨rfl, HB10.out⟩
      · have h1 : (zt != 0) = true := by rw [bne_iff_ne]; exact hzt
        clear hzt
        go_wp2_with fail
        refine (plives_calls _).mono ?_
        rintro e w5 ⟨rfl, hb⟩
        have HB5 := Lib.hid (Kt.bthen HB4.out hb)
        clear hb
        go_wp2_with fail
        go_ret
        exact ⟨rfl, HB5.out⟩
    · subst hz1
      have h2 : (z2 != 0) = true := by rw [bne_iff_ne]; exact hz2
      clear hz2
      go_wp2_with fail
      refine (plives_calls _).mono ?_
      rintro e w4 ⟨rfl, hb⟩
      have HB4 := Lib.hid (Kt.bthen HB3.out hb)
      clear hb
      go_wp2_with fail
      go_ret
      exact ⟨rfl, HB4.out⟩
  · have h1 : (z1 != 0) = true := by rw [bne_iff_ne]; exact hz1
    clear hz1
    go_wp2_with fail
    refine (plives_calls _).mono ?_
    rintro e w4 ⟨rfl, hb⟩
    have HB4 := Lib.hid (Kt.bthen HB3.out hb)
    clear hb
    go_wp2_with fail
    go_ret
    exact ⟨rfl, HB4.out⟩
theorem apart_walk (v0 v1 v2 : Value) (w : World) (r0 : Fr.RdV w reachBytes (.slice 4 (.cat 1 (.slice 1 (.int .i64)) (.cat 1 (.int .i64) (.cat 1 (.int .i64) (.cat 1 (.int .i64) .nil))))) v0) (r1 : Fr.RdV w reachBytes (.slice 1 (.int .i64)) v1) (r2 : Fr.RdV w reachBytes (.slice 1 (.int .i64)) v2) :
    Calls Try.prog 8 #[v0, v1, v2] w fun e w' => e = .returned (.bool true) ∧ Below w.heap.size w w' := by
  obtain ⟨l, hv, hl⟩ := tree_of r0
  obtain ⟨Ap, cp', p, rfl, hp, hpl⟩ := way_of r1
  obtain ⟨Aq, cq, q, rfl, hq, hql⟩ := way_of r2
  exact apart_calls l v0 p q Ap Aq cp' cq w hv hl hp hpl hq hql
end Go.Proofs.Ytmjcokmfjofgnaa
