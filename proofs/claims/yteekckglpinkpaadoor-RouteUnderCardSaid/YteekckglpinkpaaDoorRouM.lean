/- The laws of ways, walked. -/
import Derived.Test.YteekckglpinkpaaDoorRouL
namespace Go.Proofs.YteekckglpinkpaaDoor
open Go.RowKit Go.Proofs.YteekckglpinkpaaDoor.Rou
theorem hops_le (a b : List Int) : 0 ≤ hops a b ∧ hops a b ≤ a.length + b.length := by
  unfold hops
  have := cp_left a b; have := cp_right a b
  omega
theorem wr_sum (a b c d : List Int) (ma : a.length ≤ 17592186044416) (mb : b.length ≤ 17592186044416) (mc : c.length ≤ 17592186044416) (md : d.length ≤ 17592186044416) : IntKind.i64.wrap (hops a b + hops c d) = hops a b + hops c d := by
  have := hops_le a b; have := hops_le c d
  rw [IntWalk.i64_left]; unfold wrap64; omega
theorem met_eq (a b : List Int) : ∃ q : Bool, (hops a b == 0) = q ∧ decide (a = b) = q := by
  refine ⟨_, rfl, ?_⟩
  rw [Bool.eq_iff_iff, decide_eq_true_iff, beq_iff_eq, hops_zero]
set_option maxRecDepth 100000 in
set_option maxHeartbeats 1600000 in
theorem metric_calls (a : List Int) (b : List Int) (c : List Int) (A : Option Addr) (ka : Nat) (B : Option Addr) (kb : Nat) (C : Option Addr) (kc : Nat) (w : World) (ha : Wy w A ka a) (hb : Wy w B kb b) (hc : Wy w C kc c) (ma : a.length ≤ 17592186044416) (mb : b.length ≤ 17592186044416) (mc : c.length ≤ 17592186044416) :
    Calls Tryd.prog 4 #[.slice A a.length ka, .slice B b.length kb, .slice C c.length kc] w fun e w' => e = .returned (.bool true) ∧ Below w.heap.size w w' := by
  have Qa := Lib.hid ha
  have hba : a.length ≤ big := Nat.le_trans ma (by decide)
  have Ma := Lib.hid hba
  have Qb := Lib.hid hb
  have hbb : b.length ≤ big := Nat.le_trans mb (by decide)
  have Mb := Lib.hid hbb
  have Qc := Lib.hid hc
  have hbc : c.length ≤ big := Nat.le_trans mc (by decide)
  have Mc := Lib.hid hbc
  have B0 := Lib.hid (Below.refl w.heap.size w)
  clear ha hba hb hbb hc hbc
  obtain ⟨q, q1, q2⟩ := met_eq a b
  have HS := wr_sum a b b c ma mb mb mc
  have HT := hops_tri a b c
  obtain ⟨S, hS⟩ : ∃ S, hops a b + hops b c = S := ⟨_, rfl⟩
  rw [hS] at HS HT
  have HS' : IntKind.i64.wrap (hops a b + hops b c) = S := by rw [hS]; exact HS
  clear ma mb mc HS hS
  go_enter Tryd.func4, Tryd.ntmps4
  go_wp2_with fail
  refine (rlives_calls _).mono ?_
  rintro e w1 ⟨rfl, hb⟩
  have B1 := Lib.hid (Kt.bthen B0.out hb)
  clear hb
  go_wp2_with fail
  have hc := hops_calls a b _ _ _ _ _ (Qa.out.on B1.out) (Qb.out.on B1.out) Ma.out Mb.out
  refine hc.mono ?_
  rintro e w2 ⟨rfl, hb⟩
  have B2 := Lib.hid (Kt.bthen B1.out hb)
  clear hb hc
  go_wp2_with fail
  have hc := ieq_calls a b _ _ _ _ _ (Qa.out.on B2.out) (Qb.out.on B2.out) Ma.out Mb.out
  rw [q2] at hc
  refine hc.mono ?_
  rintro e w3 ⟨rfl, hb⟩
  have B3 := Lib.hid (Kt.bthen B2.out hb)
  clear hb hc
  go_wp2_with fail
  have hc := hops_calls a b _ _ _ _ _ (Qa.out.on B3.out) (Qb.out.on B3.out) Ma.out Mb.out
  refine hc.mono ?_
  rintro e w4 ⟨rfl, hb⟩
  have B4 := Lib.hid (Kt.bthen B3.out hb)
  clear hb hc
  go_wp2_with fail
  have hc := hops_calls b a _ _ _ _ _ (Qb.out.on B4.out) (Qa.out.on B4.out) Mb.out Ma.out
  rw [hops_comm b a] at hc
  refine hc.mono ?_
  rintro e w5 ⟨rfl, hb⟩
  have B5 := Lib.hid (Kt.bthen B4.out hb)
  clear hb hc
  go_wp2_with fail
  have hc := hops_calls a c _ _ _ _ _ (Qa.out.on B5.out) (Qc.out.on B5.out) Ma.out Mc.out
  refine hc.mono ?_
  rintro e w6 ⟨rfl, hb⟩
  have B6 := Lib.hid (Kt.bthen B5.out hb)
  clear hb hc
  go_wp2_with fail
  have hc := hops_calls a b _ _ _ _ _ (Qa.out.on B6.out) (Qb.out.on B6.out) Ma.out Mb.out
  refine hc.mono ?_
  rintro e w7 ⟨rfl, hb⟩
  have B7 := Lib.hid (Kt.bthen B6.out hb)
  clear hb hc
  go_wp2_with fail
  have hc := hops_calls b c _ _ _ _ _ (Qb.out.on B7.out) (Qc.out.on B7.out) Mb.out Mc.out
  refine hc.mono ?_
  rintro e w8 ⟨rfl, hb⟩
  have B8 := Lib.hid (Kt.bthen B7.out hb)
  clear hb hc
  go_wp2_with fail
  go_ret
  exact ⟨rfl, B8.out⟩
set_option maxRecDepth 100000 in
set_option maxHeartbeats 1600000 in
theorem four_calls (a : List Int) (b : List Int) (c : List Int) (d : List Int) (A : Option Addr) (ka : Nat) (B : Option Addr) (kb : Nat) (C : Option Addr) (kc : Nat) (D : Option Addr) (kd : Nat) (w : World) (ha : Wy w A ka a) (hb : Wy w B kb b) (hc : Wy w C kc c) (hd : Wy w D kd d) (ma : a.length ≤ 17592186044416) (mb : b.length ≤ 17592186044416) (mc : c.length ≤ 17592186044416) (md : d.length ≤ 17592186044416) :
    Calls Tryd.prog 3 #[.slice A a.length ka, .slice B b.length kb, .slice C c.length kc, .slice D d.length kd] w fun e w' => e = .returned (.bool true) ∧ Below w.heap.size w w' := by
  have Qa := Lib.hid ha
  have hba : a.length ≤ big := Nat.le_trans ma (by decide)
  have Ma := Lib.hid hba
  have Qb := Lib.hid hb
  have hbb : b.length ≤ big := Nat.le_trans mb (by decide)
  have Mb := Lib.hid hbb
  have Qc := Lib.hid hc
  have hbc : c.length ≤ big := Nat.le_trans mc (by decide)
  have Mc := Lib.hid hbc
  have Qd := Lib.hid hd
  have hbd : d.length ≤ big := Nat.le_trans md (by decide)
  have Md := Lib.hid hbd
  have B0 := Lib.hid (Below.refl w.heap.size w)
  clear ha hba hb hbb hc hbc hd hbd
  have w1 := wr_sum a b c d ma mb mc md
  have w2 := wr_sum a c b d ma mc mb md
  have w3 := wr_sum a d b c ma md mb mc
  have f1 := hops_four a b c d
  have f2 := hops_four a c b d
  have f3 := hops_four a d b c
  rw [hops_comm c b] at f2
  rw [hops_comm d c, hops_comm d b] at f3
  obtain ⟨X, hX⟩ : ∃ S, hops a b + hops c d = S := ⟨_, rfl⟩
  obtain ⟨Y, hY⟩ : ∃ S, hops a c + hops b d = S := ⟨_, rfl⟩
  obtain ⟨Z, hZ⟩ : ∃ S, hops a d + hops b c = S := ⟨_, rfl⟩
  rw [hX, hY, hZ] at f1
  rw [hX, hY, hZ] at f2
  rw [hX, hY, hZ] at f3
  rw [hX] at w1
  rw [hY] at w2
  rw [hZ] at w3
  have v1 : IntKind.i64.wrap (hops a b + hops c d) = X := by rw [hX]; exact w1
  have v2 : IntKind.i64.wrap (hops a c + hops b d) = Y := by rw [hY]; exact w2
  have v3 : IntKind.i64.wrap (hops a d + hops b c) = Z := by rw [hZ]; exact w3
  have g1 : X ≤ max Y Z := f1
  have g2 : Y ≤ max X Z := f2
  have g3 : Z ≤ max X Y := by omega
  clear w1 w2 w3 f1 f2 f3 hX hY hZ ma mb mc md
  go_enter Tryd.func3, Tryd.ntmps3
  go_wp2_with fail
  have hc := hops_calls a b _ _ _ _ _ (Qa.out.on B0.out) (Qb.out.on B0.out) Ma.out Mb.out
  refine hc.mono ?_
  rintro e w1 ⟨rfl, hb⟩
  have B1 := Lib.hid (Kt.bthen B0.out hb)
  clear hb hc
  go_wp2_with fail
  have hc := hops_calls c d _ _ _ _ _ (Qc.out.on B1.out) (Qd.out.on B1.out) Mc.out Md.out
  refine hc.mono ?_
  rintro e w2 ⟨rfl, hb⟩
  have B2 := Lib.hid (Kt.bthen B1.out hb)
  clear hb hc
  go_wp2_with fail
  have hc := hops_calls a c _ _ _ _ _ (Qa.out.on B2.out) (Qc.out.on B2.out) Ma.out Mc.out
  refine hc.mono ?_
  rintro e w3 ⟨rfl, hb⟩
  have B3 := Lib.hid (Kt.bthen B2.out hb)
  clear hb hc
  go_wp2_with fail
  have hc := hops_calls b d _ _ _ _ _ (Qb.out.on B3.out) (Qd.out.on B3.out) Mb.out Md.out
  refine hc.mono ?_
  rintro e w4 ⟨rfl, hb⟩
  have B4 := Lib.hid (Kt.bthen B3.out hb)
  clear hb hc
  go_wp2_with fail
  have hc := hops_calls a d _ _ _ _ _ (Qa.out.on B4.out) (Qd.out.on B4.out) Ma.out Md.out
  refine hc.mono ?_
  rintro e w5 ⟨rfl, hb⟩
  have B5 := Lib.hid (Kt.bthen B4.out hb)
  clear hb hc
  go_wp2_with fail
  have hc := hops_calls b c _ _ _ _ _ (Qb.out.on B5.out) (Qc.out.on B5.out) Mb.out Mc.out
  refine hc.mono ?_
  rintro e w6 ⟨rfl, hb⟩
  have B6 := Lib.hid (Kt.bthen B5.out hb)
  clear hb hc
  go_wp2_with fail
  refine (rlives_calls _).mono ?_
  rintro e w7 ⟨rfl, hb⟩
  have B7 := Lib.hid (Kt.bthen B6.out hb)
  clear hb
  go_wp2_with fail
  go_ret
  exact ⟨rfl, B7.out⟩
set_option maxRecDepth 100000 in
set_option maxHeartbeats 1600000 in
theorem rmeet_calls (a : List Int) (b : List Int) (c : List Int) (A : Option Addr) (ka : Nat) (B : Option Addr) (kb : Nat) (C : Option Addr) (kc : Nat) (w : World) (ha : Wy w A ka a) (hb : Wy w B kb b) (hc : Wy w C kc c) (ma : a.length ≤ 17592186044416) (mb : b.length ≤ 17592186044416) (mc : c.length ≤ 17592186044416) :
    Calls Tryd.prog 5 #[.slice A a.length ka, .slice B b.length kb, .slice C c.length kc] w fun e w' => e = .returned (.bool true) ∧ Below w.heap.size w w' := by
  have Qa := Lib.hid ha
  have hba : a.length ≤ big := Nat.le_trans ma (by decide)
  have Ma := Lib.hid hba
  have Qb := Lib.hid hb
  have hbb : b.length ≤ big := Nat.le_trans mb (by decide)
  have Mb := Lib.hid hbb
  have Qc := Lib.hid hc
  have hbc : c.length ≤ big := Nat.le_trans mc (by decide)
  have Mc := Lib.hid hbc
  have B0 := Lib.hid (Below.refl w.heap.size w)
  clear ha hba hb hbb hc hbc
  obtain ⟨m, hm⟩ : ∃ m, a.take (cp a b) = m := ⟨_, rfl⟩
  have hm2 : b.take (cp b a) = m := by rw [cp_comm b a, ← cp_take, hm]
  have hml : m.length ≤ big := by rw [← hm, List.length_take]; unfold big; omega
  have Mm := Lib.hid hml
  have um1 : decide (m <+: a) = true := decide_eq_true (by rw [← hm]; exact List.take_prefix _ _)
  have um2 : decide (m <+: b) = true := decide_eq_true (by rw [← hm2]; exact List.take_prefix _ _)
  have U1 := Lib.hid um1
  have U2 := Lib.hid um2
  have UM : Hid (decide (c <+: m) = (decide (c <+: a) && decide (c <+: b))) := Lib.hid (by
    rw [← hm, Bool.eq_iff_iff, Bool.and_eq_true, decide_eq_true_iff, decide_eq_true_iff, decide_eq_true_iff, meet_under])
  have HM1 := Lib.hid hm
  have HM2 := Lib.hid hm2
  clear um1 um2 hm hm2 hml
  go_enter Tryd.func5, Tryd.ntmps5
  go_wp2_with fail
  have hc := meet_calls a b _ _ _ _ _ (Qa.out.on B0.out) (Qb.out.on B0.out) ma Mb.out
  rw [HM1.out] at hc
  refine hc.mono ?_
  rintro e w1 ⟨A1, A1c, rfl, hy, hb⟩
  have B1 := Lib.hid (Kt.bthen B0.out hb)
  have YA1 := Lib.hid hy
  clear hb hc hy
  go_wp2_with fail
  refine (rlives_calls _).mono ?_
  rintro e w2 ⟨rfl, hb⟩
  have B2 := Lib.hid (Kt.bthen B1.out hb)
  have YA1 := Lib.hid (YA1.out.on hb)
  clear hb
  go_wp2_with fail
  have hc := meet_calls b a _ _ _ _ _ (Qb.out.on B2.out) (Qa.out.on B2.out) mb Ma.out
  rw [HM2.out] at hc
  refine hc.mono ?_
  rintro e w3 ⟨A2, A2c, rfl, hy, hb⟩
  have B3 := Lib.hid (Kt.bthen B2.out hb)
  have YA1 := Lib.hid (YA1.out.on hb)
  have YA2 := Lib.hid hy
  clear hb hc hy
  go_wp2_with fail
  have hc := ieq_calls m m _ _ _ _ _ YA1.out YA2.out Mm.out Mm.out
  rw [decide_eq_true rfl] at hc
  refine hc.mono ?_
  rintro e w4 ⟨rfl, hb⟩
  have B4 := Lib.hid (Kt.bthen B3.out hb)
  have YA1 := Lib.hid (YA1.out.on hb)
  have YA2 := Lib.hid (YA2.out.on hb)
  clear hb hc
  go_wp2_with fail
  have hc := under_calls a m _ _ _ _ _ (Qa.out.on B4.out) YA1.out Ma.out Mm.out
  rw [U1.out] at hc
  refine hc.mono ?_
  rintro e w5 ⟨rfl, hb⟩
  have B5 := Lib.hid (Kt.bthen B4.out hb)
  have YA1 := Lib.hid (YA1.out.on hb)
  have YA2 := Lib.hid (YA2.out.on hb)
  clear hb hc
  go_wp2_with fail
  have hc := under_calls b m _ _ _ _ _ (Qb.out.on B5.out) YA1.out Mb.out Mm.out
  rw [U2.out] at hc
  refine hc.mono ?_
  rintro e w6 ⟨rfl, hb⟩
  have B6 := Lib.hid (Kt.bthen B5.out hb)
  have YA1 := Lib.hid (YA1.out.on hb)
  have YA2 := Lib.hid (YA2.out.on hb)
  clear hb hc
  obtain ⟨p, hp⟩ : ∃ p, decide (c <+: a) = p := ⟨_, rfl⟩
  obtain ⟨q, hq⟩ : ∃ p, decide (c <+: b) = p := ⟨_, rfl⟩
  rw [hp, hq] at UM
  have HP := Lib.hid hp
  have HQ := Lib.hid hq
  clear hp hq
  cases p
  · go_wp2_with fail
    have hc := under_calls a c _ _ _ _ _ (Qa.out.on B6.out) (Qc.out.on B6.out) Ma.out Mc.out
    rw [HP.out] at hc
    refine hc.mono ?_
    rintro e w7 ⟨rfl, hb⟩
    have B7 := Lib.hid (Kt.bthen B6.out hb)
    have YA1 := Lib.hid (YA1.out.on hb)
    have YA2 := Lib.hid (YA2.out.on hb)
    clear hb hc
    go_wp2_with fail
    have hc := under_calls m c _ _ _ _ _ YA1.out (Qc.out.on B7.out) Mm.out Mc.out
    rw [UM.out] at hc
    refine hc.mono ?_
    rintro e w8 ⟨rfl, hb⟩
    have B8 := Lib.hid (Kt.bthen B7.out hb)
    have YA1 := Lib.hid (YA1.out.on hb)
    have YA2 := Lib.hid (YA2.out.on hb)
    clear hb hc
    go_wp2_with fail
    go_ret
    exact ⟨rfl, B8.out⟩
  · go_wp2_with fail
    have hc := under_calls a c _ _ _ _ _ (Qa.out.on B6.out) (Qc.out.on B6.out) Ma.out Mc.out
    rw [HP.out] at hc
    refine hc.mono ?_
    rintro e w7 ⟨rfl, hb⟩
    have B7 := Lib.hid (Kt.bthen B6.out hb)
    have YA1 := Lib.hid (YA1.out.on hb)
    have YA2 := Lib.hid (YA2.out.on hb)
    clear hb hc
    go_wp2_with fail
    have hc := under_calls b c _ _ _ _ _ (Qb.out.on B7.out) (Qc.out.on B7.out) Mb.out Mc.out
    rw [HQ.out] at hc
    refine hc.mono ?_
    rintro e w8 ⟨rfl, hb⟩
    have B8 := Lib.hid (Kt.bthen B7.out hb)
    have YA1 := Lib.hid (YA1.out.on hb)
    have YA2 := Lib.hid (YA2.out.on hb)
    clear hb hc
    go_wp2_with fail
    have hc := under_calls m c _ _ _ _ _ YA1.out (Qc.out.on B8.out) Mm.out Mc.out
    rw [UM.out] at hc
    refine hc.mono ?_
    rintro e w9 ⟨rfl, hb⟩
    have B9 := Lib.hid (Kt.bthen B8.out hb)
    have YA1 := Lib.hid (YA1.out.on hb)
    have YA2 := Lib.hid (YA2.out.on hb)
    clear hb hc
    go_wp2_with fail
    go_ret
    exact ⟨rfl, B9.out⟩
set_option maxRecDepth 100000 in
set_option maxHeartbeats 1600000 in
theorem rorder_calls (a : List Int) (b : List Int) (c : List Int) (A : Option Addr) (ka : Nat) (B : Option Addr) (kb : Nat) (C : Option Addr) (kc : Nat) (w : World) (ha : Wy w A ka a) (hb : Wy w B kb b) (hc : Wy w C kc c) (ma : a.length ≤ 17592186044416) (mb : b.length ≤ 17592186044416) (mc : c.length ≤ 17592186044416) :
    Calls Tryd.prog 7 #[.slice A a.length ka, .slice B b.length kb, .slice C c.length kc] w fun e w' => e = .returned (.bool true) ∧ Below w.heap.size w w' := by
  have Qa := Lib.hid ha
  have hba : a.length ≤ big := Nat.le_trans ma (by decide)
  have Ma := Lib.hid hba
  have Qb := Lib.hid hb
  have hbb : b.length ≤ big := Nat.le_trans mb (by decide)
  have Mb := Lib.hid hbb
  have Qc := Lib.hid hc
  have hbc : c.length ≤ big := Nat.le_trans mc (by decide)
  have Mc := Lib.hid hbc
  have B0 := Lib.hid (Below.refl w.heap.size w)
  clear ha hba hb hbb hc hbc
  obtain ⟨q, q1, q2⟩ : ∃ q : Bool, (ordR a b == 0) = q ∧ decide (a = b) = q := ⟨_, rfl, by rw [Bool.eq_iff_iff, decide_eq_true_iff, beq_iff_eq, ord_zero]⟩
  have HQ2 := Lib.hid q2
  have hn : IntKind.i64.wrap (-(ordR b a)) = ordR a b := by
    have h1 := ord_vals b a
    rw [ord_anti a b, IntWalk.i64_left]; unfold wrap64; omega
  have T1 := Lib.hid (ord_trans a b c)
  have T2 := Lib.hid (ord_under a b)
  have T3 := Lib.hid (ord_between a b c)
  clear q2 ma mb mc
  go_enter Tryd.func7, Tryd.ntmps7
  go_wp2_with fail
  refine (rlives_calls _).mono ?_
  rintro e w1 ⟨rfl, hb⟩
  have B1 := Lib.hid (Kt.bthen B0.out hb)
  clear hb
  go_wp2_with fail
  have hc := order_calls a b _ _ _ _ _ (Qa.out.on B1.out) (Qb.out.on B1.out) Ma.out Mb.out
  refine hc.mono ?_
  rintro e w2 ⟨rfl, hb⟩
  have B2 := Lib.hid (Kt.bthen B1.out hb)
  clear hb hc
  go_wp2_with fail
  have hc := order_calls b a _ _ _ _ _ (Qb.out.on B2.out) (Qa.out.on B2.out) Mb.out Ma.out
  refine hc.mono ?_
  rintro e w3 ⟨rfl, hb⟩
  have B3 := Lib.hid (Kt.bthen B2.out hb)
  clear hb hc
  go_wp2_with fail
  have hc := order_calls a b _ _ _ _ _ (Qa.out.on B3.out) (Qb.out.on B3.out) Ma.out Mb.out
  refine hc.mono ?_
  rintro e w4 ⟨rfl, hb⟩
  have B4 := Lib.hid (Kt.bthen B3.out hb)
  clear hb hc
  go_wp2_with fail
  have hc := ieq_calls a b _ _ _ _ _ (Qa.out.on B4.out) (Qb.out.on B4.out) Ma.out Mb.out
  rw [HQ2.out] at hc
  refine hc.mono ?_
  rintro e w5 ⟨rfl, hb⟩
  have B5 := Lib.hid (Kt.bthen B4.out hb)
  clear hb hc
  by_cases o1 : ordR a b < 0
  · by_cases o2 : ordR b c < 0
    · have g3 : ¬ 0 ≤ ordR a c := by have := T1.out o1 o2; omega
      go_wp2_with fail
      have hc := order_calls a b _ _ _ _ _ (Qa.out.on B5.out) (Qb.out.on B5.out) Ma.out Mb.out
      refine hc.mono ?_
      rintro e w6 ⟨rfl, hb⟩
      have B6 := Lib.hid (Kt.bthen B5.out hb)
      clear hb hc
      go_wp2_with fail
      have hc := order_calls b c _ _ _ _ _ (Qb.out.on B6.out) (Qc.out.on B6.out) Mb.out Mc.out
      refine hc.mono ?_
      rintro e w7 ⟨rfl, hb⟩
      have B7 := Lib.hid (Kt.bthen B6.out hb)
      clear hb hc
      go_wp2_with fail
      have hc := order_calls a c _ _ _ _ _ (Qa.out.on B7.out) (Qc.out.on B7.out) Ma.out Mc.out
      refine hc.mono ?_
      rintro e w8 ⟨rfl, hb⟩
      have B8 := Lib.hid (Kt.bthen B7.out hb)
      clear hb hc
      by_cases p1 : a <+: b
      · have HP1 := Lib.hid (decide_eq_true p1)
        have g1 : ¬ 0 < ordR a b := by have := T2.out p1; omega
        have p1' := p1
        go_wp2_with fail
        have hc := under_calls b a _ _ _ _ _ (Qb.out.on B8.out) (Qa.out.on B8.out) Mb.out Ma.out
        rw [HP1.out] at hc
        refine hc.mono ?_
        rintro e w9 ⟨rfl, hb⟩
        have B9 := Lib.hid (Kt.bthen B8.out hb)
        clear hb hc
        go_wp2_with fail
        have hc := order_calls a b _ _ _ _ _ (Qa.out.on B9.out) (Qb.out.on B9.out) Ma.out Mb.out
        refine hc.mono ?_
        rintro e w10 ⟨rfl, hb⟩
        have B10 := Lib.hid (Kt.bthen B9.out hb)
        clear hb hc
        by_cases p2 : a <+: c
        · have HP2 := Lib.hid (decide_eq_true p2)
          go_wp2_with fail
          have hc := under_calls c a _ _ _ _ _ (Qc.out.on B10.out) (Qa.out.on B10.out) Mc.out Ma.out
          rw [HP2.out] at hc
          refine hc.mono ?_
          rintro e w11 ⟨rfl, hb⟩
          have B11 := Lib.hid (Kt.bthen B10.out hb)
          clear hb hc
          go_wp2_with fail
          have hc := order_calls a b _ _ _ _ _ (Qa.out.on B11.out) (Qb.out.on B11.out) Ma.out Mb.out
          refine hc.mono ?_
          rintro e w12 ⟨rfl, hb⟩
          have B12 := Lib.hid (Kt.bthen B11.out hb)
          clear hb hc
          go_wp2_with fail
          have hc := order_calls b c _ _ _ _ _ (Qb.out.on B12.out) (Qc.out.on B12.out) Mb.out Mc.out
          refine hc.mono ?_
          rintro e w13 ⟨rfl, hb⟩
          have B13 := Lib.hid (Kt.bthen B12.out hb)
          clear hb hc
          go_wp2_with fail
          have hc := under_calls b a _ _ _ _ _ (Qb.out.on B13.out) (Qa.out.on B13.out) Mb.out Ma.out
          rw [HP1.out] at hc
          refine hc.mono ?_
          rintro e w14 ⟨rfl, hb⟩
          have B14 := Lib.hid (Kt.bthen B13.out hb)
          clear hb hc
          go_wp2_with fail
          go_ret
          exact ⟨rfl, B14.out⟩
        · have HP2 := Lib.hid (decide_eq_false p2)
          go_wp2_with fail
          have hc := under_calls c a _ _ _ _ _ (Qc.out.on B10.out) (Qa.out.on B10.out) Mc.out Ma.out
          rw [HP2.out] at hc
          refine hc.mono ?_
          rintro e w11 ⟨rfl, hb⟩
          have B11 := Lib.hid (Kt.bthen B10.out hb)
          clear hb hc
          go_wp2_with fail
          go_ret
          exact ⟨rfl, B11.out⟩
      · have HP1 := Lib.hid (decide_eq_false p1)
        have p1' := p1
        go_wp2_with fail
        have hc := under_calls b a _ _ _ _ _ (Qb.out.on B8.out) (Qa.out.on B8.out) Mb.out Ma.out
        rw [HP1.out] at hc
        refine hc.mono ?_
        rintro e w9 ⟨rfl, hb⟩
        have B9 := Lib.hid (Kt.bthen B8.out hb)
        clear hb hc
        by_cases p2 : a <+: c
        · exact absurd (T3.out p2 (by omega) (by omega)) p1
        · have HP2 := Lib.hid (decide_eq_false p2)
          go_wp2_with fail
          have hc := under_calls c a _ _ _ _ _ (Qc.out.on B9.out) (Qa.out.on B9.out) Mc.out Ma.out
          rw [HP2.out] at hc
          refine hc.mono ?_
          rintro e w10 ⟨rfl, hb⟩
          have B10 := Lib.hid (Kt.bthen B9.out hb)
          clear hb hc
          go_wp2_with fail
          go_ret
          exact ⟨rfl, B10.out⟩
    · go_wp2_with fail
      have hc := order_calls a b _ _ _ _ _ (Qa.out.on B5.out) (Qb.out.on B5.out) Ma.out Mb.out
      refine hc.mono ?_
      rintro e w6 ⟨rfl, hb⟩
      have B6 := Lib.hid (Kt.bthen B5.out hb)
      clear hb hc
      go_wp2_with fail
      have hc := order_calls b c _ _ _ _ _ (Qb.out.on B6.out) (Qc.out.on B6.out) Mb.out Mc.out
      refine hc.mono ?_
      rintro e w7 ⟨rfl, hb⟩
      have B7 := Lib.hid (Kt.bthen B6.out hb)
      clear hb hc
      by_cases p1 : a <+: b
      · have HP1 := Lib.hid (decide_eq_true p1)
        have g1 : ¬ 0 < ordR a b := by have := T2.out p1; omega
        have p1' := p1
        go_wp2_with fail
        have hc := under_calls b a _ _ _ _ _ (Qb.out.on B7.out) (Qa.out.on B7.out) Mb.out Ma.out
        rw [HP1.out] at hc
        refine hc.mono ?_
        rintro e w8 ⟨rfl, hb⟩
        have B8 := Lib.hid (Kt.bthen B7.out hb)
        clear hb hc
        go_wp2_with fail
        have hc := order_calls a b _ _ _ _ _ (Qa.out.on B8.out) (Qb.out.on B8.out) Ma.out Mb.out
        refine hc.mono ?_
        rintro e w9 ⟨rfl, hb⟩
        have B9 := Lib.hid (Kt.bthen B8.out hb)
        clear hb hc
        by_cases p2 : a <+: c
        · have HP2 := Lib.hid (decide_eq_true p2)
          go_wp2_with fail
          have hc := under_calls c a _ _ _ _ _ (Qc.out.on B9.out) (Qa.out.on B9.out) Mc.out Ma.out
          rw [HP2.out] at hc
          refine hc.mono ?_
          rintro e w10 ⟨rfl, hb⟩
          have B10 := Lib.hid (Kt.bthen B9.out hb)
          clear hb hc
          go_wp2_with fail
          have hc := order_calls a b _ _ _ _ _ (Qa.out.on B10.out) (Qb.out.on B10.out) Ma.out Mb.out
          refine hc.mono ?_
          rintro e w11 ⟨rfl, hb⟩
          have B11 := Lib.hid (Kt.bthen B10.out hb)
          clear hb hc
          go_wp2_with fail
          have hc := order_calls b c _ _ _ _ _ (Qb.out.on B11.out) (Qc.out.on B11.out) Mb.out Mc.out
          refine hc.mono ?_
          rintro e w12 ⟨rfl, hb⟩
          have B12 := Lib.hid (Kt.bthen B11.out hb)
          clear hb hc
          go_wp2_with fail
          go_ret
          exact ⟨rfl, B12.out⟩
        · have HP2 := Lib.hid (decide_eq_false p2)
          go_wp2_with fail
          have hc := under_calls c a _ _ _ _ _ (Qc.out.on B9.out) (Qa.out.on B9.out) Mc.out Ma.out
          rw [HP2.out] at hc
          refine hc.mono ?_
          rintro e w10 ⟨rfl, hb⟩
          have B10 := Lib.hid (Kt.bthen B9.out hb)
          clear hb hc
          go_wp2_with fail
          go_ret
          exact ⟨rfl, B10.out⟩
      · have HP1 := Lib.hid (decide_eq_false p1)
        have p1' := p1
        go_wp2_with fail
        have hc := under_calls b a _ _ _ _ _ (Qb.out.on B7.out) (Qa.out.on B7.out) Mb.out Ma.out
        rw [HP1.out] at hc
        refine hc.mono ?_
        rintro e w8 ⟨rfl, hb⟩
        have B8 := Lib.hid (Kt.bthen B7.out hb)
        clear hb hc
        by_cases p2 : a <+: c
        · have HP2 := Lib.hid (decide_eq_true p2)
          go_wp2_with fail
          have hc := under_calls c a _ _ _ _ _ (Qc.out.on B8.out) (Qa.out.on B8.out) Mc.out Ma.out
          rw [HP2.out] at hc
          refine hc.mono ?_
          rintro e w9 ⟨rfl, hb⟩
          have B9 := Lib.hid (Kt.bthen B8.out hb)
          clear hb hc
          go_wp2_with fail
          have hc := order_calls a b _ _ _ _ _ (Qa.out.on B9.out) (Qb.out.on B9.out) Ma.out Mb.out
          refine hc.mono ?_
          rintro e w10 ⟨rfl, hb⟩
          have B10 := Lib.hid (Kt.bthen B9.out hb)
          clear hb hc
          go_wp2_with fail
          have hc := order_calls b c _ _ _ _ _ (Qb.out.on B10.out) (Qc.out.on B10.out) Mb.out Mc.out
          refine hc.mono ?_
          rintro e w11 ⟨rfl, hb⟩
          have B11 := Lib.hid (Kt.bthen B10.out hb)
          clear hb hc
          go_wp2_with fail
          go_ret
          exact ⟨rfl, B11.out⟩
        · have HP2 := Lib.hid (decide_eq_false p2)
          go_wp2_with fail
          have hc := under_calls c a _ _ _ _ _ (Qc.out.on B8.out) (Qa.out.on B8.out) Mc.out Ma.out
          rw [HP2.out] at hc
          refine hc.mono ?_
          rintro e w9 ⟨rfl, hb⟩
          have B9 := Lib.hid (Kt.bthen B8.out hb)
          clear hb hc
          go_wp2_with fail
          go_ret
          exact ⟨rfl, B9.out⟩
  · go_wp2_with fail
    have hc := order_calls a b _ _ _ _ _ (Qa.out.on B5.out) (Qb.out.on B5.out) Ma.out Mb.out
    refine hc.mono ?_
    rintro e w6 ⟨rfl, hb⟩
    have B6 := Lib.hid (Kt.bthen B5.out hb)
    clear hb hc
    by_cases p1 : a <+: b
    · have HP1 := Lib.hid (decide_eq_true p1)
      have g1 : ¬ 0 < ordR a b := by have := T2.out p1; omega
      have p1' := p1
      go_wp2_with fail
      have hc := under_calls b a _ _ _ _ _ (Qb.out.on B6.out) (Qa.out.on B6.out) Mb.out Ma.out
      rw [HP1.out] at hc
      refine hc.mono ?_
      rintro e w7 ⟨rfl, hb⟩
      have B7 := Lib.hid (Kt.bthen B6.out hb)
      clear hb hc
      go_wp2_with fail
      have hc := order_calls a b _ _ _ _ _ (Qa.out.on B7.out) (Qb.out.on B7.out) Ma.out Mb.out
      refine hc.mono ?_
      rintro e w8 ⟨rfl, hb⟩
      have B8 := Lib.hid (Kt.bthen B7.out hb)
      clear hb hc
      by_cases p2 : a <+: c
      · have HP2 := Lib.hid (decide_eq_true p2)
        go_wp2_with fail
        have hc := under_calls c a _ _ _ _ _ (Qc.out.on B8.out) (Qa.out.on B8.out) Mc.out Ma.out
        rw [HP2.out] at hc
        refine hc.mono ?_
        rintro e w9 ⟨rfl, hb⟩
        have B9 := Lib.hid (Kt.bthen B8.out hb)
        clear hb hc
        go_wp2_with fail
        have hc := order_calls a b _ _ _ _ _ (Qa.out.on B9.out) (Qb.out.on B9.out) Ma.out Mb.out
        refine hc.mono ?_
        rintro e w10 ⟨rfl, hb⟩
        have B10 := Lib.hid (Kt.bthen B9.out hb)
        clear hb hc
        go_wp2_with fail
        go_ret
        exact ⟨rfl, B10.out⟩
      · have HP2 := Lib.hid (decide_eq_false p2)
        go_wp2_with fail
        have hc := under_calls c a _ _ _ _ _ (Qc.out.on B8.out) (Qa.out.on B8.out) Mc.out Ma.out
        rw [HP2.out] at hc
        refine hc.mono ?_
        rintro e w9 ⟨rfl, hb⟩
        have B9 := Lib.hid (Kt.bthen B8.out hb)
        clear hb hc
        go_wp2_with fail
        go_ret
        exact ⟨rfl, B9.out⟩
    · have HP1 := Lib.hid (decide_eq_false p1)
      have p1' := p1
      go_wp2_with fail
      have hc := under_calls b a _ _ _ _ _ (Qb.out.on B6.out) (Qa.out.on B6.out) Mb.out Ma.out
      rw [HP1.out] at hc
      refine hc.mono ?_
      rintro e w7 ⟨rfl, hb⟩
      have B7 := Lib.hid (Kt.bthen B6.out hb)
      clear hb hc
      by_cases p2 : a <+: c
      · have HP2 := Lib.hid (decide_eq_true p2)
        go_wp2_with fail
        have hc := under_calls c a _ _ _ _ _ (Qc.out.on B7.out) (Qa.out.on B7.out) Mc.out Ma.out
        rw [HP2.out] at hc
        refine hc.mono ?_
        rintro e w8 ⟨rfl, hb⟩
        have B8 := Lib.hid (Kt.bthen B7.out hb)
        clear hb hc
        go_wp2_with fail
        have hc := order_calls a b _ _ _ _ _ (Qa.out.on B8.out) (Qb.out.on B8.out) Ma.out Mb.out
        refine hc.mono ?_
        rintro e w9 ⟨rfl, hb⟩
        have B9 := Lib.hid (Kt.bthen B8.out hb)
        clear hb hc
        go_wp2_with fail
        go_ret
        exact ⟨rfl, B9.out⟩
      · have HP2 := Lib.hid (decide_eq_false p2)
        go_wp2_with fail
        have hc := under_calls c a _ _ _ _ _ (Qc.out.on B7.out) (Qa.out.on B7.out) Mc.out Ma.out
        rw [HP2.out] at hc
        refine hc.mono ?_
        rintro e w8 ⟨rfl, hb⟩
        have B8 := Lib.hid (Kt.bthen B7.out hb)
        clear hb hc
        go_wp2_with fail
        go_ret
        exact ⟨rfl, B8.out⟩
end Go.Proofs.YteekckglpinkpaaDoor
