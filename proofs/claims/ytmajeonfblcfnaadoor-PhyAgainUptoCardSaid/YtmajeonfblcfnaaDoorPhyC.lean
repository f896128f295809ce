/- The law PhyCuts. -/
import Derived.Test.YtmajeonfblcfnaaDoorPhyV
import Derived.Test.YtmajeonfblcfnaaDoorApd
namespace Go.Proofs.YtmajeonfblcfnaaDoor
open Go.RowKit Go.Proofs.YtmajeonfblcfnaaDoor.Lan Go.Proofs.YtmajeonfblcfnaaDoor.Phy
theorem ok_app (a b : List UInt8) : okL ltr (a ++ b) = (okL ltr a && okL ltr b) := by unfold okL; rw [List.all_append]
theorem hearS_ok {r : List UInt8} {o : List (List UInt8 × Int)} {v : UInt8} (hr : okL ltr r = true) (hv : ltr.contains v = true) : okL ltr (hearS (r, o) v).1 = true := by
  have h2 : okL ltr (r ++ [v]) = true := by
    rw [ok_app, hr]
    unfold okL
    rw [List.all_cons, hv]; rfl
  unfold hearS
  dsimp only
  split
  · exact hr
  split
  · rfl
  split
  · rfl
  · exact h2
theorem hear_ok : ∀ (l r : List UInt8), okL ltr r = true → okL ltr l = true → okL ltr (hearP r l).1 = true
  | [], r, hr, _ => hr
  | v :: l, r, hr, hl => by
    unfold okL at hl
    rw [List.all_cons, Bool.and_eq_true] at hl
    rw [hearP_cons]
    exact hear_ok l _ (hearS_ok hr hl.1) hl.2
theorem hearS_len (r : List UInt8) (o : List (List UInt8 × Int)) (v : UInt8) : (hearS (r, o) v).1.length ≤ r.length + 1 ∧ (hearS (r, o) v).2.length ≤ o.length + 1 := by
  unfold hearS
  dsimp only
  split
  · exact ⟨Nat.le_succ _, Nat.le_succ _⟩
  split
  · exact ⟨Nat.zero_le _, by rw [List.length_append]; exact Nat.le_refl _⟩
  split
  · exact ⟨Nat.zero_le _, by rw [List.length_append]; exact Nat.le_refl _⟩
  · exact ⟨by rw [List.length_append]; exact Nat.le_refl _, Nat.le_succ _⟩
theorem hear_len : ∀ (l r : List UInt8), (hearP r l).1.length ≤ r.length + l.length ∧ (hearP r l).2.length ≤ l.length
  | [], r => ⟨Nat.le_refl _, Nat.le_refl _⟩
  | v :: l, r => by
    have h1 := hear_len l (hearS (r, []) v).1
    have h2 := hearS_len r [] v
    rw [hearP_cons]
    dsimp only
    rw [List.length_cons, List.length_append]
    rw [List.length_nil] at h2
    exact ⟨by omega, by omega⟩
set_option maxHeartbeats 1600000 in
theorem cuts_bad (r a b : List UInt8) (w : World) (hr : r.length ≤ 1048576) (ha : a.length ≤ 1048576) (h : ¬ (okL ltr a = true ∧ okL ltr r = true)) :
    Calls Tryd.prog 5 #[.agg #[.string (bt r)], .string (bt a), .string (bt b)] w fun e w' => e = .returned (.bool true) ∧ Below w.heap.size w w' := by
  have HH := Lib.hid (fun W => hear_stop r a W (by omega) (by omega) h)
  have HV := Lib.hid plives_calls
  have EQ := fun x w => eq_ear_same x w
  have EG := fun p q a b w => guard_ear p q a b w
  generalize bt r = R at *
  generalize bt a = A at *
  generalize bt b = B at *
  clear hr ha h
  go_enter Tryd.func5, Tryd.ntmps5
  go_wp2_with fail
  refine (HH.out _).mono ?_; rintro e w1 ⟨rfl, hb1⟩
  have q1 := Kt.box1 hb1
  have HB1 := Lib.hid (Kt.bthen (Kt.balloc (Below.refl w.heap.size w) (.cells #[.string R] 29)) hb1)
  clear hb1 HH
  have c1 := cell_of_row _ _ 0 _ _ _ q1
  have hl1 := (Array.getElem?_eq_some_iff.1 q1).1
  go_wp2_with fail
  refine (HV.out _).mono ?_; rintro e w2 ⟨rfl, hb2⟩
  have p1 := Kt.row_on hb2 ((Below.heap_alloc w1 (.cells #[.string R] 29) w.heap.size hl1).trans q1)
  have p2 := Kt.box1 hb2
  have HB2 := Lib.hid (Kt.bthen (Kt.balloc HB1.out (.cells #[.string R] 29)) hb2)
  clear hb2 HB1 q1 c1 hl1
  go_wp2_with fail
  refine (HV.out _).mono ?_; rintro e w3 ⟨rfl, hb3⟩
  have o1 := Kt.row_on hb3 p1
  have o2 := Kt.row_on hb3 p2
  have c1 := cell_of_row _ _ 0 _ _ _ o1
  have c2 := cell_of_row _ _ 0 _ _ _ o2
  have l1 := (Array.getElem?_eq_some_iff.1 o1).1
  have l2 := (Array.getElem?_eq_some_iff.1 o2).1
  have HB3 := Lib.hid (Kt.bthen HB2.out hb3)
  clear hb3 HB2 p1 p2 o1 o2
  go_wp2_with fail
  go_ret
  exact ⟨rfl, HB3.out⟩
set_option maxHeartbeats 1600000 in
theorem cuts_half (r a b : List UInt8) (w : World) (hr : r.length ≤ 1048576) (ha : a.length ≤ 1048576) (hb : b.length ≤ 1048576) (h1 : okL ltr a = true) (h2 : okL ltr r = true) (h3 : ¬ okL ltr b = true) :
    Calls Tryd.prog 5 #[.agg #[.string (bt r)], .string (bt a), .string (bt b)] w fun e w' => e = .returned (.bool true) ∧ Below w.heap.size w w' := by
  have HH := Lib.hid (fun W => hear_good r a W (by omega) (by omega) h1 h2)
  have hln := (hear_len a r).1
  have HS := Lib.hid (fun W => hear_stop (hearP r a).1 b W (by omega) (by omega) (fun q => h3 q.1))
  have HV := Lib.hid plives_calls
  have EQ := fun x w => eq_ear_same x w
  have EG := fun p q a b w => guard_ear p q a b w
  generalize (hearP r a).1 = r1 at *
  generalize (hearP r a).2 = o1 at *
  generalize bt r = R at *
  generalize bt a = A at *
  generalize bt b = B at *
  generalize bt r1 = R1 at *
  clear hr ha hb h1 h2 h3 hln
  go_enter Tryd.func5, Tryd.ntmps5
  go_wp2_with fail
  refine (HH.out _).mono ?_; rintro e w1 ⟨A1, c1, rfl, _, hb1⟩
  have q1 := Kt.box1 hb1
  have HB1 := Lib.hid (Kt.bthen (Kt.balloc (Below.refl w.heap.size w) (.cells #[.string R] 29)) hb1)
  clear hb1 HH
  have d1 := cell_of_row _ _ 0 _ _ _ q1
  have hl1 := (Array.getElem?_eq_some_iff.1 q1).1
  go_wp2_with fail
  refine (HV.out _).mono ?_; rintro e w2 ⟨rfl, hb2⟩
  have p2 := Kt.box1 hb2
  have e2 := cell_of_row _ _ 0 _ _ _ p2
  have l2 := (Array.getElem?_eq_some_iff.1 p2).1
  have HB2 := Lib.hid (Kt.bthen (Kt.balloc HB1.out (.cells #[.string R1] 29)) hb2)
  clear hb2 HB1 q1 d1 hl1
  go_wp2_with fail
  refine (HS.out _).mono ?_; rintro e w3 ⟨rfl, hb3⟩
  have o2 := Kt.row_on hb3 p2
  have f2 := cell_of_row _ _ 0 _ _ _ o2
  have l3 := (Array.getElem?_eq_some_iff.1 o2).1
  have HB3 := Lib.hid (Kt.bthen HB2.out hb3)
  clear hb3 HB2 p2 e2 l2 o2 HS
  go_wp2_with fail
  go_ret
  exact ⟨rfl, Kt.balloc HB3.out _⟩
set_option maxHeartbeats 1600000 in
theorem cuts_good (r a b : List UInt8) (w : World) (hr : r.length ≤ 1048576) (ha : a.length ≤ 1048576) (hb : b.length ≤ 1048576) (h1 : okL ltr a = true) (h2 : okL ltr r = true) (h3 : okL ltr b = true) :
    Calls Tryd.prog 5 #[.agg #[.string (bt r)], .string (bt a), .string (bt b)] w fun e w' => e = .returned (.bool true) ∧ Below w.heap.size w w' := by
  have HH := Lib.hid (fun W => hear_good r a W (by omega) (by omega) h1 h2)
  have hln := hear_len a r
  have hln2 := hear_len b (hearP r a).1
  have HS := Lib.hid (fun W => hear_good (hearP r a).1 b W (by omega) (by omega) h3 (hear_ok a r h2 h1))
  have HT := Lib.hid (fun W => hear_good r (a ++ b) W (by omega) (by rw [List.length_append]; omega) (by rw [ok_app, h1, h3]; rfl) h2)
  rw [hear_cut] at HT
  have HV := Lib.hid plives_calls
  have EQ := fun x w => eq_ear_same x w
  have EG := fun p q a b w => guard_ear p q a b w
  have hab := bt_app a b
  rw [← hab] at HT
  have hm : (hearP r a).2.length ≤ 1048576 ∧ (hearP (hearP r a).1 b).2.length ≤ 1048576 := ⟨by omega, by omega⟩
  dsimp only at HT
  generalize (hearP (hearP r a).1 b).1 = r2 at *
  generalize (hearP (hearP r a).1 b).2 = o2 at *
  generalize (hearP r a).1 = r1 at *
  generalize (hearP r a).2 = o1 at *
  have z1 : ¬ 9223372036854775807 < (bt a).size + (bt b).size := by rw [bt_size, bt_size]; omega
  generalize bt r = R at *
  generalize bt a = A at *
  generalize bt b = B at *
  generalize bt r1 = R1 at *
  generalize bt r2 = R2 at *
  have HM := Lib.hid hm
  clear hr ha hb h1 h2 h3 hln hln2 hab hm
  go_enter Tryd.func5, Tryd.ntmps5
  go_wp2_with fail
  refine (HH.out _).mono ?_; rintro e w1 ⟨A1, c1, rfl, hs1, hb1⟩
  have q1 := Kt.box1 hb1
  have HB1 := Lib.hid (Kt.bthen (Kt.balloc (Below.refl w.heap.size w) (.cells #[.string R] 29)) hb1)
  have HL1 := Lib.hid hs1
  clear hb1 HH hs1
  have d1 := cell_of_row _ _ 0 _ _ _ q1
  have hl1 := (Array.getElem?_eq_some_iff.1 q1).1
  go_wp2_with fail
  refine (HV.out _).mono ?_; rintro e w2 ⟨rfl, hb2⟩
  have p1 := Kt.row_on hb2 ((Below.heap_alloc w1 (.cells #[.string R1] 29) w.heap.size hl1).trans q1)
  have p2 := Kt.box1 hb2
  have e1 := cell_of_row _ _ 0 _ _ _ p1
  have e2 := cell_of_row _ _ 0 _ _ _ p2
  have l1 := (Array.getElem?_eq_some_iff.1 p1).1
  have l2 := (Array.getElem?_eq_some_iff.1 p2).1
  have HB2 := Lib.hid (Kt.bthen (Kt.balloc HB1.out (.cells #[.string R1] 29)) hb2)
  have HL2 := Lib.hid ((HL1.out.alloc (.cells #[.string R1] 29)).on hb2)
  clear hb2 HB1 q1 d1 hl1 HL1
  go_wp2_with fail
  refine (HS.out _).mono ?_; rintro e w3 ⟨A2, c2, rfl, hs3, hb3⟩
  have o1 := Kt.row_on hb3 p1
  have f1 := cell_of_row _ _ 0 _ _ _ o1
  have m1 := (Array.getElem?_eq_some_iff.1 o1).1
  have HB3 := Lib.hid (Kt.bthen HB2.out hb3)
  have HL3 := Lib.hid (HL2.out.on hb3)
  have HK3 := Lib.hid hs3
  clear hb3 hs3 HB2 p2 e2 l2 HS HL2 p1 e1 l1
  go_wp2_with fail
  refine (HT.out _).mono ?_; rintro e w4 ⟨A3, c3, rfl, hs4, hb4⟩
  have p2 := Kt.box1 hb4
  have e2 := cell_of_row _ _ 0 _ _ _ p2
  have l2 := (Array.getElem?_eq_some_iff.1 p2).1
  have HB4 := Lib.hid (Kt.bthen (Kt.balloc HB3.out (.cells #[.string R2] 29)) hb4)
  have HL4 := Lib.hid ((HL3.out.alloc (.cells #[.string R2] 29)).on hb4)
  have HK4 := Lib.hid ((HK3.out.alloc (.cells #[.string R2] 29)).on hb4)
  have HJ4 := Lib.hid hs4
  clear hb4 hs4 HB3 HL3 HK3 HT o1 f1 m1
  go_wp2_with fail
  have HL5 := HL4.out.alloc (.cells #[.string R2] 29)
  refine (cloneh_calls _ _ _ _ (Kt.Ar.of_sl HL5) (hcells_one o1) HM.out.1).mono ?_; rintro e w5 ⟨A5, c5, rfl, hs5, hb5⟩
  have HB5 := Lib.hid (Kt.bthen (Kt.balloc HB4.out (.cells #[.string R2] 29)) hb5)
  have HK5 := Lib.hid ((HK4.out.alloc (.cells #[.string R2] 29)).on hb5)
  have HJ5 := Lib.hid ((HJ4.out.alloc (.cells #[.string R2] 29)).on hb5)
  have HJT := Lib.hid (fun k hk => (HJ4.out.lt k hk).2)
  have HC5 := Lib.hid hs5
  have HZ5 := Lib.hid hb5.size
  have HB4S := Lib.hid HB4.out.size
  clear hb5 hs5 HB4 HK4 HJ4 HL4 HL5
  go_wp2_with (refine Kt.append_ar (by rfl) (.tmp 77) (.tmp 78) 30 rfl _ 34 (.agg #[.string ByteArray.empty, .int .i64 0]) 2 24 hear_info Tryd.underlying30 rfl (by decide) _ _ _ rfl HC5.out _ _ _ rfl (Kt.Ar.of_sl HK5.out) (hcells_one o2) (by have := HM.out; unfold maxLen; omega) (by have := HM.out; omega) HZ5.out ?_; intro A6 c6 w6 hs6 hb6 hz6 hk6 hl6)
  have HJ6 : Kt.Sl w6 _ 34 2 (.slice A3 (o1 ++ o2).length c3) (o1 ++ o2).length (hcells (o1 ++ o2)) := HJ5.out.keep (fun k hk => hb6.block k (by have := HJT.out k hk; rw [World.size_alloc]; omega))
  rw [← hcells_app, ← List.length_append] at hs6
  rw [← List.length_append]
  refine (eqh_true _ _ _ _ (Kt.Ar.of_sl HJ6) (Kt.Ar.of_sl hs6) (by have := HM.out; rw [List.length_append]; omega)).mono ?_; rintro e w7 ⟨rfl, hb7⟩
  have HB7 := Lib.hid (Kt.bthen (HB5.out.trans (hb6.mono (by have := HB4S.out; rw [World.size_alloc]; omega))) hb7)
  clear hb7 hb6 hk6 hl6 hz6
  go_wp2_with fail
  go_ret
  exact ⟨rfl, HB7.out⟩
theorem ear_rd {w : World} {B : Nat} {v : Value} (r : Fr.RdV w B (.cat 1 .string .nil) v) : ∃ r : List UInt8, v = .agg #[.string (bt r)] ∧ r.length ≤ B := by
  obtain ⟨cs, rfl, h1, ⟨s, h2, h3⟩, h4⟩ := r
  refine ⟨s.data.toList, ?_, h3⟩
  have : cs.toList = [.string s] := by
    rw [← List.take_append_drop 1 cs.toList, h2, h4]; rfl
  have : cs = #[.string s] := by rw [← Array.toList_inj]; exact this
  rw [this]; rfl
theorem cuts_walk (v0 v1 v2 : Value) (w : World) (r0 : Fr.RdV w 1048576 (.cat 1 .string .nil) v0) (r1 : Fr.RdV w 1048576 .string v1) (r2 : Fr.RdV w 1048576 .string v2) :
    Calls Tryd.prog 5 #[v0, v1, v2] w fun e w' => e = .returned (.bool true) ∧ Below w.heap.size w w' := by
  obtain ⟨a, rfl, ha⟩ := str_bt r1
  obtain ⟨b, rfl, hb⟩ := str_bt r2
  obtain ⟨r, rfl, hr⟩ : ∃ r : List UInt8, v0 = .agg #[.string (bt r)] ∧ r.length ≤ 1048576 := ear_rd r0
  by_cases h : okL ltr a = true ∧ okL ltr r = true
  · by_cases h3 : okL ltr b = true
    · exact cuts_good r a b w hr ha hb h.1 h.2 h3
    · exact cuts_half r a b w hr ha hb h.1 h.2 h3
  · exact cuts_bad r a b w hr ha h
end Go.Proofs.YtmajeonfblcfnaaDoor
