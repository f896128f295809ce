/- The law PhyAgain. -/
import Derived.Test.YtmajeonfblcfnaaDoorPhyC
namespace Go.Proofs.YtmajeonfblcfnaaDoor
open Go.RowKit Go.Proofs.YtmajeonfblcfnaaDoor.Lan Go.Proofs.YtmajeonfblcfnaaDoor.Phy
theorem eq_hd_same (X : ByteArray) (e : Int) (w : World) : (binOp .eql 34 (.agg #[.string X, .int .i64 e]) (.agg #[.string X, .int .i64 e])).run Tryd.prog w = .ok (.bool true) w := by
  have c : Fr.Cl hdTy [.string X, .int .i64 e] := ⟨by simp, ⟨_, rfl⟩, by simp, ⟨_, rfl⟩, rfl⟩
  have h := (Fr.eql_agg (P := Tryd.prog) w 34 hdTy 12 (by omega) fit_eqh_calls ok_eqh_calls rfl #[.string X, .int .i64 e] #[.string X, .int .i64 e] c c rfl rfl).1
  rw [h]
  simp
theorem guard_hdT : Program.eqGuardType Tryd.prog Tryd.prog.depth 34 = false := by kernel_rfl
theorem guard_hd (p q : Operand) (a b : Array Value) (w : World) : (eqGuard .eql 34 p q (.agg a) (.agg b)).run Tryd.prog w = .ok () w := run_eqGuard_agg w .eql 34 p q a b guard_hdT
set_option maxHeartbeats 1600000 in
theorem again_none (r a s : List UInt8) (w : World) (hs : s.length ≤ 1048576) (h1 : (sendP s).2 ≠ 0) (h2 : (sendP s).1 = []) :
    Calls Tryd.prog 4 #[.agg #[.string (bt r)], .string (bt a), .string (bt s)] w fun e w' => e = .returned (.bool true) ∧ Below w.heap.size w w' := by
  have HS := Lib.hid (fun W => send_calls s W (by omega))
  have HV := Lib.hid plives_calls
  have e1 : ((sendP s).2 != 0) = true := by rw [bne_iff_ne]; exact h1
  have hb0 : bt [] = ⟨#[]⟩ := rfl
  rw [h2, hb0] at HS
  obtain ⟨E, hE⟩ : ∃ E, (sendP s).2 = E := ⟨_, rfl⟩
  rw [hE] at HS e1
  generalize bt r = R at *
  generalize bt a = A at *
  generalize bt s = S at *
  clear hs h1 h2 hb0 hE
  go_enter Tryd.func4, Tryd.ntmps4
  go_wp2_with fail
  refine (HS.out _).mono ?_; rintro e w1 ⟨rfl, hb1⟩
  have HB1 := Lib.hid (Kt.bthen (Kt.balloc (Below.refl w.heap.size w) (.cells #[.string R] 29)) hb1)
  clear hb1 HS
  go_wp2_with fail
  refine (HV.out _).mono ?_; rintro e w2 ⟨rfl, hb2⟩
  have HB2 := Lib.hid (Kt.bthen HB1.out hb2)
  clear hb2 HB1
  go_wp2_with fail
  refine (HV.out _).mono ?_; rintro e w2 ⟨rfl, hb2⟩
  have HB3 := Lib.hid (Kt.bthen HB2.out hb2)
  clear hb2 HB2
  go_wp2_with fail
  go_ret
  exact ⟨rfl, HB3.out⟩
theorem ok_lev {s : List UInt8} : okL ltr (levs s ++ endL) = true := by
  rw [ok_app, Bool.and_eq_true]
  refine ⟨?_, by decide⟩
  unfold okL
  rw [List.all_eq_true]
  intro b hb
  rcases levs_lv s b hb with rfl | rfl <;> decide
theorem end_end : bt (endL ++ endL) = ⟨#[48, 48, 74, 48, 48, 74]⟩ := rfl
set_option maxHeartbeats 1600000 in
theorem again_bad (r a s : List UInt8) (w : World) (hr : r.length ≤ 1048576) (ha : a.length ≤ 1048576) (h1 : sendP s = (levs s ++ endL, 0)) (h80 : s.length ≤ 80) (h : ¬ (okL ltr a = true ∧ okL ltr r = true)) :
    Calls Tryd.prog 4 #[.agg #[.string (bt r)], .string (bt a), .string (bt s)] w fun e w' => e = .returned (.bool true) ∧ Below w.heap.size w w' := by
  have HS := Lib.hid (fun W => send_calls s W (by omega))
  rw [h1] at HS
  dsimp only at HS
  have hll := levs_len h80
  have h3 : endL.length = 3 := rfl
  have hlen : (a ++ (endL ++ endL) ++ (levs s ++ endL)).length ≤ 4294967296 := by
    rw [List.length_append, List.length_append, List.length_append, List.length_append, h3]; omega
  have hTl : (levs s ++ endL).length ≤ 1000 := by rw [List.length_append, h3]; omega
  have HH := Lib.hid (fun W => hear_stop r (a ++ (endL ++ endL) ++ (levs s ++ endL)) W (by omega) hlen (by
    rw [ok_app, ok_app, ok_lev, show okL ltr (endL ++ endL) = true from rfl, Bool.and_true, Bool.and_true]; exact h))
  have HV := Lib.hid plives_calls
  have e0 : bt (a ++ (endL ++ endL) ++ (levs s ++ endL)) = bt a ++ ⟨#[48, 48, 74, 48, 48, 74]⟩ ++ bt (levs s ++ endL) := by rw [← bt_app, ← bt_app, end_end]
  rw [e0] at HH
  have z1 : ¬ 9223372036854775807 < (bt a).size + (⟨#[48, 48, 74, 48, 48, 74]⟩ : ByteArray).size := by
    rw [bt_size]
    show ¬ 9223372036854775807 < _ + 6
    omega
  have z2 : ¬ 9223372036854775807 < (bt a ++ ⟨#[48, 48, 74, 48, 48, 74]⟩ : ByteArray).size + (bt (levs s ++ endL)).size := by
    rw [ByteArray.size_append, bt_size, bt_size]
    show ¬ 9223372036854775807 < _ + 6 + _
    omega
  generalize bt (levs s ++ endL) = T at *
  generalize bt r = R at *
  generalize bt a = A at *
  generalize bt s = S at *
  clear hr ha h1 h80 h hll h3 hlen hTl e0
  go_enter Tryd.func4, Tryd.ntmps4
  go_wp2_with fail
  refine (HS.out _).mono ?_; rintro e w1 ⟨rfl, hb1⟩
  have q1 := Kt.box1 hb1
  have HB1 := Lib.hid (Kt.bthen (Kt.balloc (Below.refl w.heap.size w) (.cells #[.string R] 29)) hb1)
  clear hb1 HS
  go_wp2_with fail
  refine (HV.out _).mono ?_; rintro e w2 ⟨rfl, hb2⟩
  have q2 := Kt.row_on hb2 q1
  have c2 := cell_of_row _ _ 0 _ _ _ q2
  have l2 := (Array.getElem?_eq_some_iff.1 q2).1
  have HB2 := Lib.hid (Kt.bthen HB1.out hb2)
  clear hb2 HB1 q1
  go_wp2_with fail
  refine (HH.out _).mono ?_; rintro e w3 ⟨rfl, hb3⟩
  have HB3 := Lib.hid (Kt.bthen HB2.out hb3)
  clear hb3 HB2 HH
  go_wp2_with fail
  go_ret
  exact ⟨rfl, Kt.balloc HB3.out _⟩
theorem wrap_n {n : Nat} (h : n ≤ 2000000) : wrap64 (n : Int) = n := by unfold wrap64; omega
set_option maxHeartbeats 1600000 in
theorem again_good (r a s : List UInt8) (w : World) (hr : r.length ≤ 1048576) (ha : a.length ≤ 1048576) (h0 : s ≠ []) (h1 : sendP s = (levs s ++ endL, 0)) (h80 : s.length ≤ 80) (h : okL ltr a = true ∧ okL ltr r = true) :
    Calls Tryd.prog 4 #[.agg #[.string (bt r)], .string (bt a), .string (bt s)] w fun e w' => e = .returned (.bool true) ∧ Below w.heap.size w w' := by
  have HS := Lib.hid (fun W => send_calls s W (by omega))
  rw [h1] at HS
  dsimp only at HS
  have hll := levs_len h80
  have h3 : endL.length = 3 := rfl
  have hlen : (a ++ (endL ++ endL) ++ (levs s ++ endL)).length ≤ 2000000 := by
    rw [List.length_append, List.length_append, List.length_append, List.length_append, h3]; omega
  have hTl : (levs s ++ endL).length ≤ 1000 := by rw [List.length_append, h3]; omega
  have HH := Lib.hid (fun W => hear_good r (a ++ (endL ++ endL) ++ (levs s ++ endL)) W (by omega) (by omega) (by
    rw [ok_app, ok_app, ok_lev, show okL ltr (endL ++ endL) = true from rfl, Bool.and_true, Bool.and_true]; exact h.1) h.2)
  have hhl := (hear_len (a ++ (endL ++ endL) ++ (levs s ++ endL)) r).2
  obtain ⟨l, hag⟩ := hear_again r a h0 h80
  rw [hag] at HH hhl
  dsimp only at HH hhl
  rw [List.length_append, List.length_singleton] at HH hhl
  have hn : l.length ≤ 2000000 := by omega
  have hcs : (hcells (l ++ [(s, 0)]))[l.length * 2]? = some (.string (bt s)) ∧ (hcells (l ++ [(s, 0)]))[l.length * 2 + 1]? = some (.int .i64 0) := by
    rw [hcells_app, List.getElem?_append_right (by rw [hcells_len]; exact Nat.le_refl _), List.getElem?_append_right (by rw [hcells_len]; exact Nat.le_succ _), hcells_len, Nat.sub_self, Nat.add_sub_cancel_left]
    exact ⟨rfl, rfl⟩
  have HV := Lib.hid plives_calls
  have e0 : bt (a ++ (endL ++ endL) ++ (levs s ++ endL)) = bt a ++ ⟨#[48, 48, 74, 48, 48, 74]⟩ ++ bt (levs s ++ endL) := by rw [← bt_app, ← bt_app, end_end]
  have hb0 : bt [] = ⟨#[]⟩ := rfl
  rw [e0, hb0] at HH
  have z1 : ¬ 9223372036854775807 < (bt a).size + (⟨#[48, 48, 74, 48, 48, 74]⟩ : ByteArray).size := by
    rw [bt_size]
    show ¬ 9223372036854775807 < _ + 6
    omega
  have z2 : ¬ 9223372036854775807 < (bt a ++ ⟨#[48, 48, 74, 48, 48, 74]⟩ : ByteArray).size + (bt (levs s ++ endL)).size := by
    rw [ByteArray.size_append, bt_size, bt_size]
    show ¬ 9223372036854775807 < _ + 6 + _
    omega
  generalize bt (levs s ++ endL) = T at *
  generalize bt r = R at *
  generalize bt a = A at *
  generalize hcells (l ++ [(s, 0)]) = cs at *
  generalize bt s = S at *
  obtain ⟨n, hln⟩ : ∃ n, l.length = n := ⟨_, rfl⟩
  rw [hln] at HH hn hcs
  have HCS := Lib.hid hcs
  have HN := Lib.hid hn
  have EQ := fun x w => eq_ear_same x w
  have EG := fun p q a b w => guard_ear p q a b w
  have EQ2 := fun x e w => eq_hd_same x e w
  have EG2 := fun p q a b w => guard_hd p q a b w
  clear hr ha h0 h1 h80 h hll h3 hlen hTl e0 hb0 hhl hag hln hcs hn
  go_enter Tryd.func4, Tryd.ntmps4
  go_wp2_with fail
  refine (HS.out _).mono ?_; rintro e w1 ⟨rfl, hb1⟩
  have q1 := Kt.box1 hb1
  have HB1 := Lib.hid (Kt.bthen (Kt.balloc (Below.refl w.heap.size w) (.cells #[.string R] 29)) hb1)
  clear hb1 HS
  go_wp2_with fail
  refine (HV.out _).mono ?_; rintro e w2 ⟨rfl, hb2⟩
  have q2 := Kt.row_on hb2 q1
  have c2 := cell_of_row _ _ 0 _ _ _ q2
  have l2 := (Array.getElem?_eq_some_iff.1 q2).1
  have HB2 := Lib.hid (Kt.bthen HB1.out hb2)
  clear hb2 HB1 q1
  go_wp2_with fail
  refine (HH.out _).mono ?_; rintro e w3 ⟨A3, cp, rfl, hs3, hb3⟩
  have HB3 := Lib.hid (Kt.bthen HB2.out hb3)
  obtain ⟨g, o, cap, hv, _, hg, _, _, hc, _⟩ := hs3.cells (Nat.succ_pos _)
  injection hv with hv1 _ hv2
  subst hv1 hv2
  have d1 : w3.cell? ⟨g, o + n * 2, none⟩ = some (.string S) := by
    obtain ⟨hj, he⟩ := List.getElem?_eq_some_iff.1 HCS.out.1
    rw [hc _ hj, he]
  have d2 : w3.cell? ⟨g, o + n * 2 + 1, none⟩ = some (.int .i64 0) := by
    obtain ⟨hj, he⟩ := List.getElem?_eq_some_iff.1 HCS.out.2
    rw [Nat.add_assoc, hc _ hj, he]
  have hw : wrap64 (n : Int) = n := wrap_n HN.out
  clear hb3 HB2 HH hs3 hc q2 c2 l2 hw
  have hn2 : n ≤ 2000000 := HN.out
  go_upto_region 7 with fail
  go_wp2_with fail
  go_ret
  exact ⟨rfl, Kt.balloc HB3.out _⟩
theorem again_walk (v0 v1 v2 : Value) (w : World) (r0 : Fr.RdV w 1048576 (.cat 1 .string .nil) v0) (r1 : Fr.RdV w 1048576 .string v1) (r2 : Fr.RdV w 1048576 .string v2) :
    Calls Tryd.prog 4 #[v0, v1, v2] w fun e w' => e = .returned (.bool true) ∧ Below w.heap.size w w' := by
  obtain ⟨a, rfl, ha⟩ := str_bt r1
  obtain ⟨s, rfl, hs⟩ := str_bt r2
  obtain ⟨r, rfl, hr⟩ := ear_rd r0
  rcases send_cases s with ⟨h1, h2⟩ | ⟨h1, h0, h80⟩
  · exact again_none r a s w hs h1 h2
  · by_cases h : okL ltr a = true ∧ okL ltr r = true
    · exact again_good r a s w hr ha h0 h1 h80 h
    · exact again_bad r a s w hr ha h1 h80 h
end Go.Proofs.YtmajeonfblcfnaaDoor
