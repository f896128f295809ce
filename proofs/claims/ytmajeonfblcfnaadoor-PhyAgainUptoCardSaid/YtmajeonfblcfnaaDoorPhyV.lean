/- The law PhyBack. -/
import Derived.Test.YtmajeonfblcfnaaDoorPhyT
import Derived.Test.YtmajeonfblcfnaaDoorPhyL
import Derived.Shelf.Vars
namespace Go.Proofs.YtmajeonfblcfnaaDoor
open Go.RowKit Go.Proofs.YtmajeonfblcfnaaDoor.Lan Go.Proofs.YtmajeonfblcfnaaDoor.Phy
theorem hcells_len (o : List (List UInt8 × Int)) : (hcells o).length = o.length * 2 := by
  induction o with
  | nil => rfl
  | cons p o ih => show (hcells o).length + 1 + 1 = _; rw [ih, List.length_cons]; omega
theorem hcells_at : ∀ (o : List (List UInt8 × Int)) (i : Nat) (h : i < o.length), ((hcells o).drop (i * 2)).take 2 = [.string (bt o[i].1), .int .i64 o[i].2]
  | p :: o, 0, h => rfl
  | p :: o, i + 1, h => by
    have h' : i < o.length := by simpa using h
    have := hcells_at o i h'
    rw [Nat.succ_mul]
    show (((hcells [p]) ++ hcells o).drop (i * 2 + 2)).take 2 = _
    rw [List.drop_append, show (hcells [p]).length = 2 from rfl, Nat.add_sub_cancel, List.drop_of_length_le (by show 2 ≤ i * 2 + 2; omega), List.nil_append, this]
    rfl
theorem hcells_cl (o : List (List UInt8 × Int)) (i : Nat) (h : i < o.length) : Fr.Cl hdTy (((hcells o).drop (i * 2)).take 2) := by
  rw [hcells_at o i h]
  exact ⟨by simp, ⟨_, rfl⟩, by simp, ⟨_, rfl⟩, rfl⟩
theorem hcells_one (o : List (List UInt8 × Int)) : ∀ u ∈ hcells o, u.oneCell' = true := by
  intro u hu
  unfold hcells at hu
  obtain ⟨p, _, hu⟩ := List.mem_flatMap.1 hu
  simp at hu
  rcases hu with rfl | rfl <;> rfl
theorem eqh_true (u v : Value) (o : List (List UInt8 × Int)) (w : World) (ha : Kt.Ar w u 2 o.length (hcells o)) (hb : Kt.Ar w v 2 o.length (hcells o)) (hm : o.length ≤ 1099511627776) :
    Calls Tryd.prog 13 #[u, v] w fun e w' => e = .returned (.bool true) ∧ Below w.heap.size w w' := by
  refine (eqh_calls_same u v o.length _ _ w ha hb (hcells_cl o) (hcells_cl o) hm).mono ?_
  rintro e w' ⟨b, rfl, hb, hw⟩
  rw [hb.2 rfl]
  exact ⟨rfl, hw⟩
def earTy : Fr.Ty := .cat 1 .string .nil
theorem fit_ear : Fr.fits Tryd.prog 12 29 earTy = true := by kernel_rfl
theorem ok_ear : Fr.eqOk Tryd.prog 12 29 = true := by kernel_rfl
theorem eq_ear (x y : ByteArray) : ∃ b, (b = true ↔ x = y) ∧ ∀ w : World, (binOp .eql 29 (.agg #[.string x]) (.agg #[.string y])).run Tryd.prog w = .ok (.bool b) w :=
  ⟨_, by simp, fun w => (Fr.eql_agg (P := Tryd.prog) w 29 earTy 12 (by omega) fit_ear ok_ear rfl #[.string x] #[.string y] ⟨by simp, ⟨x, rfl⟩, rfl⟩ ⟨by simp, ⟨y, rfl⟩, rfl⟩ rfl rfl).1⟩
theorem eq_ear_same (x : ByteArray) (w : World) : (binOp .eql 29 (.agg #[.string x]) (.agg #[.string x])).run Tryd.prog w = .ok (.bool true) w := by
  obtain ⟨b, hb, h⟩ := eq_ear x x
  rw [h, hb.2 rfl]
theorem guard_earT : Program.eqGuardType Tryd.prog Tryd.prog.depth 29 = false := by kernel_rfl
theorem guard_ear (p q : Operand) (a b : Array Value) (w : World) : (eqGuard .eql 29 p q (.agg a) (.agg b)).run Tryd.prog w = .ok () w := run_eqGuard_agg w .eql 29 p q a b guard_earT
theorem ok_wire (n : Nat) (ls : List (List UInt8)) : okL ltr (wire n ls) = true := by
  unfold okL
  rw [List.all_eq_true]
  intro b hb
  have key : b = 74 ∨ b = 75 ∨ b = 48 := by
    induction ls with
    | nil => simp [wire] at hb
    | cons s ls ih =>
      unfold wire at hb
      split at hb
      · rcases List.mem_append.1 hb with hb | hb
        · rcases List.mem_append.1 hb with hb | hb
          · exact .inl (List.eq_of_mem_replicate hb)
          · rcases List.mem_append.1 hb with hb | hb
            · rcases levs_lv s b hb with h | h
              · exact .inl h
              · exact .inr (.inl h)
            · simp [endL] at hb
              rcases hb with h | h
              · exact .inr (.inr h)
              · exact .inl h
        · exact ih hb
      · exact ih hb
  rcases key with rfl | rfl | rfl <;> decide
theorem repeat_is (n : Nat) : Lib.repeatL [74] n = List.replicate n 74 := by
  induction n with
  | zero => rfl
  | succ n ih => show 74 :: Lib.repeatL [74] n = _; rw [ih]; rfl
theorem wire_small {n : Nat} {ls : List (List UInt8)} (hn : n ≤ 50) (hm : ls.length ≤ 50) : (wire n ls).length ≤ 100000 := by
  have h1 := wire_len n ls
  have h2 : ls.length * (n + 759) ≤ 50 * 809 := Nat.mul_le_mul hm (by omega)
  omega
set_option maxHeartbeats 1600000 in
theorem back_good (v : Value) (n : Nat) (ls : List (List UInt8)) (w : World) (h : Kt.Ar w v 1 ls.length (strs ls)) (hn : n ≤ 50) (hm : ls.length ≤ 50) (hsz : ∀ s ∈ ls, s.length ≤ 9223372036854775807) :
    Calls Tryd.prog 6 #[v, .int .i64 n] w fun e w' => e = .returned (.bool true) ∧ Below w.heap.size w w' := by
  have HW := Lib.hid (fun W (hW : Below w.heap.size w W) => wired_calls v n ls W (h.on hW) hn hm hsz)
  have HRP := Lib.hid (fun W => Tryd.strings_Repeat ⟨#[74]⟩ n W (by omega) (by show 1 * n ≤ _; omega))
  rw [show (⟨#[74]⟩ : ByteArray).data.toList = [74] from rfl, repeat_is] at HRP
  have HH := Lib.hid (fun W => hear_good [] (wire n ls) W (by decide) (by have := wire_small hn hm; omega) (ok_wire n ls) rfl)
  rw [hear_wire n ls, show (ls.filter okS).map (fun s => (s, (0 : Int))) = want ls from rfl] at HH
  have HV := Lib.hid plives_calls
  have hwl : (want ls).length ≤ 1099511627776 := by have := want_len ls; omega
  have HWL := Lib.hid hwl
  have hb0 : bt [] = ⟨#[]⟩ := rfl
  dsimp only at HH
  rw [hb0] at HH
  obtain ⟨R, hR⟩ : ∃ x, bt (List.replicate n 74) = x := ⟨_, rfl⟩
  have hR' : (⟨(List.replicate n 74).toArray⟩ : ByteArray) = R := hR
  obtain ⟨T, hT⟩ : ∃ x, bt (wire n ls) = x := ⟨_, rfl⟩
  rw [hR, hT] at HW
  rw [hR'] at HRP
  rw [hT] at HH
  obtain ⟨A0, c0, rfl, _, _⟩ := h.form
  have i1 : ¬ (n : Int) < 0 := by omega
  have i2 : ¬ (50 : Int) < n := by omega
  have i3 : ¬ (50 : Int) < ls.length := by omega
  generalize ls.length = L at *
  have HI := Lib.hid (And.intro hn hm)
  have EQ := fun x w => eq_ear_same x w
  have EG := fun p q a b w => guard_ear p q a b w
  clear hwl hb0 hR hR' hT h hsz hn hm
  go_enter Tryd.func6, Tryd.ntmps6
  go_wp2_with fail
  refine (HRP.out _).mono ?_; rintro e w1 ⟨rfl, hb1⟩
  have HB1 := Lib.hid hb1
  clear hb1 HRP
  go_wp2_with fail
  refine (HW.out _ HB1.out).mono ?_; rintro e w2 ⟨A, c, rfl, hs2, hb2⟩
  have HB2 := Lib.hid (Kt.bthen HB1.out hb2)
  have HS2 := Lib.hid hs2
  clear hb2 hs2 HW HB1
  go_wp2_with fail
  refine (HH.out _).mono ?_; rintro e w3 ⟨A2, c2, rfl, hs3, hb3⟩
  have HB3 := Lib.hid (Kt.bthen HB2.out hb3)
  have HS3 := Lib.hid hs3
  have HS2' := Lib.hid (HS2.out.on hb3)
  clear hb3 hs3 HH HB2 HS2
  go_wp2_with fail
  refine (HV.out _).mono ?_; rintro e w4 ⟨rfl, hb4⟩
  have q4 := Kt.box1 hb4
  have c4 := cell_of_row _ _ 0 _ _ _ q4
  have z4 := frozen_of_row _ _ 0 _ _ q4
  have hlt4 := (Array.getElem?_eq_some_iff.1 q4).1
  have HB4 := Lib.hid (Kt.bthen (Kt.balloc HB3.out (.cells #[.string ⟨#[]⟩] 29)) hb4)
  have HS4 := Lib.hid ((HS3.out.alloc (.cells #[.string ⟨#[]⟩] 29)).on hb4)
  have HS4' := Lib.hid ((HS2'.out.alloc (.cells #[.string ⟨#[]⟩] 29)).on hb4)
  clear hb4 HB3 HS3 HS2'
  go_wp2_with fail
  refine (eqh_true _ _ _ _ (Kt.Ar.of_sl HS4.out) (Kt.Ar.of_sl HS4'.out) HWL.out).mono ?_; rintro e w5 ⟨rfl, hb5⟩
  have HB5 := Lib.hid (Kt.bthen HB4.out hb5)
  clear hb5
  go_wp2_with fail
  go_ret
  exact ⟨rfl, HB5.out⟩
theorem back_bad (v : Value) (r : Int) (L : Nat) (xs : List Value) (w : World) (h : Kt.Ar w v 1 L xs) (hc : r < 0 ∨ 50 < r ∨ 50 < L) :
    Calls Tryd.prog 6 #[v, .int .i64 r] w fun e w' => e = .returned (.bool true) ∧ Below w.heap.size w w' := by
  obtain ⟨A0, c0, rfl, _, _⟩ := h.form
  have HV := Lib.hid plives_calls
  have hcase : r < 0 ∨ (¬ r < 0 ∧ 50 < r) ∨ (¬ r < 0 ∧ ¬ 50 < r ∧ (50 : Int) < L) := by omega
  clear h hc
  rcases hcase with i1 | ⟨i1, i2⟩ | ⟨i1, i2, i3⟩
  all_goals (
    go_enter Tryd.func6, Tryd.ntmps6
    go_wp2_with fail
    refine (HV.out _).mono ?_; rintro e w4 ⟨rfl, hb4⟩
    have HB4 := Lib.hid hb4
    clear hb4
    go_wp2_with fail
    go_ret
    exact ⟨rfl, HB4.out⟩)
theorem strs_rd {w : World} {B : Nat} {v : Value} (r : Fr.RdV w B (.slice 1 .string) v) : ∃ ls : List (List UInt8), ls.length ≤ B ∧ (∀ s ∈ ls, s.length ≤ B) ∧ Kt.Ar w v 1 ls.length (strs ls) := by
  obtain ⟨ss, h1, h2, h3⟩ := Kt.ar_strs r
  refine ⟨ss.map (fun s => s.data.toList), by simpa using h1, fun s hs => ?_, ?_⟩
  · obtain ⟨b, hb, rfl⟩ := List.mem_map.1 hs
    exact h2 b hb
  · have e : strs (ss.map (fun s => s.data.toList)) = ss.map Value.string := by
      unfold strs
      rw [List.map_map]
      apply List.map_congr_left
      intro s _
      rfl
    rw [e, List.length_map]
    exact h3
theorem back_walk (v0 v1 : Value) (w : World) (r0 : Fr.RdV w reachBytes (.slice 1 .string) v0) (r1 : Fr.RdV w reachBytes (.int .i64) v1) :
    Calls Tryd.prog 6 #[v0, v1] w fun e w' => e = .returned (.bool true) ∧ Below w.heap.size w w' := by
  obtain ⟨ls, hl, hs, ha⟩ := strs_rd r0
  obtain ⟨n, hn, hw⟩ := r1
  injection hn with hn _
  subst hn
  by_cases hc : n < 0 ∨ 50 < n ∨ 50 < ls.length
  · exact back_bad v0 n _ _ w ha hc
  · obtain ⟨k, rfl⟩ : ∃ k : Nat, n = k := ⟨n.toNat, by omega⟩
    exact back_good v0 k ls w ha (by omega) (by omega) (fun s h => Nat.le_trans (hs s h) (by decide))
theorem bt_pre (l : List UInt8) (k : Nat) (_hk : k ≤ l.length) : (bt l).extract 0 k = bt (l.take k) := by
  apply Kt.bytes_eq
  rw [bt_list]
  simp [bt]
theorem ar_pre {w : World} {A : Option Addr} {n m c sz : Nat} {xs : List Value} (h : Kt.Ar w (.slice A n c) sz n xs) (hm : m ≤ n) : Kt.Ar w (.slice A m c) sz m (xs.take (m * sz)) := by
  obtain ⟨A', c', e, h1, h2⟩ := h.form
  injection e with e1 _ e2
  subst e1 e2
  have hl : m * sz ≤ n * sz := Nat.mul_le_mul_right _ hm
  refine ⟨by rw [List.length_take, h.len]; omega, A, c, rfl, by omega, fun h0 => ?_⟩
  obtain ⟨b, o, q1, q2, q3⟩ := h2 (by omega)
  refine ⟨b, o, q1, q2, fun j hj => ?_⟩
  rw [List.length_take] at hj
  rw [List.getElem_take]
  exact q3 j (by omega)
theorem hcells_pre (o : List (List UInt8 × Int)) (q : Nat) : (hcells o).take (q * 2) = hcells (o.take q) := by
  induction o generalizing q with
  | nil => simp [hcells]
  | cons p o ih =>
    cases q with
    | zero => rfl
    | succ q =>
      rw [Nat.succ_mul]
      show ((hcells [p]) ++ hcells o).take (q * 2 + 2) = hcells ([p] ++ o.take q)
      rw [List.take_append, show (hcells [p]).length = 2 from rfl, Nat.add_sub_cancel, ih, hcells_app, List.take_of_length_le (by show 2 ≤ q * 2 + 2; omega)]
theorem kept_cell {w w' : World} {a : Addr} {u : Value} (hb : Below w.heap.size w w') (h : w.cell? a = some u) : w'.cell? a = some u := by
  have hlt : a.block < w.heap.size := by
    unfold World.cell? at h
    cases hq : w.heap[a.block]? with
    | none => rw [hq] at h; cases h
    | some o => exact (Array.getElem?_eq_some_iff.1 hq).1
  have := hb.block a.block hlt
  unfold World.cell? at h ⊢
  rw [this]; exact h
set_option maxHeartbeats 1600000 in
theorem torn_good (v : Value) (n : Nat) (m : Int) (ls : List (List UInt8)) (w : World) (h : Kt.Ar w v 1 ls.length (strs ls)) (hm : ls.length ≤ 50) (hsz : ∀ s ∈ ls, s.length ≤ 9223372036854775807) (hn : n ≤ (wire 0 ls).length) (hcm : w.cell? ⟨0, 0, none⟩ = some (.int .i64 m)) :
    Calls Tryd.prog 7 #[v, .int .i64 n] w fun e w' => e = .returned (.bool true) ∧ Below w.heap.size w w' := by
  have hwi := hn
  have HW := Lib.hid (fun W (hW : Below w.heap.size w W) => wired_calls v 0 ls W (h.on hW) (by omega) hm hsz)
  obtain ⟨hto, hle⟩ := hear_torn ls n
  have hws := wire_small (n := 0) (by omega) hm
  have HH := Lib.hid (fun W => hear_good [] ((wire 0 ls).take n) W (by decide) (by rw [List.length_take]; omega) (by
    have := ok_wire 0 ls
    unfold okL at this ⊢
    rw [List.all_eq_true] at this ⊢
    exact fun b hb => this b (List.mem_of_mem_take hb)) rfl)
  rw [hto] at HH
  have HC := Lib.hid (fun W (hW : W.cell? ⟨0, 0, none⟩ = some (.int .i64 m)) => Tryd.strings_Count (bt ((wire 0 ls).take n)) ⟨#[48, 48, 74]⟩ m W (by rw [bt_size, List.length_take]; omega) hW (by decide))
  rw [show Lib.countB (bt ((wire 0 ls).take n)) ⟨#[48, 48, 74]⟩ = Lib.count ((wire 0 ls).take n) endL by unfold Lib.countB; rw [bt_list]; rfl] at HC
  have HV := Lib.hid plives_calls
  have hwl : (want ls).length ≤ 1099511627776 := by have := want_len ls; omega
  have HWL := Lib.hid hwl
  have hb0 : bt [] = ⟨#[]⟩ := rfl
  rw [hb0] at HH
  obtain ⟨q, hq⟩ : ∃ q, Lib.count ((wire 0 ls).take n) endL = q := ⟨_, rfl⟩
  rw [hq] at HH HC hle
  obtain ⟨D, hD⟩ : ∃ D, want ls = D := ⟨_, rfl⟩
  rw [hD] at HH HW HWL hle
  have hDl : (D.take q).length = q := by rw [List.length_take]; omega
  rw [hDl] at HH
  have hbp := bt_pre (wire 0 ls) n hwi
  have hTs : (bt (wire 0 ls)).size = (wire 0 ls).length := bt_size _
  obtain ⟨U, hU⟩ : ∃ x, bt ((wire 0 ls).take n) = x := ⟨_, rfl⟩
  obtain ⟨E, hE⟩ : ∃ x, (hearP [] ((wire 0 ls).take n)).1 = x := ⟨_, rfl⟩
  rw [hE] at HH
  rw [hU] at HC HH hbp
  have hr0 : bt (List.replicate 0 74) = ⟨#[]⟩ := rfl
  rw [hr0] at HW
  obtain ⟨T, hT⟩ : ∃ x, bt (wire 0 ls) = x := ⟨_, rfl⟩
  rw [hT] at HW hTs hbp
  obtain ⟨E2, hE2⟩ : ∃ x, bt E = x := ⟨_, rfl⟩
  rw [hE2] at HH
  have HCM := Lib.hid hcm
  obtain ⟨A0, c0, rfl, _, _⟩ := h.form
  have i1 : ¬ (n : Int) < 0 := by omega
  have i2 : ¬ (T.size : Int) < n := by omega
  have i4 : n ≤ T.size := by omega
  have i3 : ¬ (50 : Int) < ls.length := by omega
  generalize ls.length = L at *
  have HDL := Lib.hid hDl
  have HLE := Lib.hid hle
  clear hwl hb0 hT h hsz hn hm hE hE2 hU hr0 hD hq hws hto hwi hcm hDl hTs
  go_enter Tryd.func7, Tryd.ntmps7
  go_wp2_with fail
  refine (HW.out _ (Below.refl _ _)).mono ?_; rintro e w2 ⟨A, c, rfl, hs2, hb2⟩
  have HB2 := Lib.hid hb2
  have HS2 := Lib.hid hs2
  clear hb2 hs2 HW
  go_wp2_with fail
  refine (HH.out _).mono ?_; rintro e w3 ⟨A2, c2, rfl, hs3, hb3⟩
  have HB3 := Lib.hid (Kt.bthen HB2.out hb3)
  have HS3 := Lib.hid hs3
  have HS2' := Lib.hid (HS2.out.on hb3)
  clear hb3 hs3 HH HB2 HS2
  go_wp2_with fail
  refine (HC.out _ ?_).mono ?_
  · exact kept_cell (Kt.balloc HB3.out _) HCM.out
  rintro e w3b ⟨rfl, rfl⟩
  clear HC
  go_wp2_with fail
  refine (HV.out _).mono ?_; rintro e w4 ⟨rfl, hb4⟩
  have HB4 := Lib.hid (Kt.bthen (Kt.balloc HB3.out (.cells #[.string E2] 29)) hb4)
  have HS4 := Lib.hid ((HS3.out.alloc (.cells #[.string E2] 29)).on hb4)
  have HS4' := Lib.hid ((HS2'.out.alloc (.cells #[.string E2] 29)).on hb4)
  clear hb4 HB3 HS3 HS2'
  have j1 : q ≤ D.length := HLE.out
  have j2 : (q : Int) ≤ D.length := by omega
  have j3 : q ≤ c := by obtain ⟨A', c', e, h1, _⟩ := HS4'.out.form; injection e with _ _ e; omega
  go_wp2_with fail
  have hA1 := Kt.Ar.of_sl HS4.out
  have hA2 : Kt.Ar w4 (.slice A q c) 2 q ((hcells D).take (q * 2)) := ar_pre (Kt.Ar.of_sl HS4'.out) HLE.out
  rw [hcells_pre] at hA2
  have hE := eqh_true (.slice A2 q c2) (.slice A q c) (D.take q) w4 (by rw [HDL.out]; exact hA1) (by rw [HDL.out]; exact hA2) (by rw [HDL.out]; have := HWL.out; omega)
  refine hE.mono ?_; rintro e w5 ⟨rfl, hb5⟩
  have HB5 := Lib.hid (Kt.bthen HB4.out hb5)
  clear hb5
  go_wp2_with fail
  go_ret
  exact ⟨rfl, HB5.out⟩
theorem torn_bad (v : Value) (r : Int) (L : Nat) (xs : List Value) (w : World) (h : Kt.Ar w v 1 L xs) (hc : 50 < L) :
    Calls Tryd.prog 7 #[v, .int .i64 r] w fun e w' => e = .returned (.bool true) ∧ Below w.heap.size w w' := by
  obtain ⟨A0, c0, rfl, _, _⟩ := h.form
  have HV := Lib.hid plives_calls
  have i1 : (50 : Int) < L := by omega
  clear h hc
  go_enter Tryd.func7, Tryd.ntmps7
  go_wp2_with fail
  refine (HV.out _).mono ?_; rintro e w4 ⟨rfl, hb4⟩
  have HB4 := Lib.hid hb4
  clear hb4
  go_wp2_with fail
  go_ret
  exact ⟨rfl, HB4.out⟩
theorem torn_off (v : Value) (r : Int) (ls : List (List UInt8)) (w : World) (h : Kt.Ar w v 1 ls.length (strs ls)) (hm : ls.length ≤ 50) (hsz : ∀ s ∈ ls, s.length ≤ 9223372036854775807) (hr : r < 0 ∨ ((wire 0 ls).length : Int) < r) :
    Calls Tryd.prog 7 #[v, .int .i64 r] w fun e w' => e = .returned (.bool true) ∧ Below w.heap.size w w' := by
  have HW := Lib.hid (fun W (hW : Below w.heap.size w W) => wired_calls v 0 ls W (h.on hW) (by omega) hm hsz)
  have HV := Lib.hid plives_calls
  have hr0 : bt (List.replicate 0 74) = ⟨#[]⟩ := rfl
  rw [hr0] at HW
  have hTs : (bt (wire 0 ls)).size = (wire 0 ls).length := bt_size _
  obtain ⟨T, hT⟩ : ∃ x, bt (wire 0 ls) = x := ⟨_, rfl⟩
  rw [hT] at HW hTs
  obtain ⟨A0, c0, rfl, _, _⟩ := h.form
  have i3 : ¬ (50 : Int) < ls.length := by omega
  have hcase : r < 0 ∨ (¬ r < 0 ∧ (T.size : Int) < r) := by omega
  generalize ls.length = L at *
  clear h hm hsz hr hr0 hTs hT
  rcases hcase with i1 | ⟨i1, i2⟩
  all_goals (
    go_enter Tryd.func7, Tryd.ntmps7
    go_wp2_with fail
    refine (HW.out _ (Below.refl _ _)).mono ?_; rintro e w2 ⟨A, c, rfl, hs2, hb2⟩
    have HB2 := Lib.hid hb2
    clear hb2 hs2
    go_wp2_with fail
    refine (HV.out _).mono ?_; rintro e w4 ⟨rfl, hb4⟩
    have HB4 := Lib.hid (Kt.bthen HB2.out hb4)
    clear hb4
    go_wp2_with fail
    go_ret
    exact ⟨rfl, HB4.out⟩)
theorem max_len {w : World} (h : w.ShapedOpen Tryd.prog) : ∃ m, w.cell? ⟨0, 0, none⟩ = some (.int .i64 m) :=
  cell_of_shapedOpen_int (t := 3) (zero := #[.int .i64 0]) h (by decide +kernel) (by kernel_rfl) rfl (by kernel_rfl) (by kernel_rfl) Tryd.underlying3
theorem torn_walk (v0 v1 : Value) (w : World) (hsh : w.ShapedOpen Tryd.prog) (r0 : Fr.RdV w reachBytes (.slice 1 .string) v0) (r1 : Fr.RdV w reachBytes (.int .i64) v1) :
    Calls Tryd.prog 7 #[v0, v1] w fun e w' => e = .returned (.bool true) ∧ Below w.heap.size w w' := by
  obtain ⟨m, hm⟩ := max_len hsh
  obtain ⟨ls, hl, hs, ha⟩ := strs_rd r0
  obtain ⟨n, hn, hw⟩ := r1
  injection hn with hn _
  subst hn
  have hs' : ∀ s ∈ ls, s.length ≤ 9223372036854775807 := fun s h => Nat.le_trans (hs s h) (by decide)
  by_cases hc : 50 < ls.length
  · exact torn_bad v0 n _ _ w ha hc
  · by_cases hr : n < 0 ∨ ((wire 0 ls).length : Int) < n
    · exact torn_off v0 n ls w ha (by omega) hs' hr
    · obtain ⟨k, rfl⟩ : ∃ k : Nat, n = k := ⟨n.toNat, by omega⟩
      exact torn_good v0 k m ls w ha (by omega) hs' (by omega) hm
end Go.Proofs.YtmajeonfblcfnaaDoor
