/- The walks of package slots: endpoint. -/
import Derived.Test.YtidcbboonjenhaaSltF
namespace Go.Proofs.Ytidcbboonjenhaa
open Go.RowKit Classical Go.Proofs.Ytidcbboonjenhaa.Slt
def EndIs (g : Nat) (l : List Int) (n : Nat) (k e a : Int) (w : World) (en : Ending) (w' : World) : Prop :=
  en = .returned (.int .i64 (endCode (at_ l n) k e a)) ∧ ((endCode (at_ l n) k e a = 1 ∧ Bx 43 g (put l n (endMade (at_ l n) k e a)) w' ∧ Upd g w w') ∨ (endCode (at_ l n) k e a ≠ 1 ∧ Below w.heap.size w w'))
theorem end5 {x : List Int} {k e a : Int} (h : e < 1 ∨ 31 < e) : endCode x k e a = 5 := by unfold endCode; rw [if_pos h]
set_option maxRecDepth 100000 in
set_option maxHeartbeats 1600000 in
theorem end_out (l : List Int) (n : Nat) (g : Nat) (w : World) (k s e a : Int) (h : e < 1 ∨ (1 ≤ e ∧ 31 < e)) : Calls Try.prog 37 #[.pointer (some ⟨g, n * 66, none⟩), .agg #[.int .i64 k, .int .i64 s, .int .i64 e, .int .i64 a]] w (EndIs g l n k e a w) := by
  have HC := Lib.hid (end5 (x := at_ l n) (k := k) (e := e) (a := a) (by omega))
  rcases h with h | ⟨h1, h2⟩
  · go_enter Try.func37, Try.ntmps37
    go_wp2_with fail
    go_ret
    exact ⟨congrArg (fun x => Ending.returned (.int .i64 x)) HC.out.symm, .inr ⟨by rw [HC.out]; decide, Kt.balloc (Below.refl _ _) _⟩⟩
  · go_enter Try.func37, Try.ntmps37
    go_wp2_with fail
    go_ret
    exact ⟨congrArg (fun x => Ending.returned (.int .i64 x)) HC.out.symm, .inr ⟨by rw [HC.out]; decide, Kt.balloc (Below.refl _ _) _⟩⟩
theorem end_v {x : List Int} {k a v : Int} {e : Nat} (e1 : 1 ≤ e) (e2 : e ≤ 31) (hv : G x (2 + e) = v) (h0 : v ≠ 0) : endCode x k e a = if (k = 6 ∧ v = 2) ∨ (k = 7 ∧ v = 1) then 1 else if k = 8 ∧ (a < 0 ∨ 65535 < a) then 17 else if (k = 8 ∧ v = 3) ∨ (k = 9 ∧ (v = 3 ∨ v = 1)) then 1 else 19 := by
  unfold endCode
  rw [if_neg (by omega), Int.toNat_natCast, hv, if_neg h0]
theorem end12 {x : List Int} {k a : Int} {e : Nat} (e1 : 1 ≤ e) (e2 : e ≤ 31) (hv : G x (2 + e) = 0) : endCode x k e a = 12 := by
  unfold endCode
  rw [if_neg (by omega), Int.toNat_natCast, hv, if_pos rfl]
theorem end1 {x : List Int} {k a v : Int} {e : Nat} (e1 : 1 ≤ e) (e2 : e ≤ 31) (hv : G x (2 + e) = v) (h0 : v ≠ 0) (h : (k = 6 ∧ v = 2) ∨ (k = 7 ∧ v = 1) ∨ (k = 8 ∧ 0 ≤ a ∧ a ≤ 65535 ∧ v = 3) ∨ (k = 9 ∧ (v = 3 ∨ v = 1))) : endCode x k e a = 1 := by
  rw [end_v e1 e2 hv h0]
  split
  · rfl
  rw [if_neg (by omega), if_pos (by omega)]
theorem end17 {x : List Int} {k a v : Int} {e : Nat} (e1 : 1 ≤ e) (e2 : e ≤ 31) (hv : G x (2 + e) = v) (h0 : v ≠ 0) (h : k = 8 ∧ (a < 0 ∨ 65535 < a)) : endCode x k e a = 17 := by
  rw [end_v e1 e2 hv h0, if_neg (by omega), if_pos h]
theorem end19 {x : List Int} {k a v : Int} {e : Nat} (e1 : 1 ≤ e) (e2 : e ≤ 31) (hv : G x (2 + e) = v) (h0 : v ≠ 0) (h : ¬ ((k = 6 ∧ v = 2) ∨ (k = 7 ∧ v = 1) ∨ (k = 8 ∧ (a < 0 ∨ 65535 < a)) ∨ (k = 8 ∧ v = 3) ∨ (k = 9 ∧ (v = 3 ∨ v = 1)))) : endCode x k e a = 19 := by
  rw [end_v e1 e2 hv h0, if_neg (by omega), if_neg (by omega), if_neg (by omega)]
theorem made3 (x : List Int) (k a : Int) (e : Nat) (h : k = 6 ∨ k = 7) : endMade x k e a = x.set (2 + e) 3 := by unfold endMade; rw [if_pos h, Int.toNat_natCast]
theorem made8 (x : List Int) (a : Int) (e : Nat) : endMade x 8 e a = x.set (34 + e) a := by unfold endMade; rw [if_neg (by decide), if_pos rfl, Int.toNat_natCast]
theorem made9 (x : List Int) (a : Int) (e : Nat) : endMade x 9 e a = x.set (2 + e) 1 := by unfold endMade; rw [if_neg (by decide), if_neg (by decide), Int.toNat_natCast]
theorem end_cases {k a v : Int} : (k = 6 ∧ v = 2) ∨ (k = 7 ∧ v = 1) ∨ (k = 8 ∧ a < 0) ∨ (k = 8 ∧ 0 ≤ a ∧ 65535 < a) ∨ (k = 8 ∧ 0 ≤ a ∧ a ≤ 65535 ∧ v = 3) ∨ (k = 9 ∧ v = 3) ∨ (k = 9 ∧ v = 1) ∨ (k = 6 ∧ v ≠ 2) ∨ (k = 7 ∧ v ≠ 1) ∨ (k = 8 ∧ 0 ≤ a ∧ a ≤ 65535 ∧ v ≠ 3) ∨ (k = 9 ∧ v ≠ 3 ∧ v ≠ 1) ∨ (k ≠ 6 ∧ k ≠ 7 ∧ k ≠ 8 ∧ k ≠ 9) := by omega
set_option maxRecDepth 100000 in
set_option maxHeartbeats 1600000 in
theorem end_in (l : List Int) (hl : l.length = 594) (n : Nat) (hn : n < 9) (g : Nat) (w : World) (hb : Bx 43 g l w) (k s a : Int) (e : Nat) (e1 : 1 ≤ e) (e2 : e ≤ 31) : Calls Try.prog 37 #[.pointer (some ⟨g, n * 66, none⟩), .agg #[.int .i64 k, .int .i64 s, .int .i64 e, .int .i64 a]] w (EndIs g l n k e a w) := by
  have e1' : (1 : Int) ≤ e := by omega
  have e2' : (e : Int) ≤ 31 := by omega
  have HU := Lib.hid ((Upd.refl g w).alloc hb.lt (.cells #[.int .i64 k, .int .i64 s, .int .i64 e, .int .i64 a] 23))
  have hb2 := hb.on (Kt.balloc (Below.refl _ w) (.cells #[.int .i64 k, .int .i64 s, .int .i64 e, .int .i64 a] 23))
  have HW := Lib.hid (Kt.balloc (Below.refl _ w) (.cells #[.int .i64 k, .int .i64 s, .int .i64 e, .int .i64 a] 23))
  have HB := Lib.hid hb2
  have c0 := hb2.cell (n * 66 + 2 + e) (by omega)
  have c1 := hb2.cell (n * 66 + 34 + e) (by omega)
  have q0 := hb2.free (n * 66 + 2 + e)
  have q1 := hb2.free (n * 66 + 34 + e)
  have hv : G (at_ l n) (2 + e) = G l (n * 66 + 2 + e) := by rw [G_at _ _ _ (by omega), Nat.add_assoc]
  have hp2 : ∀ v, l.set (n * 66 + 2 + e) v = put l n ((at_ l n).set (2 + e) v) := fun v => by
    have := put_two l hl n hn (at_ l n) (at_len l hl n hn) 2 e (by omega) v
    rwa [put_at l hl n hn] at this
  have hp34 : ∀ v, l.set (n * 66 + 34 + e) v = put l n ((at_ l n).set (34 + e) v) := fun v => by
    have := put_two l hl n hn (at_ l n) (at_len l hl n hn) 34 e (by omega) v
    rwa [put_at l hl n hn] at this
  have HP2 := Lib.hid hp2
  have HP34 := Lib.hid hp34
  have HE := Lib.hid (And.intro e1 e2)
  clear hb hb2 e1 e2 hp2 hp34
  generalize G l (n * 66 + 34 + e) = om at c1
  generalize G l (n * 66 + 2 + e) = v at c0 hv
  have HV := Lib.hid hv
  clear hv
  by_cases h0 : v = 0
  · subst h0
    have HC := Lib.hid (end12 (k := k) (a := a) HE.out.1 HE.out.2 HV.out)
    go_enter Try.func37, Try.ntmps37
    go_wp2_with fail
    go_quiet (fail)
    go_wp2_with fail
    go_ret
    exact ⟨congrArg (fun x => Ending.returned (.int .i64 x)) HC.out.symm, .inr ⟨by rw [HC.out]; decide, bdrewN HW.out _⟩⟩
  · have f0 : (v == 0) = false := beq_eq_false_iff_ne.2 h0
    have H0 := Lib.hid h0
    clear h0
    go_enter Try.func37, Try.ntmps37
    go_wp2_with fail
    go_quiet (fail)
    go_wp2_with fail
    go_quiet (fail)
    go_upto_region 7 with (fail)
    rcases end_cases (k := k) (a := a) (v := v) with ⟨rfl, rfl⟩ | ⟨rfl, rfl⟩ | ⟨rfl, h⟩ | ⟨rfl, h, h2⟩ | ⟨rfl, h, h2, rfl⟩ | ⟨rfl, rfl⟩ | ⟨rfl, rfl⟩ | ⟨rfl, h⟩ | ⟨rfl, h⟩ | ⟨rfl, h, h2, h3⟩ | ⟨rfl, h, h2⟩ | ⟨h, h2, h3, h4⟩
    · have HC := Lib.hid (end1 (x := at_ l n) (k := 6) (a := a) (e := e) HE.out.1 HE.out.2 HV.out H0.out (by omega))
      go_wp2_with fail
      refine bodyPost_ret (v := .int .i64 1) (by simp [results, Try.results37, go_sem]) rfl ?_
      exact ⟨congrArg (fun x => Ending.returned (.int .i64 x)) HC.out.symm, .inl ⟨HC.out, by rw [made3 _ _ _ _ (.inl rfl), ← HP2.out]; exact ((HB.out.drewN _).set _ _), ((HU.out.drewN _).set _ _)⟩⟩
    · have HC := Lib.hid (end1 (x := at_ l n) (k := 7) (a := a) (e := e) HE.out.1 HE.out.2 HV.out H0.out (by omega))
      go_wp2_with fail
      refine bodyPost_ret (v := .int .i64 1) (by simp [results, Try.results37, go_sem]) rfl ?_
      exact ⟨congrArg (fun x => Ending.returned (.int .i64 x)) HC.out.symm, .inl ⟨HC.out, by rw [made3 _ _ _ _ (.inr rfl), ← HP2.out]; exact ((HB.out.drewN _).set _ _), ((HU.out.drewN _).set _ _)⟩⟩
    · have HC := Lib.hid (end17 (x := at_ l n) (k := 8) (a := a) (e := e) HE.out.1 HE.out.2 HV.out H0.out (by omega))
      go_wp2_with fail
      go_ret
      exact ⟨congrArg (fun x => Ending.returned (.int .i64 x)) HC.out.symm, .inr ⟨by rw [HC.out]; decide, bdrewN HW.out _⟩⟩
    · have HC := Lib.hid (end17 (x := at_ l n) (k := 8) (a := a) (e := e) HE.out.1 HE.out.2 HV.out H0.out (by omega))
      go_wp2_with fail
      go_ret
      exact ⟨congrArg (fun x => Ending.returned (.int .i64 x)) HC.out.symm, .inr ⟨by rw [HC.out]; decide, bdrewN HW.out _⟩⟩
    · have HC := Lib.hid (end1 (x := at_ l n) (k := 8) (a := a) (e := e) HE.out.1 HE.out.2 HV.out H0.out (by omega))
      go_wp2_with fail
      go_region
      all_goals go_wp2_with fail
      refine bodyPost_ret (v := .int .i64 1) (by simp [results, Try.results37, go_sem]) rfl ?_
      exact ⟨congrArg (fun x => Ending.returned (.int .i64 x)) HC.out.symm, .inl ⟨HC.out, by rw [made8, ← HP34.out]; exact ((HB.out.drewN _).set _ _), ((HU.out.drewN _).set _ _)⟩⟩
    · have HC := Lib.hid (end1 (x := at_ l n) (k := 9) (a := a) (e := e) HE.out.1 HE.out.2 HV.out H0.out (by omega))
      go_wp2_with fail
      refine bodyPost_ret (v := .int .i64 1) (by simp [results, Try.results37, go_sem]) rfl ?_
      exact ⟨congrArg (fun x => Ending.returned (.int .i64 x)) HC.out.symm, .inl ⟨HC.out, by rw [made9, ← HP2.out]; exact ((HB.out.drewN _).set _ _), ((HU.out.drewN _).set _ _)⟩⟩
    · have HC := Lib.hid (end1 (x := at_ l n) (k := 9) (a := a) (e := e) HE.out.1 HE.out.2 HV.out H0.out (by omega))
      go_wp2_with fail
      refine bodyPost_ret (v := .int .i64 1) (by simp [results, Try.results37, go_sem]) rfl ?_
      exact ⟨congrArg (fun x => Ending.returned (.int .i64 x)) HC.out.symm, .inl ⟨HC.out, by rw [made9, ← HP2.out]; exact ((HB.out.drewN _).set _ _), ((HU.out.drewN _).set _ _)⟩⟩
    · have HC := Lib.hid (end19 (x := at_ l n) (k := 6) (a := a) (e := e) HE.out.1 HE.out.2 HV.out H0.out (by omega))
      have f1 : (v == 2) = false := beq_eq_false_iff_ne.2 h
      go_wp2_with fail
      go_ret
      exact ⟨congrArg (fun x => Ending.returned (.int .i64 x)) HC.out.symm, .inr ⟨by rw [HC.out]; decide, bdrewN HW.out _⟩⟩
    · have HC := Lib.hid (end19 (x := at_ l n) (k := 7) (a := a) (e := e) HE.out.1 HE.out.2 HV.out H0.out (by omega))
      have f1 : (v == 1) = false := beq_eq_false_iff_ne.2 h
      go_wp2_with fail
      go_ret
      exact ⟨congrArg (fun x => Ending.returned (.int .i64 x)) HC.out.symm, .inr ⟨by rw [HC.out]; decide, bdrewN HW.out _⟩⟩
    · have HC := Lib.hid (end19 (x := at_ l n) (k := 8) (a := a) (e := e) HE.out.1 HE.out.2 HV.out H0.out (by omega))
      have f1 : (v == 3) = false := beq_eq_false_iff_ne.2 h3
      have f2 : decide (a < 0) = false := decide_eq_false (by omega)
      have f3 : decide (65535 < a) = false := decide_eq_false (by omega)
      go_wp2_with fail
      go_ret
      exact ⟨congrArg (fun x => Ending.returned (.int .i64 x)) HC.out.symm, .inr ⟨by rw [HC.out]; decide, bdrewN HW.out _⟩⟩
    · have HC := Lib.hid (end19 (x := at_ l n) (k := 9) (a := a) (e := e) HE.out.1 HE.out.2 HV.out H0.out (by omega))
      have f1 : (v == 3) = false := beq_eq_false_iff_ne.2 h
      have f2 : (v == 1) = false := beq_eq_false_iff_ne.2 h2
      go_wp2_with fail
      go_ret
      exact ⟨congrArg (fun x => Ending.returned (.int .i64 x)) HC.out.symm, .inr ⟨by rw [HC.out]; decide, bdrewN HW.out _⟩⟩
    · have HC := Lib.hid (end19 (x := at_ l n) (k := k) (a := a) (e := e) HE.out.1 HE.out.2 HV.out H0.out (by omega))
      have g6 : (k == 6) = false := beq_eq_false_iff_ne.2 h
      have g7 : (k == 7) = false := beq_eq_false_iff_ne.2 h2
      have g8 : (k == 8) = false := beq_eq_false_iff_ne.2 h3
      have g9 : (k == 9) = false := beq_eq_false_iff_ne.2 h4
      go_wp2_with fail
      go_ret
      exact ⟨congrArg (fun x => Ending.returned (.int .i64 x)) HC.out.symm, .inr ⟨by rw [HC.out]; decide, bdrewN HW.out _⟩⟩
theorem endpoint_calls (l : List Int) (hl : l.length = 594) (n : Nat) (hn : n < 9) (g : Nat) (w : World) (hb : Bx 43 g l w) (k s e a : Int) : Calls Try.prog 37 #[.pointer (some ⟨g, n * 66, none⟩), .agg #[.int .i64 k, .int .i64 s, .int .i64 e, .int .i64 a]] w (EndIs g l n k e a w) := by
  by_cases h : e < 1 ∨ (1 ≤ e ∧ 31 < e)
  · exact end_out l n g w k s e a h
  · obtain ⟨m, rfl⟩ : ∃ m : Nat, e = m := ⟨e.toNat, by omega⟩
    exact end_in l hl n hn g w hb k s a m (by omega) (by omega)
end Go.Proofs.Ytidcbboonjenhaa
