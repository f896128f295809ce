/- The law BulkBack, walked. -/
import Derived.Test.YtfhndjccghchjaaBlkY
import Derived.Test.YtfhndjccghchjaaBlkW
import Derived.Test.YtfhndjccghchjaaEq
namespace Go.Proofs.Ytfhndjccghchjaa
open Go.RowKit Go.Proofs.Ytfhndjccghchjaa.Scs Go.Proofs.Ytfhndjccghchjaa.Blk
def wrTy : Fr.Ty := .cat 1 (.int .i64) (.cat 1 (.int .i64) (.cat 1 .bool (.cat 1 (.int .i64) (.cat 1 .string .nil))))
def stTy : Fr.Ty := .cat 1 (.int .i64) (.cat 1 (.int .i64) (.cat 1 (.int .i64) .nil))
def vdTy : Fr.Ty := .cat 1 (.int .i64) (.cat 1 (.int .i64) (.cat 1 (.int .i64) (.cat 1 (.int .i64) .nil)))
theorem fit_wr : Fr.fits Try.prog 12 23 wrTy = true := by kernel_rfl
theorem ok_wr : Fr.eqOk Try.prog 12 23 = true := by kernel_rfl
theorem fit_st : Fr.fits Try.prog 12 25 stTy = true := by kernel_rfl
theorem ok_st : Fr.eqOk Try.prog 12 25 = true := by kernel_rfl
theorem neq_wr (x : Wr) (w : World) : (binOp .neq 23 (wrV x) (wrV x)).run Try.prog w = .ok (.bool false) w := by
  have h := (Fr.eql_agg (P := Try.prog) w 23 wrTy 12 (by omega) fit_wr ok_wr rfl #[.int .i64 x.tag, .int .i64 x.len, .bool x.inn, .int .i64 x.unit, .string x.cmd] #[.int .i64 x.tag, .int .i64 x.len, .bool x.inn, .int .i64 x.unit, .string x.cmd] ⟨by simp, ⟨x.tag, rfl⟩, by simp, ⟨x.len, rfl⟩, by simp, ⟨x.inn, rfl⟩, by simp, ⟨x.unit, rfl⟩, by simp, ⟨x.cmd, rfl⟩, rfl⟩ ⟨by simp, ⟨x.tag, rfl⟩, by simp, ⟨x.len, rfl⟩, by simp, ⟨x.inn, rfl⟩, by simp, ⟨x.unit, rfl⟩, by simp, ⟨x.cmd, rfl⟩, rfl⟩ rfl rfl).2
  unfold wrV
  rw [h]; simp
theorem neq_st (x : St) (w : World) : (binOp .neq 25 (stV x) (stV x)).run Try.prog w = .ok (.bool false) w := by
  have h := (Fr.eql_agg (P := Try.prog) w 25 stTy 12 (by omega) fit_st ok_st rfl #[.int .i64 x.tag, .int .i64 x.res, .int .i64 x.code] #[.int .i64 x.tag, .int .i64 x.res, .int .i64 x.code] ⟨by simp, ⟨x.tag, rfl⟩, by simp, ⟨x.res, rfl⟩, by simp, ⟨x.code, rfl⟩, rfl⟩ ⟨by simp, ⟨x.tag, rfl⟩, by simp, ⟨x.res, rfl⟩, by simp, ⟨x.code, rfl⟩, rfl⟩ rfl rfl).2
  unfold stV
  rw [h]; simp
theorem blives_calls (w : World) : Calls Try.prog 14 #[] w fun e w' => e = .returned (.bool true) ∧ Below w.heap.size w w' := by
  have HS : Hid (∀ W : World, Calls Try.prog 12 #[.agg #[.int .i64 1, .int .i64 258, .int .i64 2]] W fun e w' => e = .returned (.tuple #[.string ⟨#[85, 83, 66, 83, 1, 0, 0, 0, 2, 1, 0, 0, 2]⟩, .int .i64 0]) ∧ Below W.heap.size W w') := Lib.hid (stat_good ⟨1, 258, 2⟩ ⟨by decide, by decide, by decide, by decide, by decide, by decide⟩)
  have HJ := Lib.hid (fun W => judge_5 9 4 W (by decide) (by decide) (by decide))
  go_enter Try.func14, Try.ntmps14
  go_wp2_with fail
  refine (HS.out _).mono ?_; rintro en w1 ⟨rfl, hb1⟩
  go_wp2_with fail
  refine (HJ.out _).mono ?_; rintro en w2 ⟨rfl, hb2⟩
  unfold judgeV
  go_wp2
  go_ret
  exact ⟨rfl, Kt.balloc (Kt.bthen (Kt.bthen (Below.refl _ w) hb1) hb2) _⟩
theorem ltRow {w : World} {b : Nat} {o : Obj} (h : w.heap[b]? = some o) : b < w.heap.size := by
  rcases Nat.lt_or_ge b w.heap.size with q | q
  · exact q
  · rw [Array.getElem?_eq_none q] at h; cases h
/-- both boxes -/
structure BB (w : World) (x : Wr) (y : St) (W : World) : Prop where
  r1 : W.heap[w.heap.size]? = some (.cells #[.int .i64 x.tag, .int .i64 x.len, .bool x.inn, .int .i64 x.unit, .string x.cmd] 23 (0, 0))
  r2 : W.heap[w.heap.size + 1]? = some (.cells #[.int .i64 y.tag, .int .i64 y.res, .int .i64 y.code] 25 (0, 0))
  bel : Below w.heap.size w W
theorem BB.on {w : World} {x : Wr} {y : St} {W W' : World} (h : BB w x y W) (hb : Below W.heap.size W W') : BB w x y W' := ⟨Kt.row_on hb h.r1, Kt.row_on hb h.r2, Kt.bthen h.bel hb⟩
theorem BB.start (w : World) (x : Wr) (y : St) : BB w x y ((w.alloc (.cells #[.int .i64 x.tag, .int .i64 x.len, .bool x.inn, .int .i64 x.unit, .string x.cmd] 23)).alloc (.cells #[.int .i64 y.tag, .int .i64 y.res, .int .i64 y.code] 25)) :=
  ⟨heap_alloc2_old w _ _, heap_alloc2_new w _ _, Kt.balloc (Kt.balloc (Below.refl _ w) _) _⟩
theorem writeW_open {x : Wr} {T : ByteArray} {E : Int} (h : writeW x = (T, E)) : (E = 0 ∧ readW T = (x, 0) ∧ (T.size : Int) = 31) ∨ E = 1 := by
  by_cases ho : OkW x
  · have e : writeW x = (wrapT x, 0) := if_pos ho
    rw [e] at h
    cases h
    exact .inl ⟨rfl, readW_wrapT x ho, by rw [wrapT_size x ho]; rfl⟩
  · have e : writeW x = (ByteArray.empty, 1) := if_neg ho
    rw [e] at h
    cases h
    exact .inr rfl
theorem writeS_open {x : St} {T : ByteArray} {E : Int} (h : writeS x = (T, E)) : (E = 0 ∧ readS T = (x, 0) ∧ (T.size : Int) = 13) ∨ E = 1 := by
  by_cases ho : OkS x
  · have e : writeS x = (statT x, 0) := if_pos ho
    rw [e] at h
    cases h
    exact .inl ⟨rfl, readS_statT x ho, by rw [statT_size x]; rfl⟩
  · have e : writeS x = (ByteArray.empty, 1) := if_neg ho
    rw [e] at h
    cases h
    exact .inr rfl
theorem readW_open {s : ByteArray} {x : Wr} {E : Int} (h : readW s = (x, E)) : (E = 0 ∧ writeW x = (s, 0)) ∨ (E != 0) = true := by
  by_cases e : E = 0
  · subst e
    obtain ⟨_, ho, hw⟩ := readW_ok h
    exact .inl ⟨rfl, (if_pos ho).trans (by rw [hw])⟩
  · exact .inr (by rw [bne_iff_ne]; exact e)
theorem readS_open {s : ByteArray} {x : St} {E : Int} (h : readS s = (x, E)) : (E = 0 ∧ writeS x = (s, 0)) ∨ (E != 0) = true := by
  by_cases e : E = 0
  · subst e
    obtain ⟨_, ho, hw⟩ := readS_ok h
    exact .inl ⟨rfl, (if_pos ho).trans (by rw [hw])⟩
  · exact .inr (by rw [bne_iff_ne]; exact e)
set_option maxRecDepth 100000 in
set_option maxHeartbeats 3200000 in
theorem bback_calls (x : Wr) (y : St) (s : ByteArray) (w : World) :
    Calls Try.prog 3 #[wrV x, stV y, .string s] w fun e w' => e = .returned (.bool true) ∧ Below w.heap.size w w' := by
  have HB0 := Lib.hid (BB.start w x y)
  have NW := neq_wr x
  have NS := neq_st y
  unfold wrV at NW
  unfold stV at NS
  unfold wrV stV
  go_enter Try.func3, Try.ntmps3
  go_wp2_with fail
  refine (writeW_calls x _).mono ?_
  rintro e w1 ⟨rfl, hb⟩
  have HB1 := Lib.hid (HB0.out.on hb)
  clear hb HB0
  obtain ⟨T, E, hT⟩ : ∃ T E, writeW x = (T, E) := ⟨_, _, rfl⟩
  rw [hT]
  have HT := Lib.hid (writeW_open hT)
  clear hT
  go_upto_if 29 with (fail)
  go_cut [9, 10] from 30 to 46 (fun _ _ wx => BB w x y wx)
  case first =>
    clear NS
    rcases HT.out with ⟨rfl, hr, hsz⟩ | rfl
    · have HR := Lib.hid hr
      clear hr
      go_wp2_with fail
      refine (readW_calls T _).mono ?_
      rintro e w2 ⟨rfl, hb⟩
      rw [HR.out]
      have HB2 := Lib.hid (HB1.out.on hb)
      have q1 := fun i => cell_of_row _ _ i _ _ _ HB2.out.r1
      have l1 := ltRow HB2.out.r1
      unfold wrV
      clear hb
      go_wp2_with fail
      go_meet
      exact HB2.out.on (Kt.balloc (Below.refl _ _) _)
    · go_wp2_with fail
      go_meet
      exact HB1.out
  case rest =>
    have HB2 := Lib.hid hcut
    clear hcut HB1 HT NW
    have q2 := fun i => cell_of_row _ _ i _ _ _ HB2.out.r2
    go_wp2_with fail
    refine (writeS_calls y _).mono ?_
    rintro e w3 ⟨rfl, hb⟩
    have HB3 := Lib.hid (HB2.out.on hb)
    clear hb HB2 q2
    obtain ⟨T', E', hT⟩ : ∃ T E, writeS y = (T, E) := ⟨_, _, rfl⟩
    rw [hT]
    have HT := Lib.hid (writeS_open hT)
    clear hT
    go_upto_if 53 with (fail)
    go_cut [13, 14] from 54 to 70 (fun _ _ wx => BB w x y wx)
    case first =>
      rcases HT.out with ⟨rfl, hr, hsz⟩ | rfl
      · have HR := Lib.hid hr
        clear hr
        go_wp2_with fail
        refine (readS_calls T' _).mono ?_
        rintro e w4 ⟨rfl, hb⟩
        rw [HR.out]
        have HB4 := Lib.hid (HB3.out.on hb)
        have q1 := fun i => cell_of_row _ _ i _ _ _ HB4.out.r2
        have l1 := ltRow HB4.out.r2
        unfold stV
        clear hb
        go_wp2_with fail
        go_meet
        exact HB4.out.on (Kt.balloc (Below.refl _ _) _)
      · go_wp2_with fail
        go_meet
        exact HB3.out
    case rest =>
      have HB4 := Lib.hid hcut
      clear hcut HB3 HT NS
      go_wp2_with fail
      refine (readW_calls s _).mono ?_
      rintro e w5 ⟨rfl, hb⟩
      have HB5 := Lib.hid (HB4.out.on hb)
      clear hb HB4
      obtain ⟨X, F, hX⟩ : ∃ X F, readW s = (X, F) := ⟨_, _, rfl⟩
      rw [hX]
      have HX := Lib.hid (readW_open hX)
      clear hX
      unfold wrV
      go_upto_if 77 with (fail)
      go_cut [17, 18] from 78 to 89 (fun _ _ wx => BB w x y wx)
      case first =>
        rcases HX.out with ⟨rfl, hr⟩ | hne
        · have HR := Lib.hid hr
          clear hr
          go_wp2_with fail
          refine (writeW_calls X _).mono ?_
          rintro e w6 ⟨rfl, hb⟩
          rw [HR.out]
          have HB6 := Lib.hid (HB5.out.on (Kt.bthen (Kt.balloc (Below.refl _ w5) _) hb))
          clear hb
          go_wp2_with fail
          go_meet
          exact HB6.out
        · go_wp2_with fail
          go_meet
          exact HB5.out.on (Kt.balloc (Below.refl _ _) _)
      case rest =>
        have HB6 := Lib.hid hcut
        clear hcut HB5 HX
        go_wp2_with fail
        refine (readS_calls s _).mono ?_
        rintro e w7 ⟨rfl, hb⟩
        have HB7 := Lib.hid (HB6.out.on hb)
        clear hb HB6
        obtain ⟨Y, G, hY⟩ : ∃ X F, readS s = (X, F) := ⟨_, _, rfl⟩
        rw [hY]
        have HY := Lib.hid (readS_open hY)
        clear hY
        unfold stV
        go_wp2_with fail
        refine (writeS_calls Y _).mono ?_
        rintro e w8 ⟨rfl, hb⟩
        have HB8 := Lib.hid (HB7.out.on (Kt.bthen (Kt.balloc (Below.refl _ w7) _) hb))
        clear hb HB7
        rcases HY.out with ⟨rfl, hr⟩ | hne
        · rw [hr]
          clear hr
          go_wp2_with fail
          refine (blives_calls _).mono ?_
          rintro e w9 ⟨rfl, hb⟩
          have HB9 := Lib.hid (HB8.out.on hb)
          clear hb
          go_wp2_with fail
          go_ret
          exact ⟨rfl, HB9.out.bel⟩
        · go_wp2_with fail
          refine (blives_calls _).mono ?_
          rintro e w9 ⟨rfl, hb⟩
          have HB9 := Lib.hid (HB8.out.on hb)
          clear hb
          go_wp2_with fail
          go_ret
          exact ⟨rfl, HB9.out.bel⟩
theorem wr_of {w : World} {B : Nat} {v : Value} (r : Fr.RdV w B (.cat 1 (.int .i64) (.cat 1 (.int .i64) (.cat 1 .bool (.cat 1 (.int .i64) (.cat 1 .string .nil))))) v) : ∃ x : Wr, v = wrV x := by
  obtain ⟨cs, rfl, r⟩ := r
  obtain ⟨_, _, a1, _, ⟨tg, rfl, _⟩, q1⟩ := Fr.cat_open r
  obtain ⟨_, _, a2, _, ⟨ln, rfl, _⟩, q2⟩ := Fr.cat_open q1
  obtain ⟨_, _, a3, _, ⟨b, rfl⟩, q3⟩ := Fr.cat_open q2
  obtain ⟨_, _, a4, _, ⟨un, rfl, _⟩, q4⟩ := Fr.cat_open q3
  obtain ⟨_, _, a5, _, ⟨cmd, rfl, _⟩, q5⟩ := Fr.cat_open q4
  have q6 : _ = [] := q5
  rw [a2, a3, a4, a5, q6] at a1
  exact ⟨⟨tg, ln, b, un, cmd⟩, by rw [Fr.arr_of a1]; rfl⟩
theorem st_of {w : World} {B : Nat} {v : Value} (r : Fr.RdV w B (.cat 1 (.int .i64) (.cat 1 (.int .i64) (.cat 1 (.int .i64) .nil))) v) : ∃ x : St, v = stV x := by
  obtain ⟨cs, rfl, r⟩ := r
  obtain ⟨_, _, a1, _, ⟨tg, rfl, _⟩, q1⟩ := Fr.cat_open r
  obtain ⟨_, _, a2, _, ⟨ln, rfl, _⟩, q2⟩ := Fr.cat_open q1
  obtain ⟨_, _, a3, _, ⟨cd, rfl, _⟩, q3⟩ := Fr.cat_open q2
  have q6 : _ = [] := q3
  rw [a2, a3, q6] at a1
  exact ⟨⟨tg, ln, cd⟩, by rw [Fr.arr_of a1]; rfl⟩
theorem bback_walk (v0 v1 v2 : Value) (w : World) (r0 : Fr.RdV w reachBytes (.cat 1 (.int .i64) (.cat 1 (.int .i64) (.cat 1 .bool (.cat 1 (.int .i64) (.cat 1 .string .nil))))) v0) (r1 : Fr.RdV w reachBytes (.cat 1 (.int .i64) (.cat 1 (.int .i64) (.cat 1 (.int .i64) .nil))) v1) (r2 : Fr.RdV w reachBytes .string v2) :
    Calls Try.prog 3 #[v0, v1, v2] w fun e w' => e = .returned (.bool true) ∧ Below w.heap.size w w' := by
  obtain ⟨x, rfl⟩ := wr_of r0
  obtain ⟨y, rfl⟩ := st_of r1
  obtain ⟨s, e2, _⟩ := r2; cases e2
  exact bback_calls x y s w
end Go.Proofs.Ytfhndjccghchjaa
