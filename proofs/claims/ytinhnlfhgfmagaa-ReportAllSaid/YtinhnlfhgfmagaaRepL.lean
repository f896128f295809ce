/- The walk of report.Fields. -/
import Derived.Test.YtinhnlfhgfmagaaRepK
namespace Go.Proofs.Ytinhnlfhgfmagaa
open Go.RowKit Go.Proofs.Ytinhnlfhgfmagaa.Rep
/-- items one by one, till one is refused -/
def steps (s : RS) : List (Int × Int) → RS × Int
  | [] => (s, 0)
  | x :: l => if (itm s x.1 x.2).2 = 0 then steps (itm s x.1 x.2).1 l else itm s x.1 x.2
def s0 : RS := ⟨⟨0, 0, 0, 0, 0⟩, [], [], 0, 0, []⟩
def fin (r : RS × Int) : List Fld × Int := if r.2 = 0 then (if r.1.dep = 0 then (r.1.out, 0) else ([], 4)) else ([], r.2)
def flds (l : List (Int × Int)) : List Fld × Int := if 200 < l.length then ([], 2) else fin (steps s0 l)
theorem s0_ok : s0.Ok := ⟨by decide, by decide, by decide, by decide, by decide, fun x hx => (by cases hx), by decide, by decide, by decide, by decide, by decide, by decide⟩
theorem steps_app : ∀ (l m : List (Int × Int)) (s : RS), steps s (l ++ m) = if (steps s l).2 = 0 then steps (steps s l).1 m else steps s l
  | [], m, s => by simp [steps]
  | x :: l, m, s => by
    show (if (itm s x.1 x.2).2 = 0 then steps (itm s x.1 x.2).1 (l ++ m) else itm s x.1 x.2) = _
    have e : steps s (x :: l) = if (itm s x.1 x.2).2 = 0 then steps (itm s x.1 x.2).1 l else itm s x.1 x.2 := rfl
    rw [e]
    by_cases h : (itm s x.1 x.2).2 = 0
    · rw [if_pos h, if_pos h, steps_app l m]
    · rw [if_neg h, if_neg h, if_neg h]
theorem steps_ok : ∀ (l : List (Int × Int)) (s : RS), s.Ok → (steps s l).1.Ok
  | [], _, h => h
  | x :: l, s, h => by
    show (if (itm s x.1 x.2).2 = 0 then steps (itm s x.1 x.2).1 l else itm s x.1 x.2).1.Ok
    split
    · exact steps_ok l _ (itm_ok h _ _)
    · exact itm_ok h _ _
def fcells (l : List Fld) : List Value := l.flatMap Fld.cells
theorem fcells_len (l : List Fld) : (fcells l).length = l.length * 7 := by
  induction l with
  | nil => rfl
  | cons x l ih => simp only [fcells, List.flatMap_cons, List.length_append, Fld.cells, List.length_cons, List.length_nil] at ih ⊢; omega
def FlIs (r : List Fld × Int) (w : World) (e : Ending) (w' : World) : Prop :=
  ∃ A c, e = .returned (.tuple #[.slice A r.1.length c, .int .i64 r.2]) ∧ Kt.Sl w' w.heap.size 29 7 (.slice A r.1.length c) r.1.length (fcells r.1) ∧ Below w.heap.size w w'
theorem FlIs.none {w w' : World} (n : Int) (hb : Below w.heap.size w w') : FlIs ([], n) w (.returned (.tuple #[.slice none 0 0, .int .i64 n])) w' := ⟨Option.none, 0, rfl, Kt.Sl.nil _ _ _ _, hb⟩
theorem Rdr.first (w : World) : Rdr (w.alloc (.cells #[.int .i64 0, .int .i64 0, .int .i64 0, .int .i64 0, .int .i64 0, .slice none 0 0, .slice none 0 0, .int .i64 0, .int .i64 0, .slice none 0 0] 54)) w.heap.size w.heap.size s0 :=
  ⟨.slice none 0 0, .slice none 0 0, .slice none 0 0, Nat.le_refl _, heap_alloc_new w _, Kt.Sl.nil _ _ _ _, Kt.Sl.nil _ _ _ _, Kt.Sl.nil _ _ _ _, fun k hk => (by cases hk), fun k hk => (by cases hk), fun k hk => (by cases hk), fun k hk => (by cases hk), fun k hk => (by cases hk), fun k hk => (by cases hk), s0_ok⟩
set_option maxRecDepth 100000 in
set_option maxHeartbeats 1600000 in
theorem fields_calls (l : List (Int × Int)) (v : Value) (w : World) (hv : Kt.Ar w v 2 l.length (its l)) : Calls Try.prog 9 #[v] w (FlIs (flds l) w) := by
  obtain ⟨A0, c0, rfl, hc0, hcell⟩ := hv.form
  by_cases hbig : 200 < l.length
  · have e : flds l = ([], 2) := if_pos hbig
    rw [e]
    have e1 : (200 : Int) < l.length := by omega
    clear hbig hcell hv e
    go_enter Try.func9, Try.ntmps9
    go_wp2_with fail
    go_ret2
    exact FlIs.none 2 (Below.refl _ _)
  have hl : l.length ≤ 200 := by omega
  have HE : Hid (flds l = fin (steps s0 l)) := Lib.hid (if_neg hbig)
  clear hbig hv
  have HCELL := Lib.hid hcell
  clear hcell
  go_enter Try.func9, Try.ntmps9
  go_wp2_with fail
  go_loopw [15] (fun i wr => ∃ k s, k ≤ l.length ∧ i = .int .i64 (k : Nat) ∧ Hid (steps s0 (l.take k) = (s, 0)) ∧ Hid (Rdr wr w.heap.size w.heap.size s) ∧ Hid (Below w.heap.size w wr)) (fun i _ => l.length - (intOf i).toNat)
  case atStart => exact ⟨0, s0, by omega, rfl, Lib.hid rfl, Lib.hid (Rdr.first w), Lib.hid (Kt.balloc (Below.refl _ w) _)⟩
  case round =>
    obtain ⟨k, s, hk, rfl, HS, HR, HB⟩ := hrel
    by_cases hlt : k < l.length
    · obtain ⟨b, o, rfl, hb0, hc1⟩ := HCELL.out (by omega)
      obtain ⟨i1, i2⟩ := its_at l k hlt
      have hz := HB.out.size
      have hcx : ∀ j u, (its l)[j]? = some u → wr.cell? ⟨b, o + j, none⟩ = some u := fun j u hj => by
        obtain ⟨hj1, rfl⟩ := List.getElem?_eq_some_iff.1 hj
        exact (HB.out.cell (p := ⟨b, o + j, none⟩) hb0).trans (hc1 j hj1)
      have x0 := hcx _ _ i1
      have x1 := hcx _ _ i2
      rw [← Nat.add_assoc] at x1
      have HOK : Hid ((l[k].1, l[k].2) = l[k] ∧ l.take (k + 1) = l.take k ++ [l[k]] ∧ l = l.take k ++ l[k] :: l.drop (k + 1)) := Lib.hid ⟨rfl, by rw [List.take_succ_eq_append_getElem hlt], by rw [List.getElem_cons_drop, List.take_append_drop]⟩
      have hbz : b < wr.heap.size := Nat.lt_of_lt_of_le hb0 hz
      clear hc1 hcx i1 i2 hz
      obtain ⟨kk, hkk⟩ : ∃ q, l[k].1 = q := ⟨_, rfl⟩
      obtain ⟨vv, hvv⟩ : ∃ q, l[k].2 = q := ⟨_, rfl⟩
      rw [hkk, hvv] at HOK
      rw [hkk] at x0
      rw [hvv] at x1
      clear hkk hvv
      have HC := Lib.hid (itm_calls (wr.alloc (.cells #[.int .i64 kk, .int .i64 vv] 32)) _ _ s kk vv (HR.out.on (Kt.balloc (Below.refl _ wr) _)))
      have HB1 := Lib.hid (Kt.balloc HB.out (.cells #[.int .i64 kk, .int .i64 vv] 32))
      obtain ⟨r, hr⟩ : ∃ r, itm s kk vv = r := ⟨_, rfl⟩
      have HRR := Lib.hid hr
      rw [hr] at HC
      clear hr
      go_wp2_with fail
      refine HC.out.mono ?_
      rintro en w1 ⟨rfl, hr1, hr2⟩
      have HR1 := Lib.hid hr1
      have HB2 := Lib.hid (HB1.out.trans hr2)
      obtain ⟨s1, n1⟩ := r
      dsimp only at *
      clear hr1 hr2 x0 x1 HC
      by_cases hn : n1 = 0
      · subst hn
        go_wp2_with fail
        go_roundw
        case rel =>
          refine ⟨k + 1, s1, by omega, by go_num, Lib.hid ?_, Lib.hid (HR1.out rfl), HB2⟩
          rw [HOK.out.2.1, steps_app, HS.out, if_pos rfl, ← HOK.out.1]
          show (if (itm s kk vv).2 = 0 then steps (itm s kk vv).1 [] else itm s kk vv) = _
          rw [HRR.out, if_pos rfl]; rfl
        case measure => (simp [intOf]; omega)
      · have e5 : (n1 != 0) = true := by rw [bne_iff_ne]; exact hn
        have HX : Hid (flds l = ([], n1)) := Lib.hid (by
          rw [HE.out, HOK.out.2.2, steps_app, HS.out, if_pos rfl, ← HOK.out.1]
          show fin (if (itm s kk vv).2 = 0 then steps (itm s kk vv).1 _ else itm s kk vv) = _
          rw [HRR.out, if_neg hn]
          exact if_neg hn)
        clear hn
        go_wp2_with fail
        go_ret2
        rw [HX.out]
        exact FlIs.none n1 HB2.out
    · obtain rfl : k = l.length := by omega
      clear hlt hk
      rw [List.take_length] at HS
      obtain ⟨vs, vu, vo, h1⟩ := HR.out
      have c1 := fun i => cell_of_row _ _ i _ _ _ h1.row
      unfold row at c1
      have H1 := Lib.hid h1
      obtain ⟨A1, q1, rfl, hq1, hq2⟩ := h1.s3.form
      have hlt := h1.lt
      clear h1
      by_cases hd : s.dep = 0
      · have e1 : (s.dep != 0) = false := by simp [hd]
        have HX : Hid (flds l = (s.out, 0)) := Lib.hid (by rw [HE.out, HS.out]; unfold fin; simp [hd])
        clear hd
        go_wp2_with fail
        go_ret2
        rw [HX.out]
        exact ⟨_, _, rfl, H1.out.s3, HB.out⟩
      · have e1 : (s.dep != 0) = true := by rw [bne_iff_ne]; exact hd
        have HX : Hid (flds l = ([], 4)) := Lib.hid (by rw [HE.out, HS.out]; unfold fin; simp [hd])
        clear hd
        go_wp2_with fail
        go_ret2
        rw [HX.out]
        exact FlIs.none 4 HB.out
end Go.Proofs.Ytinhnlfhgfmagaa
