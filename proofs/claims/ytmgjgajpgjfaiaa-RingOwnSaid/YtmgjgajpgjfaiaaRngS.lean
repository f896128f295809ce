/- RingStays, walked. -/
import Derived.Test.YtmgjgajpgjfaiaaRngG
namespace Go.Proofs.Ytmgjgajpgjfaiaa
open Go.RowKit
set_option maxHeartbeats 800000 in
theorem check_sizeL (V : Value) (r : Rg) (w : World) (h : RA w V r) (hn : r.cs.length ≤ 140737488355328) (hs : (r.cs.length : Int) < 3 ∨ (3 ≤ (r.cs.length : Int) ∧ (64 : Int) < r.cs.length)) : Calls Try.prog 19 #[V] w (Chk r w) := by
  obtain ⟨C, rfl, hC⟩ := h
  obtain ⟨A, c, rfl, _, _⟩ := hC.form
  have HN := Lib.hid (show ¬ Right r from fun hr => by have := hr.lo; have := hr.hi; omega)
  unfold rgV
  clear hC
  rcases hs with hs | ⟨hs, hs2⟩
  all_goals
    go_enter Try.func19, Try.ntmps19
    go_wp2_with fail
    go_ret
    refine ⟨1, rfl, ⟨fun h => absurd h (by omega), fun h => absurd h HN.out⟩, ?_⟩
    repeat (first | exact Below.refl _ _ | refine Kt.bset ?_ (by simp) _ | refine Kt.balloc ?_ _)
theorem check_callsL (V : Value) (r : Rg) (w : World) (h : RA w V r) (hn : r.cs.length ≤ 140737488355328) : Calls Try.prog 19 #[V] w (Chk r w) := by
  by_cases h1 : 3 ≤ r.cs.length
  · by_cases h2 : r.cs.length ≤ 64
    · exact check_main V r w h h1 h2
    · exact check_sizeL V r w h hn (.inr ⟨by omega, by omega⟩)
  · exact check_sizeL V r w h hn (.inl (by omega))
set_option maxHeartbeats 800000 in
theorem put_badL (V : Value) (r : Rg) (x : Int) (w : World) (h : RA w V r) (hn : r.cs.length ≤ 140737488355328) (hr : ¬ Right r) : Calls Try.prog 10 #[V, .int .u64 x] w (PutBad w (· ≠ 0)) := by
  have h0 := h
  have HR := Lib.hid hr; clear hr
  obtain ⟨C, rfl, hC⟩ := h
  unfold rgV
  clear hC
  go_enter Try.func10, Try.ntmps10
  go_wp2_with fail
  refine (check_callsL _ r _ (h0.on (Kt.balloc (Kt.balloc (Below.refl _ w) _) _)) hn).mono ?_
  rintro en w1 ⟨n, rfl, h1, hb⟩
  have hn0 : n ≠ 0 := fun e => HR.out (h1.1 e)
  have hn1 : (n != 0) = true := by rw [bne_iff_ne]; exact hn0
  have HN := Lib.hid hn0
  obtain ⟨r0, r1⟩ := Kt.box2 hb
  have hbel := Kt.bthen (Kt.balloc (Kt.balloc (Below.refl _ w) _) _) hb
  clear h1 hb h0 hn0
  have c0 := fun i => cell_of_row _ _ i _ _ _ r0
  have f0 := fun i => frozen_of_row _ _ i _ _ r0
  have c1 := fun i => cell_of_row _ _ i _ _ _ r1
  have f1 := fun i => frozen_of_row _ _ i _ _ r1
  go_wp2_with fail
  refine bodyPost_ret (v := .tuple #[zeroR, .int .i64 n]) (by simp [zeroR, rgV, results, Try.results10, go_sem, c0, c1]) rfl ⟨n, HN.out, rfl, ?_⟩
  repeat (first | with_reducible exact hbel | refine Kt.bset ?_ (by simp) _)
set_option maxHeartbeats 800000 in
theorem get_badL (V : Value) (r : Rg) (w : World) (h : RA w V r) (hn : r.cs.length ≤ 140737488355328) (hr : ¬ Right r) : Calls Try.prog 11 #[V] w (GetBad w) := by
  have h0 := h
  have HR := Lib.hid hr; clear hr
  obtain ⟨C, rfl, hC⟩ := h
  unfold rgV
  clear hC
  go_enter Try.func11, Try.ntmps11
  go_wp2_with fail
  refine (check_callsL _ r _ (h0.on (Kt.balloc (Kt.balloc (Below.refl _ w) _) _)) hn).mono ?_
  rintro en w1 ⟨n, rfl, h1, hb⟩
  have hn0 : n ≠ 0 := fun e => HR.out (h1.1 e)
  have hn1 : (n != 0) = true := by rw [bne_iff_ne]; exact hn0
  have HN := Lib.hid hn0
  obtain ⟨r0, r1⟩ := Kt.box2 hb
  have hbel := Kt.bthen (Kt.balloc (Kt.balloc (Below.refl _ w) _) _) hb
  clear h1 hb h0 hn0
  have c0 := fun i => cell_of_row _ _ i _ _ _ r0
  have f0 := fun i => frozen_of_row _ _ i _ _ r0
  have c1 := fun i => cell_of_row _ _ i _ _ _ r1
  have f1 := fun i => frozen_of_row _ _ i _ _ r1
  go_wp2_with fail
  refine bodyPost_ret (v := .tuple #[zeroR, .int .u64 0, .bool false, .int .i64 n]) (by simp [zeroR, rgV, results, Try.results11, go_sem, c0, c1]) rfl ⟨n, HN.out, rfl, ?_⟩
  repeat (first | with_reducible exact hbel | (with_reducible refine Kt.bset ?_ (by simp) _))
set_option maxHeartbeats 800000 in
theorem learn_badL (V : Value) (r : Rg) (w : World) (h : RA w V r) (hn : r.cs.length ≤ 140737488355328) (hr : ¬ Right r) : Calls Try.prog 12 #[V] w (LearnBad w) := by
  have h0 := h
  have HR := Lib.hid hr; clear hr
  obtain ⟨C, rfl, hC⟩ := h
  unfold rgV
  clear hC
  go_enter Try.func12, Try.ntmps12
  go_wp2_with fail
  refine (check_callsL _ r _ (h0.on (Kt.balloc (Kt.balloc (Below.refl _ w) _) _)) hn).mono ?_
  rintro en w1 ⟨n, rfl, h1, hb⟩
  have hn0 : n ≠ 0 := fun e => HR.out (h1.1 e)
  have hn1 : (n != 0) = true := by rw [bne_iff_ne]; exact hn0
  have HN := Lib.hid hn0
  obtain ⟨r0, r1⟩ := Kt.box2 hb
  have hbel := Kt.bthen (Kt.balloc (Kt.balloc (Below.refl _ w) _) _) hb
  clear h1 hb h0 hn0
  have c0 := fun i => cell_of_row _ _ i _ _ _ r0
  have f0 := fun i => frozen_of_row _ _ i _ _ r0
  have c1 := fun i => cell_of_row _ _ i _ _ _ r1
  have f1 := fun i => frozen_of_row _ _ i _ _ r1
  go_wp2_with fail
  refine bodyPost_ret (v := .tuple #[zeroR, .int .i64 n]) (by simp [zeroR, rgV, results, Try.results12, go_sem, c0, c1]) rfl ⟨n, HN.out, rfl, ?_⟩
  repeat (first | with_reducible exact hbel | (with_reducible refine Kt.bset ?_ (by simp) _))
theorem rcs_of {w : World} {B : Nat} : ∀ (els : List (List Value)), (∀ x ∈ els, x.length = 3 ∧ Fr.Rd w B (.cat 1 (.int .u64) (.cat 1 (.int .i64) (.cat 1 .bool .nil))) x) → ∃ ts : List RC, ts.length = els.length ∧ els.flatten = cvs ts
  | [], _ => ⟨[], rfl, rfl⟩
  | x :: els, h => by
    obtain ⟨ts, h1, h2⟩ := rcs_of els (fun y hy => h y (by simp [hy]))
    obtain ⟨_, hx⟩ := h x (by simp)
    obtain ⟨l, r, rfl, _, ⟨n, rfl, _⟩, hr⟩ := Fr.cat_open hx
    obtain ⟨l2, r2, rfl, _, ⟨n2, rfl, _⟩, hr2⟩ := Fr.cat_open hr
    obtain ⟨l3, r3, rfl, _, ⟨n3, rfl⟩, hr3⟩ := Fr.cat_open hr2
    obtain rfl : r3 = [] := hr3
    exact ⟨(n, n2, n3) :: ts, by simp [h1], by simp [h2, cvs, cv]⟩
theorem ra_of {w : World} {v : Value} (r : Fr.RdV w reachBytes (.cat 1 (.slice 3 (.cat 1 (.int .u64) (.cat 1 (.int .i64) (.cat 1 .bool .nil)))) (.cat 2 (.cat 1 (.int .i64) (.cat 1 (.int .i64) .nil)) (.cat 2 (.cat 1 (.int .i64) (.cat 1 (.int .i64) .nil)) (.cat 1 (.int .i64) .nil)))) v) : ∃ g, RA w v g ∧ g.cs.length ≤ 140737488355328 := by
  obtain ⟨cs, rfl, r⟩ := r
  obtain ⟨l1, _, a1, e1, r1, q1⟩ := Fr.cat_open r
  obtain ⟨l2, _, a2, e2, r2, q2⟩ := Fr.cat_open q1
  obtain ⟨l3, _, a3, e3, r3, q3⟩ := Fr.cat_open q2
  obtain ⟨_, _, a4, _, ⟨sn, rfl, _⟩, q4⟩ := Fr.cat_open q3
  obtain ⟨_, _, b1, _, ⟨pa, rfl, _⟩, p1⟩ := Fr.cat_open r2
  obtain ⟨_, _, b2, _, ⟨pb, rfl, _⟩, p2⟩ := Fr.cat_open p1
  obtain ⟨_, _, c1, _, ⟨ga, rfl, _⟩, g1⟩ := Fr.cat_open r3
  obtain ⟨_, _, c2, _, ⟨gb, rfl, _⟩, g2⟩ := Fr.cat_open g1
  obtain ⟨C, rfl⟩ : ∃ C, l1 = [C] := List.length_eq_one_iff.1 e1
  obtain ⟨els, h1, h2, h3⟩ := Kt.ar_open (v := C) r1 (by omega)
  obtain ⟨ts, t1, t2⟩ := rcs_of els h1
  rw [← t1, t2] at h3
  have z1 : _ = [] := p2
  have z2 : _ = [] := g2
  have z3 : _ = [] := q4
  have hR : reachBytes ≤ 140737488355328 := by unfold reachBytes; omega
  refine ⟨⟨ts, pa, pb, ga, gb, sn⟩, ⟨C, ?_, h3⟩, by dsimp only; omega⟩
  unfold rgV
  have : cs.toList = [C, .int .i64 pa, .int .i64 pb, .int .i64 ga, .int .i64 gb, .int .i64 sn] := by
    rw [a1, a2, a3, a4, b1, b2, c1, c2, z1, z2, z3]; rfl
  rw [Fr.arr_of this]
def zr : Rg := ⟨[], 0, 0, 0, 0, 0⟩
theorem zero_ra (w : World) : RA w zeroR zr := ⟨.slice none 0 0, rfl, by simp [zr, cvs], none, 0, rfl, Nat.le_refl _, fun h => absurd h (by simp [zr])⟩
set_option maxHeartbeats 3200000 in
set_option maxRecDepth 100000 in
theorem stays_bad (V : Value) (r : Rg) (x : Int) (w : World) (h : RA w V r) (hn : r.cs.length ≤ 140737488355328) (hr : ¬ Right r) :
    Calls Try.prog 6 #[V, .int .u64 x] w fun e w' => e = .returned (.bool true) ∧ Below w.heap.size w w' := by
  have h0 := h
  have HR := Lib.hid hr; clear hr
  obtain ⟨C, rfl, hC⟩ := h
  obtain ⟨CA, Cc, rfl, _, _⟩ := hC.form
  unfold rgV
  clear hC
  go_enter Try.func6, Try.ntmps6
  go_wp2_with fail
  refine (put_badL _ r x _ (h0.on (Kt.balloc (Below.refl _ w) _)) hn HR.out).mono ?_
  rintro en w1 ⟨n1, hn1, rfl, hb1⟩
  have r2 := Kt.box1 hb1
  have hbel := Kt.bthen (Kt.balloc (Below.refl _ w) _) hb1
  have q2 := fun i => cell_of_row _ _ i _ _ _ r2
  have hz1 : w.heap.size < w1.heap.size := (Array.getElem?_eq_some_iff.1 r2).1
  clear hb1
  unfold zeroR rgV
  go_wp2_with fail
  refine (get_badL _ r _ (h0.on (Kt.balloc hbel _)) hn HR.out).mono ?_
  rintro en w2 ⟨n2, hn2, rfl, hb2⟩
  have r5 := Kt.box1 hb2
  replace r2 := Kt.row_on hb2 ((Below.heap_alloc _ _ _ hz1).trans r2)
  replace hbel := Kt.bthen (Kt.balloc hbel _) hb2
  have hn3 : (n2 != 0) = true := by rw [bne_iff_ne]; exact hn2
  clear hb2 q2 h0 hn1 hn2
  have q2 := fun i => cell_of_row _ _ i _ _ _ r2
  have q5 := fun i => cell_of_row _ _ i _ _ _ r5
  have hz2 : w1.heap.size < w2.heap.size := (Array.getElem?_eq_some_iff.1 r5).1
  have hz3 : w.heap.size < w2.heap.size := by omega
  unfold zeroR rgV
  go_wp2_with fail
  refine (lives_calls _).mono ?_
  rintro en w3 ⟨rfl, hb3⟩
  have r7 := Kt.box1 hb3
  replace r5 := Kt.row_on hb3 ((Below.heap_alloc _ _ _ hz2).trans r5)
  replace hbel := Kt.bthen (Kt.balloc hbel _) hb3
  clear hb3 q2 q5 r2
  go_wp2_with fail
  refine (lives_calls _).mono ?_
  rintro en w4 ⟨rfl, hb4⟩
  replace r7 := Kt.row_on hb4 r7
  replace r5 := Kt.row_on hb4 r5
  replace hbel := Kt.bthen hbel hb4
  clear hb4
  have q5 := fun i => cell_of_row _ _ i _ _ _ r5
  have q7 := fun i => cell_of_row _ _ i _ _ _ r7
  go_wp2_with fail
  refine (same_true _ _ zr _ (zero_ra _) (zero_ra _) (by simp [zr])).mono ?_
  rintro en w5 ⟨rfl, hb5⟩
  replace r7 := Kt.row_on hb5 r7
  replace hbel := Kt.bthen hbel hb5
  clear hb5 q5 q7
  have q7 := fun i => cell_of_row _ _ i _ _ _ r7
  go_wp2_with fail
  refine (same_true _ _ zr _ (zero_ra _) (zero_ra _) (by simp [zr])).mono ?_
  rintro en w6 ⟨rfl, hb6⟩
  replace hbel := Kt.bthen hbel hb6
  go_wp2_with fail
  go_ret
  exact ⟨rfl, hbel⟩
set_option maxHeartbeats 6400000 in
set_option maxRecDepth 100000 in
theorem stays_ok_yes (V : Value) (r : Rg) (x : Int) (w : World) (h : RA w V r) (hr : Right r) (hf : fullB r = false) (hg : getB r = true) :
    Calls Try.prog 6 #[V, .int .u64 x] w fun e w' => e = .returned (.bool true) ∧ Below w.heap.size w w' := by
  have h0 := h
  have hhi := hr.hi
  have HR := Lib.hid hr; have HF := Lib.hid hf; have HG := Lib.hid hg; clear hr hf hg
  obtain ⟨C, rfl, hC⟩ := h
  have hC0 := hC
  obtain ⟨CA, Cc, rfl, _, _⟩ := hC.form
  unfold rgV
  clear hC
  go_enter Try.func6, Try.ntmps6
  go_wp2_with fail
  refine (put_ok _ r x _ (h0.on (Kt.balloc (Below.refl _ w) _)) HR.out HF.out).mono ?_
  rintro en w1 ⟨v, rfl, hA, hb1⟩
  obtain ⟨C3, rfl, hs3⟩ := hA
  obtain ⟨C3A, C3c, rfl, _, _⟩ := hs3.form
  have hlen : (putR r x).cs.length = r.cs.length := putCs_len r x
  have hA : RA w1 (.agg #[.slice C3A r.cs.length C3c, .int .i64 (putR r x).pa, .int .i64 (putR r x).pb, .int .i64 r.ga, .int .i64 r.gb, .int .i64 r.sn]) (putR r x) := by
    refine ⟨_, ?_, Kt.Ar.of_sl hs3⟩
    unfold rgV; rw [hlen]; rfl
  have hRA := Lib.hid (put_right HR.out x)
  have hv : rgV (.slice C3A (putR r x).cs.length C3c) (putR r x) = .agg #[.slice C3A r.cs.length C3c, .int .i64 (putR r x).pa, .int .i64 (putR r x).pb, .int .i64 r.ga, .int .i64 r.gb, .int .i64 r.sn] := by unfold rgV; rw [hlen]; rfl
  rw [hv]
  clear hv hlen hs3
  generalize putR r x = ra at *
  have r2 := Kt.box1 hb1
  have hbel := Kt.bthen (Kt.balloc (Below.refl _ w) _) hb1
  have q2 := fun i => cell_of_row _ _ i _ _ _ r2
  have hz1 : w.heap.size < w1.heap.size := (Array.getElem?_eq_some_iff.1 r2).1
  clear hb1
  go_wp2_with fail
  refine (get_yes _ r _ (h0.on (Kt.balloc hbel _)) HR.out HG.out).mono ?_
  rintro en w2 ⟨v, rfl, ⟨C4, rfl, hs4⟩, hb2⟩
  obtain ⟨C4A, C4c, rfl, _, _⟩ := hs4.form
  have hB : RA w2 (.agg #[.slice C4A r.cs.length C4c, .int .i64 r.pa, .int .i64 r.pb, .int .i64 (getR r).ga, .int .i64 (getR r).gb, .int .i64 r.sn]) (getR r) := ⟨_, rfl, Kt.Ar.of_sl hs4⟩
  have hRB := Lib.hid (get_right HR.out)
  have hv : rgV (.slice C4A (getR r).cs.length C4c) (getR r) = .agg #[.slice C4A r.cs.length C4c, .int .i64 r.pa, .int .i64 r.pb, .int .i64 (getR r).ga, .int .i64 (getR r).gb, .int .i64 r.sn] := rfl
  have hE : Kt.Ar w2 (.slice C4A r.cs.length C4c) 3 r.cs.length (cvs r.cs) := Kt.Ar.of_sl hs4
  rw [hv]
  clear hv hs4
  generalize getR r = rb at *
  generalize (cellAt r).1 = y at *
  have r5 := Kt.box1 hb2
  replace r2 := Kt.row_on hb2 ((Below.heap_alloc _ _ _ hz1).trans r2)
  replace hbel := Kt.bthen (Kt.balloc hbel _) hb2
  replace hA := RA.on hA (Kt.bthen (Kt.balloc (Below.refl _ w1) _) hb2)
  clear hb2 q2
  have q2 := fun i => cell_of_row _ _ i _ _ _ r2
  have q5 := fun i => cell_of_row _ _ i _ _ _ r5
  have hz2 : w1.heap.size < w2.heap.size := (Array.getElem?_eq_some_iff.1 r5).1
  have hz3 : w.heap.size < w2.heap.size := by omega
  go_wp2_with fail
  refine (lives_calls _).mono ?_
  rintro en w3 ⟨rfl, hb3⟩
  have r7 := Kt.box1 hb3
  have hz5 : w2.heap.size < w3.heap.size := (Array.getElem?_eq_some_iff.1 r7).1
  replace r5 := Kt.row_on hb3 ((Below.heap_alloc _ _ _ hz2).trans r5)
  replace r2 := Kt.row_on hb3 ((Below.heap_alloc _ _ _ hz3).trans r2)
  replace hbel := Kt.bthen (Kt.balloc hbel _) hb3
  replace hB := RA.on hB (Kt.bthen (Kt.balloc (Below.refl _ w2) _) hb3)
  replace hE := hE.on (Kt.bthen (Kt.balloc (Below.refl _ w2) _) hb3)
  replace hA := RA.on hA (Kt.bthen (Kt.balloc (Below.refl _ w2) _) hb3)
  clear hb3 q2 q5
  have q2 := fun i => cell_of_row _ _ i _ _ _ r2
  have q5 := fun i => cell_of_row _ _ i _ _ _ r5
  have q7 := fun i => cell_of_row _ _ i _ _ _ r7
  go_wp2_with fail
  refine (ring_right _ _ _ hA hRA.out).mono ?_
  rintro en w4 ⟨rfl, hb4⟩
  replace r7 := Kt.row_on hb4 r7
  replace r5 := Kt.row_on hb4 r5
  replace r2 := Kt.row_on hb4 r2
  replace hbel := Kt.bthen hbel hb4
  replace hB := RA.on hB hb4
  replace hE := hE.on hb4
  clear hb4 q2 q5 q7
  have q2 := fun i => cell_of_row _ _ i _ _ _ r2
  have q5 := fun i => cell_of_row _ _ i _ _ _ r5
  have q7 := fun i => cell_of_row _ _ i _ _ _ r7
  go_wp2_with fail
  refine (ring_right _ _ _ hB hRB.out).mono ?_
  rintro en w5 ⟨rfl, hb5⟩
  replace r7 := Kt.row_on hb5 r7
  replace r2 := Kt.row_on hb5 r2
  replace hbel := Kt.bthen hbel hb5
  replace hE := hE.on hb5
  clear hb5 q2 q5 q7 r5
  have q2 := fun i => cell_of_row _ _ i _ _ _ r2
  have q7 := fun i => cell_of_row _ _ i _ _ _ r7
  go_wp2_with fail
  refine (eqC _ _ r.cs r.cs _ hE (hC0.on hbel) (by omega)).mono ?_
  rintro en w6 ⟨rfl, hb6⟩
  have e1 : decide (r.cs = r.cs) = true := by simp
  rw [e1]
  replace hbel := Kt.bthen hbel hb6
  clear hb6 e1
  go_wp2_with fail
  go_ret
  exact ⟨rfl, hbel⟩
set_option maxHeartbeats 6400000 in
set_option maxRecDepth 100000 in
theorem stays_ok_no (V : Value) (r : Rg) (x : Int) (w : World) (h : RA w V r) (hr : Right r) (hf : fullB r = false) (hg : getB r = false) :
    Calls Try.prog 6 #[V, .int .u64 x] w fun e w' => e = .returned (.bool true) ∧ Below w.heap.size w w' := by
  have h0 := h
  have hhi := hr.hi
  have HR := Lib.hid hr; have HF := Lib.hid hf; have HG := Lib.hid hg; clear hr hf hg
  obtain ⟨C, rfl, hC⟩ := h
  have hC0 := hC
  obtain ⟨CA, Cc, rfl, _, _⟩ := hC.form
  unfold rgV
  clear hC
  go_enter Try.func6, Try.ntmps6
  go_wp2_with fail
  refine (put_ok _ r x _ (h0.on (Kt.balloc (Below.refl _ w) _)) HR.out HF.out).mono ?_
  rintro en w1 ⟨v, rfl, hA, hb1⟩
  obtain ⟨C3, rfl, hs3⟩ := hA
  obtain ⟨C3A, C3c, rfl, _, _⟩ := hs3.form
  have hlen : (putR r x).cs.length = r.cs.length := putCs_len r x
  have hA : RA w1 (.agg #[.slice C3A r.cs.length C3c, .int .i64 (putR r x).pa, .int .i64 (putR r x).pb, .int .i64 r.ga, .int .i64 r.gb, .int .i64 r.sn]) (putR r x) := by
    refine ⟨_, ?_, Kt.Ar.of_sl hs3⟩
    unfold rgV; rw [hlen]; rfl
  have hRA := Lib.hid (put_right HR.out x)
  have hv : rgV (.slice C3A (putR r x).cs.length C3c) (putR r x) = .agg #[.slice C3A r.cs.length C3c, .int .i64 (putR r x).pa, .int .i64 (putR r x).pb, .int .i64 r.ga, .int .i64 r.gb, .int .i64 r.sn] := by unfold rgV; rw [hlen]; rfl
  rw [hv]
  clear hv hlen hs3
  generalize putR r x = ra at *
  have r2 := Kt.box1 hb1
  have hbel := Kt.bthen (Kt.balloc (Below.refl _ w) _) hb1
  have q2 := fun i => cell_of_row _ _ i _ _ _ r2
  have hz1 : w.heap.size < w1.heap.size := (Array.getElem?_eq_some_iff.1 r2).1
  clear hb1
  go_wp2_with fail
  refine (get_no _ r _ (h0.on (Kt.balloc hbel _)) HR.out HG.out).mono ?_
  rintro en w2 ⟨v, rfl, ⟨C4, rfl, hs4⟩, hb2⟩
  obtain ⟨C4A, C4c, rfl, _, _⟩ := hs4.form
  have hB : RA w2 (.agg #[.slice C4A r.cs.length C4c, .int .i64 r.pa, .int .i64 r.pb, .int .i64 r.ga, .int .i64 r.gb, .int .i64 r.sn]) r := ⟨_, rfl, Kt.Ar.of_sl hs4⟩
  have hRB := Lib.hid HR.out
  have hE : Kt.Ar w2 (.slice C4A r.cs.length C4c) 3 r.cs.length (cvs r.cs) := Kt.Ar.of_sl hs4
  unfold rgV
  clear hs4
  have r5 := Kt.box1 hb2
  replace r2 := Kt.row_on hb2 ((Below.heap_alloc _ _ _ hz1).trans r2)
  replace hbel := Kt.bthen (Kt.balloc hbel _) hb2
  replace hA := RA.on hA (Kt.bthen (Kt.balloc (Below.refl _ w1) _) hb2)
  clear hb2 q2
  have q2 := fun i => cell_of_row _ _ i _ _ _ r2
  have q5 := fun i => cell_of_row _ _ i _ _ _ r5
  have hz2 : w1.heap.size < w2.heap.size := (Array.getElem?_eq_some_iff.1 r5).1
  have hz3 : w.heap.size < w2.heap.size := by omega
  go_wp2_with fail
  refine (lives_calls _).mono ?_
  rintro en w3 ⟨rfl, hb3⟩
  have r7 := Kt.box1 hb3
  have hz5 : w2.heap.size < w3.heap.size := (Array.getElem?_eq_some_iff.1 r7).1
  replace r5 := Kt.row_on hb3 ((Below.heap_alloc _ _ _ hz2).trans r5)
  replace r2 := Kt.row_on hb3 ((Below.heap_alloc _ _ _ hz3).trans r2)
  replace hbel := Kt.bthen (Kt.balloc hbel _) hb3
  replace hB := RA.on hB (Kt.bthen (Kt.balloc (Below.refl _ w2) _) hb3)
  replace hE := hE.on (Kt.bthen (Kt.balloc (Below.refl _ w2) _) hb3)
  replace hA := RA.on hA (Kt.bthen (Kt.balloc (Below.refl _ w2) _) hb3)
  clear hb3 q2 q5
  have q2 := fun i => cell_of_row _ _ i _ _ _ r2
  have q5 := fun i => cell_of_row _ _ i _ _ _ r5
  have q7 := fun i => cell_of_row _ _ i _ _ _ r7
  go_wp2_with fail
  refine (ring_right _ _ _ hA hRA.out).mono ?_
  rintro en w4 ⟨rfl, hb4⟩
  replace r7 := Kt.row_on hb4 r7
  replace r5 := Kt.row_on hb4 r5
  replace r2 := Kt.row_on hb4 r2
  replace hbel := Kt.bthen hbel hb4
  replace hB := RA.on hB hb4
  replace hE := hE.on hb4
  clear hb4 q2 q5 q7
  have q2 := fun i => cell_of_row _ _ i _ _ _ r2
  have q5 := fun i => cell_of_row _ _ i _ _ _ r5
  have q7 := fun i => cell_of_row _ _ i _ _ _ r7
  go_wp2_with fail
  refine (ring_right _ _ _ hB hRB.out).mono ?_
  rintro en w5 ⟨rfl, hb5⟩
  replace r7 := Kt.row_on hb5 r7
  replace r2 := Kt.row_on hb5 r2
  replace hbel := Kt.bthen hbel hb5
  replace hE := hE.on hb5
  clear hb5 q2 q5 q7 r5
  have q2 := fun i => cell_of_row _ _ i _ _ _ r2
  have q7 := fun i => cell_of_row _ _ i _ _ _ r7
  go_wp2_with fail
  refine (eqC _ _ r.cs r.cs _ hE (hC0.on hbel) (by omega)).mono ?_
  rintro en w6 ⟨rfl, hb6⟩
  have e1 : decide (r.cs = r.cs) = true := by simp
  rw [e1]
  replace hbel := Kt.bthen hbel hb6
  clear hb6 e1
  go_wp2_with fail
  go_ret
  exact ⟨rfl, hbel⟩
set_option maxHeartbeats 6400000 in
set_option maxRecDepth 100000 in
theorem stays_full_yes (V : Value) (r : Rg) (x : Int) (w : World) (h : RA w V r) (hr : Right r) (hf : fullB r = true) (hg : getB r = true) :
    Calls Try.prog 6 #[V, .int .u64 x] w fun e w' => e = .returned (.bool true) ∧ Below w.heap.size w w' := by
  have h0 := h
  have hhi := hr.hi
  have HR := Lib.hid hr; have HF := Lib.hid hf; have HG := Lib.hid hg; clear hr hf hg
  obtain ⟨C, rfl, hC⟩ := h
  have hC0 := hC
  obtain ⟨CA, Cc, rfl, _, _⟩ := hC.form
  unfold rgV
  clear hC
  go_enter Try.func6, Try.ntmps6
  go_wp2_with fail
  refine (put_full _ r x _ (h0.on (Kt.balloc (Below.refl _ w) _)) HR.out HF.out).mono ?_
  rintro en w1 ⟨n1, rfl, rfl, hb1⟩
  unfold zeroR rgV
  have r2 := Kt.box1 hb1
  have hbel := Kt.bthen (Kt.balloc (Below.refl _ w) _) hb1
  have q2 := fun i => cell_of_row _ _ i _ _ _ r2
  have hz1 : w.heap.size < w1.heap.size := (Array.getElem?_eq_some_iff.1 r2).1
  clear hb1
  go_wp2_with fail
  refine (get_yes _ r _ (h0.on (Kt.balloc hbel _)) HR.out HG.out).mono ?_
  rintro en w2 ⟨v, rfl, ⟨C4, rfl, hs4⟩, hb2⟩
  obtain ⟨C4A, C4c, rfl, _, _⟩ := hs4.form
  have hB : RA w2 (.agg #[.slice C4A r.cs.length C4c, .int .i64 r.pa, .int .i64 r.pb, .int .i64 (getR r).ga, .int .i64 (getR r).gb, .int .i64 r.sn]) (getR r) := ⟨_, rfl, Kt.Ar.of_sl hs4⟩
  have hRB := Lib.hid (get_right HR.out)
  have hv : rgV (.slice C4A (getR r).cs.length C4c) (getR r) = .agg #[.slice C4A r.cs.length C4c, .int .i64 r.pa, .int .i64 r.pb, .int .i64 (getR r).ga, .int .i64 (getR r).gb, .int .i64 r.sn] := rfl
  have hE : Kt.Ar w2 (.slice C4A r.cs.length C4c) 3 r.cs.length (cvs r.cs) := Kt.Ar.of_sl hs4
  rw [hv]
  clear hv hs4
  generalize getR r = rb at *
  generalize (cellAt r).1 = y at *
  have r5 := Kt.box1 hb2
  replace r2 := Kt.row_on hb2 ((Below.heap_alloc _ _ _ hz1).trans r2)
  replace hbel := Kt.bthen (Kt.balloc hbel _) hb2
  clear hb2 q2
  have q2 := fun i => cell_of_row _ _ i _ _ _ r2
  have q5 := fun i => cell_of_row _ _ i _ _ _ r5
  have hz2 : w1.heap.size < w2.heap.size := (Array.getElem?_eq_some_iff.1 r5).1
  have hz3 : w.heap.size < w2.heap.size := by omega
  go_wp2_with fail
  refine (lives_calls _).mono ?_
  rintro en w3 ⟨rfl, hb3⟩
  have r7 := Kt.box1 hb3
  have hz5 : w2.heap.size < w3.heap.size := (Array.getElem?_eq_some_iff.1 r7).1
  replace r5 := Kt.row_on hb3 ((Below.heap_alloc _ _ _ hz2).trans r5)
  replace r2 := Kt.row_on hb3 ((Below.heap_alloc _ _ _ hz3).trans r2)
  replace hbel := Kt.bthen (Kt.balloc hbel _) hb3
  replace hB := RA.on hB (Kt.bthen (Kt.balloc (Below.refl _ w2) _) hb3)
  replace hE := hE.on (Kt.bthen (Kt.balloc (Below.refl _ w2) _) hb3)
  clear hb3 q2 q5
  have q2 := fun i => cell_of_row _ _ i _ _ _ r2
  have q5 := fun i => cell_of_row _ _ i _ _ _ r5
  have q7 := fun i => cell_of_row _ _ i _ _ _ r7
  go_wp2_with fail
  refine (ring_right _ _ _ hB hRB.out).mono ?_
  rintro en w5 ⟨rfl, hb5⟩
  replace r7 := Kt.row_on hb5 r7
  replace r2 := Kt.row_on hb5 r2
  replace hbel := Kt.bthen hbel hb5
  replace hE := hE.on hb5
  clear hb5 q2 q5 q7 r5
  have q2 := fun i => cell_of_row _ _ i _ _ _ r2
  have q7 := fun i => cell_of_row _ _ i _ _ _ r7
  go_wp2_with fail
  refine (eqC _ _ r.cs r.cs _ hE (hC0.on hbel) (by omega)).mono ?_
  rintro en w6 ⟨rfl, hb6⟩
  have e1 : decide (r.cs = r.cs) = true := by simp
  rw [e1]
  replace hbel := Kt.bthen hbel hb6
  clear hb6 e1
  go_wp2_with fail
  go_ret
  exact ⟨rfl, hbel⟩
set_option maxHeartbeats 6400000 in
set_option maxRecDepth 100000 in
theorem stays_full_no (V : Value) (r : Rg) (x : Int) (w : World) (h : RA w V r) (hr : Right r) (hf : fullB r = true) (hg : getB r = false) :
    Calls Try.prog 6 #[V, .int .u64 x] w fun e w' => e = .returned (.bool true) ∧ Below w.heap.size w w' := by
  have h0 := h
  have hhi := hr.hi
  have HR := Lib.hid hr; have HF := Lib.hid hf; have HG := Lib.hid hg; clear hr hf hg
  obtain ⟨C, rfl, hC⟩ := h
  have hC0 := hC
  obtain ⟨CA, Cc, rfl, _, _⟩ := hC.form
  unfold rgV
  clear hC
  go_enter Try.func6, Try.ntmps6
  go_wp2_with fail
  refine (put_full _ r x _ (h0.on (Kt.balloc (Below.refl _ w) _)) HR.out HF.out).mono ?_
  rintro en w1 ⟨n1, rfl, rfl, hb1⟩
  unfold zeroR rgV
  have r2 := Kt.box1 hb1
  have hbel := Kt.bthen (Kt.balloc (Below.refl _ w) _) hb1
  have q2 := fun i => cell_of_row _ _ i _ _ _ r2
  have hz1 : w.heap.size < w1.heap.size := (Array.getElem?_eq_some_iff.1 r2).1
  clear hb1
  go_wp2_with fail
  refine (get_no _ r _ (h0.on (Kt.balloc hbel _)) HR.out HG.out).mono ?_
  rintro en w2 ⟨v, rfl, ⟨C4, rfl, hs4⟩, hb2⟩
  obtain ⟨C4A, C4c, rfl, _, _⟩ := hs4.form
  have hB : RA w2 (.agg #[.slice C4A r.cs.length C4c, .int .i64 r.pa, .int .i64 r.pb, .int .i64 r.ga, .int .i64 r.gb, .int .i64 r.sn]) r := ⟨_, rfl, Kt.Ar.of_sl hs4⟩
  have hRB := Lib.hid HR.out
  have hE : Kt.Ar w2 (.slice C4A r.cs.length C4c) 3 r.cs.length (cvs r.cs) := Kt.Ar.of_sl hs4
  unfold rgV
  clear hs4
  have r5 := Kt.box1 hb2
  replace r2 := Kt.row_on hb2 ((Below.heap_alloc _ _ _ hz1).trans r2)
  replace hbel := Kt.bthen (Kt.balloc hbel _) hb2
  clear hb2 q2
  have q2 := fun i => cell_of_row _ _ i _ _ _ r2
  have q5 := fun i => cell_of_row _ _ i _ _ _ r5
  have hz2 : w1.heap.size < w2.heap.size := (Array.getElem?_eq_some_iff.1 r5).1
  have hz3 : w.heap.size < w2.heap.size := by omega
  go_wp2_with fail
  refine (lives_calls _).mono ?_
  rintro en w3 ⟨rfl, hb3⟩
  have r7 := Kt.box1 hb3
  have hz5 : w2.heap.size < w3.heap.size := (Array.getElem?_eq_some_iff.1 r7).1
  replace r5 := Kt.row_on hb3 ((Below.heap_alloc _ _ _ hz2).trans r5)
  replace r2 := Kt.row_on hb3 ((Below.heap_alloc _ _ _ hz3).trans r2)
  replace hbel := Kt.bthen (Kt.balloc hbel _) hb3
  replace hB := RA.on hB (Kt.bthen (Kt.balloc (Below.refl _ w2) _) hb3)
  replace hE := hE.on (Kt.bthen (Kt.balloc (Below.refl _ w2) _) hb3)
  clear hb3 q2 q5
  have q2 := fun i => cell_of_row _ _ i _ _ _ r2
  have q5 := fun i => cell_of_row _ _ i _ _ _ r5
  have q7 := fun i => cell_of_row _ _ i _ _ _ r7
  go_wp2_with fail
  refine (ring_right _ _ _ hB hRB.out).mono ?_
  rintro en w5 ⟨rfl, hb5⟩
  replace r7 := Kt.row_on hb5 r7
  replace r2 := Kt.row_on hb5 r2
  replace hbel := Kt.bthen hbel hb5
  replace hE := hE.on hb5
  clear hb5 q2 q5 q7 r5
  have q2 := fun i => cell_of_row _ _ i _ _ _ r2
  have q7 := fun i => cell_of_row _ _ i _ _ _ r7
  go_wp2_with fail
  refine (eqC _ _ r.cs r.cs _ hE (hC0.on hbel) (by omega)).mono ?_
  rintro en w6 ⟨rfl, hb6⟩
  have e1 : decide (r.cs = r.cs) = true := by simp
  rw [e1]
  replace hbel := Kt.bthen hbel hb6
  clear hb6 e1
  go_wp2_with fail
  go_ret
  exact ⟨rfl, hbel⟩
theorem stays_walk (v0 v1 : Value) (w : World) (r0 : Fr.RdV w reachBytes (.cat 1 (.slice 3 (.cat 1 (.int .u64) (.cat 1 (.int .i64) (.cat 1 .bool .nil)))) (.cat 2 (.cat 1 (.int .i64) (.cat 1 (.int .i64) .nil)) (.cat 2 (.cat 1 (.int .i64) (.cat 1 (.int .i64) .nil)) (.cat 1 (.int .i64) .nil)))) v0) (r1 : Fr.RdV w reachBytes (.int .u64) v1) :
    Calls Try.prog 6 #[v0, v1] w fun e w' => e = .returned (.bool true) ∧ Below w.heap.size w w' := by
  obtain ⟨r, hr, hl⟩ := ra_of r0
  obtain ⟨x, h, _⟩ := r1
  simp only [List.cons.injEq, and_true] at h
  subst h
  by_cases hR : Right r
  · cases hf : fullB r <;> cases hg : getB r
    · exact stays_ok_no _ r x w hr hR hf hg
    · exact stays_ok_yes _ r x w hr hR hf hg
    · exact stays_full_no _ r x w hr hR hf hg
    · exact stays_full_yes _ r x w hr hR hf hg
  · exact stays_bad _ r x w hr hl hR
end Go.Proofs.Ytmgjgajpgjfaiaa
