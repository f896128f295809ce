/- The walks of package ring: New, Get, Learn. -/
import Derived.Test.YtidcbboonjenhaaRngD
import Derived.Deep.CutBlock
import Derived.Deep.CutRange
namespace Go.Proofs.Ytidcbboonjenhaa
open Go.RowKit
def GetBad (w : World) (e : Ending) (w' : World) : Prop := ∃ n : Int, n ≠ 0 ∧ e = .returned (.tuple #[zeroR, .int .u64 0, .bool false, .int .i64 n]) ∧ Below w.heap.size w w'
def GetGives (w : World) (r : Rg) (x : Int) (ok : Bool) (e : Ending) (w' : World) : Prop := ∃ v, e = .returned (.tuple #[v, .int .u64 x, .bool ok, .int .i64 0]) ∧ RO w' w.heap.size v r ∧ Below w.heap.size w w'
set_option maxHeartbeats 800000 in
theorem get_bad (V : Value) (r : Rg) (w : World) (h : RA w V r) (hn : r.cs.length ≤ 1048576) (hr : ¬ Right r) : Calls Try.prog 29 #[V] w (GetBad w) := by
  have h0 := h
  have HR := Lib.hid hr; clear hr
  obtain ⟨C, rfl, hC⟩ := h
  unfold rgV
  clear hC
  go_enter Try.func29, Try.ntmps29
  go_wp2_with fail
  refine (rchk_calls _ r _ (h0.on (Kt.balloc (Kt.balloc (Below.refl _ w) _) _)) hn).mono ?_
  rintro en w1 ⟨n, rfl, h1, hb⟩
  have hn0 : n ≠ 0 := fun e => HR.out (h1.1 e)
  have hn1 : (n != 0) = true := by rw [bne_iff_ne]; exact hn0
  have HN := Lib.hid hn0
  obtain ⟨r0, r1⟩ := Kt.box2 hb
  have hbel := Kt.bthen (Kt.balloc (Kt.balloc (Below.refl _ w) _) _) hb
  clear h1 hb h0 hn0
  have c0 := fun i => cell_of_row _ _ i _ _ _ r0
  have f0 := fun i => frozen_of_row _ _ i _ _ r0
  have c1 := fun i => cell_of_row _ _ i _ _ _ r1
  have f1 := fun i => frozen_of_row _ _ i _ _ r1
  go_wp2_with fail
  refine bodyPost_ret (v := .tuple #[zeroR, .int .u64 0, .bool false, .int .i64 n]) (by simp [zeroR, rgV, results, Try.results29, go_sem, c1]) rfl ⟨n, HN.out, rfl, ?_⟩
  repeat (first | with_reducible exact hbel | (with_reducible refine Kt.bset ?_ (by simp) _))
set_option maxHeartbeats 1600000 in
theorem get_no (V : Value) (r : Rg) (w : World) (h : RA w V r) (hr : Right r) (hg : getB r = false) : Calls Try.prog 29 #[V] w (GetGives w r 0 false) := by
  have h0 := h
  obtain ⟨b1, b2, b3, b4, b5, _⟩ := right_bd hr
  have b6 := hr.ga
  have b7 := hr.lo
  have HR := Lib.hid hr; clear hr
  obtain ⟨C, rfl, hC⟩ := h
  obtain ⟨A, c, rfl, _, _⟩ := hC.form
  unfold rgV
  clear hC
  go_enter Try.func29, Try.ntmps29
  go_wp2_with fail
  refine (check_right _ r _ (h0.on (Kt.balloc (Kt.balloc (Below.refl _ w) _) _)) HR.out).mono ?_
  rintro en w1 ⟨rfl, hb⟩
  obtain ⟨r0, r1⟩ := Kt.box2 hb
  have hbel := Kt.bthen (Kt.balloc (Kt.balloc (Below.refl _ w) _) _) hb
  clear hb
  have c0 := fun i => cell_of_row _ _ i _ _ _ r0
  have f0 := fun i => frozen_of_row _ _ i _ _ r0
  have c1 := fun i => cell_of_row _ _ i _ _ _ r1
  have f1 := fun i => frozen_of_row _ _ i _ _ r1
  go_wp2_with fail
  refine (copied_calls _ r _ (h0.on hbel) (by omega)).mono ?_
  rintro en w3 ⟨v, rfl, ⟨C', rfl, hs⟩, hb⟩
  replace r0 := Kt.row_on hb r0
  have hw1 : w.heap.size + 1 < w1.heap.size := (Array.getElem?_eq_some_iff.1 r1).1
  replace r1 := Kt.row_on hb r1
  replace hbel := Kt.bthen hbel hb
  obtain ⟨g, o, cap, rfl, hg1, hg2, hg3, hg4, hcell, hfr⟩ := hs.cells b5.1
  have hz3 : w.heap.size + 1 < w3.heap.size := (Array.getElem?_eq_some_iff.1 r1).1
  have hz3a : w.heap.size < w3.heap.size := by omega
  have hgw : w.heap.size + 1 < g := by omega
  have hne : ∀ k, (Value.slice (some ⟨g, o, none⟩) r.cs.length cap).ownBlock = some k → k = g := fun k hk => (Option.some.inj hk).symm
  clear hb c0 f0 c1 f1 hg1
  have c0 := fun i => cell_of_row _ _ i _ _ _ r0
  have f0 := fun i => frozen_of_row _ _ i _ _ r0
  have c1 := fun i => cell_of_row _ _ i _ _ _ r1
  have f1 := fun i => frozen_of_row _ _ i _ _ r1
  unfold rgV
  have HS := Lib.hid (hs.mono (B' := w.heap.size) (by omega)); clear hs hcell hfr h0
  obtain ⟨p, hp⟩ : ∃ p : Nat, r.ga = p := ⟨r.ga.toNat, by omega⟩
  obtain ⟨y, hy⟩ : ∃ y, r.cs[p]? = some y := ⟨_, List.getElem?_eq_getElem (by omega)⟩
  have hy0 : cellAt r = y := by unfold cellAt; rw [hp, Int.toNat_natCast, List.getD_eq_getElem?_getD, hy]; rfl
  obtain ⟨y1, y2, y3⟩ := y
  have x0 : (cvs r.cs)[p * 3]? = some (.int .u64 y1) := by have := cvs_get r.cs p 0 (by omega); rw [hy] at this; exact this
  have x1 : (cvs r.cs)[p * 3 + 1]? = some (.int .i64 y2) := by have := cvs_get r.cs p 1 (by omega); rw [hy] at this; exact this
  have x2 : (cvs r.cs)[p * 3 + 2]? = some (.bool y3) := by have := cvs_get r.cs p 2 (by omega); rw [hy] at this; exact this
  have q0 : w3.cell? ⟨g, o + p * 3, none⟩ = some _ := Kt.sl_cell HS.out (p * 3) _ x0
  have q1 : w3.cell? ⟨g, o + p * 3 + 1, none⟩ = some _ := Kt.sl_cell HS.out (p * 3 + 1) _ x1
  have q2 : w3.cell? ⟨g, o + p * 3 + 2, none⟩ = some _ := Kt.sl_cell HS.out (p * 3 + 2) _ x2
  have hgb : (y2 == r.gb) = getB r := by unfold getB; rw [hy0]
  rw [hg] at hgb
  have HY := Lib.hid hy; have HY0 := Lib.hid hy0; clear hy hy0 x0 x1 x2
  have hgb2 : (y2 != r.gb) = true := by rw [bne, hgb]; rfl
  go_wp2_with fail
  refine bodyPost_ret (v := .tuple #[rgV (.slice (some ⟨g, o, none⟩) r.cs.length cap) r, .int .u64 0, .bool false, .int .i64 0]) (by simp [rgV, results, Try.results29, go_sem, c1, hp, hz3]) rfl ⟨_, rfl, ⟨_, rfl, ?_⟩, ?_⟩
  · have s3 := HS.out
    repeat (first | with_reducible exact s3 | (with_reducible refine Kt.Sl.alloc ?_ _) | (with_reducible refine Kt.Sl.set ?_ (fun k hk => by rw [hne k hk]; simp; omega) _))
  · repeat (first | with_reducible exact hbel | (with_reducible refine Kt.balloc ?_ _) | (with_reducible refine Kt.bset ?_ (by simp; try omega) _))
set_option maxHeartbeats 1600000 in
theorem get_yes (V : Value) (r : Rg) (w : World) (h : RA w V r) (hr : Right r) (hg : getB r = true) : Calls Try.prog 29 #[V] w (GetGives w (getR r) (cellAt r).1 true) := by
  have h0 := h
  obtain ⟨b1, b2, b3, b4, b5, _⟩ := right_bd hr
  have b6 := hr.ga
  have b7 := hr.lo
  have HR := Lib.hid hr; clear hr
  obtain ⟨C, rfl, hC⟩ := h
  obtain ⟨A, c, rfl, _, _⟩ := hC.form
  unfold rgV
  clear hC
  go_enter Try.func29, Try.ntmps29
  go_wp2_with fail
  refine (check_right _ r _ (h0.on (Kt.balloc (Kt.balloc (Below.refl _ w) _) _)) HR.out).mono ?_
  rintro en w1 ⟨rfl, hb⟩
  obtain ⟨r0, r1⟩ := Kt.box2 hb
  have hbel := Kt.bthen (Kt.balloc (Kt.balloc (Below.refl _ w) _) _) hb
  clear hb
  have c0 := fun i => cell_of_row _ _ i _ _ _ r0
  have f0 := fun i => frozen_of_row _ _ i _ _ r0
  have c1 := fun i => cell_of_row _ _ i _ _ _ r1
  have f1 := fun i => frozen_of_row _ _ i _ _ r1
  go_wp2_with fail
  refine (copied_calls _ r _ (h0.on hbel) (by omega)).mono ?_
  rintro en w3 ⟨v, rfl, ⟨C', rfl, hs⟩, hb⟩
  replace r0 := Kt.row_on hb r0
  have hw1 : w.heap.size + 1 < w1.heap.size := (Array.getElem?_eq_some_iff.1 r1).1
  replace r1 := Kt.row_on hb r1
  replace hbel := Kt.bthen hbel hb
  obtain ⟨g, o, cap, rfl, hg1, hg2, hg3, hg4, hcell, hfr⟩ := hs.cells b5.1
  have hz3 : w.heap.size + 1 < w3.heap.size := (Array.getElem?_eq_some_iff.1 r1).1
  have hz3a : w.heap.size < w3.heap.size := by omega
  have hgw : w.heap.size + 1 < g := by omega
  have hne : ∀ k, (Value.slice (some ⟨g, o, none⟩) r.cs.length cap).ownBlock = some k → k = g := fun k hk => (Option.some.inj hk).symm
  clear hb c0 f0 c1 f1 hg1
  have c0 := fun i => cell_of_row _ _ i _ _ _ r0
  have f0 := fun i => frozen_of_row _ _ i _ _ r0
  have c1 := fun i => cell_of_row _ _ i _ _ _ r1
  have f1 := fun i => frozen_of_row _ _ i _ _ r1
  unfold rgV
  have HS := Lib.hid (hs.mono (B' := w.heap.size) (by omega)); clear hs hcell hfr h0
  obtain ⟨p, hp⟩ : ∃ p : Nat, r.ga = p := ⟨r.ga.toNat, by omega⟩
  obtain ⟨y, hy⟩ : ∃ y, r.cs[p]? = some y := ⟨_, List.getElem?_eq_getElem (by omega)⟩
  have hy0 : cellAt r = y := by unfold cellAt; rw [hp, Int.toNat_natCast, List.getD_eq_getElem?_getD, hy]; rfl
  obtain ⟨y1, y2, y3⟩ := y
  have x0 : (cvs r.cs)[p * 3]? = some (.int .u64 y1) := by have := cvs_get r.cs p 0 (by omega); rw [hy] at this; exact this
  have x1 : (cvs r.cs)[p * 3 + 1]? = some (.int .i64 y2) := by have := cvs_get r.cs p 1 (by omega); rw [hy] at this; exact this
  have x2 : (cvs r.cs)[p * 3 + 2]? = some (.bool y3) := by have := cvs_get r.cs p 2 (by omega); rw [hy] at this; exact this
  have q0 : w3.cell? ⟨g, o + p * 3, none⟩ = some _ := Kt.sl_cell HS.out (p * 3) _ x0
  have q1 : w3.cell? ⟨g, o + p * 3 + 1, none⟩ = some _ := Kt.sl_cell HS.out (p * 3 + 1) _ x1
  have q2 : w3.cell? ⟨g, o + p * 3 + 2, none⟩ = some _ := Kt.sl_cell HS.out (p * 3 + 2) _ x2
  have hgb : (y2 == r.gb) = getB r := by unfold getB; rw [hy0]
  rw [hg] at hgb
  have HY := Lib.hid hy; have HY0 := Lib.hid hy0; clear hy hy0 x0 x1 x2
  have hgb2 : (y2 != r.gb) = false := by rw [bne, hgb]; rfl
  go_wp2_with fail
  refine Kt.foldC (fun W => W.heap[w.heap.size]? = some (.cells #[.slice (some ⟨g, o, none⟩) r.cs.length cap, .int .i64 r.pa, .int .i64 r.pb, .int .i64 p, .int .i64 r.gb, .int .i64 r.sn] 37 (0, 0)) ∧ W.heap[w.heap.size + 1]? = some (.cells #[.slice none 0 0, .int .i64 0, .int .i64 0, .int .i64 0, .int .i64 0, .int .i64 0] 37 (0, 0)) ∧ W.heap[w3.heap.size]? = some (.cells #[.int .u64 y1, .int .i64 y2, .bool y3] 96 (0, 0)) ∧ Kt.Sl W w.heap.size 96 3 (.slice (some ⟨g, o, none⟩) r.cs.length cap) r.cs.length (cvs r.cs) ∧ Below w.heap.size w W)
    ⟨Kt.fillA [.slice (some ⟨g, o, none⟩) r.cs.length cap, .int .i64 r.pa, .int .i64 r.pb, .int .i64 p, .int .i64 r.gb, .int .i64 r.sn] r0 rfl _, Kt.otherA [.slice (some ⟨g, o, none⟩) r.cs.length cap, .int .i64 r.pa, .int .i64 r.pb, .int .i64 p, .int .i64 r.gb, .int .i64 r.sn] r1 (by omega) _, Kt.newA [.slice (some ⟨g, o, none⟩) r.cs.length cap, .int .i64 r.pa, .int .i64 r.pb, .int .i64 p, .int .i64 r.gb, .int .i64 r.sn] _ _, (Kt.Sl.sets HS.out [.slice (some ⟨g, o, none⟩) r.cs.length cap, .int .i64 r.pa, .int .i64 r.pb, .int .i64 p, .int .i64 r.gb, .int .i64 r.sn] _ 0 (fun k hk => by rw [hne k hk]; omega)).alloc _, Kt.balloc (Kt.below_setCells [.slice (some ⟨g, o, none⟩) r.cs.length cap, .int .i64 r.pa, .int .i64 r.pb, .int .i64 p, .int .i64 r.gb, .int .i64 r.sn] _ 0 _ _ (Nat.le_refl _) hbel) _⟩ ?_
  clear r0 r1 c0 f0 c1 f1 hbel HS q0 q1 q2
  rintro W4 ⟨r0, r1, r2, hs, hbel⟩
  have hWz : w3.heap.size < W4.heap.size := (Array.getElem?_eq_some_iff.1 r2).1
  refine (advance_calls _ _ _ _ (by rw [← hp]; exact b3) b4 b5).mono ?_
  rintro en w5 ⟨rfl, hb⟩
  replace r0 := Kt.row_on hb r0
  replace r1 := Kt.row_on hb r1
  replace r2 := Kt.row_on hb r2
  replace hbel := Kt.bthen hbel hb
  replace hs := hs.on hb
  have hz5 : w3.heap.size < w5.heap.size := (Array.getElem?_eq_some_iff.1 r2).1
  have HS := Lib.hid hs; clear hs hb
  have c0 := fun i => cell_of_row _ _ i _ _ _ r0
  have f0 := fun i => frozen_of_row _ _ i _ _ r0
  have c1 := fun i => cell_of_row _ _ i _ _ _ r1
  have f1 := fun i => frozen_of_row _ _ i _ _ r1
  have c2 := fun i => cell_of_row _ _ i _ _ _ r2
  have f2 := fun i => frozen_of_row _ _ i _ _ r2
  have HGET := Lib.hid (show getR r = ⟨r.cs, r.pa, r.pb, (adv p r.gb r.cs.length).1, (adv p r.gb r.cs.length).2, r.sn⟩ by unfold getR; rw [hp])
  unfold markV
  generalize (adv p r.gb r.cs.length).1 = a1 at *
  generalize (adv p r.gb r.cs.length).2 = a2 at *
  go_wp2_with fail
  go_region
  all_goals go_wp2_with fail
  all_goals
    rw [HGET.out, HY0.out]
    refine bodyPost_ret (v := .tuple #[rgV (.slice (some ⟨g, o, none⟩) r.cs.length cap) ⟨r.cs, r.pa, r.pb, a1, a2, r.sn⟩, .int .u64 y1, .bool true, .int .i64 0]) (by simp [rgV, results, Try.results29, go_sem, c1]) rfl ⟨_, rfl, ⟨_, rfl, ?_⟩, ?_⟩
    · have s3 := HS.out
      refine Kt.Sl.drew ?_
      repeat (first | with_reducible exact s3 | (with_reducible refine Kt.Sl.set ?_ (fun k hk => by rw [hne k hk]; simp; omega) _))
    · refine Below.drew ?_
      repeat (first | with_reducible exact hbel | (with_reducible refine Kt.bset ?_ (by simp; try omega) _))
def LearnBad (w : World) (e : Ending) (w' : World) : Prop := ∃ n : Int, n ≠ 0 ∧ e = .returned (.tuple #[zeroR, .int .i64 n]) ∧ Below w.heap.size w w'
set_option maxHeartbeats 800000 in
theorem learn_bad (V : Value) (r : Rg) (w : World) (h : RA w V r) (hn : r.cs.length ≤ 1048576) (hr : ¬ Right r) : Calls Try.prog 30 #[V] w (LearnBad w) := by
  have h0 := h
  have HR := Lib.hid hr; clear hr
  obtain ⟨C, rfl, hC⟩ := h
  unfold rgV
  clear hC
  go_enter Try.func30, Try.ntmps30
  go_wp2_with fail
  refine (rchk_calls _ r _ (h0.on (Kt.balloc (Kt.balloc (Below.refl _ w) _) _)) hn).mono ?_
  rintro en w1 ⟨n, rfl, h1, hb⟩
  have hn0 : n ≠ 0 := fun e => HR.out (h1.1 e)
  have hn1 : (n != 0) = true := by rw [bne_iff_ne]; exact hn0
  have HN := Lib.hid hn0
  obtain ⟨r0, r1⟩ := Kt.box2 hb
  have hbel := Kt.bthen (Kt.balloc (Kt.balloc (Below.refl _ w) _) _) hb
  clear h1 hb h0 hn0
  have c0 := fun i => cell_of_row _ _ i _ _ _ r0
  have f0 := fun i => frozen_of_row _ _ i _ _ r0
  have c1 := fun i => cell_of_row _ _ i _ _ _ r1
  have f1 := fun i => frozen_of_row _ _ i _ _ r1
  go_wp2_with fail
  refine bodyPost_ret (v := .tuple #[zeroR, .int .i64 n]) (by simp [zeroR, rgV, results, Try.results30, go_sem, c1]) rfl ⟨n, HN.out, rfl, ?_⟩
  repeat (first | with_reducible exact hbel | (with_reducible refine Kt.bset ?_ (by simp) _))
set_option maxHeartbeats 1600000 in
theorem learn_ok (V : Value) (r : Rg) (w : World) (h : RA w V r) (hr : Right r) : Calls Try.prog 30 #[V] w (Gives w (learnR r)) := by
  have h0 := h
  obtain ⟨b1, b2, b3, b4, b5, _⟩ := right_bd hr
  have b6 := hr.ga
  have b7 := hr.lo
  have HR := Lib.hid hr; clear hr
  obtain ⟨C, rfl, hC⟩ := h
  obtain ⟨A, c, rfl, _, _⟩ := hC.form
  unfold rgV
  clear hC
  go_enter Try.func30, Try.ntmps30
  go_wp2_with fail
  refine (check_right _ r _ (h0.on (Kt.balloc (Kt.balloc (Below.refl _ w) _) _)) HR.out).mono ?_
  rintro en w1 ⟨rfl, hb⟩
  obtain ⟨r0, r1⟩ := Kt.box2 hb
  have hbel := Kt.bthen (Kt.balloc (Kt.balloc (Below.refl _ w) _) _) hb
  clear hb
  have c0 := fun i => cell_of_row _ _ i _ _ _ r0
  have f0 := fun i => frozen_of_row _ _ i _ _ r0
  have c1 := fun i => cell_of_row _ _ i _ _ _ r1
  have f1 := fun i => frozen_of_row _ _ i _ _ r1
  go_wp2_with fail
  refine (copied_calls _ r _ (h0.on hbel) (by omega)).mono ?_
  rintro en w3 ⟨v, rfl, ⟨C', rfl, hs⟩, hb⟩
  replace r0 := Kt.row_on hb r0
  have hw1 : w.heap.size + 1 < w1.heap.size := (Array.getElem?_eq_some_iff.1 r1).1
  replace r1 := Kt.row_on hb r1
  replace hbel := Kt.bthen hbel hb
  obtain ⟨g, o, cap, rfl, hg1, hg2, hg3, hg4, hcell, hfr⟩ := hs.cells b5.1
  have hz3 : w.heap.size + 1 < w3.heap.size := (Array.getElem?_eq_some_iff.1 r1).1
  have hz3a : w.heap.size < w3.heap.size := by omega
  have hgw : w.heap.size + 1 < g := by omega
  have hne : ∀ k, (Value.slice (some ⟨g, o, none⟩) r.cs.length cap).ownBlock = some k → k = g := fun k hk => (Option.some.inj hk).symm
  clear hb c0 f0 c1 f1 hg1
  have c0 := fun i => cell_of_row _ _ i _ _ _ r0
  have f0 := fun i => frozen_of_row _ _ i _ _ r0
  have c1 := fun i => cell_of_row _ _ i _ _ _ r1
  have f1 := fun i => frozen_of_row _ _ i _ _ r1
  unfold rgV
  have HS := Lib.hid (hs.mono (B' := w.heap.size) (by omega)); clear hs hcell hfr h0
  go_upto_region 5 with (fail)
  refine Kt.fold (fun W => W.heap[w.heap.size]? = some (.cells #[.slice (some ⟨g, o, none⟩) r.cs.length cap, .int .i64 r.pa, .int .i64 r.pb, .int .i64 r.ga, .int .i64 r.gb, .int .i64 r.sn] 37 (0, 0)) ∧ W.heap[w.heap.size + 1]? = some (.cells #[.slice none 0 0, .int .i64 0, .int .i64 0, .int .i64 0, .int .i64 0, .int .i64 0] 37 (0, 0)) ∧ Kt.Sl W w.heap.size 96 3 (.slice (some ⟨g, o, none⟩) r.cs.length cap) r.cs.length (cvs r.cs) ∧ Below w.heap.size w W)
    ⟨Kt.fill [.slice (some ⟨g, o, none⟩) r.cs.length cap, .int .i64 r.pa, .int .i64 r.pb, .int .i64 r.ga, .int .i64 r.gb, .int .i64 r.sn] r0 rfl, (Kt.setCells_other [.slice (some ⟨g, o, none⟩) r.cs.length cap, .int .i64 r.pa, .int .i64 r.pb, .int .i64 r.ga, .int .i64 r.gb, .int .i64 r.sn] _ 0 _ _ (by omega)).trans r1, Kt.Sl.sets HS.out [.slice (some ⟨g, o, none⟩) r.cs.length cap, .int .i64 r.pa, .int .i64 r.pb, .int .i64 r.ga, .int .i64 r.gb, .int .i64 r.sn] _ 0 (fun k hk => by rw [hne k hk]; omega), Kt.below_setCells [.slice (some ⟨g, o, none⟩) r.cs.length cap, .int .i64 r.pa, .int .i64 r.pb, .int .i64 r.ga, .int .i64 r.gb, .int .i64 r.sn] _ 0 _ _ (Nat.le_refl _) hbel⟩ ?_
  clear r0 r1 c0 f0 c1 f1 hbel HS
  rintro W4 ⟨r0, r1, hs, hbel⟩
  have HS := Lib.hid hs; clear hs
  have c0 := fun i => cell_of_row _ _ i _ _ _ r0
  have f0 := fun i => frozen_of_row _ _ i _ _ r0
  have c1 := fun i => cell_of_row _ _ i _ _ _ r1
  have f1 := fun i => frozen_of_row _ _ i _ _ r1
  go_wp2_with fail
  unfold learnR
  refine bodyPost_ret (v := .tuple #[rgV (.slice (some ⟨g, o, none⟩) r.cs.length cap) ⟨r.cs, r.pa, r.pb, r.ga, r.gb, r.ga⟩, .int .i64 0]) (by simp [rgV, results, Try.results30, go_sem, c1]) rfl ⟨_, rfl, ⟨_, rfl, ?_⟩, ?_⟩
  · have s3 := HS.out
    repeat (first | with_reducible exact s3 | (with_reducible refine Kt.Sl.set ?_ (fun k hk => by rw [hne k hk]; simp; omega) _))
  · repeat (first | with_reducible exact hbel | (with_reducible refine Kt.bset ?_ (by simp; try omega) _))
theorem new_bad (n : Int) (w : World) (h : n < 3 ∨ 64 < n) : Calls Try.prog 44 #[.int .i64 n] w (LearnBad w) := by
  rcases h with h | h
  · go_enter Try.func44, Try.ntmps44
    go_wp2_with fail
    refine bodyPost_ret (v := .tuple #[zeroR, .int .i64 1]) (by simp [zeroR, rgV, results, Try.results44, go_sem]) rfl ⟨1, by omega, rfl, ?_⟩
    repeat (first | with_reducible exact Below.refl _ _ | (with_reducible refine Kt.balloc ?_ _) | (with_reducible refine Kt.bset ?_ (by simp) _))
  · have h1 : 3 ≤ n := by omega
    go_enter Try.func44, Try.ntmps44
    go_wp2_with fail
    refine bodyPost_ret (v := .tuple #[zeroR, .int .i64 1]) (by simp [zeroR, rgV, results, Try.results44, go_sem]) rfl ⟨1, by omega, rfl, ?_⟩
    repeat (first | with_reducible exact Below.refl _ _ | (with_reducible refine Kt.balloc ?_ _) | (with_reducible refine Kt.bset ?_ (by simp) _))
theorem cvs_link : ∀ (l : List RC) (p : Nat) (y : RC), l[p]? = some y → ∀ b, cvs (l.set p (y.1, y.2.1, b)) = (cvs l).set (p * 3 + 2) (.bool b)
  | [], p, y, h, _ => by simp at h
  | c :: l, 0, y, h, b => by
    simp at h; subst h; rfl
  | c :: l, p + 1, y, h, b => by
    have e : ∀ c l, cvs (c :: l) = cv c ++ cvs l := fun _ _ => rfl
    have hl : (cv c).length = 3 := rfl
    rw [List.set_cons_succ, e, e, cvs_link l p y (by simpa using h) b, set_app_right _ _ _ _ (by omega), hl, show (p + 1) * 3 + 2 - 3 = p * 3 + 2 by omega]
theorem made_cells (n : Nat) : (madeCells (Value.agg #[.int .u64 0, .int .i64 0, .bool false]).cells (n * 3)).toList = cvs (List.replicate n (0, 0, false)) := by
  apply List.ext_getElem?
  intro i
  have hd : i / 3 * 3 + i % 3 = i := by omega
  have hm : i % 3 < 3 := Nat.mod_lt _ (by omega)
  conv => rhs; rw [← hd, cvs_get _ _ _ hm, List.getElem?_replicate]
  unfold madeCells
  by_cases hi : i < n * 3
  · rw [if_pos (by omega)]
    simp only [Array.toList_map, Array.toList_range, List.getElem?_map, List.getElem?_range hi, Option.map_some, Option.bind_some]
    show some (#[Value.int .u64 0, .int .i64 0, .bool false][i % 3]!) = [Value.int .u64 0, .int .i64 0, .bool false][i % 3]?
    have : i % 3 = 0 ∨ i % 3 = 1 ∨ i % 3 = 2 := by omega
    rcases this with h | h | h <;> rw [h] <;> rfl
  · rw [if_neg (by omega)]
    simp; omega
set_option maxHeartbeats 1600000 in
theorem new_ok (n : Nat) (w : World) (h3 : 3 ≤ n) (h64 : n ≤ 64) : Calls Try.prog 44 #[.int .i64 n] w (Gives w (newR n)) := by
  have d1 : (3 : Int) ≤ n := by omega
  have d2 : (n : Int) ≤ 64 := by omega
  obtain ⟨i0, hi, hz0, hz1, hz2⟩ := info_parts infoCell
  have hmk := fun w => run_makeSlice (P := Try.prog) w 33 96 i0 _ Try.underlying33 hi hz0 .i64 .i64 n n (by omega) (Int.le_refl _) (by rw [hz1]; omega) (by rw [hz2]; omega) (by omega)
  rw [hz1, Int.toNat_natCast] at hmk
  have hM := made_cells n
  generalize madeCells (Value.agg #[.int .u64 0, .int .i64 0, .bool false]).cells (n * 3) = M at *
  have hl : (cvs (List.replicate n (0, 0, false)))[(n - 1) * 3 + 2]? = some (.bool false) := by
    rw [cvs_get _ _ _ (by omega), List.getElem?_replicate, if_pos (by omega)]; rfl
  have hMl : M[(n - 1) * 3 + 2]? = some (.bool false) := by rw [← hl, ← hM]; simp
  have hMs : M.size = n * 3 := by have := congrArg List.length hM; rw [cvs_len, List.length_replicate] at this; simpa using this
  have HM := Lib.hid hM; have HMS := Lib.hid hMs
  clear hi hz0 hz1 hz2 hM hMs hl
  have t2 : ((n : Int) - 1).toNat = n - 1 := by omega
  have t3 : (0 : Int) ≤ (n : Int) - 1 := by omega
  go_enter Try.func44, Try.ntmps44
  go_wp2_with fail
  refine bodyPost_ret (v := .tuple #[rgV (.slice (some ⟨w.heap.size + 1, 0, none⟩) n n) (newR n), .int .i64 0]) (by simp [rgV, newR, results, Try.results44, go_sem]) rfl ⟨_, rfl, ⟨_, rfl, ?_⟩, ?_⟩
  · have hz : (List.replicate n ((0, 0, false) : RC))[n - 1]? = some (0, 0, false) := by rw [List.getElem?_replicate, if_pos (by omega)]
    have e1 : (newR n).cs = (List.replicate n ((0, 0, false) : RC)).set (n - 1) (0, 0, true) := modify_set _ _ _ _ hz
    have e2 : cvs (newR n).cs = M.toList.set ((n - 1) * 3 + 2) (.bool true) := by rw [e1, HM.out]; exact cvs_link _ _ _ hz true
    have e3 : (newR n).cs.length = n := by rw [e1]; simp
    have e4 := HMS.out
    rw [e2, e3]
    refine ⟨by simp; omega, .inr ⟨w.heap.size + 1, 0, n, M.setIfInBounds ((n - 1) * 3 + 2) (.bool true), rfl, by omega, ?_, Nat.le_refl _, by unfold maxLen; omega, by simp; omega, fun j u hj => ?_⟩⟩
    · have hs1 : ∀ (w : World) (o : Obj), (w.alloc o).heap.size = w.heap.size + 1 := fun w o => World.size_alloc w o
      rw [Below.heap_alloc _ _ _ (by rw [hs1, hs1]; omega)]
      exact (congrArg _ (hs1 w _).symm).trans (heap_alloc_new (w.alloc _) _)
    · rw [Nat.zero_add, ← Array.getElem?_toList, Array.toList_setIfInBounds]; exact hj
  · repeat (first | with_reducible exact Below.refl _ _ | (with_reducible refine Kt.balloc ?_ _) | (with_reducible refine Kt.bset ?_ (by simp) _))
end Go.Proofs.Ytidcbboonjenhaa
