/- The walks of package ring: New, Put, Get, Learn. -/
import Derived.Test.YtidcbboonjenhaaRngC
namespace Go.Proofs.Ytidcbboonjenhaa
open Go.RowKit
def zeroR : Value := rgV (.slice none 0 0) ⟨[], 0, 0, 0, 0, 0⟩
def PutBad (w : World) (P : Int → Prop) (e : Ending) (w' : World) : Prop := ∃ n : Int, P n ∧ e = .returned (.tuple #[zeroR, .int .i64 n]) ∧ Below w.heap.size w w'
def Gives (w : World) (r : Rg) (e : Ending) (w' : World) : Prop := ∃ v, e = .returned (.tuple #[v, .int .i64 0]) ∧ RO w' w.heap.size v r ∧ Below w.heap.size w w'
set_option maxHeartbeats 800000 in
theorem put_bad (V : Value) (r : Rg) (x : Int) (w : World) (h : RA w V r) (hn : r.cs.length ≤ 1048576) (hr : ¬ Right r) : Calls Try.prog 28 #[V, .int .u64 x] w (PutBad w (· ≠ 0)) := by
  have h0 := h
  have HR := Lib.hid hr; clear hr
  obtain ⟨C, rfl, hC⟩ := h
  unfold rgV
  clear hC
  go_enter Try.func28, Try.ntmps28
  go_wp2_with fail
  refine (rchk_calls _ r _ (h0.on (Kt.balloc (Kt.balloc (Below.refl _ w) _) _)) hn).mono ?_
  rintro en w1 ⟨n, rfl, h1, hb⟩
  have hn0 : n ≠ 0 := fun e => HR.out (h1.1 e)
  have hn1 : (n != 0) = true := by rw [bne_iff_ne]; exact hn0
  have HN := Lib.hid hn0
  obtain ⟨r0, r1⟩ := Kt.box2 hb
  have hbel := Kt.bthen (Kt.balloc (Kt.balloc (Below.refl _ w) _) _) hb
  clear h1 hb h0 hn0
  have c0 := fun i => cell_of_row _ _ i _ _ _ r0
  have f0 := fun i => frozen_of_row _ _ i _ _ r0
  have c1 := fun i => cell_of_row _ _ i _ _ _ r1
  have f1 := fun i => frozen_of_row _ _ i _ _ r1
  go_wp2_with fail
  refine bodyPost_ret (v := .tuple #[zeroR, .int .i64 n]) (by simp [zeroR, rgV, results, Try.results28, go_sem, c1]) rfl ⟨n, HN.out, rfl, ?_⟩
  repeat (first | with_reducible exact hbel | refine Kt.bset ?_ (by simp) _)
theorem right_bd {r : Rg} (hr : Right r) : (0 ≤ r.pa ∧ r.pa ≤ 100) ∧ (0 ≤ r.pb ∧ r.pb ≤ 1) ∧ (0 ≤ r.ga ∧ r.ga ≤ 100) ∧ (0 ≤ r.gb ∧ r.gb ≤ 1) ∧ (0 < r.cs.length ∧ r.cs.length ≤ 100) ∧ (0 ≤ r.sn ∧ r.sn ≤ 100) := by
  have h1 := hr.pa; have h2 := hr.ga; have h3 := hr.lo; have h4 := hr.hi
  have h5 := bit_cases.1 hr.pb; have h6 := bit_cases.1 hr.gb; have h7 := hr.sn
  refine ⟨⟨?_, ?_⟩, ⟨?_, ?_⟩, ⟨?_, ?_⟩, ⟨?_, ?_⟩, ⟨?_, ?_⟩, ?_, ?_⟩ <;> omega
set_option maxHeartbeats 1600000 in
theorem put_full (V : Value) (r : Rg) (x : Int) (w : World) (h : RA w V r) (hr : Right r) (hf : fullB r = true) : Calls Try.prog 28 #[V, .int .u64 x] w (PutBad w (· = 11)) := by
  have h0 := h
  obtain ⟨b1, b2, _, _, b5, _⟩ := right_bd hr
  have HR := Lib.hid hr; clear hr
  have HF := Lib.hid hf; clear hf
  obtain ⟨C, rfl, hC⟩ := h
  obtain ⟨A, c, rfl, _, _⟩ := hC.form
  unfold rgV
  clear hC
  go_enter Try.func28, Try.ntmps28
  go_wp2_with fail
  refine (check_right _ r _ (h0.on (Kt.balloc (Kt.balloc (Below.refl _ w) _) _)) HR.out).mono ?_
  rintro en w1 ⟨rfl, hb⟩
  obtain ⟨r0, r1⟩ := Kt.box2 hb
  have hbel := Kt.bthen (Kt.balloc (Kt.balloc (Below.refl _ w) _) _) hb
  clear hb h0
  have c0 := fun i => cell_of_row _ _ i _ _ _ r0
  have f0 := fun i => frozen_of_row _ _ i _ _ r0
  have c1 := fun i => cell_of_row _ _ i _ _ _ r1
  have f1 := fun i => frozen_of_row _ _ i _ _ r1
  go_wp2_with fail
  refine (advance_calls _ _ _ _ b1 b2 b5).mono ?_
  rintro en w2 ⟨rfl, hb⟩
  have hz1 : w.heap.size + 1 < w1.heap.size := (Array.getElem?_eq_some_iff.1 r1).1
  replace r0 := Kt.row_on hb r0
  replace r1 := Kt.row_on hb r1
  replace hbel := Kt.bthen hbel hb
  have hz2 : w.heap.size + 1 < w2.heap.size := (Array.getElem?_eq_some_iff.1 r1).1
  have hz2a : w.heap.size < w2.heap.size := by omega
  clear hb c0 f0 c1 f1 hz1
  have c0 := fun i => cell_of_row _ _ i _ _ _ r0
  have f0 := fun i => frozen_of_row _ _ i _ _ r0
  have c1 := fun i => cell_of_row _ _ i _ _ _ r1
  have f1 := fun i => frozen_of_row _ _ i _ _ r1
  have e1 : ((adv r.pa r.pb r.cs.length).1 == r.sn) = true := HF.out
  unfold markV
  generalize (adv r.pa r.pb r.cs.length).1 = a1 at *
  generalize (adv r.pa r.pb r.cs.length).2 = a2 at *
  go_wp2_with fail
  refine bodyPost_ret (v := .tuple #[zeroR, .int .i64 11]) (by simp [zeroR, rgV, results, Try.results28, go_sem, c1, hz2]) rfl ⟨11, rfl, rfl, ?_⟩
  repeat (first | with_reducible exact hbel | (with_reducible refine Kt.balloc ?_ _) | (with_reducible refine Kt.bset ?_ (by simp) _))
theorem set_app_left {α : Type} (a b : List α) (i : Nat) (v : α) (h : i < a.length) : (a ++ b).set i v = a.set i v ++ b := by rw [List.set_append, if_pos h]
theorem set_app_right {α : Type} (a b : List α) (i : Nat) (v : α) (h : a.length ≤ i) : (a ++ b).set i v = a ++ b.set (i - a.length) v := by rw [List.set_append, if_neg (by omega)]
theorem cvs_set : ∀ (l : List RC) (p : Nat) (y : RC), l[p]? = some y → ∀ a b, cvs (l.set p (a, b, y.2.2)) = ((cvs l).set (p * 3) (.int .u64 a)).set (p * 3 + 1) (.int .i64 b)
  | [], p, y, h, _, _ => by simp at h
  | c :: l, 0, y, h, a, b => by
    simp at h; subst h; rfl
  | c :: l, p + 1, y, h, a, b => by
    have e : ∀ c l, cvs (c :: l) = cv c ++ cvs l := fun _ _ => rfl
    have hl : (cv c).length = 3 := rfl
    rw [List.set_cons_succ, e, e, cvs_set l p y (by simpa using h) a b, set_app_right _ _ _ _ (by omega), set_app_right _ _ _ _ (by omega), hl, show (p + 1) * 3 - 3 = p * 3 by omega, show (p + 1) * 3 + 1 - 3 = p * 3 + 1 by omega]
theorem cvs_bit : ∀ (l : List RC) (p : Nat) (y : RC), l[p]? = some y → ∀ b, cvs (l.set p (y.1, b, y.2.2)) = (cvs l).set (p * 3 + 1) (.int .i64 b)
  | [], p, y, h, _ => by simp at h
  | c :: l, 0, y, h, b => by
    simp at h; subst h; rfl
  | c :: l, p + 1, y, h, b => by
    have e : ∀ c l, cvs (c :: l) = cv c ++ cvs l := fun _ _ => rfl
    have hl : (cv c).length = 3 := rfl
    rw [List.set_cons_succ, e, e, cvs_bit l p y (by simpa using h) b, set_app_right _ _ _ _ (by omega), hl, show (p + 1) * 3 + 1 - 3 = p * 3 + 1 by omega]
theorem modify_set {α : Type} (l : List α) (p : Nat) (f : α → α) (y : α) (h : l[p]? = some y) : l.modify p f = l.set p (f y) := by
  apply List.ext_getElem?
  intro i
  rw [List.getElem?_modify, List.getElem?_set]
  by_cases e : p = i
  · subst e
    have := (List.getElem?_eq_some_iff.1 h).1
    rw [List.getElem?_eq_getElem this] at h
    injection h with h
    simp [this, h]
  · simp [e]
theorem putCs_one (r : Rg) (x : Int) (p : Nat) (y : RC) (hp : r.pa = p) (hy : r.cs[p]? = some y) (h : p + 2 ≠ r.cs.length) : cvs (putCs r x) = ((cvs r.cs).set (p * 3) (.int .u64 x)).set (p * 3 + 1) (.int .i64 r.pb) := by
  have := (List.getElem?_eq_some_iff.1 hy).1
  unfold putCs
  dsimp only
  rw [if_neg (by omega), hp, Int.toNat_natCast, modify_set _ _ _ _ hy]
  exact cvs_set _ _ _ hy _ _
theorem putCs_two (r : Rg) (x : Int) (p : Nat) (y z : RC) (hp : r.pa = p) (hy : r.cs[p]? = some y) (hz : r.cs[p + 1]? = some z) (h : p + 2 = r.cs.length) :
    cvs (putCs r x) = (((cvs r.cs).set (p * 3) (.int .u64 x)).set (p * 3 + 1) (.int .i64 r.pb)).set ((p + 1) * 3 + 1) (.int .i64 r.pb) := by
  unfold putCs
  dsimp only
  rw [if_pos (by omega), hp, Int.toNat_natCast, modify_set _ _ _ _ hy, show r.cs.length - 1 = p + 1 by omega]
  have hz' : (r.cs.set p (x, r.pb, y.2.2))[p + 1]? = some z := by rw [List.getElem?_set_ne (by omega)]; exact hz
  rw [modify_set _ _ _ _ hz', cvs_bit _ _ _ hz', cvs_set _ _ _ hy]
set_option maxHeartbeats 1600000 in
theorem put_ok (V : Value) (r : Rg) (x : Int) (w : World) (h : RA w V r) (hr : Right r) (hf : fullB r = false) : Calls Try.prog 28 #[V, .int .u64 x] w (Gives w (putR r x)) := by
  have h0 := h
  obtain ⟨b1, b2, _, _, b5, _⟩ := right_bd hr
  have b6 := hr.pa
  have b7 := hr.lo
  have HR := Lib.hid hr; clear hr
  have HF := Lib.hid hf; clear hf
  obtain ⟨C, rfl, hC⟩ := h
  obtain ⟨A, c, rfl, _, _⟩ := hC.form
  unfold rgV
  clear hC
  go_enter Try.func28, Try.ntmps28
  go_wp2_with fail
  refine (check_right _ r _ (h0.on (Kt.balloc (Kt.balloc (Below.refl _ w) _) _)) HR.out).mono ?_
  rintro en w1 ⟨rfl, hb⟩
  obtain ⟨r0, r1⟩ := Kt.box2 hb
  have hbel := Kt.bthen (Kt.balloc (Kt.balloc (Below.refl _ w) _) _) hb
  clear hb
  have c0 := fun i => cell_of_row _ _ i _ _ _ r0
  have f0 := fun i => frozen_of_row _ _ i _ _ r0
  have c1 := fun i => cell_of_row _ _ i _ _ _ r1
  have f1 := fun i => frozen_of_row _ _ i _ _ r1
  go_wp2_with fail
  refine (advance_calls _ _ _ _ b1 b2 b5).mono ?_
  rintro en w2 ⟨rfl, hb⟩
  have hz1 : w.heap.size + 1 < w1.heap.size := (Array.getElem?_eq_some_iff.1 r1).1
  replace r0 := Kt.row_on hb r0
  replace r1 := Kt.row_on hb r1
  replace hbel := Kt.bthen hbel hb
  have hz2 : w.heap.size + 1 < w2.heap.size := (Array.getElem?_eq_some_iff.1 r1).1
  have hz2a : w.heap.size < w2.heap.size := by omega
  clear hb c0 f0 c1 f1 hz1
  have c0 := fun i => cell_of_row _ _ i _ _ _ r0
  have f0 := fun i => frozen_of_row _ _ i _ _ r0
  have c1 := fun i => cell_of_row _ _ i _ _ _ r1
  have f1 := fun i => frozen_of_row _ _ i _ _ r1
  have e1 : ((adv r.pa r.pb r.cs.length).1 == r.sn) = false := HF.out
  unfold markV
  have HPUT := Lib.hid (show ∀ cs, putCs r x = cs → putR r x = ⟨cs, (adv r.pa r.pb r.cs.length).1, (adv r.pa r.pb r.cs.length).2, r.ga, r.gb, r.sn⟩ from fun cs h => by rw [← h]; rfl)
  generalize (adv r.pa r.pb r.cs.length).1 = a1 at *
  generalize (adv r.pa r.pb r.cs.length).2 = a2 at *
  go_wp2_with fail
  refine (copied_calls _ r _ (h0.on (Kt.balloc hbel _)) (by omega)).mono ?_
  rintro en w3 ⟨v, rfl, ⟨C', rfl, hs⟩, hb⟩
  have r2 := Kt.row_on hb (heap_alloc_new w2 _)
  replace r0 := Kt.row_on hb ((Below.heap_alloc _ _ _ (by omega)).trans r0)
  replace r1 := Kt.row_on hb ((Below.heap_alloc _ _ _ (by omega)).trans r1)
  replace hbel := Kt.bthen (Kt.balloc hbel _) hb
  obtain ⟨g, o, cap, rfl, hg1, hg2, hg3, hg4, hcell, hfr⟩ := hs.cells b5.1
  have hgz : w2.heap.size < g := by simp at hg1; omega
  have hz3 : w2.heap.size < w3.heap.size := by omega
  clear hb c0 f0 c1 f1 hg1
  have c0 := fun i => cell_of_row _ _ i _ _ _ r0
  have f0 := fun i => frozen_of_row _ _ i _ _ r0
  have c1 := fun i => cell_of_row _ _ i _ _ _ r1
  have f1 := fun i => frozen_of_row _ _ i _ _ r1
  have c2 := fun i => cell_of_row _ _ i _ _ _ r2
  have f2 := fun i => frozen_of_row _ _ i _ _ r2
  unfold rgV
  have HS := Lib.hid hs; clear hs hcell hfr
  obtain ⟨p, hp⟩ : ∃ p : Nat, r.pa = p := ⟨r.pa.toNat, by omega⟩
  have hpn : p + 1 < r.cs.length := by omega
  obtain ⟨y, hy⟩ : ∃ y, r.cs[p]? = some y := ⟨_, List.getElem?_eq_getElem (by omega)⟩
  obtain ⟨y1, y2, y3⟩ := y
  have x0 : (cvs r.cs)[p * 3]? = some (.int .u64 y1) := by have := cvs_get r.cs p 0 (by omega); rw [hy] at this; exact this
  have x1 : (cvs r.cs)[p * 3 + 1]? = some (.int .i64 y2) := by have := cvs_get r.cs p 1 (by omega); rw [hy] at this; exact this
  have HY := Lib.hid hy; clear hy
  have X0 := Lib.hid x0; have X1 := Lib.hid x1; clear x0 x1
  have hgw : w.heap.size < g := by omega
  by_cases hl : p + 2 = r.cs.length
  · obtain ⟨z, hz⟩ : ∃ z, r.cs[p + 1]? = some z := ⟨_, List.getElem?_eq_getElem (by omega)⟩
    obtain ⟨z1, z2, z3⟩ := z
    have x2 : (cvs r.cs)[(p + 1) * 3 + 1]? = some (.int .i64 z2) := by have := cvs_get r.cs (p + 1) 1 (by omega); rw [hz] at this; exact this
    have X2 := Lib.hid x2; clear x2
    have HZ := Lib.hid hz; clear hz
    have t1 : ((p : Int) == (r.cs.length : Int) - 2) = true := by rw [beq_iff_eq]; omega
    have t2 : ((r.cs.length : Int) - 1).toNat = p + 1 := by omega
    have t3 : (0 : Int) ≤ (r.cs.length : Int) - 1 := by omega
    have HL := Lib.hid hl
    clear hl
    go_wp2_with fail
    refine Kt.fold (fun W => W.heap[w.heap.size]? = some (.cells #[.slice (some ⟨g, o, none⟩) r.cs.length cap, .int .i64 p, .int .i64 r.pb, .int .i64 r.ga, .int .i64 r.gb, .int .i64 r.sn] 37 (0, 0)) ∧ W.heap[w.heap.size + 1]? = some (.cells #[.slice none 0 0, .int .i64 0, .int .i64 0, .int .i64 0, .int .i64 0, .int .i64 0] 37 (0, 0)) ∧ W.heap[w2.heap.size]? = some (.cells #[.int .i64 a1, .int .i64 a2] 35 (0, 0)) ∧ Kt.Sl W w.heap.size 96 3 (.slice (some ⟨g, o, none⟩) r.cs.length cap) r.cs.length (cvs r.cs) ∧ Below w.heap.size w W)
      ⟨Kt.fill [.slice (some ⟨g, o, none⟩) r.cs.length cap, .int .i64 p, .int .i64 r.pb, .int .i64 r.ga, .int .i64 r.gb, .int .i64 r.sn] r0 rfl, (Kt.setCells_other [.slice (some ⟨g, o, none⟩) r.cs.length cap, .int .i64 p, .int .i64 r.pb, .int .i64 r.ga, .int .i64 r.gb, .int .i64 r.sn] _ 0 _ _ (by omega)).trans r1, (Kt.setCells_other [.slice (some ⟨g, o, none⟩) r.cs.length cap, .int .i64 p, .int .i64 r.pb, .int .i64 r.ga, .int .i64 r.gb, .int .i64 r.sn] _ 0 _ _ (by omega)).trans r2, Kt.Sl.sets (HS.out.mono (by simp; omega)) [.slice (some ⟨g, o, none⟩) r.cs.length cap, .int .i64 p, .int .i64 r.pb, .int .i64 r.ga, .int .i64 r.gb, .int .i64 r.sn] _ 0 (fun k hk => by have : g = k := Option.some.inj hk; omega), Kt.below_setCells [.slice (some ⟨g, o, none⟩) r.cs.length cap, .int .i64 p, .int .i64 r.pb, .int .i64 r.ga, .int .i64 r.gb, .int .i64 r.sn] _ 0 _ _ (Nat.le_refl _) hbel⟩ ?_
    clear r0 r1 r2 c0 c1 c2 f0 f1 f2 hbel HS
    rintro W4 ⟨r0, r1, r2, hs, hbel⟩
    have c0 := fun i => cell_of_row _ _ i _ _ _ r0
    have f0 := fun i => frozen_of_row _ _ i _ _ r0
    have c1 := fun i => cell_of_row _ _ i _ _ _ r1
    have f1 := fun i => frozen_of_row _ _ i _ _ r1
    have c2 := fun i => cell_of_row _ _ i _ _ _ r2
    have f2 := fun i => frozen_of_row _ _ i _ _ r2
    have q0 := Kt.sl_cell hs (p * 3) _ X0.out
    have q1 : W4.cell? ⟨g, o + p * 3 + 1, none⟩ = _ := Kt.sl_cell hs (p * 3 + 1) _ X1.out
    have q2 : W4.cell? ⟨g, o + (p + 1) * 3 + 1, none⟩ = _ := Kt.sl_cell hs ((p + 1) * 3 + 1) _ X2.out
    have q3 := fun j => Kt.sl_free hs j
    have HS := Lib.hid hs; have hz4 : w2.heap.size < W4.heap.size := (Array.getElem?_eq_some_iff.1 r2).1
    clear hs
    go_region
    all_goals go_wp2_with fail
    all_goals
      rw [HPUT.out _ rfl]
      refine bodyPost_ret (v := .tuple #[rgV (.slice (some ⟨g, o, none⟩) r.cs.length cap) ⟨putCs r x, a1, a2, r.ga, r.gb, r.sn⟩, .int .i64 0]) (by simp [rgV, results, Try.results28, go_sem, c1]) rfl ⟨_, rfl, ⟨_, rfl, ?_⟩, ?_⟩
      · dsimp only
        rw [putCs_len, putCs_two r x p _ _ hp HY.out HZ.out HL.out]
        have s1 := HS.out.put' (p * 3) rfl (by omega) (.int .u64 x)
        have s2 := s1.put' (a := o + p * 3 + 1) (p * 3 + 1) (by omega) (by omega) (.int .i64 r.pb)
        have s3 := s2.put' (a := o + (p + 1) * 3 + 1) ((p + 1) * 3 + 1) (by omega) (by omega) (.int .i64 r.pb)
        have hne : ∀ k, (Value.slice (some ⟨g, o, none⟩) r.cs.length cap).ownBlock = some k → k = g := fun k hk => (Option.some.inj hk).symm
        refine Kt.Sl.drew ?_
        repeat (first | with_reducible exact s3 | (with_reducible refine Kt.Sl.set ?_ (fun k hk => by rw [hne k hk]; simp; omega) _))
      · refine Below.drew ?_
        repeat (first | with_reducible exact hbel | (with_reducible refine Kt.bset ?_ (by simp; try omega) _))
  · have t1 : ((p : Int) == (r.cs.length : Int) - 2) = false := by rw [beq_eq_false_iff_ne]; omega
    have HL := Lib.hid hl
    clear hl
    go_wp2_with fail
    refine Kt.fold (fun W => W.heap[w.heap.size]? = some (.cells #[.slice (some ⟨g, o, none⟩) r.cs.length cap, .int .i64 p, .int .i64 r.pb, .int .i64 r.ga, .int .i64 r.gb, .int .i64 r.sn] 37 (0, 0)) ∧ W.heap[w.heap.size + 1]? = some (.cells #[.slice none 0 0, .int .i64 0, .int .i64 0, .int .i64 0, .int .i64 0, .int .i64 0] 37 (0, 0)) ∧ W.heap[w2.heap.size]? = some (.cells #[.int .i64 a1, .int .i64 a2] 35 (0, 0)) ∧ Kt.Sl W w.heap.size 96 3 (.slice (some ⟨g, o, none⟩) r.cs.length cap) r.cs.length (cvs r.cs) ∧ Below w.heap.size w W)
      ⟨Kt.fill [.slice (some ⟨g, o, none⟩) r.cs.length cap, .int .i64 p, .int .i64 r.pb, .int .i64 r.ga, .int .i64 r.gb, .int .i64 r.sn] r0 rfl, (Kt.setCells_other [.slice (some ⟨g, o, none⟩) r.cs.length cap, .int .i64 p, .int .i64 r.pb, .int .i64 r.ga, .int .i64 r.gb, .int .i64 r.sn] _ 0 _ _ (by omega)).trans r1, (Kt.setCells_other [.slice (some ⟨g, o, none⟩) r.cs.length cap, .int .i64 p, .int .i64 r.pb, .int .i64 r.ga, .int .i64 r.gb, .int .i64 r.sn] _ 0 _ _ (by omega)).trans r2, Kt.Sl.sets (HS.out.mono (by simp; omega)) [.slice (some ⟨g, o, none⟩) r.cs.length cap, .int .i64 p, .int .i64 r.pb, .int .i64 r.ga, .int .i64 r.gb, .int .i64 r.sn] _ 0 (fun k hk => by have : g = k := Option.some.inj hk; omega), Kt.below_setCells [.slice (some ⟨g, o, none⟩) r.cs.length cap, .int .i64 p, .int .i64 r.pb, .int .i64 r.ga, .int .i64 r.gb, .int .i64 r.sn] _ 0 _ _ (Nat.le_refl _) hbel⟩ ?_
    clear r0 r1 r2 c0 c1 c2 f0 f1 f2 hbel HS
    rintro W4 ⟨r0, r1, r2, hs, hbel⟩
    have c0 := fun i => cell_of_row _ _ i _ _ _ r0
    have f0 := fun i => frozen_of_row _ _ i _ _ r0
    have c1 := fun i => cell_of_row _ _ i _ _ _ r1
    have f1 := fun i => frozen_of_row _ _ i _ _ r1
    have c2 := fun i => cell_of_row _ _ i _ _ _ r2
    have f2 := fun i => frozen_of_row _ _ i _ _ r2
    have q0 := Kt.sl_cell hs (p * 3) _ X0.out
    have q1 : W4.cell? ⟨g, o + p * 3 + 1, none⟩ = _ := Kt.sl_cell hs (p * 3 + 1) _ X1.out
    have q3 := fun j => Kt.sl_free hs j
    have HS := Lib.hid hs; have hz4 : w2.heap.size < W4.heap.size := (Array.getElem?_eq_some_iff.1 r2).1
    clear hs
    go_region
    all_goals go_wp2_with fail
    all_goals
      rw [HPUT.out _ rfl]
      refine bodyPost_ret (v := .tuple #[rgV (.slice (some ⟨g, o, none⟩) r.cs.length cap) ⟨putCs r x, a1, a2, r.ga, r.gb, r.sn⟩, .int .i64 0]) (by simp [rgV, results, Try.results28, go_sem, c1]) rfl ⟨_, rfl, ⟨_, rfl, ?_⟩, ?_⟩
      · dsimp only
        rw [putCs_len, putCs_one r x p _ hp HY.out HL.out]
        have s1 := HS.out.put' (p * 3) rfl (by omega) (.int .u64 x)
        have s2 := s1.put' (a := o + p * 3 + 1) (p * 3 + 1) (by omega) (by omega) (.int .i64 r.pb)
        have hne : ∀ k, (Value.slice (some ⟨g, o, none⟩) r.cs.length cap).ownBlock = some k → k = g := fun k hk => (Option.some.inj hk).symm
        refine Kt.Sl.drew ?_
        repeat (first | with_reducible exact s2 | (with_reducible refine Kt.Sl.set ?_ (fun k hk => by rw [hne k hk]; simp; omega) _))
      · refine Below.drew ?_
        repeat (first | with_reducible exact hbel | (with_reducible refine Kt.bset ?_ (by simp; try omega) _))
end Go.Proofs.Ytidcbboonjenhaa
