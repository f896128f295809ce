/- The walk of keys.Diff (under way). -/
import Derived.Test.YtfcmmeapinppaaaKeyI
namespace Go.Proofs.Ytfcmmeapinppaaa
open Go.RowKit Go.Shelf
attribute [local go_sem] Oper.semAt_some
theorem infoK : (Try.prog.info? 47).map (fun i => (i.zero, i.size, i.bytes)) = some (some (.agg #[.int .i64 0, .bool false]), 2, 16) := by kernel_rfl
/-- the cells of events -/
def evs (d : Bool) (l : List (Fin 256)) : List Value := l.flatMap fun (c : Fin 256) => [.int .i64 (c.val : Int), .bool d]
theorem evs_len (d : Bool) (l : List (Fin 256)) : (evs d l).length = 2 * l.length := by
  induction l with
  | nil => rfl
  | cons c l ih => simp only [evs, List.flatMap_cons, List.length_append, List.length_cons, List.length_nil] at ih ⊢; omega
theorem evs_app (d : Bool) (a b : List (Fin 256)) : evs d (a ++ b) = evs d a ++ evs d b := by simp [evs]
/-- the codes that the other set lacks -/
def lack (o : Hd) (l : List (Fin 256)) : List (Fin 256) := l.filter fun c => !o.has c.val
theorem lack_snoc (o : Hd) (l : List (Fin 256)) (c : Fin 256) : lack o (l ++ [c]) = if o.has c.val then lack o l else lack o l ++ [c] := by
  unfold lack
  rw [List.filter_append]
  cases h : o.has c.val <;> simp [h]
/-- a block below the loop's own lies as it lay -/
theorem ownFrom_row {β : Type} {B k : Nat} (o : Obj) (hk : k < B) : OwnFrom B (fun (_ : β) W => W.heap[k]? = some o) := fun s W W' row hs hg hr =>
  (hg.block k (Array.getElem?_eq_some_iff.1 hs).1 (fun e => by have := (hr k e.symm).1; omega)).trans hs
theorem row_ne {W : World} {k n₀ m size : Nat} {cs : Array Value} {t e : TypeId} {v : Value} {xs : List Value} (hk : W.heap[k]? = some (.cells cs t (0, 0))) (hte : t ≠ e) (hrow : W.ownsRow n₀ e size v m xs) : some k ≠ v.ownBlock := by
  intro h
  rcases hrow.2 with ⟨rfl, _⟩ | ⟨g, cap, cur, rfl, _, hg, _⟩
  · simp [Value.ownBlock] at h
  · obtain rfl : k = g := by simpa [Value.ownBlock] using h
    rw [hk] at hg
    cases hg
    exact hte rfl
theorem row_after {W w4 : World} {k n₀ m size : Nat} {cs : Array Value} {t e : TypeId} {v : Value} {xs : List Value} {tmp : Obj} {b : Nat} {u : Value} (hk : W.heap[k]? = some (.cells cs t (0, 0))) (hte : t ≠ e) (hrow : W.ownsRow n₀ e size v m xs)
    (hg : (W.alloc tmp).grownBy w4 v.ownBlock) (hb : k ≠ b) : (w4.setCell ⟨b, 0, none⟩ u).heap[k]? = some (.cells cs t (0, 0)) := by
  have hlt := (Array.getElem?_eq_some_iff.1 hk).1
  refine (heap_setCell_other _ _ _ _ hb).trans ((hg.block k (by rw [World.size_alloc]; omega) (row_ne hk hte hrow)).trans ((Below.heap_alloc _ _ _ hlt).trans hk))
set_option maxRecDepth 100000 in
set_option maxHeartbeats 2000000 in
theorem diff_calls (x y : Hd) (w : World) : Calls Try.prog 10 #[x.v, y.v] w fun e w' => ∃ V, e = .returned V ∧
    w'.ownsRow w.heap.size 47 2 V ((lack y (codesL x 256)).length + (lack x (codesL y 256)).length) (evs false (lack y (codesL x 256)) ++ evs true (lack x (codesL y 256))) ∧ Below w.heap.size w w' := by
  refine (callsIn_wide (n := 8)).1 ?_
  obtain ⟨i0, hi, hz0, hz1, hz2⟩ := info_parts infoK
  refine callsIn_of_wp_marks Try.func10 rfl trivial ?_ rfl
  simp only [Try.ntmps10, List.size_toArray, List.length_cons, List.length_nil, Nat.reduceAdd, Nat.reduceSub, Array.replicate_succ, Array.replicate_zero, List.push_toArray, List.append_toArray, List.nil_append, List.cons_append]
  unfold Hd.v Hd.vs
  gi_wp2_with fail
  refine ⟨trivial, (codes_in _ x _).mono ?_⟩
  rintro e w1 ⟨rfl, hw1⟩
  gi_wp2_with fail
  have hW : (w1 : World) = (((w.alloc (.cells x.vs 27)).alloc (.cells y.vs 27)).alloc (.cells #[.slice none 0 0] 32)).alloc (.cells x.vs 27) := hw1
  have e0 : w.heap.size < (w.alloc (.cells x.vs 27)).heap.size := by rw [World.size_alloc]; omega
  have R0 : w1.heap[w.heap.size]? = some (.cells x.vs 27 (0, 0)) := by
    rw [hW]
    exact (Below.heap_alloc _ _ _ (by simp only [World.size_alloc]; omega)).trans ((Below.heap_alloc _ _ _ (by simp only [World.size_alloc]; omega)).trans ((Below.heap_alloc _ _ _ (by simp only [World.size_alloc]; omega)).trans (heap_alloc_new w _)))
  have R1 : w1.heap[w.heap.size + 1]? = some (.cells y.vs 27 (0, 0)) := by
    rw [hW]
    have := heap_alloc_new (w.alloc (.cells x.vs 27)) (.cells y.vs 27)
    rw [World.size_alloc] at this
    exact (Below.heap_alloc _ _ _ (by simp only [World.size_alloc]; omega)).trans ((Below.heap_alloc _ _ _ (by simp only [World.size_alloc]; omega)).trans this)
  have R2 : Boxed w1 (w.heap.size + 1 + 1) 32 (.slice none 0 0) := by
    rw [hW]
    have := heap_alloc_new ((w.alloc (.cells x.vs 27)).alloc (.cells y.vs 27)) (.cells #[.slice none 0 0] 32)
    rw [World.size_alloc, World.size_alloc] at this
    exact (Below.heap_alloc _ _ _ (by simp only [World.size_alloc]; omega)).trans this
  have R3 : w1.heap[w.heap.size + 1 + 1 + 1]? = some (.cells x.vs 27 (0, 0)) := by
    rw [hW]
    have := heap_alloc_new (((w.alloc (.cells x.vs 27)).alloc (.cells y.vs 27)).alloc (.cells #[.slice none 0 0] 32)) (.cells x.vs 27)
    rw [World.size_alloc, World.size_alloc, World.size_alloc] at this
    exact this
  have hz : w1.heap.size = w.heap.size + 4 := by rw [hW]; simp
  have hB1 : Below w.heap.size w w1 := by
    rw [hW]
    exact Kt.balloc (Kt.balloc (Kt.balloc (Kt.balloc (Below.refl _ _) _) _) _) _
  rw [show (((w.alloc (.cells #[.int .u64 (x.a.toNat : Int), .int .u64 (x.b.toNat : Int), .int .u64 (x.c.toNat : Int), .int .u64 (x.d.toNat : Int)] 27)).alloc (.cells #[.int .u64 (y.a.toNat : Int), .int .u64 (y.b.toNat : Int), .int .u64 (y.c.toNat : Int), .int .u64 (y.d.toNat : Int)] 27)).alloc (.cells #[.slice none 0 0] 32)).alloc (.cells x.vs 27) = w1 from hW.symm]
  clear hW hw1 e0
  have hn8 : 1 ≤ 8 := by omega
  refine wpIn_rangeFunc_ownG (n := 8) rfl hn8 (gf := 27) (lb := #[.pointer (some ⟨w.heap.size + 1 + 1 + 1, 0, none⟩)]) rfl trivial (enters_of Try.func27 (by kernel_rfl) rfl)
    (codes_stops 7 (by omega) (w.heap.size + 1 + 1 + 1) x w1 (by omega) R3) KeepB.trans (fun W l o o' h1 h2 h3 h4 => KeepB.putObj (n := w1.heap.size) (by omega) W l o o' h1 h2 h3 h4) (Below.refl _ _) (fun _ => rfl)
    (fun pre W => (∃ v, Boxed W (w.heap.size + 1 + 1) 32 v ∧ W.ownsRow w.heap.size 47 2 v (lack y pre).length (evs false (lack y pre)) ∧ True) ∧ (W.heap[w.heap.size]? = some (.cells x.vs 27 (0, 0)) ∧ W.heap[w.heap.size + 1]? = some (.cells y.vs 27 (0, 0)) ∧ W.heap[w.heap.size + 1 + 1 + 1]? = some (.cells x.vs 27 (0, 0))) ∧ Below w.heap.size w W)
    (fun _ _ _ => False)
    (OwnFrom.and (Own.from (holdsRow_own w.heap.size (w.heap.size + 1 + 1) 32 47 2 (fun pre => (lack y pre).length) (fun pre => evs false (lack y pre)) (fun _ _ => True)) _) (OwnFrom.and (OwnFrom.and (ownFrom_row _ (by omega)) (OwnFrom.and (ownFrom_row _ (by omega)) (ownFrom_row _ (by omega)))) (ownFrom_below (Nat.le_refl _) (by omega))))
    (fun _ _ _ _ _ hs _ _ => hs)
    ⟨⟨_, R2, World.ownsRow_nil _ _ _ _, trivial⟩, ⟨R0, R1, R3⟩, hB1⟩
    (fun c => { tmps := #[x.v, y.v, .pointer (some ⟨w.heap.size, 0, none⟩), .pointer (some ⟨w.heap.size + 1, 0, none⟩), .slice none 0 0, .pointer (some ⟨w.heap.size + 1 + 1, 0, none⟩), .int .i64 (c.val : Int), undef, x.v, .func (.func 27) #[] #[.pointer (some ⟨w.heap.size + 1 + 1 + 1, 0, none⟩)], .int .i64 (c.val : Int), undef, undef, undef, undef, undef, undef, undef, undef, undef, undef, undef, undef, undef, undef, undef, undef, undef, undef, undef, undef, undef, undef], defers := [] }) ?assign ?body ?done ?stop
  case assign =>
    intro l c W K hK
    gi_wp2
    exact hK
  case stop =>
    rintro D c pre W _ _ h _
    exact h.elim
  case body =>
    rintro l pre c W ⟨⟨v, hv, hrow, _⟩, ⟨r0, r1, r3⟩, hB⟩ hlt
    have hw3 := (Array.getElem?_eq_some_iff.1 r3).1
    have hy := r1
    unfold Hd.vs at hy
    have p := fun i => cell_of_row _ _ i _ _ _ hy
    clear hy
    have HC := Lib.hid (fun m => CallsIn.inRound l (callsIn_wide (n := m).2 (has_calls y c.val c.isLt W)))
    obtain ⟨W2, hW2⟩ : ∃ W2, W.alloc (.cells y.vs 27) = W2 := ⟨_, rfl⟩
    rw [hW2] at HC
    have k1 : KeepB (w.heap.size + 1 + 1 + 1) W W2 := by
      rw [← hW2]
      exact ⟨Below.heap_alloc _ _ _ hw3, by simp⟩
    have k2 : KeepsOthers W W2 := by rw [← hW2]; exact KeepsOthers.alloc _ _
    have hv2 : Boxed W2 (w.heap.size + 1 + 1) 32 v := by rw [← hW2]; exact hv.alloc _
    have hrow2 : W2.ownsRow w.heap.size 47 2 v (lack y pre).length (evs false (lack y pre)) := by rw [← hW2]; exact hrow.alloc _
    have r02 : W2.heap[w.heap.size]? = some (.cells x.vs 27 (0, 0)) := by rw [← hW2]; exact (Below.heap_alloc _ _ _ (Array.getElem?_eq_some_iff.1 r0).1).trans r0
    have r12 : W2.heap[w.heap.size + 1]? = some (.cells y.vs 27 (0, 0)) := by rw [← hW2]; exact (Below.heap_alloc _ _ _ (Array.getElem?_eq_some_iff.1 r1).1).trans r1
    have r32 : W2.heap[w.heap.size + 1 + 1 + 1]? = some (.cells x.vs 27 (0, 0)) := by rw [← hW2]; exact (Below.heap_alloc _ _ _ hw3).trans r3
    have hB2 : Below w.heap.size w W2 := by rw [← hW2]; exact Kt.balloc hB _
    clear hv hrow r0 r1 r3 hw3 hB hW2
    have hc := hv2.cell
    by_cases hh : y.has c.val = true
    · rw [hh] at HC
      have HL := Lib.hid (show lack y (pre ++ [c]) = lack y pre by rw [lack_snoc, if_pos hh])
      gi_wp2_with fail
      refine ⟨trivial, (HC.out _).mono ?_⟩
      rintro e w3 ⟨rfl, rfl⟩
      clear HC
      gi_wp2_with fail
      exact ⟨k2.from _, k1, ⟨v, hv2, by rw [HL.out]; exact hrow2, trivial⟩, ⟨r02, r12, r32⟩, hB2⟩
    · have hf : y.has c.val = false := by simpa using hh
      rw [hf] at HC
      have HL := Lib.hid (show lack y (pre ++ [c]) = lack y pre ++ [c] by rw [lack_snoc, if_neg hh])
      gi_wp2_with fail
      refine ⟨trivial, (HC.out _).mono ?_⟩
      rintro e w3 ⟨rfl, rfl⟩
      clear HC
      have hpl : (lack y pre).length ≤ pre.length := List.length_filter_le _ _
      gi_wp2_with (gi_at_builtin; refine wpListIn_append_own _ rfl _ _ 32 rfl w.heap.size 47 i0 (.agg #[.int .i64 0, .bool false]) 2 16 Try.underlying32 hi hz0 hz1 hz2 rfl (by decide) _ _ _ rfl (hrow2.alloc _) ⟨w3.heap.size, 0, none⟩ 1 1 [.int .i64 (c.val : Int), .bool false] rfl rfl (Kt.new_cells w3 #[.int .i64 (c.val : Int), .bool false] _) (by simp [Value.oneCell']) (by unfold maxLen; omega) (by omega) (by have := hB2.size; simp; omega) ?_; intro v' w4 hown' hgrow _; obtain ⟨g', cap', rfl⟩ := ownsRow_succ hown'; obtain ⟨hv1, hv3, hr2, hk2, hb2⟩ := hv2.appended (by decide) hrow2 hB2.size (by omega) hown' hgrow; have hc1 := hv1.cell; have hf1 := hv1.frozen)
      have q0 := row_after (u := .slice (some ⟨g', 0, none⟩) ((lack y pre).length + 1) cap') r02 (by decide) hrow2 hgrow (show w.heap.size ≠ w.heap.size + 1 + 1 by omega)
      have q1 := row_after (u := .slice (some ⟨g', 0, none⟩) ((lack y pre).length + 1) cap') r12 (by decide) hrow2 hgrow (show w.heap.size + 1 ≠ w.heap.size + 1 + 1 by omega)
      have q3 := row_after (u := .slice (some ⟨g', 0, none⟩) ((lack y pre).length + 1) cap') r32 (by decide) hrow2 hgrow (show w.heap.size + 1 + 1 + 1 ≠ w.heap.size + 1 + 1 by omega)
      refine ⟨(k2.trans hk2).from _, k1.trans ⟨q3.trans r32.symm, hb2.size⟩, ⟨_, hv3, ?_, trivial⟩, ⟨q0, q1, q3⟩, hB2.trans hb2⟩
      rw [HL.out, List.length_append, evs_app]
      exact hr2
  case done =>
    rintro D ys W hD rfl ⟨⟨v, hv, hrow, _⟩, ⟨r0, r1, r3⟩, hB⟩ hK
    have hy := r1
    unfold Hd.vs at hy
    have p := fun i => cell_of_row _ _ i _ _ _ hy
    clear hy R0 R1 R2 R3 hB1
    gi_wp2_with fail
    refine ⟨trivial, (codes_in _ y _).mono ?_⟩
    rintro e W2 ⟨rfl, hW2⟩
    have k0 : W2.heap[w.heap.size]? = some (.cells x.vs 27 (0, 0)) := by rw [hW2]; exact (Below.heap_alloc _ _ _ (Array.getElem?_eq_some_iff.1 r0).1).trans r0
    have k1 : W2.heap[w.heap.size + 1]? = some (.cells y.vs 27 (0, 0)) := by rw [hW2]; exact (Below.heap_alloc _ _ _ (Array.getElem?_eq_some_iff.1 r1).1).trans r1
    have kD : W2.heap[D]? = some (.deferred (some [])) := by rw [hW2]; exact (Below.heap_alloc _ _ _ (Array.getElem?_eq_some_iff.1 hK).1).trans hK
    have kB : W2.heap[W.heap.size]? = some (.cells y.vs 27 (0, 0)) := by rw [hW2]; exact heap_alloc_new _ _
    have hv2 : Boxed W2 (w.heap.size + 1 + 1) 32 v := by rw [hW2]; exact hv.alloc _
    have hrow2 : W2.ownsRow w.heap.size 47 2 v (lack y (codesL x 256)).length (evs false (lack y (codesL x 256))) := by rw [hW2]; exact hrow.alloc _
    have hB2 : Below w.heap.size w W2 := by rw [hW2]; exact Kt.balloc hB _
    have hzW : W2.heap.size = W.heap.size + 1 := by rw [hW2]; simp
    have hDlt := (Array.getElem?_eq_some_iff.1 hK).1
    have hvlt := hv.lt
    clear hW2 p
    gi_wp2_with fail
    have hna9 : (lack y (codesL x 256)).length ≤ 256 := Nat.le_trans (List.length_filter_le _ _) (codesL_len x 256)
    clear hrow hv r0 r1 r3 hB
    refine wpIn_rangeFunc_ownG (n := 8) rfl hn8 (gf := 27) (lb := #[.pointer (some ⟨W.heap.size, 0, none⟩)]) rfl trivial (enters_of Try.func27 (by kernel_rfl) rfl)
      (codes_stops 7 (by omega) W.heap.size y W2 (by omega) kB) KeepB.trans (fun W' l o o' h1 h2 h3 h4 => KeepB.putObj (n := W2.heap.size) (by omega) W' l o o' h1 h2 h3 h4) (Below.refl _ _) (fun _ => rfl)
      (fun pre W' => (∃ v, Boxed W' (w.heap.size + 1 + 1) 32 v ∧ W'.ownsRow w.heap.size 47 2 v ((lack y (codesL x 256)).length + (lack x pre).length) (evs false (lack y (codesL x 256)) ++ evs true (lack x pre)) ∧ True) ∧ (W'.heap[w.heap.size]? = some (.cells x.vs 27 (0, 0)) ∧ W'.heap[D]? = some (.deferred (some [])) ∧ W'.heap[W.heap.size]? = some (.cells y.vs 27 (0, 0))) ∧ Below w.heap.size w W')
      (fun _ _ _ => False)
      (OwnFrom.and (Own.from (holdsRow_own w.heap.size (w.heap.size + 1 + 1) 32 47 2 (fun pre => (lack y (codesL x 256)).length + (lack x pre).length) (fun pre => evs false (lack y (codesL x 256)) ++ evs true (lack x pre)) (fun _ _ => True)) _) (OwnFrom.and (OwnFrom.and (ownFrom_row _ (by omega)) (OwnFrom.and (ownFrom_row _ (by omega)) (ownFrom_row _ (by omega)))) (ownFrom_below (Nat.le_refl _) (by omega))))
      (fun _ _ _ _ _ hs _ _ => hs)
      ⟨⟨_, hv2, by simpa [lack, evs] using hrow2, trivial⟩, ⟨k0, kD, kB⟩, hB2⟩
      (fun c => { tmps := #[x.v, y.v, .pointer (some ⟨w.heap.size, 0, none⟩), .pointer (some ⟨w.heap.size + 1, 0, none⟩), .slice none 0 0, .pointer (some ⟨w.heap.size + 1 + 1, 0, none⟩), undef, .int .i64 (c.val : Int), x.v, .func (.func 27) #[] #[.pointer (some ⟨w.heap.size + 1 + 1 + 1, 0, none⟩)], undef, undef, undef, undef, undef, undef, undef, undef, undef, undef, y.v, .func (.func 27) #[] #[.pointer (some ⟨W.heap.size, 0, none⟩)], .int .i64 (c.val : Int), undef, undef, undef, undef, undef, undef, undef, undef, undef, undef], defers := [] }) ?assign2 ?body2 ?done2 ?stop2
    case assign2 =>
      intro l c W' K hK
      gi_wp2
      exact hK
    case stop2 =>
      rintro D c pre W' _ _ h _
      exact h.elim
    case body2 =>
      rintro l pre c W' ⟨⟨v, hv, hrow, _⟩, ⟨r0, rD, r3⟩, hB⟩ hlt
      have hw3 := (Array.getElem?_eq_some_iff.1 r3).1
      have hy := r0
      unfold Hd.vs at hy
      have p := fun i => cell_of_row _ _ i _ _ _ hy
      clear hy
      have HC := Lib.hid (fun m => CallsIn.inRound l (callsIn_wide (n := m).2 (has_calls x c.val c.isLt W')))
      obtain ⟨W3, hW3⟩ : ∃ W3, W'.alloc (.cells x.vs 27) = W3 := ⟨_, rfl⟩
      rw [hW3] at HC
      have k1 : KeepB W.heap.size W' W3 := by
        rw [← hW3]
        exact ⟨Below.heap_alloc _ _ _ hw3, by simp⟩
      have k2 : KeepsOthers W' W3 := by rw [← hW3]; exact KeepsOthers.alloc _ _
      have hv3 : Boxed W3 (w.heap.size + 1 + 1) 32 v := by rw [← hW3]; exact hv.alloc _
      have hrow3 : W3.ownsRow w.heap.size 47 2 v ((lack y (codesL x 256)).length + (lack x pre).length) (evs false (lack y (codesL x 256)) ++ evs true (lack x pre)) := by rw [← hW3]; exact hrow.alloc _
      have r02 : W3.heap[w.heap.size]? = some (.cells x.vs 27 (0, 0)) := by rw [← hW3]; exact (Below.heap_alloc _ _ _ (Array.getElem?_eq_some_iff.1 r0).1).trans r0
      have rD2 : W3.heap[D]? = some (.deferred (some [])) := by rw [← hW3]; exact (Below.heap_alloc _ _ _ (Array.getElem?_eq_some_iff.1 rD).1).trans rD
      have r32 : W3.heap[W.heap.size]? = some (.cells y.vs 27 (0, 0)) := by rw [← hW3]; exact (Below.heap_alloc _ _ _ hw3).trans r3
      have hB3 : Below w.heap.size w W3 := by rw [← hW3]; exact Kt.balloc hB _
      clear hv hrow r0 rD r3 hw3 hB hW3
      have hc := hv3.cell
      by_cases hh : x.has c.val = true
      · rw [hh] at HC
        have HL := Lib.hid (show lack x (pre ++ [c]) = lack x pre by rw [lack_snoc, if_pos hh])
        gi_wp2_with fail
        refine ⟨trivial, (HC.out _).mono ?_⟩
        rintro e w3 ⟨rfl, rfl⟩
        clear HC
        gi_wp2_with fail
        exact ⟨k2.from _, k1, ⟨v, hv3, by rw [HL.out]; exact hrow3, trivial⟩, ⟨r02, rD2, r32⟩, hB3⟩
      · have hf : x.has c.val = false := by simpa using hh
        rw [hf] at HC
        have HL := Lib.hid (show lack x (pre ++ [c]) = lack x pre ++ [c] by rw [lack_snoc, if_neg hh])
        gi_wp2_with fail
        refine ⟨trivial, (HC.out _).mono ?_⟩
        rintro e w3 ⟨rfl, rfl⟩
        clear HC
        have hpl : (lack x pre).length ≤ pre.length := List.length_filter_le _ _
        gi_wp2_with (gi_at_builtin; refine wpListIn_append_own _ rfl _ _ 32 rfl w.heap.size 47 i0 (.agg #[.int .i64 0, .bool false]) 2 16 Try.underlying32 hi hz0 hz1 hz2 rfl (by decide) _ _ _ rfl (hrow3.alloc _) ⟨w3.heap.size, 0, none⟩ 1 1 [.int .i64 (c.val : Int), .bool true] rfl rfl (Kt.new_cells w3 #[.int .i64 (c.val : Int), .bool true] _) (by simp [Value.oneCell']) (by unfold maxLen; omega) (by omega) (by have := hB3.size; simp; omega) ?_; intro v' w4 hown' hgrow _; obtain ⟨g', cap', rfl⟩ := ownsRow_succ hown'; obtain ⟨hv1, hv4, hr2, hk2, hb2⟩ := hv3.appended (by decide) hrow3 hB3.size (by omega) hown' hgrow; have hc1 := hv1.cell; have hf1 := hv1.frozen)
        have q0 := row_after (u := .slice (some ⟨g', 0, none⟩) ((lack y (codesL x 256)).length + (lack x pre).length + 1) cap') r02 (by decide) hrow3 hgrow (show w.heap.size ≠ w.heap.size + 1 + 1 by omega)
        have q3 := row_after (u := .slice (some ⟨g', 0, none⟩) ((lack y (codesL x 256)).length + (lack x pre).length + 1) cap') r32 (by decide) hrow3 hgrow (show W.heap.size ≠ w.heap.size + 1 + 1 by omega)
        refine ⟨(k2.trans hk2).from _, k1.trans ⟨q3.trans r32.symm, hb2.size⟩, ⟨_, hv4, ?_, trivial⟩, ⟨q0, hk2.same D _ rD2 rfl, q3⟩, hB3.trans hb2⟩
        rw [HL.out, List.length_append, evs_app, ← List.append_assoc]
        exact hr2
    case done2 =>
      rintro D2 ys W' hD2 rfl ⟨⟨v, hv, hrow, _⟩, ⟨r0, rD, r3⟩, hB⟩ hK
      have hc := hv.cell
      gi_wp2
      refine ⟨by simp, .inl ⟨_, _, rfl, run_takeDeferred hK, ?_⟩⟩
      have hKD : (W'.putObj D2 (.deferred none)).heap[D]? = some (.deferred (some [])) := (World.putObj_heap_other (by omega)).trans rD
      have hz4 : w.heap.size ≤ D := by omega
      have hz5 : w.heap.size ≤ D2 := by omega
      refine ⟨by simp, .inl ⟨_, _, rfl, run_takeDeferred hKD, ?_⟩⟩
      exact ⟨_, results_tmp rfl _ _ _, v, rfl, ownsRow_putObj (ownsRow_putObj hrow _ hK rfl) _ hKD rfl, (hB.trans (belowK_b (w := w) (Nat.le_refl _) W' D2 _ _ hz5 hK rfl rfl)).trans (belowK_b (w := w) (Nat.le_refl _) (W'.putObj D2 (.deferred none)) D _ _ hz4 hKD rfl rfl)⟩
end Go.Proofs.Ytfcmmeapinppaaa
