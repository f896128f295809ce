/- The law of tries that are lost, walked: PipeStill. -/
import Derived.Test.YtniffnppfpaniaaPipA
namespace Go.Proofs.Ytniffnppfpaniaa
open Go.RowKit
theorem step_total (V : Value) (p : St) (f : Int) (w : World) (hp : PA w V p) : (p.ls.length ≤ 200 ∧ p.gs.length ≤ 200 ∧ Calls Try.prog 13 #[V, .int .i64 f] w (Gives w (stepF p f))) ∨ ∃ n, (n = 1 ∨ n = 2) ∧ Calls Try.prog 13 #[V, .int .i64 f] w (Fails w n) := by
  by_cases h1 : p.s = 0 ∨ p.s = 1
  · by_cases h2 : p.t = 0 ∨ p.t = 1
    · by_cases h3 : fated f
      · by_cases h4 : p.ls.length ≤ 200
        · by_cases h5 : p.gs.length ≤ 200
          · exact .inl ⟨h4, h5, step_ok V p f w hp h1 h2 h3 h4 h5⟩
          · exact .inr ⟨2, .inr rfl, step_large V p f w hp h1 h2 h3 (.inr ⟨by omega, by omega⟩)⟩
        · exact .inr ⟨2, .inr rfl, step_large V p f w hp h1 h2 h3 (.inl (by omega))⟩
      · exact .inr ⟨1, .inl rfl, step_arg V p f w hp (.inr ⟨h1, h2, by unfold fated at h3; omega⟩)⟩
    · exact .inr ⟨1, .inl rfl, step_arg V p f w hp (.inl (.inr ⟨h1, by rw [beq_eq_false_iff_ne]; exact fun c => h2 (.inl c), by rw [beq_eq_false_iff_ne]; exact fun c => h2 (.inr c)⟩))⟩
  · exact .inr ⟨1, .inl rfl, step_arg V p f w hp (.inl (.inl ⟨by rw [beq_eq_false_iff_ne]; exact fun c => h1 (.inl c), by rw [beq_eq_false_iff_ne]; exact fun c => h1 (.inr c)⟩))⟩
theorem PA.boxed {w : World} {v : Value} {p : St} (h : PA w v p) : ∃ LA Lc GA Gc, v = .agg #[.int .i64 p.s, .int .i64 p.t, .slice LA p.ls.length Lc, .slice GA p.gs.length Gc] := by
  obtain ⟨L, G, rfl, hL, hG⟩ := h
  obtain ⟨LA, Lc, rfl, _, _⟩ := hL.form
  obtain ⟨GA, Gc, rfl, _, _⟩ := hG.form
  exact ⟨LA, Lc, GA, Gc, rfl⟩
theorem St.eta (p : St) : (⟨p.s, p.t, p.ls, p.gs⟩ : St) = p := by cases p; rfl
set_option maxHeartbeats 1600000 in
theorem still_no (V : Value) (p : St) (f n : Int) (hn : n = 1 ∨ n = 2) (w : World) (hV : PA w V p) (HS : Hid (∀ W : World, PA W V p → Calls Try.prog 13 #[V, .int .i64 f] W (Fails W n))) :
    Calls Try.prog 6 #[V, .int .i64 f] w fun e w' => e = .returned (.bool true) ∧ Below w.heap.size w w' := by
  have gV := hV
  obtain ⟨LA, Lc, GA, Gc, rfl⟩ := hV.boxed
  have hn0 : (n != 0) = true := by rcases hn with rfl | rfl <;> rfl
  have hB0 := Kt.balloc (Below.refl _ w) (.cells #[.int .i64 p.s, .int .i64 p.t, .slice LA p.ls.length Lc, .slice GA p.gs.length Gc] 25)
  have HP := Lib.hid (HS.out _ (gV.on hB0))
  clear gV hV
  go_enter Try.func6, Try.ntmps6
  go_wp2_with fail
  refine HP.out.mono ?_
  rintro en w1 ⟨rfl, hb⟩
  unfold zeroP
  have hB1 := Kt.balloc (Kt.bthen hB0 hb) (.cells #[.int .i64 0, .int .i64 0, .slice none 0 0, .slice none 0 0] 25)
  go_wp2_with fail
  refine (lives_calls _).mono ?_; rintro en w3 ⟨rfl, hb3⟩
  go_wp2_with fail
  refine (lives_calls _).mono ?_; rintro en w4 ⟨rfl, hb4⟩
  go_wp2_with fail
  go_ret
  exact ⟨rfl, Kt.bthen (Kt.bthen hB1 hb3) hb4⟩
set_option maxHeartbeats 1600000 in
theorem still_yes (V : Value) (p q : St) (f : Int) (w : World) (hV : PA w V p) (h4 : p.ls.length ≤ 200) (h5 : p.gs.length ≤ 200) (HS : Hid (∀ W : World, PA W V p → Calls Try.prog 13 #[V, .int .i64 f] W (Gives W q)))
    (HC : Hid (((0 : Int) < p.ls.length ∧ (f = 1 ∨ f = 3)) ∨ (q = p ∧ ((p.ls.length : Int) ≤ 0 ∨ ((0 : Int) < p.ls.length ∧ (f == 1) = false ∧ (f == 3) = false))))) :
    Calls Try.prog 6 #[V, .int .i64 f] w fun e w' => e = .returned (.bool true) ∧ Below w.heap.size w w' := by
  have gV := hV
  obtain ⟨LA, Lc, GA, Gc, rfl⟩ := hV.boxed
  have hB0 := Kt.balloc (Below.refl _ w) (.cells #[.int .i64 p.s, .int .i64 p.t, .slice LA p.ls.length Lc, .slice GA p.gs.length Gc] 25)
  have HP := Lib.hid (HS.out _ (gV.on hB0))
  clear hV
  go_enter Try.func6, Try.ntmps6
  go_wp2_with fail
  refine HP.out.mono ?_
  rintro en w1 ⟨v, rfl, hq, hb⟩
  have hrow := (hb.block w.heap.size (by simp)).trans (heap_alloc_new w (.cells #[.int .i64 p.s, .int .i64 p.t, .slice LA p.ls.length Lc, .slice GA p.gs.length Gc] 25))
  have hz : w.heap.size < w1.heap.size := by have := hb.size; simp at this; omega
  obtain ⟨LB, Ld, GB, Gd, rfl⟩ := hq.pa.boxed
  have hB1 := Kt.balloc (Kt.bthen hB0 hb) (.cells #[.int .i64 q.s, .int .i64 q.t, .slice LB q.ls.length Ld, .slice GB q.gs.length Gd] 25)
  have rowq := heap_alloc_new w1 (.cells #[.int .i64 q.s, .int .i64 q.t, .slice LB q.ls.length Ld, .slice GB q.gs.length Gd] 25)
  have rowp := (Below.heap_alloc w1 (.cells #[.int .i64 q.s, .int .i64 q.t, .slice LB q.ls.length Ld, .slice GB q.gs.length Gd] 25) _ hz).trans hrow
  have qa := hq.pa.on (Kt.balloc (Below.refl _ w1) (.cells #[.int .i64 q.s, .int .i64 q.t, .slice LB q.ls.length Ld, .slice GB q.gs.length Gd] 25))
  go_wp2_with fail
  refine (lives_calls _).mono ?_; rintro en w3 ⟨rfl, hb3⟩
  have rowp3 := (hb3.block _ (by simp; omega)).trans rowp
  have rowq3 := (hb3.block _ (by simp)).trans rowq
  have qa3 := qa.on hb3
  have hB3 := Kt.bthen hB1 hb3
  have pa3 := gV.on hB3
  have hcp := fun i => cell_of_row _ _ i _ _ _ rowp3
  have hcq := fun i => cell_of_row _ _ i _ _ _ rowq3
  clear hrow rowq rowp qa hq hb hb3 hB1 hB0 gV
  rcases HC.out with ⟨h1, rfl | rfl⟩ | ⟨e, h | ⟨h1, h2, h3⟩⟩
  · go_wp2_with fail
    refine (lives_calls _).mono ?_; rintro en w4 ⟨rfl, hb4⟩
    go_wp2_with fail
    go_ret
    exact ⟨rfl, Kt.bthen hB3 hb4⟩
  · go_wp2_with fail
    refine (lives_calls _).mono ?_; rintro en w4 ⟨rfl, hb4⟩
    go_wp2_with fail
    go_ret
    exact ⟨rfl, Kt.bthen hB3 hb4⟩
  all_goals
    have HQ := Lib.hid e; clear e
    go_wp2_with fail
    refine (same_true _ _ p w3 pa3 (by rw [← HQ.out] at *; exact qa3) (by omega) (by omega)).mono ?_; rintro en w4 ⟨rfl, hb4⟩
    go_wp2_with fail
    go_ret
    exact ⟨rfl, Kt.bthen hB3 hb4⟩
theorem pa_of {w : World} {B : Nat} {v : Value} (r : Fr.RdV w B (.cat 1 (.int .i64) (.cat 1 (.int .i64) (.cat 1 (.slice 1 .string) (.cat 1 (.slice 1 .string) .nil)))) v) : ∃ p, PA w v p ∧ p.ls.length ≤ B ∧ p.gs.length ≤ B := by
  obtain ⟨cs, rfl, r⟩ := r
  obtain ⟨_, _, a1, _, ⟨s, rfl, _⟩, q1⟩ := Fr.cat_open r
  obtain ⟨_, _, a2, _, ⟨t, rfl, _⟩, q2⟩ := Fr.cat_open q1
  obtain ⟨l3, _, a3, e3, r3, q3⟩ := Fr.cat_open q2
  obtain ⟨l4, _, a4, e4, r4, q4⟩ := Fr.cat_open q3
  obtain ⟨L, rfl⟩ : ∃ L, l3 = [L] := by
    match l3, e3 with
    | [x], _ => exact ⟨x, rfl⟩
  obtain ⟨G, rfl⟩ : ∃ L, l4 = [L] := by
    match l4, e4 with
    | [x], _ => exact ⟨x, rfl⟩
  obtain ⟨ls, hl, _, hL⟩ := Kt.ar_strs (v := L) r3
  obtain ⟨gs, hg, _, hG⟩ := Kt.ar_strs (v := G) r4
  have q5 : _ = [] := q4
  rw [a2, a3, a4, q5] at a1
  exact ⟨⟨s, t, ls, gs⟩, ⟨L, G, by rw [Fr.arr_of a1]; rfl, hL, hG⟩, hl, hg⟩
theorem still_walk (v0 v1 : Value) (w : World) (r0 : Fr.RdV w reachBytes (.cat 1 (.int .i64) (.cat 1 (.int .i64) (.cat 1 (.slice 1 .string) (.cat 1 (.slice 1 .string) .nil)))) v0) (r1 : Fr.RdV w reachBytes (.int .i64) v1) :
    Calls Try.prog 6 #[v0, v1] w fun e w' => e = .returned (.bool true) ∧ Below w.heap.size w w' := by
  obtain ⟨p, hp, _, _⟩ := pa_of r0
  obtain ⟨f, e1, _⟩ := r1; cases e1
  have tot : (p.ls.length ≤ 200 ∧ p.gs.length ≤ 200 ∧ ∀ W, PA W v0 p → Calls Try.prog 13 #[v0, .int .i64 f] W (Gives W (stepF p f))) ∨ ∃ n, (n = 1 ∨ n = 2) ∧ ∀ W, PA W v0 p → Calls Try.prog 13 #[v0, .int .i64 f] W (Fails W n) := by
    by_cases h1 : p.s = 0 ∨ p.s = 1
    · by_cases h2 : p.t = 0 ∨ p.t = 1
      · by_cases h3 : fated f
        · by_cases h4 : p.ls.length ≤ 200
          · by_cases h5 : p.gs.length ≤ 200
            · exact .inl ⟨h4, h5, fun W hW => step_ok v0 p f W hW h1 h2 h3 h4 h5⟩
            · exact .inr ⟨2, .inr rfl, fun W hW => step_large v0 p f W hW h1 h2 h3 (.inr ⟨by omega, by omega⟩)⟩
          · exact .inr ⟨2, .inr rfl, fun W hW => step_large v0 p f W hW h1 h2 h3 (.inl (by omega))⟩
        · exact .inr ⟨1, .inl rfl, fun W hW => step_arg v0 p f W hW (.inr ⟨h1, h2, by unfold fated at h3; omega⟩)⟩
      · exact .inr ⟨1, .inl rfl, fun W hW => step_arg v0 p f W hW (.inl (.inr ⟨h1, by rw [beq_eq_false_iff_ne]; exact fun c => h2 (.inl c), by rw [beq_eq_false_iff_ne]; exact fun c => h2 (.inr c)⟩))⟩
    · exact .inr ⟨1, .inl rfl, fun W hW => step_arg v0 p f W hW (.inl (.inl ⟨by rw [beq_eq_false_iff_ne]; exact fun c => h1 (.inl c), by rw [beq_eq_false_iff_ne]; exact fun c => h1 (.inr c)⟩))⟩
  rcases tot with ⟨h4, h5, h⟩ | ⟨n, hn, h⟩
  · refine still_yes v0 p _ f w hp h4 h5 (Lib.hid h) (Lib.hid ?_)
    cases hl : p.ls with
    | nil => exact .inr ⟨stepF_nil hl f, .inl (by simp)⟩
    | cons x r =>
      by_cases f1 : f = 1
      · exact .inl ⟨by simp, .inl f1⟩
      · by_cases f3 : f = 3
        · exact .inl ⟨by simp, .inr f3⟩
        · exact .inr ⟨stepF_still f1 f3, .inr ⟨by simp, by rw [beq_eq_false_iff_ne]; exact f1, by rw [beq_eq_false_iff_ne]; exact f3⟩⟩
  · exact still_no v0 p f n hn w hp (Lib.hid h)
end Go.Proofs.Ytniffnppfpaniaa
