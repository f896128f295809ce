/- The walks of package ring: Clone of cells, advance, copied. -/
import Derived.Test.YtidcbboonjenhaaRngP
import Derived.Test.YtidcbboonjenhaaSlm
namespace Go.Proofs.Ytidcbboonjenhaa
open Go.RowKit
theorem infoCell : (Try.prog.info? 96).map (fun i => (i.zero, i.size, i.bytes)) = some (some (.agg #[.int .u64 0, .int .i64 0, .bool false]), 3, 24) := by kernel_rfl
set_option maxHeartbeats 800000 in
theorem cloneCell (v : Value) (n : Nat) (xs : List Value) (w : World) (h : Kt.Ar w v 3 n xs) (h1 : ∀ u ∈ xs, u.oneCell' = true) (hn : n ≤ 1048576) :
    Calls Try.prog 55 #[v] w fun e w' => ∃ A c, e = .returned (.slice A n c) ∧ Kt.Sl w' w.heap.size 96 3 (.slice A n c) n xs ∧ Below w.heap.size w w' := by
  have qT : ∀ (w : World) (a : Option Addr) (n c n' c' : Nat), (binOp .eql 33 (.slice a n c) (.slice none n' c')).run Try.prog w = .ok (.bool a.isNone) w := fun w a n c n' c' => Lib.run_eql_slice_nil w _ _ a n c n' c' Try.underlying33
  obtain ⟨A, c, rfl, hnc, hx⟩ := h.form
  have hlen := h.len
  cases A with
  | none =>
    have hn0 : n = 0 := by
      rcases Nat.eq_zero_or_pos n with h0 | h0
      · exact h0
      · obtain ⟨b, o, e, _⟩ := hx h0; cases e
    subst hn0
    obtain rfl : xs = [] := List.eq_nil_of_length_eq_zero (by simpa using hlen)
    go_enter Try.func55, Try.ntmps55
    go_wp2
    go_ret
    exact ⟨none, 0, rfl, Kt.Sl.nil _ _ _ _, Below.refl _ _⟩
  | some ad =>
    have hnews : ∀ j u, xs[j]? = some u → (w.alloc (.cells #[] 96)).cell? (ad.add j) = some u := by
      intro j u hj
      obtain ⟨hj1, hj2⟩ := List.getElem?_eq_some_iff.1 hj
      obtain ⟨b, o, e, hb, hc⟩ := hx (by omega)
      injection e with e
      subst e
      rw [Addr.add_lit, World.cell?_alloc_lt _ _ _ (by exact hb), hc j hj1, hj2]
    have hs0 : Kt.Sl (w.alloc (.cells #[] 96)) w.heap.size 96 3 (.slice (some ⟨w.heap.size, 0, none⟩) 0 0) 0 [] :=
      ⟨rfl, .inr ⟨w.heap.size, 0, 0, #[], rfl, Nat.le_refl _, heap_alloc_new w _, Nat.le_refl _, by simp [maxLen], by simp, fun j u hj => by simp at hj⟩⟩
    go_enter Try.func55, Try.ntmps55
    go_wp2_with (
      refine Kt.append_sl _ (by rfl) (.tmp 5) (.tmp 6) 33 rfl w.heap.size 96 (.agg #[.int .u64 0, .int .i64 0, .bool false]) 3 24 infoCell Try.underlying33 rfl (by decide) _ 0 [] rfl hs0 ad n c xs rfl hlen hnews h1 (by unfold maxLen; omega) (by omega) (by rw [World.size_alloc]; omega) ?_
      intro A' c' w1 hs1 hb1 hz1 hk1 hl1
      clear hk1 hl1 hs0 hnews hx)
    go_ret
    rw [Nat.zero_add] at hs1
    exact ⟨A', c', rfl, hs1, ((Below.refl _ w).alloc (Nat.le_refl _) _).trans hb1⟩
def cv (c : RC) : List Value := [.int .u64 c.1, .int .i64 c.2.1, .bool c.2.2]
def cvs (l : List RC) : List Value := l.flatMap cv
theorem cvs_len (l : List RC) : (cvs l).length = l.length * 3 := by
  induction l with
  | nil => rfl
  | cons c l ih => simp only [cvs, List.flatMap_cons, List.length_append] at ih ⊢; rw [ih]; simp [cv]; omega
theorem cvs_one (l : List RC) : ∀ u ∈ cvs l, u.oneCell' = true := by
  intro u hu
  obtain ⟨c, _, h⟩ := List.mem_flatMap.1 hu
  simp only [cv, List.mem_cons, List.not_mem_nil, or_false] at h
  rcases h with rfl | rfl | rfl <;> rfl
theorem cvs_get (l : List RC) : ∀ (i j : Nat), j < 3 → (cvs l)[i * 3 + j]? = (l[i]?).bind fun c => (cv c)[j]? := by
  induction l with
  | nil => intro i j _; simp [cvs]
  | cons c l ih =>
    intro i j hj
    have e : cvs (c :: l) = cv c ++ cvs l := rfl
    rw [e, List.getElem?_append]
    have hl : (cv c).length = 3 := rfl
    cases i with
    | zero => rw [if_pos (by omega)]; simp
    | succ i => rw [if_neg (by omega), hl, show (i + 1) * 3 + j - 3 = i * 3 + j by omega, ih i j hj]; simp
def rgV (C : Value) (r : Rg) : Value := .agg #[C, .int .i64 r.pa, .int .i64 r.pb, .int .i64 r.ga, .int .i64 r.gb, .int .i64 r.sn]
/-- the value v is the ring r, wherever its cells lie -/
def RA (w : World) (v : Value) (r : Rg) : Prop := ∃ C, v = rgV C r ∧ Kt.Ar w C 3 r.cs.length (cvs r.cs)
/-- .. and its cells lie in a block from B on -/
def RO (w : World) (B : Nat) (v : Value) (r : Rg) : Prop := ∃ C, v = rgV C r ∧ Kt.Sl w B 96 3 C r.cs.length (cvs r.cs)
theorem RO.ra {w : World} {B : Nat} {v : Value} {r : Rg} (h : RO w B v r) : RA w v r := by
  obtain ⟨C, e, h⟩ := h; exact ⟨C, e, Kt.Ar.of_sl h⟩
theorem RA.on {w w' : World} {v : Value} {r : Rg} (h : RA w v r) (b : Below w.heap.size w w') : RA w' v r := by
  obtain ⟨C, e, h⟩ := h; exact ⟨C, e, h.on b⟩
theorem RO.on {w w' : World} {B : Nat} {v : Value} {r : Rg} (h : RO w B v r) (b : Below w.heap.size w w') : RO w' B v r := by
  obtain ⟨C, e, h⟩ := h; exact ⟨C, e, h.on b⟩
theorem RO.mono {w : World} {B B' : Nat} {v : Value} {r : Rg} (h : RO w B v r) (hb : B' ≤ B) : RO w B' v r := by
  obtain ⟨C, e, h⟩ := h; exact ⟨C, e, h.mono hb⟩
theorem adv_eq (a b : Int) (n : Nat) (h : (a + 1 == n - 1) = true) : adv a b n = (0, 1 - b) := by unfold adv; rw [if_pos (beq_iff_eq.1 h)]
theorem adv_ne (a b : Int) (n : Nat) (h : (a + 1 == n - 1) = false) : adv a b n = (a + 1, b) := by unfold adv; rw [if_neg (beq_eq_false_iff_ne.1 h)]
def markV (p : Int × Int) : Value := .agg #[.int .i64 p.1, .int .i64 p.2]
set_option maxHeartbeats 400000 in
theorem advance_calls (a b : Int) (n : Nat) (w : World) (ha : 0 ≤ a ∧ a ≤ 100) (hb : 0 ≤ b ∧ b ≤ 1) (hn : 0 < n ∧ n ≤ 100) :
    Calls Try.prog 46 #[.agg #[.int .i64 a, .int .i64 b], .int .i64 n] w fun e w' => e = .returned (markV (adv a b n)) ∧ Below w.heap.size w w' := by
  obtain ⟨ha0, ha1⟩ := ha
  obtain ⟨hb0, hb1⟩ := hb
  obtain ⟨hn0, hn1⟩ := hn
  cases h : (a + 1 == (n : Int) - 1) with
  | true =>
    rw [adv_eq a b n h]
    go_enter Try.func46, Try.ntmps46
    go_wp2
    refine bodyPost_ret (v := .agg #[.int .i64 0, .int .i64 (1 - b)]) (by simp [results, Try.results46, go_sem]) rfl ⟨rfl, ?_⟩
    repeat (first | exact Below.refl _ _ | refine Kt.bset ?_ (by simp) _ | refine Kt.balloc ?_ _)
  | false =>
    rw [adv_ne a b n h]
    go_enter Try.func46, Try.ntmps46
    go_wp2
    refine bodyPost_ret (v := .agg #[.int .i64 (a + 1), .int .i64 b]) (by simp [results, Try.results46, go_sem]) rfl ⟨rfl, ?_⟩
    repeat (first | exact Below.refl _ _ | refine Kt.bset ?_ (by simp) _ | refine Kt.balloc ?_ _)
set_option maxHeartbeats 400000 in
theorem copied_calls (V : Value) (r : Rg) (w : World) (h : RA w V r) (hn : r.cs.length ≤ 1048576) :
    Calls Try.prog 47 #[V] w fun e w' => ∃ v, e = .returned v ∧ RO w' w.heap.size v r ∧ Below w.heap.size w w' := by
  obtain ⟨C, rfl, hC⟩ := h
  have hC0 := hC
  obtain ⟨A, c, rfl, _, _⟩ := hC.form
  unfold rgV
  clear hC
  go_enter Try.func47, Try.ntmps47
  go_wp2_with fail
  refine (cloneCell _ _ _ _ (hC0.on (Kt.balloc (Kt.balloc (Below.refl _ w) _) _)) (cvs_one _) hn).mono ?_
  rintro en w1 ⟨A', c', rfl, hs, hb⟩
  have r0 := (hb.block w.heap.size (by simp; omega)).trans ((Below.heap_alloc _ _ _ (by simp)).trans (heap_alloc_new w (.cells #[.slice A r.cs.length c, .int .i64 r.pa, .int .i64 r.pb, .int .i64 r.ga, .int .i64 r.gb, .int .i64 r.sn] 37)))
  have r1 := (hb.block (w.heap.size + 1) (by simp)).trans ((congrArg _ (by simp)).trans (heap_alloc_new (w.alloc _) (.cells #[.slice none 0 0, .int .i64 0, .int .i64 0, .int .i64 0, .int .i64 0, .int .i64 0] 37)))
  have c0 := fun i => cell_of_row _ _ i _ _ _ r0
  have f0 := fun i => frozen_of_row _ _ i _ _ r0
  have c1 := fun i => cell_of_row _ _ i _ _ _ r1
  have f1 := fun i => frozen_of_row _ _ i _ _ r1
  have hbel := Kt.bthen (Kt.balloc (Kt.balloc (Below.refl _ w) _) _) hb
  have hs1 := hs.mono (B' := w.heap.size + 2) (by simp)
  clear hb hs hC0
  go_wp2_with fail
  refine bodyPost_ret (v := rgV (.slice A' r.cs.length c') r) (by simp [rgV, results, Try.results47, go_sem, c1]) rfl ⟨_, rfl, ⟨_, rfl, ?_⟩, ?_⟩
  · have hs2 := hs1.mono (B' := w.heap.size) (by omega)
    repeat (first | with_reducible exact hs2 | refine Kt.Sl.set ?_ (fun k hk => by have := (hs1.lt k hk).1; simp; omega) _)
  · repeat (first | with_reducible exact hbel | refine Kt.bset ?_ (by simp) _)
end Go.Proofs.Ytidcbboonjenhaa
