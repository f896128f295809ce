/- budget: two berths, a place: walked. -/
import Derived.Test.YthmcnopogahffaaBudA
import Derived.Test.YthmcnopogahffaaBudV
import Derived.BigQuiet
import Derived.StillTailTactics
namespace Go.Proofs.Ythmcnopogahffaa
open Go.RowKit Go.Proofs.Ythmcnopogahffaa.Bud
theorem min_int (p q : Nat) : (if q < p then (q : Int) else (p : Int)) = ((min p q : Nat) : Int) := by split <;> omega
theorem pw_pos {p : Nat} (h : pw p) : 1 ≤ p ∧ p ≤ 32 := by rcases h with rfl | rfl | rfl | rfl | rfl | rfl <;> decide
theorem mod_eq (a b n : Nat) : ((a : Int) % n == (b : Int) % n) = decide (a % n = b % n) := by
  rw [Bool.eq_iff_iff, beq_iff_eq, decide_eq_true_iff]
  constructor <;> intro h <;> exact_mod_cast h
theorem int_ne {a b : Nat} (h : decide (a = b) = false) : ((a : Int) == (b : Int)) = false := by rw [beq_eq_false_iff_ne]; have := of_decide_eq_false h; omega
theorem int_eq {a b : Nat} (h : decide (a = b) = true) : ((a : Int) == (b : Int)) = true := by rw [beq_iff_eq]; have := of_decide_eq_true h; omega
theorem two_rows (w : World) (c d : Array Value) (t u : TypeId) : ((w.alloc (.cells c t)).alloc (.cells d u)).heap[w.heap.size]? = some (.cells c t (0, 0)) ∧ ((w.alloc (.cells c t)).alloc (.cells d u)).heap[w.heap.size + 1]? = some (.cells d u (0, 0)) :=
  ⟨Kt.row_on (Kt.balloc (Below.refl _ _) _) (heap_alloc_new w _), by have := heap_alloc_new (w.alloc (.cells c t)) (.cells d u); rwa [World.size_alloc] at this⟩
def bag (b : Bt) : Value := .agg #[.int .i64 (b.1 : Int), .int .i64 (b.2 : Int)]
set_option maxRecDepth 100000 in
set_option maxHeartbeats 1600000 in
theorem conf_calls (a b : Bt) (p q : Nat) (hp : pw p) (hq : pw q) (w : World) : Calls Try.prog 23 #[bag a, bag b, .int .i64 (p : Int), .int .i64 (q : Int)] w fun e w' => e = .returned (.bool (confl a b p q)) ∧ Below w.heap.size w w' := by
  unfold bag
  obtain ⟨a1, a2⟩ := a
  obtain ⟨b1, b2⟩ := b
  dsimp only
  have HR : Hid (confl (a1, a2) (b1, b2) p q = (decide (a1 = b1) && decide (a2 % min p q = b2 % min p q))) := Lib.hid (by unfold confl; rfl)
  go_enter Try.func23, Try.ntmps23
  go_upto_region 2 with (fail)
  rw [min_int p q]
  obtain ⟨n, hn⟩ : ∃ n, n = min p q := ⟨_, rfl⟩
  rw [← hn] at HR ⊢
  have hn0 : ¬ ((n : Int) = 0) := by have := pw_pos hp; have := pw_pos hq; omega
  obtain ⟨r1, r2⟩ := two_rows w #[.int .i64 (a1 : Int), .int .i64 (a2 : Int)] #[.int .i64 (b1 : Int), .int .i64 (b2 : Int)] 31 31
  have HBL := Lib.hid (Kt.balloc (Kt.balloc (Below.refl _ w) (.cells #[.int .i64 (a1 : Int), .int .i64 (a2 : Int)] 31)) (.cells #[.int .i64 (b1 : Int), .int .i64 (b2 : Int)] 31))
  have q1 := fun i => cell_of_row _ _ i _ _ _ r1
  have q2 := fun i => cell_of_row _ _ i _ _ _ r2
  clear hp hq hn r1 r2
  generalize ((w.alloc (Obj.cells #[Value.int IntKind.i64 ↑a1, Value.int IntKind.i64 ↑a2] 31)).alloc (Obj.cells #[Value.int IntKind.i64 ↑b1, Value.int IntKind.i64 ↑b2] 31)) = W at *
  cases c1 : decide (a1 = b1) with
  | false =>
    have t1 : ((a1 : Int) == b1) = false := int_ne c1
    go_quiet (fail)
    go_wp2_with fail
    go_ret
    exact ⟨by rw [HR.out, c1]; rfl, bdrewN HBL.out _⟩
  | true =>
    have t1 : ((a1 : Int) == b1) = true := int_eq c1
    go_quiet (fail)
    rw [mod_eq]
    go_wp2_with fail
    go_ret
    exact ⟨by rw [HR.out, c1]; rfl, bdrewN HBL.out _⟩
def bv (l : List Bt) : List Value := l.flatMap fun b => [Value.int .i64 (b.1 : Int), Value.int .i64 (b.2 : Int)]
theorem bv_len (l : List Bt) : (bv l).length = l.length * 2 := by
  induction l with
  | nil => rfl
  | cons x l ih => simp [bv] at ih ⊢; omega
theorem bv_at : ∀ (l : List Bt) (k : Nat), k < l.length → (bv l)[k * 2]? = some (.int .i64 ((bt l k).1 : Int)) ∧ (bv l)[k * 2 + 1]? = some (.int .i64 ((bt l k).2 : Int))
  | [], k, h => by cases h
  | x :: l, 0, _ => ⟨rfl, rfl⟩
  | x :: l, k + 1, h => by
    have := bv_at l k (by simpa using h)
    rw [show (k + 1) * 2 = k * 2 + 2 by omega]
    exact this
structure PW (W : World) (QA : Option Addr) (qc : Nat) (PA : Option Addr) (pc : Nat) (n : Nat) (qs : List Nat) (plan : List Bt) (qb pb tb t : Nat) : Prop where
  nq : qs.length = n
  np : plan.length = n
  q : W.heap[qb]? = some (.cells #[.slice QA n qc] 22 (0, 0))
  p : W.heap[pb]? = some (.cells #[.slice PA n pc] 23 (0, 0))
  t : W.heap[tb]? = some (.cells #[.int .i64 (t : Int)] 3 (0, 0))
  aq : Kt.Ar W (.slice QA n qc) 1 n (iz qs)
  ap : Kt.Ar W (.slice PA n pc) 2 n (bv plan)
theorem PW.on {W W' : World} {QA : Option Addr} {qc : Nat} {PA : Option Addr} {pc n : Nat} {qs : List Nat} {plan : List Bt} {qb pb tb t : Nat} (h : PW W QA qc PA pc n qs plan qb pb tb t) (hb : Below W.heap.size W W') : PW W' QA qc PA pc n qs plan qb pb tb t :=
  ⟨h.nq, h.np, Kt.row_on hb h.q, Kt.row_on hb h.p, Kt.row_on hb h.t, h.aq.on hb, h.ap.on hb⟩
theorem Kt.Ar.izAt {w : World} {A : Option Addr} {c n : Nat} {l : List Nat} (h : Kt.Ar w (.slice A n c) 1 n (iz l)) (hn : l.length = n) (k : Nat) (hk : k < n) : ∃ b o, A = some ⟨b, o, none⟩ ∧ b < w.heap.size ∧ w.cell? ⟨b, o + k, none⟩ = some (.int .i64 (per l k : Int)) := by
  obtain ⟨_, _, e, _, hx⟩ := h.form
  cases e
  obtain ⟨b, o, rfl, hb, hc⟩ := hx (by omega)
  refine ⟨b, o, rfl, hb, ?_⟩
  rw [hc k (by simp [iz]; omega)]
  simp [iz, per, List.getD_eq_getElem?_getD, List.getElem?_eq_getElem (show k < l.length by omega)]
theorem Kt.Ar.bvAt {w : World} {A : Option Addr} {c n : Nat} {l : List Bt} (h : Kt.Ar w (.slice A n c) 2 n (bv l)) (hn : l.length = n) (k : Nat) (hk : k < n) : ∃ b o, A = some ⟨b, o, none⟩ ∧ b < w.heap.size ∧ w.cell? ⟨b, o + k * 2, none⟩ = some (.int .i64 ((bt l k).1 : Int)) ∧ w.cell? ⟨b, o + k * 2 + 1, none⟩ = some (.int .i64 ((bt l k).2 : Int)) := by
  obtain ⟨_, _, e, _, hx⟩ := h.form
  cases e
  obtain ⟨b, o, rfl, hb, hc⟩ := hx (by omega)
  obtain ⟨h1, h2⟩ := bv_at l k (by omega)
  obtain ⟨l1, e1⟩ := List.getElem?_eq_some_iff.1 h1
  obtain ⟨l2, e2⟩ := List.getElem?_eq_some_iff.1 h2
  refine ⟨b, o, rfl, hb, ?_, ?_⟩
  · rw [hc _ l1, e1]
  · rw [Nat.add_assoc, hc _ l2, e2]
set_option maxRecDepth 100000 in
set_option maxHeartbeats 1600000 in
theorem pl1_calls {W : World} {QA : Option Addr} {qc : Nat} {PA : Option Addr} {pc n : Nat} {qs : List Nat} {plan : List Bt} {qb pb tb t : Nat} (h : PW W QA qc PA pc n qs plan qb pb tb t) (hp : ∀ i, i < n → pw (per qs i)) (b : Bt) (bb : Nat) (hb : W.heap[bb]? = some (.cells #[.int .i64 (b.1 : Int), .int .i64 (b.2 : Int)] 31 (0, 0))) (k : Nat) (hk : k < n) (ht : t < n) :
    Calls Try.prog 27 #[.int .i64 (k : Int), .pointer (some ⟨bb, 0, none⟩), .pointer (some ⟨pb, 0, none⟩), .pointer (some ⟨qb, 0, none⟩), .pointer (some ⟨tb, 0, none⟩)] W fun e w' => e = .returned (.bool (confl b (bt plan k) (per qs t) (per qs k))) ∧ Below W.heap.size W w' := by
  obtain ⟨g1, o1, rfl, _, x1⟩ := h.aq.izAt h.nq k hk
  obtain ⟨g1', o1', e1, _, x2⟩ := h.aq.izAt h.nq t ht
  cases e1
  obtain ⟨g2, o2, rfl, _, y1, y2⟩ := h.ap.bvAt h.np k hk
  have z1 := fun i => cell_of_row _ _ i _ _ _ h.q
  have z2 := fun i => cell_of_row _ _ i _ _ _ h.p
  have z3 := fun i => cell_of_row _ _ i _ _ _ h.t
  have z4 := fun i => cell_of_row _ _ i _ _ _ hb
  have HC := Lib.hid (fun W => conf_calls b (bt plan k) (per qs t) (per qs k) (hp t ht) (hp k hk) W)
  have HB := Lib.hid (Below.refl W.heap.size W)
  have t1 := lt_int hk
  have t2 := lt_int ht
  unfold bag at HC
  generalize bt plan k = c at *
  generalize per qs t = p at *
  generalize per qs k = q at *
  obtain ⟨b1, b2⟩ := b
  obtain ⟨c1, c2⟩ := c
  dsimp only at *
  clear hb hp h hk ht
  go_enter Try.func27, Try.ntmps27
  go_wp2_with fail
  refine wp_region_still_tail 13 (by kernel_rfl) (by kernel_rfl) ?_
  simp only [List.take_succ_cons, List.take_zero, List.drop_succ_cons, List.drop_zero]
  change wpStill _ _ W.drew _ _ _
  iterate 13 still_step
  refine wpStill_nil ?_
  change wpList _ _ _ _ _ W.drew
  clear x1 x2 y1 y2 z1 z2 z3 z4 t1 t2
  have HBD := Lib.hid (bdrewN HB.out 1)
  go_wp2_with fail
  refine (HC.out W.drew).mono ?_
  rintro _ w1 ⟨rfl, hb⟩
  have HB1 : Hid (Below W.heap.size W w1) := Lib.hid (Kt.bthen HBD.out hb)
  clear hb
  go_wp2_with fail
  go_ret
  exact ⟨rfl, HB1.out⟩
end Go.Proofs.Ythmcnopogahffaa
