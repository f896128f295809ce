/- Ways: the common beginning, hops, under, order: walked. -/
import Derived.Test.YtmjcokmfjofgnaaSlm
import Derived.Test.YtmjcokmfjofgnaaRouP
import Derived.Test.YtmjcokmfjofgnaaShelf
import Derived.BigQuiet
namespace Go.Proofs.Ytmjcokmfjofgnaa
open Go.RowKit Go.Proofs.Ytmjcokmfjofgnaa.Rou
def inv (l : List Int) : List Value := l.map (Value.int .i64)
theorem inv_len (l : List Int) : (inv l).length = l.length := by simp [inv]
/-- a way that lies there -/
def Wy (w : World) (A : Option Addr) (c : Nat) (l : List Int) : Prop := Kt.Ar w (.slice A l.length c) 1 l.length (inv l)
theorem Wy.on {w w' : World} {A : Option Addr} {c : Nat} {l : List Int} (h : Wy w A c l) (hb : Below w.heap.size w w') : Wy w' A c l := Kt.Ar.on h hb
theorem Wy.cell {w : World} {A : Option Addr} {c : Nat} {l : List Int} (h : Wy w A c l) (k : Nat) (hk : k < l.length) : ∃ b o, A = some ⟨b, o, none⟩ ∧ b < w.heap.size ∧ w.cell? ⟨b, o + k, none⟩ = some (.int .i64 l[k]) := by
  obtain ⟨_, _, e, _, hx⟩ := h.form
  cases e
  obtain ⟨b, o, rfl, hb, hc⟩ := hx (by omega)
  refine ⟨b, o, rfl, hb, ?_⟩
  rw [hc k (by rw [inv_len]; exact hk)]
  simp [inv]
theorem Wy.cap {w : World} {A : Option Addr} {c : Nat} {l : List Int} (h : Wy w A c l) : l.length ≤ c := by
  obtain ⟨_, _, e, hn, _⟩ := h.form
  cases e; exact hn
theorem cp_in {a b : List Int} {k : Nat} (h : k < cp a b) : ∃ (h1 : k < a.length) (h2 : k < b.length), a[k] = b[k] := by
  have h1 := cp_left a b
  have h2 := cp_right a b
  refine ⟨by omega, by omega, ?_⟩
  have e := cp_take a b
  have e1 : (a.take (cp a b))[k]? = a[k]? := by rw [List.getElem?_take, if_pos h]
  have e2 : (b.take (cp a b))[k]? = b[k]? := by rw [List.getElem?_take, if_pos h]
  rw [e, e2, List.getElem?_eq_getElem (by omega), List.getElem?_eq_getElem (by omega)] at e1
  injection e1 with e1
  exact e1.symm
theorem cp_end : ∀ {a b : List Int} (h1 : cp a b < a.length) (h2 : cp a b < b.length), a[cp a b] ≠ b[cp a b]
  | x :: a, y :: b, h1, h2 => by
    by_cases h : x = y
    · have e : cp (x :: a) (y :: b) = cp a b + 1 := if_pos h
      have h3 : cp a b < a.length := by rw [e] at h1; simpa using h1
      have h4 : cp a b < b.length := by rw [e] at h2; simpa using h2
      have ih := cp_end h3 h4
      simpa [e] using ih
    · have e : cp (x :: a) (y :: b) = 0 := if_neg h
      simpa [e] using h
theorem w1_up {k L : Nat} (h : k < L) (hL : L ≤ 4611686018427387904) : wrap64 ((k : Int) + 1) = ((k + 1 : Nat) : Int) := by unfold wrap64; omega
theorem next_up {k L : Nat} (h : k < L) : L - (intOf (.int .i64 ((k + 1 : Nat) : Int))).toNat < L - (intOf (.int .i64 (k : Int))).toNat := by
  simp only [intOf]
  omega
set_option maxRecDepth 100000 in
theorem common_calls (xs ys : List Int) (A B : Option Addr) (c d : Nat) (w : World) (ha : Wy w A c xs) (hb : Wy w B d ys) (hm : xs.length ≤ 1152921504606846976) (_hm2 : ys.length ≤ 1152921504606846976) :
    Calls Try.prog 37 #[.slice A xs.length c, .slice B ys.length d] w fun e w' => e = .returned (.int .i64 (cp xs ys)) ∧ Below w.heap.size w w' := by
  have HA := Lib.hid ha
  have HB := Lib.hid hb
  have HM := Lib.hid hm
  clear ha hb hm _hm2
  go_enter Try.func37, Try.ntmps37
  go_wp2_with fail
  go_loopw [5] (fun ii wr => ∃ k : Nat, ii = .int .i64 k ∧ Hid (k ≤ cp xs ys) ∧ Hid (Below w.heap.size w wr)) (fun ii _ => xs.length - (intOf ii).toNat)
  case atStart => exact ⟨0, rfl, Lib.hid (Nat.zero_le _), Lib.hid (Below.refl _ _)⟩
  case round =>
    obtain ⟨k, rfl, HK, HW⟩ := hrel
    by_cases hk : k < cp xs ys
    · obtain ⟨h1, h2, he⟩ := cp_in hk
      obtain ⟨b1, o1, rfl, _, c1⟩ := (HA.out.on HW.out).cell k h1
      obtain ⟨b2, o2, rfl, _, c2⟩ := (HB.out.on HW.out).cell k h2
      rw [← he] at c2
      have d1 : decide ((k : Int) < xs.length) = true := decide_eq_true (by omega)
      have d2 : decide ((k : Int) < ys.length) = true := decide_eq_true (by omega)
      have i1 : (k : Int) < xs.length := by omega
      have i2 : (k : Int) < ys.length := by omega
      have HH := Lib.hid (And.intro hk h1)
      clear he hk
      generalize xs[k] = z at *
      clear h1 h2
      go_wp2_with fail
      go_quiet (fail)
      go_wp2_with fail
      have hw1 := w1_up HH.out.2 (by have := HM.out; omega)
      exact ⟨⟨k + 1, by rw [hw1], Lib.hid (Nat.succ_le_of_lt HH.out.1), Lib.hid (bdrewN HW.out _)⟩, by rw [hw1]; exact next_up HH.out.2⟩
    · obtain rfl : k = cp xs ys := by have := HK.out; omega
      clear hk HK
      by_cases h1 : cp xs ys < xs.length
      · have d1 : decide ((cp xs ys : Int) < xs.length) = true := decide_eq_true (by omega)
        by_cases h2 : cp xs ys < ys.length
        · have d2 : decide ((cp xs ys : Int) < ys.length) = true := decide_eq_true (by omega)
          have hne := cp_end h1 h2
          obtain ⟨b1, o1, rfl, _, c1⟩ := (HA.out.on HW.out).cell _ h1
          obtain ⟨b2, o2, rfl, _, c2⟩ := (HB.out.on HW.out).cell _ h2
          have i1 : (cp xs ys : Int) < xs.length := by omega
          have i2 : (cp xs ys : Int) < ys.length := by omega
          have e0 : (xs[cp xs ys] == ys[cp xs ys]) = false := by rw [beq_eq_false_iff_ne]; exact hne
          clear hne
          obtain ⟨z, hz⟩ : ∃ z, xs[cp xs ys] = z := ⟨_, rfl⟩
          obtain ⟨z', hz'⟩ : ∃ z, ys[cp xs ys] = z := ⟨_, rfl⟩
          rw [hz] at c1 e0
          rw [hz'] at c2 e0
          clear hz hz'
          go_wp2_with fail
          go_quiet (fail)
          go_wp2_with fail
          go_ret
          exact ⟨rfl, bdrewN HW.out _⟩
        · have d2 : decide ((cp xs ys : Int) < ys.length) = false := decide_eq_false (by omega)
          have d3 : decide (cp xs ys < ys.length) = false := decide_eq_false h2
          have d4 : decide (cp xs ys < xs.length) = true := decide_eq_true h1
          go_wp2_with fail
          go_quiet (fail)
          go_wp2_with fail
          go_ret
          exact ⟨rfl, bdrewN HW.out _⟩
      · have d1 : decide ((cp xs ys : Int) < xs.length) = false := decide_eq_false (by omega)
        have d3 : decide (cp xs ys < xs.length) = false := decide_eq_false h1
        go_wp2_with fail
        go_quiet (fail)
        go_wp2_with fail
        go_ret
        exact ⟨rfl, bdrewN HW.out _⟩
def big : Nat := 1152921504606846976
theorem under_calls (xs ys : List Int) (A B : Option Addr) (c d : Nat) (w : World) (ha : Wy w A c xs) (hb : Wy w B d ys) (hm : xs.length ≤ big) (hm2 : ys.length ≤ big) :
    Calls Try.prog 28 #[.slice A xs.length c, .slice B ys.length d] w fun e w' => e = .returned (.bool (decide (ys <+: xs))) ∧ Below w.heap.size w w' := by
  have HC := Lib.hid (common_calls xs ys A B c d w ha hb hm hm2)
  have he : ((cp xs ys : Int) == (ys.length : Int)) = decide (ys <+: xs) := by
    rw [Bool.eq_iff_iff, beq_iff_eq, decide_eq_true_iff, ← cp_all]; omega
  clear hm hm2 ha hb
  go_enter Try.func28, Try.ntmps28
  go_wp2_with fail
  refine HC.out.mono ?_
  rintro e w1 ⟨rfl, hb⟩
  go_wp2_with fail
  go_ret
  exact ⟨rfl, hb⟩
theorem compare_calls (x y : Int) (w : World) : Calls Try.prog 38 #[.int .i64 x, .int .i64 y] w fun e w' => e = .returned (.int .i64 (cmpI x y)) ∧ w' = w := by
  unfold cmpI
  by_cases h1 : x < y
  · rw [if_pos h1]
    go_enter Try.func38, Try.ntmps38
    go_wp2_with fail
    refine (Try.cmp_isNaN_int2 _ _).mono ?_; rintro e w1 ⟨rfl, rfl⟩
    go_wp2_with fail
    refine (Try.cmp_isNaN_int2 _ _).mono ?_; rintro e w1 ⟨rfl, rfl⟩
    go_wp2_with fail
    go_ret
    exact ⟨rfl, rfl⟩
  · rw [if_neg h1]
    by_cases h2 : y < x
    · rw [if_pos h2]
      go_enter Try.func38, Try.ntmps38
      go_wp2_with fail
      refine (Try.cmp_isNaN_int2 _ _).mono ?_; rintro e w1 ⟨rfl, rfl⟩
      go_wp2_with fail
      refine (Try.cmp_isNaN_int2 _ _).mono ?_; rintro e w1 ⟨rfl, rfl⟩
      go_wp2_with fail
      go_ret
      exact ⟨rfl, rfl⟩
    · rw [if_neg h2]
      go_enter Try.func38, Try.ntmps38
      go_wp2_with fail
      refine (Try.cmp_isNaN_int2 _ _).mono ?_; rintro e w1 ⟨rfl, rfl⟩
      go_wp2_with fail
      refine (Try.cmp_isNaN_int2 _ _).mono ?_; rintro e w1 ⟨rfl, rfl⟩
      go_wp2_with fail
      go_ret
      exact ⟨rfl, rfl⟩
theorem ieq_calls (xs ys : List Int) (A B : Option Addr) (c d : Nat) (w : World) (ha : Wy w A c xs) (hb : Wy w B d ys) (hm : xs.length ≤ big) (hm2 : ys.length ≤ big) :
    Calls Try.prog 11 #[.slice A xs.length c, .slice B ys.length d] w fun e w' => e = .returned (.bool (decide (xs = ys))) ∧ Below w.heap.size w w' := by
  unfold big at hm hm2
  by_cases hl : xs.length = ys.length
  · by_cases h0 : xs.length = 0
    · have hx : xs = [] := List.eq_nil_of_length_eq_zero h0
      have hy : ys = [] := List.eq_nil_of_length_eq_zero (by omega)
      subst hx hy
      exact (Try.slices_Equal_int_empty A B c 0 d w (by decide)).mono fun e w' h => ⟨by simpa using h.1, h.2 ▸ Below.refl _ _⟩
    · obtain ⟨_, _, e, _, hx⟩ := ha.form
      obtain ⟨_, _, e', _, hx'⟩ := hb.form
      cases e; cases e'
      obtain ⟨b, o, rfl, _, hc⟩ := hx (Nat.pos_of_ne_zero h0)
      obtain ⟨b', o', rfl, _, hc'⟩ := hx' (by rw [← hl]; exact Nat.pos_of_ne_zero h0)
      refine (Try.slices_Equal_int b o xs.length c b' o' ys.length d xs ys w (Nat.le_refl _) (Nat.le_refl _) (by omega) (by omega) (fun j hj => ?_) (fun j hj => ?_)).mono fun e w' h => ?_
      · rw [hc j (by rw [inv_len]; exact hj)]; simp [inv, hj]
      · rw [hc' j (by rw [inv_len]; exact hj)]; simp [inv, hj]
      · obtain ⟨rfl, q, rfl⟩ := h
        refine ⟨?_, bdrewN (Below.refl _ _) q⟩
        rw [List.take_length, List.take_length]
        congr 2
        rw [Bool.eq_iff_iff]
        simp
  · refine (Try.slices_Equal_int_lens A B xs.length c ys.length d w hl).mono fun e w' h => ⟨?_, h.2 ▸ Below.refl _ _⟩
    rw [h.1, decide_eq_false (fun e => hl (by rw [e]))]
end Go.Proofs.Ytmjcokmfjofgnaa
