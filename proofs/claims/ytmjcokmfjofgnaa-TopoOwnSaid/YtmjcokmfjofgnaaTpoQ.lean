/- route.common, Order, Under, slices.Equal of ints: they only read and draw. -/
import Derived.Test.YtmjcokmfjofgnaaRouX
namespace Go.Proofs.Ytmjcokmfjofgnaa
open Go.RowKit Go.Proofs.Ytmjcokmfjofgnaa.Rou
/-- the same world, but for draws -/
def Dn (w w' : World) : Prop := ∃ q, w' = w.drewN q
theorem Dn.refl (w : World) : Dn w w := ⟨0, rfl⟩
theorem Dn.bel {w w' : World} (h : Dn w w') : Below w.heap.size w w' := by obtain ⟨q, rfl⟩ := h; exact bdrewN (Below.refl _ _) q
theorem Dn.more {w w' : World} (h : Dn w w') (n : Nat) : Dn w (w'.drewN n) := by obtain ⟨q, rfl⟩ := h; exact ⟨q + n, by rw [World.drewN_drewN]⟩
set_option maxRecDepth 100000 in
theorem commonD (xs ys : List Int) (A B : Option Addr) (c d : Nat) (w : World) (ha : Wy w A c xs) (hb : Wy w B d ys) (hm : xs.length ≤ 1152921504606846976) (_hm2 : ys.length ≤ 1152921504606846976) :
    Calls Try.prog 37 #[.slice A xs.length c, .slice B ys.length d] w fun e w' => e = .returned (.int .i64 (cp xs ys)) ∧ Dn w w' := by
  have HA := Lib.hid ha
  have HB := Lib.hid hb
  have HM := Lib.hid hm
  clear ha hb hm _hm2
  go_enter Try.func37, Try.ntmps37
  go_wp2_with fail
  go_loopw [5] (fun ii wr => ∃ k : Nat, ii = .int .i64 k ∧ Hid (k ≤ cp xs ys) ∧ Hid (Dn w wr)) (fun ii _ => xs.length - (intOf ii).toNat)
  case atStart => exact ⟨0, rfl, Lib.hid (Nat.zero_le _), Lib.hid (Dn.refl _)⟩
  case round =>
    obtain ⟨k, rfl, HK, HW⟩ := hrel
    by_cases hk : k < cp xs ys
    · obtain ⟨h1, h2, he⟩ := cp_in hk
      obtain ⟨b1, o1, rfl, _, c1⟩ := (HA.out.on HW.out.bel).cell k h1
      obtain ⟨b2, o2, rfl, _, c2⟩ := (HB.out.on HW.out.bel).cell k h2
      rw [← he] at c2
      have d1 : decide ((k : Int) < xs.length) = true := decide_eq_true (by omega)
      have d2 : decide ((k : Int) < ys.length) = true := decide_eq_true (by omega)
      have i1 : (k : Int) < xs.length := by omega
      have i2 : (k : Int) < ys.length := by omega
      have HH := Lib.hid (And.intro hk h1)
      clear he hk
      generalize xs[k] = z at *
      clear h1 h2
      go_wp2_with fail
      go_quiet (fail)
      go_wp2_with fail
      have hw1 := w1_up HH.out.2 (by have := HM.out; omega)
      exact ⟨⟨k + 1, by rw [hw1], Lib.hid (Nat.succ_le_of_lt HH.out.1), Lib.hid (HW.out.more _)⟩, by rw [hw1]; exact next_up HH.out.2⟩
    · obtain rfl : k = cp xs ys := by have := HK.out; omega
      clear hk HK
      by_cases h1 : cp xs ys < xs.length
      · have d1 : decide ((cp xs ys : Int) < xs.length) = true := decide_eq_true (by omega)
        by_cases h2 : cp xs ys < ys.length
        · have d2 : decide ((cp xs ys : Int) < ys.length) = true := decide_eq_true (by omega)
          have hne := cp_end h1 h2
          obtain ⟨b1, o1, rfl, _, c1⟩ := (HA.out.on HW.out.bel).cell _ h1
          obtain ⟨b2, o2, rfl, _, c2⟩ := (HB.out.on HW.out.bel).cell _ h2
          have i1 : (cp xs ys : Int) < xs.length := by omega
          have i2 : (cp xs ys : Int) < ys.length := by omega
          have e0 : (xs[cp xs ys] == ys[cp xs ys]) = false := by rw [beq_eq_false_iff_ne]; exact hne
          clear hne
          obtain ⟨z, hz⟩ : ∃ z, xs[cp xs ys] = z := ⟨_, rfl⟩
          obtain ⟨z', hz'⟩ : ∃ z, ys[cp xs ys] = z := ⟨_, rfl⟩
          rw [hz] at c1 e0
          rw [hz'] at c2 e0
          clear hz hz'
          go_wp2_with fail
          go_quiet (fail)
          go_wp2_with fail
          go_ret
          exact ⟨rfl, HW.out.more _⟩
        · have d2 : decide ((cp xs ys : Int) < ys.length) = false := decide_eq_false (by omega)
          have d3 : decide (cp xs ys < ys.length) = false := decide_eq_false h2
          have d4 : decide (cp xs ys < xs.length) = true := decide_eq_true h1
          go_wp2_with fail
          go_quiet (fail)
          go_wp2_with fail
          go_ret
          exact ⟨rfl, HW.out.more _⟩
      · have d1 : decide ((cp xs ys : Int) < xs.length) = false := decide_eq_false (by omega)
        have d3 : decide (cp xs ys < xs.length) = false := decide_eq_false h1
        go_wp2_with fail
        go_quiet (fail)
        go_wp2_with fail
        go_ret
        exact ⟨rfl, HW.out.more _⟩
theorem underD (xs ys : List Int) (A B : Option Addr) (c d : Nat) (w : World) (ha : Wy w A c xs) (hb : Wy w B d ys) (hm : xs.length ≤ big) (hm2 : ys.length ≤ big) :
    Calls Try.prog 28 #[.slice A xs.length c, .slice B ys.length d] w fun e w' => e = .returned (.bool (decide (ys <+: xs))) ∧ Dn w w' := by
  have HC := Lib.hid (commonD xs ys A B c d w ha hb hm hm2)
  have he : ((cp xs ys : Int) == (ys.length : Int)) = decide (ys <+: xs) := by
    rw [Bool.eq_iff_iff, beq_iff_eq, decide_eq_true_iff, ← cp_all]; omega
  clear hm hm2 ha hb
  go_enter Try.func28, Try.ntmps28
  go_wp2_with fail
  refine HC.out.mono ?_
  rintro e w1 ⟨rfl, hb⟩
  go_wp2_with fail
  go_ret
  exact ⟨rfl, hb⟩
theorem ieqD (xs ys : List Int) (A B : Option Addr) (c d : Nat) (w : World) (ha : Wy w A c xs) (hb : Wy w B d ys) (hm : xs.length ≤ big) (hm2 : ys.length ≤ big) :
    Calls Try.prog 11 #[.slice A xs.length c, .slice B ys.length d] w fun e w' => e = .returned (.bool (decide (xs = ys))) ∧ Dn w w' := by
  unfold big at hm hm2
  by_cases hl : xs.length = ys.length
  · by_cases h0 : xs.length = 0
    · have hx : xs = [] := List.eq_nil_of_length_eq_zero h0
      have hy : ys = [] := List.eq_nil_of_length_eq_zero (by omega)
      subst hx hy
      exact (Try.slices_Equal_int_empty A B c 0 d w (by decide)).mono fun e w' h => ⟨by simpa using h.1, h.2 ▸ Dn.refl _⟩
    · obtain ⟨_, _, e, _, hx⟩ := ha.form
      obtain ⟨_, _, e', _, hx'⟩ := hb.form
      cases e; cases e'
      obtain ⟨b, o, rfl, _, hc⟩ := hx (Nat.pos_of_ne_zero h0)
      obtain ⟨b', o', rfl, _, hc'⟩ := hx' (by rw [← hl]; exact Nat.pos_of_ne_zero h0)
      refine (Try.slices_Equal_int b o xs.length c b' o' ys.length d xs ys w (Nat.le_refl _) (Nat.le_refl _) (by omega) (by omega) (fun j hj => ?_) (fun j hj => ?_)).mono fun e w' h => ?_
      · rw [hc j (by rw [inv_len]; exact hj)]; simp [inv, hj]
      · rw [hc' j (by rw [inv_len]; exact hj)]; simp [inv, hj]
      · obtain ⟨rfl, q, rfl⟩ := h
        refine ⟨?_, (Dn.refl _).more q⟩
        rw [List.take_length, List.take_length]
        congr 2
        rw [Bool.eq_iff_iff]
        simp
  · refine (Try.slices_Equal_int_lens A B xs.length c ys.length d w hl).mono fun e w' h => ⟨?_, h.2 ▸ Dn.refl _⟩
    rw [h.1, decide_eq_false (fun e => hl (by rw [e]))]
set_option maxRecDepth 100000 in
theorem orderD (xs ys : List Int) (A B : Option Addr) (c d : Nat) (w : World) (ha : Wy w A c xs) (hb : Wy w B d ys) (hm : xs.length ≤ big) (hm2 : ys.length ≤ big) :
    Calls Try.prog 25 #[.slice A xs.length c, .slice B ys.length d] w fun e w' => e = .returned (.int .i64 (ordR xs ys)) ∧ Dn w w' := by
  rw [← ord_eq]
  have HC := Lib.hid (commonD xs ys A B c d w ha hb hm hm2)
  have HA := Lib.hid ha
  have HB := Lib.hid hb
  have l1 := cp_left xs ys
  have l2 := cp_right xs ys
  clear ha hb hm hm2
  by_cases h1 : cp xs ys < xs.length
  · by_cases h2 : cp xs ys < ys.length
    · have e : ordF xs ys = cmpI xs[cp xs ys] ys[cp xs ys] := by
        unfold ordF
        rw [List.getElem?_eq_getElem h1, List.getElem?_eq_getElem h2]
      rw [e]
      have d1 : decide ((cp xs ys : Int) < xs.length) = true := decide_eq_true (by omega)
      have d2 : decide ((cp xs ys : Int) < ys.length) = true := decide_eq_true (by omega)
      have i1 : (cp xs ys : Int) < xs.length := by omega
      have i2 : (cp xs ys : Int) < ys.length := by omega
      go_enter Try.func25, Try.ntmps25
      go_wp2_with fail
      refine HC.out.mono ?_
      rintro e w1 ⟨rfl, hb1⟩
      obtain ⟨b1, o1, rfl, _, c1⟩ := (HA.out.on hb1.bel).cell _ h1
      obtain ⟨b2, o2, rfl, _, c2⟩ := (HB.out.on hb1.bel).cell _ h2
      have HB1 := Lib.hid hb1
      have HP := Lib.hid (fun W => compare_calls xs[cp xs ys] ys[cp xs ys] W)
      clear hb1 e l1 l2
      go_wp2_with fail
      refine wp_region_quiet_lit (by kernel_rfl) (by kernel_rfl) ?_
      iterate 8 quiet_step (fail)
      refine wpQuiet_step (fun K hK => ?_); go_simp; apply Exists.intro; refine ⟨fun _ => ?_, hK _ ?_⟩
      exact Calls.quiet_of_same (HP.out _)
      clear hK K
      iterate 1 quiet_step (fail)
      refine wpQuiet_nil ?_; intro _ hw'; obtain ⟨nq, hw''⟩ := hw'; subst hw''
      go_wp2_with fail
      go_ret
      exact ⟨rfl, HB1.out.more _⟩
    · have e : ordF xs ys = cmpI xs.length ys.length := by
        unfold ordF
        rw [show ys[cp xs ys]? = none from List.getElem?_eq_none (by omega)]
        cases xs[cp xs ys]? <;> rfl
      rw [e]
      have d1 : decide ((cp xs ys : Int) < xs.length) = true := decide_eq_true (by omega)
      have d2 : decide ((cp xs ys : Int) < ys.length) = false := decide_eq_false (by omega)
      have d3 : ¬ (cp xs ys : Int) < ys.length := by omega
      have d4 : (cp xs ys : Int) < xs.length := by omega
      clear e l1 l2 HA HB
      go_enter Try.func25, Try.ntmps25
      go_wp2_with fail
      refine HC.out.mono ?_
      rintro e w1 ⟨rfl, hb1⟩
      go_wp2_with fail
      refine (compare_calls _ _ _).mono ?_
      rintro e w2 ⟨rfl, rfl⟩
      go_wp2_with fail
      go_ret
      exact ⟨rfl, hb1⟩
  · have e : ordF xs ys = cmpI xs.length ys.length := by
      unfold ordF
      rw [show xs[cp xs ys]? = none from List.getElem?_eq_none (by omega)]
    rw [e]
    have d1 : decide ((cp xs ys : Int) < xs.length) = false := decide_eq_false (by omega)
    have d4 : ¬ (cp xs ys : Int) < xs.length := by omega
    clear e l1 l2 HA HB
    go_enter Try.func25, Try.ntmps25
    go_wp2_with fail
    refine HC.out.mono ?_
    rintro e w1 ⟨rfl, hb1⟩
    go_wp2_with fail
    refine (compare_calls _ _ _).mono ?_
    rintro e w2 ⟨rfl, rfl⟩
    go_wp2_with fail
    go_ret
    exact ⟨rfl, hb1⟩
end Go.Proofs.Ytmjcokmfjofgnaa
