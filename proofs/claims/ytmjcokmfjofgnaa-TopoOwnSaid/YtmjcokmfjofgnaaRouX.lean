/- Ways: order, meeting: walked. -/
import Derived.Test.YtmjcokmfjofgnaaRouW
import Derived.Deep.QuietTactic
import Derived.Outline
namespace Go.Proofs.Ytmjcokmfjofgnaa
open Go.RowKit Go.Proofs.Ytmjcokmfjofgnaa.Rou
theorem inv_one (l : List Int) : ∀ u ∈ inv l, u.oneCell' = true := by
  intro u hu
  obtain ⟨c, _, rfl⟩ := List.mem_map.1 hu
  rfl
theorem infoI : (Try.prog.info? 3).map (fun i => (i.zero, i.size, i.bytes)) = some (some (.int .i64 0), 1, 8) := by kernel_rfl
set_option maxHeartbeats 800000 in
theorem icl_calls (v : Value) (n : Nat) (xs : List Value) (w : World) (h : Kt.Ar w v 1 n xs) (h1 : ∀ u ∈ xs, u.oneCell' = true) (hn : n ≤ 17592186044416) :
    Calls Try.prog 18 #[v] w fun e w' => ∃ A c, e = .returned (.slice A n c) ∧ Kt.Sl w' w.heap.size 3 1 (.slice A n c) n xs ∧ Below w.heap.size w w' := by
  have qT : ∀ (w : World) (a : Option Addr) (n c n' c' : Nat), (binOp .eql 23 (.slice a n c) (.slice none n' c')).run Try.prog w = .ok (.bool a.isNone) w := fun w a n c n' c' => Lib.run_eql_slice_nil w _ _ a n c n' c' Try.underlying23
  obtain ⟨A, c, rfl, hnc, hx⟩ := h.form
  have hlen := h.len
  cases A with
  | none =>
    have hn0 : n = 0 := by
      rcases Nat.eq_zero_or_pos n with h0 | h0
      · exact h0
      · obtain ⟨b, o, e, _⟩ := hx h0; cases e
    subst hn0
    obtain rfl : xs = [] := List.eq_nil_of_length_eq_zero (by simpa using hlen)
    go_enter Try.func18, Try.ntmps18
    go_wp2
    go_ret
    exact ⟨none, 0, rfl, Kt.Sl.nil _ _ _ _, Below.refl _ _⟩
  | some ad =>
    have hnews : ∀ j u, xs[j]? = some u → (w.alloc (.cells #[] 3)).cell? (ad.add j) = some u := by
      intro j u hj
      obtain ⟨hj1, hj2⟩ := List.getElem?_eq_some_iff.1 hj
      obtain ⟨b, o, e, hb, hc⟩ := hx (by omega)
      injection e with e
      subst e
      rw [Addr.add_lit, World.cell?_alloc_lt _ _ _ (by exact hb), hc j hj1, hj2]
    have hs0 : Kt.Sl (w.alloc (.cells #[] 3)) w.heap.size 3 1 (.slice (some ⟨w.heap.size, 0, none⟩) 0 0) 0 [] :=
      ⟨rfl, .inr ⟨w.heap.size, 0, 0, #[], rfl, Nat.le_refl _, heap_alloc_new w _, Nat.le_refl _, by simp [maxLen], by simp, fun j u hj => by simp at hj⟩⟩
    go_enter Try.func18, Try.ntmps18
    go_wp2_with (
      refine Kt.append_sl _ (by rfl) (.tmp 5) (.tmp 6) 23 rfl w.heap.size 3 (.int .i64 0) 1 8 infoI Try.underlying23 rfl (by decide) _ 0 [] rfl hs0 ad n c xs rfl hlen hnews h1 (by unfold maxLen; omega) (by omega) (by rw [World.size_alloc]; omega) ?_
      intro A' c' w1 hs1 hb1 hz1 hk1 hl1
      clear hk1 hl1 hs0 hnews hx)
    go_ret
    rw [Nat.zero_add] at hs1
    exact ⟨A', c', rfl, hs1, ((Below.refl _ w).alloc (Nat.le_refl _) _).trans hb1⟩
set_option maxRecDepth 100000 in
theorem order_calls (xs ys : List Int) (A B : Option Addr) (c d : Nat) (w : World) (ha : Wy w A c xs) (hb : Wy w B d ys) (hm : xs.length ≤ big) (hm2 : ys.length ≤ big) :
    Calls Try.prog 25 #[.slice A xs.length c, .slice B ys.length d] w fun e w' => e = .returned (.int .i64 (ordR xs ys)) ∧ Below w.heap.size w w' := by
  rw [← ord_eq]
  have HC := Lib.hid (common_calls xs ys A B c d w ha hb hm hm2)
  have HA := Lib.hid ha
  have HB := Lib.hid hb
  have l1 := cp_left xs ys
  have l2 := cp_right xs ys
  clear ha hb hm hm2
  by_cases h1 : cp xs ys < xs.length
  · by_cases h2 : cp xs ys < ys.length
    · have e : ordF xs ys = cmpI xs[cp xs ys] ys[cp xs ys] := by
        unfold ordF
        rw [List.getElem?_eq_getElem h1, List.getElem?_eq_getElem h2]
      rw [e]
      have d1 : decide ((cp xs ys : Int) < xs.length) = true := decide_eq_true (by omega)
      have d2 : decide ((cp xs ys : Int) < ys.length) = true := decide_eq_true (by omega)
      have i1 : (cp xs ys : Int) < xs.length := by omega
      have i2 : (cp xs ys : Int) < ys.length := by omega
      go_enter Try.func25, Try.ntmps25
      go_wp2_with fail
      refine HC.out.mono ?_
      rintro e w1 ⟨rfl, hb1⟩
      obtain ⟨b1, o1, rfl, _, c1⟩ := (HA.out.on hb1).cell _ h1
      obtain ⟨b2, o2, rfl, _, c2⟩ := (HB.out.on hb1).cell _ h2
      have HB1 := Lib.hid hb1
      have HP := Lib.hid (fun W => compare_calls xs[cp xs ys] ys[cp xs ys] W)
      clear hb1 e l1 l2
      go_wp2_with fail
      refine wp_region_quiet_lit (by kernel_rfl) (by kernel_rfl) ?_
      iterate 8 quiet_step (fail)
      refine wpQuiet_step (fun K hK => ?_); go_simp; apply Exists.intro; refine ⟨fun _ => ?_, hK _ ?_⟩
      exact Calls.quiet_of_same (HP.out _)
      clear hK K
      iterate 1 quiet_step (fail)
      refine wpQuiet_nil ?_; intro _ hw'; obtain ⟨nq, hw''⟩ := hw'; subst hw''
      go_wp2_with fail
      go_ret
      exact ⟨rfl, bdrewN HB1.out _⟩
    · have e : ordF xs ys = cmpI xs.length ys.length := by
        unfold ordF
        rw [show ys[cp xs ys]? = none from List.getElem?_eq_none (by omega)]
        cases xs[cp xs ys]? <;> rfl
      rw [e]
      have d1 : decide ((cp xs ys : Int) < xs.length) = true := decide_eq_true (by omega)
      have d2 : decide ((cp xs ys : Int) < ys.length) = false := decide_eq_false (by omega)
      have d3 : ¬ (cp xs ys : Int) < ys.length := by omega
      have d4 : (cp xs ys : Int) < xs.length := by omega
      clear e l1 l2 HA HB
      go_enter Try.func25, Try.ntmps25
      go_wp2_with fail
      refine HC.out.mono ?_
      rintro e w1 ⟨rfl, hb1⟩
      go_wp2_with fail
      refine (compare_calls _ _ _).mono ?_
      rintro e w2 ⟨rfl, rfl⟩
      go_wp2_with fail
      go_ret
      exact ⟨rfl, hb1⟩
  · have e : ordF xs ys = cmpI xs.length ys.length := by
      unfold ordF
      rw [show xs[cp xs ys]? = none from List.getElem?_eq_none (by omega)]
    rw [e]
    have d1 : decide ((cp xs ys : Int) < xs.length) = false := decide_eq_false (by omega)
    have d4 : ¬ (cp xs ys : Int) < xs.length := by omega
    clear e l1 l2 HA HB
    go_enter Try.func25, Try.ntmps25
    go_wp2_with fail
    refine HC.out.mono ?_
    rintro e w1 ⟨rfl, hb1⟩
    go_wp2_with fail
    refine (compare_calls _ _ _).mono ?_
    rintro e w2 ⟨rfl, rfl⟩
    go_wp2_with fail
    go_ret
    exact ⟨rfl, hb1⟩
theorem Wy.part {w : World} {A : Option Addr} {c : Nat} {l : List Int} (h : Wy w A c l) (k : Nat) (hk : k ≤ l.length) : Kt.Ar w (.slice A k c) 1 k (inv (l.take k)) := by
  obtain ⟨_, _, e, hn, hx⟩ := h.form
  cases e
  refine ⟨by rw [inv_len, List.length_take]; omega, A, c, rfl, by omega, fun h0 => ?_⟩
  obtain ⟨b, o, rfl, hb, hc⟩ := hx (by omega)
  refine ⟨b, o, rfl, hb, fun j hj => ?_⟩
  rw [inv_len, List.length_take] at hj
  rw [hc j (by rw [inv_len]; omega)]
  simp [inv]
end Go.Proofs.Ytmjcokmfjofgnaa
