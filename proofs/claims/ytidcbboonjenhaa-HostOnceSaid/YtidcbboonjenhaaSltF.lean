/- The walks of package slots: configure. -/
import Derived.Test.YtidcbboonjenhaaSltA
namespace Go.Proofs.Ytidcbboonjenhaa
open Go.RowKit Classical Go.Proofs.Ytidcbboonjenhaa.Slt
/-- a slot that is configured up to the endpoint i -/
structure Part (x : List Int) (m : Nat) (i : Nat) (y : List Int) : Prop where
  len : y.length = 66
  st : G y 0 = G x 0
  ad : G y 1 = G x 1
  low : ∀ k, k < 2 → G y (2 + k) = G x (2 + k) ∧ G y (34 + k) = G x (34 + k)
  off : ∀ k, 2 ≤ k → k < i → m.testBit k = false → G y (2 + k) = 0 ∧ G y (34 + k) = 0
  on : ∀ k, 2 ≤ k → k < i → m.testBit k = true → G y (2 + k) = (if G x (2 + k) = 0 then 1 else G x (2 + k)) ∧ G y (34 + k) = G x (34 + k)
  rest : ∀ k, i ≤ k → k < 32 → G y (2 + k) = G x (2 + k) ∧ G y (34 + k) = G x (34 + k)
theorem Part.start (x : List Int) (hx : x.length = 66) (m : Nat) : Part x m 2 x := ⟨hx, rfl, rfl, fun _ _ => ⟨rfl, rfl⟩, fun k h1 h2 => absurd h2 (by omega), fun k h1 h2 => absurd h2 (by omega), fun _ _ _ => ⟨rfl, rfl⟩⟩
theorem Part.next {x y z : List Int} {m i : Nat} (h : Part x m i y) (hi : 2 ≤ i) (hi2 : i < 32) (hz : z.length = 66) (hk : ∀ j, j ≠ 2 + i → j ≠ 34 + i → G z j = G y j) (h0 : m.testBit i = false → G z (2 + i) = 0 ∧ G z (34 + i) = 0)
    (h1 : m.testBit i = true → G z (2 + i) = (if G x (2 + i) = 0 then 1 else G x (2 + i)) ∧ G z (34 + i) = G x (34 + i)) : Part x m (i + 1) z := by
  refine ⟨hz, ?_, ?_, fun k k1 => ?_, fun k k1 k2 k3 => ?_, fun k k1 k2 k3 => ?_, fun k k1 k2 => ?_⟩
  · rw [hk 0 (by omega) (by omega)]; exact h.st
  · rw [hk 1 (by omega) (by omega)]; exact h.ad
  · rw [hk (2 + k) (by omega) (by omega), hk (34 + k) (by omega) (by omega)]; exact h.low k k1
  · by_cases e : k = i
    · subst e; exact h0 k3
    · rw [hk (2 + k) (by omega) (by omega), hk (34 + k) (by omega) (by omega)]; exact h.off k k1 (by omega) k3
  · by_cases e : k = i
    · subst e; exact h1 k3
    · rw [hk (2 + k) (by omega) (by omega), hk (34 + k) (by omega) (by omega)]; exact h.on k k1 (by omega) k3
  · rw [hk (2 + k) (by omega) (by omega), hk (34 + k) (by omega) (by omega)]; exact h.rest k (by omega) k2
theorem Part.clear {x y : List Int} {m i : Nat} (h : Part x m i y) (hi : 2 ≤ i) (hi2 : i < 32) (hb : m.testBit i = false) : Part x m (i + 1) ((y.set (2 + i) 0).set (34 + i) 0) := by
  have hl := h.len
  have g : ∀ j, G ((y.set (2 + i) 0).set (34 + i) 0) j = if j = 34 + i then 0 else if j = 2 + i then 0 else G y j := fun j => by
    rw [G_set _ _ _ _ (by rw [List.length_set]; omega), G_set _ _ _ _ (by omega)]
  refine h.next hi hi2 (by simp [hl]) (fun j a b => by rw [g, if_neg b, if_neg a]) (fun _ => ⟨by rw [g, if_neg (by omega), if_pos rfl], by rw [g, if_pos rfl]⟩) (fun e => absurd (hb.symm.trans e) (by decide))
theorem Part.turn {x y : List Int} {m i : Nat} (h : Part x m i y) (hi : 2 ≤ i) (hi2 : i < 32) (hb : m.testBit i = true) (h0 : G y (2 + i) = 0) : Part x m (i + 1) (y.set (2 + i) 1) := by
  have hl := h.len
  have g : ∀ j, G (y.set (2 + i) 1) j = if j = 2 + i then 1 else G y j := fun j => G_set _ _ _ _ (by omega)
  have hr := h.rest i (Nat.le_refl _) hi2
  refine h.next hi hi2 (by simp [hl]) (fun j a b => by rw [g, if_neg a]) (fun e => absurd (hb.symm.trans e) (by decide)) (fun _ => ⟨by rw [g, if_pos rfl, if_pos (by rw [← hr.1]; exact h0)], by rw [g, if_neg (by omega)]; exact hr.2⟩)
theorem Part.keep {x y : List Int} {m i : Nat} (h : Part x m i y) (hi : 2 ≤ i) (hi2 : i < 32) (hb : m.testBit i = true) (h0 : G y (2 + i) ≠ 0) : Part x m (i + 1) y := by
  have hr := h.rest i (Nat.le_refl _) hi2
  exact h.next hi hi2 h.len (fun _ _ _ => rfl) (fun e => absurd (hb.symm.trans e) (by decide)) (fun _ => ⟨by rw [if_neg (by rw [← hr.1]; exact h0)]; exact hr.1, hr.2⟩)
theorem Part.done {x y : List Int} {m : Nat} (h : Part x m 32 y) : Conf x m (y.set 0 (if (m : Int) = 0 then 2 else 3)) := by
  have hl := h.len
  have g : ∀ v j, G (y.set 0 v) j = if j = 0 then v else G y j := fun v j => G_set _ _ _ _ (by omega)
  have g' : ∀ v j, j ≠ 0 → G (y.set 0 v) j = G y j := fun v j hj => by rw [g, if_neg hj]
  refine ⟨by simp [hl], by rw [g, if_pos rfl], by rw [g' _ _ (by omega)]; exact h.ad, fun k k1 => ?_, fun k k1 k2 k3 => ?_, fun k k1 k2 k3 => ?_⟩
  · rw [g' _ _ (by omega), g' _ _ (by omega)]; exact h.low k k1
  · rw [g' _ _ (by omega), g' _ _ (by omega)]; exact h.off k k1 k2 k3
  · rw [g' _ _ (by omega), g' _ _ (by omega)]; exact h.on k k1 k2 k3
theorem and3 (m : Nat) (h : m < 4294967296) : bits .and .i64 (m : Int) 3 = ((m % 4 : Nat) : Int) := by
  have := Kt.i64_and_nat m 3 (by omega) (by omega)
  rw [show (m &&& 3) = m % 4 from Nat.and_two_pow_sub_one_eq_mod m 2] at this
  exact this
theorem bit_test (m i : Nat) (hm : m < 4294967296) : (bits .and .i64 ((m : Int) / 2 ^ i) 1 == 1) = m.testBit i := by
  have e : (m : Int) / 2 ^ i = ((m / 2 ^ i : Nat) : Int) := by push_cast; rfl
  have hd : m / 2 ^ i ≤ m := Nat.div_le_self _ _
  have := Kt.i64_and_nat (m / 2 ^ i) 1 (by omega) (by omega)
  rw [e, show ((1 : Int)) = ((1 : Nat) : Int) from rfl, this, Nat.testBit_eq_decide_div_mod_eq, Nat.and_one_is_mod]
  by_cases h : m / 2 ^ i % 2 = 1
  · rw [h]; simp
  · rw [decide_eq_false h, beq_eq_false_iff_ne.2 (by omega)]
theorem put_st (l : List Int) (hl : l.length = 594) (n : Nat) (hn : n < 9) (y : List Int) (hy : y.length = 66) (v : Int) : (put l n y).set (n * 66) v = put l n (y.set 0 v) := put_set l hl n hn y hy 0 (by omega) v
theorem put_two (l : List Int) (hl : l.length = 594) (n : Nat) (hn : n < 9) (y : List Int) (hy : y.length = 66) (a i : Nat) (ha : a + i < 66) (v : Int) : (put l n y).set (n * 66 + a + i) v = put l n (y.set (a + i) v) := by
  rw [Nat.add_assoc]; exact put_set l hl n hn y hy (a + i) ha v
def ConfIs (g : Nat) (l : List Int) (n : Nat) (a : Int) (w : World) (e : Ending) (w' : World) : Prop :=
  e = .returned (.int .i64 (confCode (at_ l n) a)) ∧ ((confCode (at_ l n) a = 1 ∧ ∃ y, Conf (at_ l n) a y ∧ Bx 43 g (put l n y) w' ∧ Upd g w w') ∨ (confCode (at_ l n) a ≠ 1 ∧ w' = w))
theorem conf17 {x : List Int} {a : Int} (h : a < 0 ∨ 4294967296 ≤ a ∨ a % 4 ≠ 0) : confCode x a = 17 := by unfold confCode; rw [if_pos h]
theorem conf19 {x : List Int} {a : Int} (h : ¬ (a < 0 ∨ 4294967296 ≤ a ∨ a % 4 ≠ 0)) (h1 : G x 0 = 1) : confCode x a = 19 := by unfold confCode; rw [if_neg h, if_pos h1]
theorem conf1 {x : List Int} {a : Int} (h : ¬ (a < 0 ∨ 4294967296 ≤ a ∨ a % 4 ≠ 0)) (h1 : G x 0 ≠ 1) : confCode x a = 1 := by unfold confCode; rw [if_neg h, if_neg h1]
set_option maxRecDepth 100000 in
theorem conf_bad (l : List Int) (n : Nat) (g : Nat) (w : World) (a : Int) (h : a < 0 ∨ (0 ≤ a ∧ 4294967296 ≤ a) ∨ (0 ≤ a ∧ a < 4294967296 ∧ a % 4 ≠ 0)) : Calls Try.prog 36 #[.pointer (some ⟨g, n * 66, none⟩), .int .i64 a] w (ConfIs g l n a w) := by
  have HC := Lib.hid (conf17 (x := at_ l n) (a := a) (by omega))
  rcases h with h | ⟨h1, h2⟩ | ⟨h1, h2, h3⟩
  · go_enter Try.func36, Try.ntmps36
    go_wp2_with fail
    go_ret
    exact ⟨congrArg (fun x => Ending.returned (.int .i64 x)) HC.out.symm, .inr ⟨by rw [HC.out]; decide, rfl⟩⟩
  · go_enter Try.func36, Try.ntmps36
    go_wp2_with fail
    go_ret
    exact ⟨congrArg (fun x => Ending.returned (.int .i64 x)) HC.out.symm, .inr ⟨by rw [HC.out]; decide, rfl⟩⟩
  · obtain ⟨m, rfl⟩ : ∃ m : Nat, a = m := ⟨a.toNat, by omega⟩
    have e3 := and3 m (by omega)
    have f1 : (bits .and .i64 (m : Int) 3 != 0) = true := by rw [e3]; exact bne_iff_ne.2 (by omega)
    clear e3
    go_enter Try.func36, Try.ntmps36
    go_wp2_with fail
    go_ret
    exact ⟨congrArg (fun x => Ending.returned (.int .i64 x)) HC.out.symm, .inr ⟨by rw [HC.out]; decide, rfl⟩⟩
set_option maxRecDepth 100000 in
set_option maxHeartbeats 1600000 in
theorem conf_good (l : List Int) (hl : l.length = 594) (n : Nat) (hn : n < 9) (g : Nat) (w : World) (hb : Bx 43 g l w) (z : Int) (hz1 : 0 ≤ z) (hz2 : z < 4294967296) (hz4 : z % 4 = 0) : Calls Try.prog 36 #[.pointer (some ⟨g, n * 66, none⟩), .int .i64 z] w (ConfIs g l n z w) := by
  obtain ⟨m, HZ, hm, h4⟩ : ∃ m : Nat, Hid (z = m) ∧ m < 4294967296 ∧ m % 4 = 0 := ⟨z.toNat, Lib.hid (by omega), by omega, by omega⟩
  have HM := Lib.hid (show ¬ (z < 0 ∨ 4294967296 ≤ z ∨ z % 4 ≠ 0) by omega)
  have e3 := and3 m hm
  have f1 : (bits .and .i64 z 3 != 0) = false := by rw [HZ.out, e3, h4]; rfl
  have d1 : decide (z < 0) = false := decide_eq_false (by omega)
  have d2 : decide (4294967296 ≤ z) = false := decide_eq_false (by omega)
  have HM2 := Lib.hid hm
  have HB := Lib.hid hb
  have H4 := Lib.hid h4
  have c0 := hb.cell (n * 66) (by omega)
  have hx := at_len l hl n hn
  have g0 : G (at_ l n) 0 = G l (n * 66) := G_at l n 0 (by omega)
  clear hb e3 h4 hz1 hz2 hz4 hm
  by_cases h1 : G l (n * 66) = 1
  · have HC := Lib.hid (conf19 HM.out (g0.trans h1))
    rw [h1] at c0
    clear g0 h1
    go_enter Try.func36, Try.ntmps36
    go_wp2_with fail
    go_ret
    exact ⟨congrArg (fun x => Ending.returned (.int .i64 x)) HC.out.symm, .inr ⟨by rw [HC.out]; decide, rfl⟩⟩
  · have HC := Lib.hid (conf1 HM.out (g0 ▸ h1))
    have f2 : (G l (n * 66) == 1) = false := beq_eq_false_iff_ne.2 h1
    have HX := Lib.hid (Part.start (at_ l n) hx m)
    clear g0 h1
    go_enter Try.func36, Try.ntmps36
    go_wp2_with fail
    clear f1 f2 c0 d1 d2
    go_loopw [5, 6] (fun ii _ wr => ∃ i : Nat, ∃ y : List Int, Hid (2 ≤ i ∧ i ≤ 32) ∧ ii = .int .i64 i ∧ Hid (Part (at_ l n) m i y) ∧ Hid (Bx 43 g (put l n y) wr) ∧ Hid (Upd g w wr)) (fun ii _ _ => 32 - (intOf ii).toNat)
    case atStart => exact ⟨2, at_ l n, Lib.hid ⟨by omega, by omega⟩, rfl, HX, Lib.hid (by rw [put_at l hl n hn]; exact HB.out), Lib.hid (Upd.refl _ _)⟩
    case round =>
      clear HB HX
      obtain ⟨i, y, HI, rfl, HP, HB, HU⟩ := hrel
      by_cases hi : i < 32
      · have hi' : (i : Int) < 32 := by omega
        have FB := Lib.hid (bit_test m i HM2.out)
        have hpl := put_len l hl n hn y HP.out.len
        have c0 := HB.out.cell (n * 66 + 2 + i) (by omega)
        have c1 := HB.out.cell (n * 66 + 34 + i) (by omega)
        have q0 := HB.out.free (n * 66 + 2 + i)
        have q1 := HB.out.free (n * 66 + 34 + i)
        have eg := G_put_in l hl n hn y HP.out.len (2 + i) (by omega)
        rw [← Nat.add_assoc] at eg
        rw [eg] at c0
        rw [← HZ.out] at FB
        cases hbt : m.testBit i
        · rw [hbt] at FB
          have HN := Lib.hid (HP.out.clear HI.out.1 hi hbt)
          have f1 := FB.out
          have HI1 := Lib.hid HI.out.1
          clear eg hbt hpl
          go_wp2_with fail
          go_region
          all_goals go_wp2_with fail
          exact ⟨⟨i + 1, _, Lib.hid ⟨Nat.le_succ_of_le HI1.out, hi⟩, rfl, HN, Lib.hid (by
            have hb := (HB.out.set (n * 66 + 2 + i) 0).set (n * 66 + 34 + i) 0
            rw [put_two l hl n hn y HP.out.len 2 i (by omega), put_two l hl n hn _ (by rw [List.length_set]; exact HP.out.len) 34 i (by omega)] at hb
            exact hb), Lib.hid ((HU.out.set _ _).set _ _).drew⟩, next_i hi⟩
        · rw [hbt] at FB
          have f1 := FB.out
          by_cases h0 : G y (2 + i) = 0
          · have HN := Lib.hid (HP.out.turn HI.out.1 hi hbt h0)
            rw [h0] at c0
            have HI1 := Lib.hid HI.out.1
            clear eg hbt hpl h0
            go_wp2_with fail
            exact ⟨⟨i + 1, _, Lib.hid ⟨Nat.le_succ_of_le HI1.out, hi⟩, rfl, HN, Lib.hid (by
              have hb := HB.out.set (n * 66 + 2 + i) 1
              rw [put_two l hl n hn y HP.out.len 2 i (by omega)] at hb
              exact hb), Lib.hid (HU.out.set _ _)⟩, next_i hi⟩
          · have HN := Lib.hid (HP.out.keep HI.out.1 hi hbt h0)
            have f2 : (G y (2 + i) == 0) = false := beq_eq_false_iff_ne.2 h0
            have HI1 := Lib.hid HI.out.1
            clear eg hbt hpl h0
            go_wp2_with fail
            exact ⟨⟨i + 1, _, Lib.hid ⟨Nat.le_succ_of_le HI1.out, hi⟩, rfl, HN, HB, HU⟩, next_i hi⟩
      · obtain rfl : i = 32 := by have := HI.out; omega
        have hpl := put_len l hl n hn y HP.out.len
        have c0 := HB.out.cell (n * 66) (by omega)
        have q0 := HB.out.free (n * 66)
        have hD := HP.out.done
        rw [← HZ.out] at hD
        have HS := Lib.hid (put_st l hl n hn y HP.out.len)
        clear hpl
        by_cases hz : z = 0
        · rw [if_pos hz] at hD
          have HD := Lib.hid hD
          clear hD
          have f1 : (z == 0) = true := beq_iff_eq.2 hz
          clear hz
          go_wp2_with fail
          refine bodyPost_ret (v := .int .i64 1) (by simp [results, Try.results36, go_sem]) rfl ?_
          have hb := (HB.out.set (n * 66) 3).set (n * 66) 2
          rw [List.set_set, HS.out] at hb
          exact ⟨congrArg (fun x => Ending.returned (.int .i64 x)) HC.out.symm, .inl ⟨HC.out, _, HD.out, hb, (HU.out.set _ _).set _ _⟩⟩
        · rw [if_neg hz] at hD
          have HD := Lib.hid hD
          clear hD
          have f1 : (z == 0) = false := beq_eq_false_iff_ne.2 hz
          clear hz
          go_wp2_with fail
          refine bodyPost_ret (v := .int .i64 1) (by simp [results, Try.results36, go_sem]) rfl ?_
          have hb := HB.out.set (n * 66) 3
          rw [HS.out] at hb
          exact ⟨congrArg (fun x => Ending.returned (.int .i64 x)) HC.out.symm, .inl ⟨HC.out, _, HD.out, hb, HU.out.set _ _⟩⟩
theorem configure_calls (l : List Int) (hl : l.length = 594) (n : Nat) (hn : n < 9) (g : Nat) (w : World) (hb : Bx 43 g l w) (a : Int) : Calls Try.prog 36 #[.pointer (some ⟨g, n * 66, none⟩), .int .i64 a] w (ConfIs g l n a w) := by
  by_cases h : a < 0 ∨ (0 ≤ a ∧ 4294967296 ≤ a) ∨ (0 ≤ a ∧ a < 4294967296 ∧ a % 4 ≠ 0)
  · exact conf_bad l n g w a h
  · exact conf_good l hl n hn g w hb a (by omega) (by omega) (by omega)
end Go.Proofs.Ytidcbboonjenhaa
