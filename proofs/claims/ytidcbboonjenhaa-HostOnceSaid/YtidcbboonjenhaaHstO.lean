/- host: slices.Equal of errnos and of events. -/
import Derived.Test.YtidcbboonjenhaaHstN
namespace Go.Proofs.Ytidcbboonjenhaa
open Go.RowKit
theorem evs_get (l : List E3) : ∀ (i j : Nat), j < 3 → (evs l)[i * 3 + j]? = (l[i]?).bind fun c => (evc c)[j]? := by
  induction l with
  | nil => intro i j _; simp [evs]
  | cons c l ih =>
    intro i j hj
    have e : evs (c :: l) = evc c ++ evs l := rfl
    rw [e, List.getElem?_append]
    have hl : (evc c).length = 3 := rfl
    cases i with
    | zero => rw [if_pos (by omega)]; simp
    | succ i => rw [if_neg (by omega), hl, show (i + 1) * 3 + j - 3 = i * 3 + j by omega, ih i j hj]; simp
theorem eqN_len (u v : Value) (ls ms : List (Int)) (w : World) (ha : Kt.Ar w u 1 ls.length (ers ls)) (hb : Kt.Ar w v 1 ms.length (ers ms)) (hl : ((ls.length : Int) != ms.length) = true) :
    Calls Try.prog 22 #[u, v] w fun e w' => e = .returned (.bool false) ∧ Below w.heap.size w w' := by
  obtain ⟨A, c, rfl, _, _⟩ := ha.form
  obtain ⟨A', c', rfl, _, _⟩ := hb.form
  go_enter Try.func22, Try.ntmps22
  go_wp2_with fail
  go_ret
  exact ⟨rfl, Below.refl _ _⟩
set_option maxHeartbeats 1600000 in
theorem eqN_same (u v : Value) (ls ms : List (Int)) (w : World) (ha : Kt.Ar w u 1 ls.length (ers ls)) (hb : Kt.Ar w v 1 ls.length (ers ms)) (hl : ls.length = ms.length) (hm : ls.length ≤ 1099511627776) :
    Calls Try.prog 22 #[u, v] w fun e w' => e = .returned (.bool (decide (ls = ms))) ∧ Below w.heap.size w w' := by
  obtain ⟨A, c, rfl, _, hxa⟩ := ha.form
  obtain ⟨A', c', rfl, _, hxb⟩ := hb.form
  have HL := Lib.hid hl
  have HM := Lib.hid hm
  generalize hn : ls.length = n at *
  have HN := Lib.hid hn; clear hn hl ha hb
  go_enter Try.func22, Try.ntmps22
  go_wp2_with fail
  go_loopw [13] (fun i wr => ∃ k : Nat, k ≤ n ∧ i = .int .i64 k ∧ (∀ j (h1 : j < ls.length) (h2 : j < ms.length), j < k → ls[j] = ms[j]) ∧ Below w.heap.size w wr) (fun i _ => n - (intOf i).toNat)
  case atStart => exact ⟨0, Nat.zero_le _, rfl, fun j _ _ h => absurd h (by omega), Below.refl _ _⟩
  case round =>
    obtain ⟨k, hk, rfl, hpre, hbel⟩ := hrel
    have HP := Lib.hid hpre; clear hpre
    have hkm : k ≤ 1099511627776 := by have := HM.out; omega
    by_cases hlt : k < n
    · obtain ⟨b, o, rfl, hb, hc⟩ := hxa (by omega)
      obtain ⟨b', o', rfl, hb', hc'⟩ := hxb (by omega)
      have h1 : k < ls.length := by have := HN.out; omega
      have h2 : k < ms.length := by have := HN.out; have := HL.out; omega
      obtain ⟨x, hx⟩ : ∃ x, ls[k] = x := ⟨_, rfl⟩
      obtain ⟨y, hy⟩ : ∃ y, ms[k] = y := ⟨_, rfl⟩
      have hcell : wr.cell? ⟨b, o + k, none⟩ = some (.int .i64 x) := (hbel.cell (p := ⟨b, o + k, none⟩) hb).trans ((hc k (by simp [ers]; exact h1)).trans (by simp [ers, hx]))
      have hcell' : wr.cell? ⟨b', o' + k, none⟩ = some (.int .i64 y) := (hbel.cell (p := ⟨b', o' + k, none⟩) hb').trans ((hc' k (by simp [ers]; exact h2)).trans (by simp [ers, hy]))
      have HX := Lib.hid hx; have HY := Lib.hid hy; clear hx hy hxa hxb hc hc'
      have b1 : (0 : Int) ≤ k := by omega
      have b2 : (k : Int) < n := by omega
      by_cases he : x = y
      · subst he
        go_wp2_with fail
        go_quiet (fail)
        go_wp2
        go_roundw
        case rel =>
          refine ⟨k + 1, by omega, by go_num, fun j a b hj => ?_, bdrewN hbel _⟩
          by_cases hjk : j = k
          · subst hjk; exact HX.out.trans HY.out.symm
          · exact HP.out j a b (by omega)
        case measure => simp [intOf]; omega
      · have HNE := Lib.hid he
        have e0 : (x != y) = true := by rw [bne_iff_ne]; exact he
        clear he
        all_goals
          go_wp2_with fail
          go_quiet (fail)
          go_wp2
          go_ret
          refine ⟨?_, bdrewN hbel _⟩
          have : decide (ls = ms) = false := by
            rw [decide_eq_false_iff_not]
            rintro rfl
            exact HNE.out (HX.out.symm.trans HY.out)
          rw [this]; rfl
    · obtain rfl : k = n := by omega
      go_wp2
      go_ret
      have : decide (ls = ms) = true := by
        rw [decide_eq_true_iff]
        exact List.ext_getElem (HN.out.trans HL.out) fun j a b => HP.out j a b (by have := HN.out; omega)
      rw [this]
      exact ⟨rfl, hbel⟩
theorem eqN (u v : Value) (ls ms : List (Int)) (w : World) (ha : Kt.Ar w u 1 ls.length (ers ls)) (hb : Kt.Ar w v 1 ms.length (ers ms)) (hm : ls.length ≤ 1099511627776) :
    Calls Try.prog 22 #[u, v] w fun e w' => e = .returned (.bool (decide (ls = ms))) ∧ Below w.heap.size w w' := by
  by_cases hl : ls.length = ms.length
  · exact eqN_same u v ls ms w ha (by rw [hl]; exact hb) hl hm
  · refine (eqN_len u v ls ms w ha hb (by rw [bne_iff_ne]; omega)).mono fun e w' ⟨h1, h2⟩ => ⟨?_, h2⟩
    have : decide (ls = ms) = false := by
      rw [decide_eq_false_iff_not]
      rintro rfl
      exact hl rfl
    rw [h1, this]
theorem eqV_len (u v : Value) (ls ms : List (E3)) (w : World) (ha : Kt.Ar w u 3 ls.length (evs ls)) (hb : Kt.Ar w v 3 ms.length (evs ms)) (hl : ((ls.length : Int) != ms.length) = true) :
    Calls Try.prog 23 #[u, v] w fun e w' => e = .returned (.bool false) ∧ Below w.heap.size w w' := by
  obtain ⟨A, c, rfl, _, _⟩ := ha.form
  obtain ⟨A', c', rfl, _, _⟩ := hb.form
  go_enter Try.func23, Try.ntmps23
  go_wp2_with fail
  go_ret
  exact ⟨rfl, Below.refl _ _⟩
set_option maxHeartbeats 1600000 in
theorem eqV_same (u v : Value) (ls ms : List (E3)) (w : World) (ha : Kt.Ar w u 3 ls.length (evs ls)) (hb : Kt.Ar w v 3 ls.length (evs ms)) (hl : ls.length = ms.length) (hm : ls.length ≤ 1099511627776) :
    Calls Try.prog 23 #[u, v] w fun e w' => e = .returned (.bool (decide (ls = ms))) ∧ Below w.heap.size w w' := by
  obtain ⟨A, c, rfl, _, hxa⟩ := ha.form
  obtain ⟨A', c', rfl, _, hxb⟩ := hb.form
  have HL := Lib.hid hl
  have HM := Lib.hid hm
  generalize hn : ls.length = n at *
  have HN := Lib.hid hn; clear hn hl ha hb
  go_enter Try.func23, Try.ntmps23
  go_wp2_with fail
  go_loopw [13] (fun i wr => ∃ k : Nat, k ≤ n ∧ i = .int .i64 k ∧ (∀ j (h1 : j < ls.length) (h2 : j < ms.length), j < k → ls[j] = ms[j]) ∧ Below w.heap.size w wr) (fun i _ => n - (intOf i).toNat)
  case atStart => exact ⟨0, Nat.zero_le _, rfl, fun j _ _ h => absurd h (by omega), Below.refl _ _⟩
  case round =>
    obtain ⟨k, hk, rfl, hpre, hbel⟩ := hrel
    have HP := Lib.hid hpre; clear hpre
    have hkm : k ≤ 1099511627776 := by have := HM.out; omega
    by_cases hlt : k < n
    · obtain ⟨b, o, rfl, hb, hc⟩ := hxa (by omega)
      obtain ⟨b', o', rfl, hb', hc'⟩ := hxb (by omega)
      have h1 : k < ls.length := by have := HN.out; omega
      have h2 : k < ms.length := by have := HN.out; have := HL.out; omega
      obtain ⟨x, hx⟩ : ∃ x, ls[k] = x := ⟨_, rfl⟩
      obtain ⟨y, hy⟩ : ∃ y, ms[k] = y := ⟨_, rfl⟩
      obtain ⟨x0, x1, x2⟩ := x
      have xc0 : wr.cell? ⟨b, o + k * 3, none⟩ = some (.int .i64 x0) := by
        have h := hc (k * 3 + 0) (by rw [evs_len]; omega)
        rw [← List.getElem?_eq_getElem, evs_get _ _ _ (by omega), List.getElem?_eq_getElem h1, hx] at h
        rw [hbel.cell (p := ⟨b, o + k * 3, none⟩) hb]
        exact h
      have xc1 : wr.cell? ⟨b, o + k * 3 + 1, none⟩ = some (.int .i64 x1) := by
        have h := hc (k * 3 + 1) (by rw [evs_len]; omega)
        rw [← List.getElem?_eq_getElem, evs_get _ _ _ (by omega), List.getElem?_eq_getElem h1, hx] at h
        rw [hbel.cell (p := ⟨b, o + k * 3 + 1, none⟩) hb]
        exact h
      have xc2 : wr.cell? ⟨b, o + k * 3 + 2, none⟩ = some (.int .i64 x2) := by
        have h := hc (k * 3 + 2) (by rw [evs_len]; omega)
        rw [← List.getElem?_eq_getElem, evs_get _ _ _ (by omega), List.getElem?_eq_getElem h1, hx] at h
        rw [hbel.cell (p := ⟨b, o + k * 3 + 2, none⟩) hb]
        exact h
      obtain ⟨y0, y1, y2⟩ := y
      have yc0 : wr.cell? ⟨b', o' + k * 3, none⟩ = some (.int .i64 y0) := by
        have h := hc' (k * 3 + 0) (by rw [evs_len]; omega)
        rw [← List.getElem?_eq_getElem, evs_get _ _ _ (by omega), List.getElem?_eq_getElem h2, hy] at h
        rw [hbel.cell (p := ⟨b', o' + k * 3, none⟩) hb']
        exact h
      have yc1 : wr.cell? ⟨b', o' + k * 3 + 1, none⟩ = some (.int .i64 y1) := by
        have h := hc' (k * 3 + 1) (by rw [evs_len]; omega)
        rw [← List.getElem?_eq_getElem, evs_get _ _ _ (by omega), List.getElem?_eq_getElem h2, hy] at h
        rw [hbel.cell (p := ⟨b', o' + k * 3 + 1, none⟩) hb']
        exact h
      have yc2 : wr.cell? ⟨b', o' + k * 3 + 2, none⟩ = some (.int .i64 y2) := by
        have h := hc' (k * 3 + 2) (by rw [evs_len]; omega)
        rw [← List.getElem?_eq_getElem, evs_get _ _ _ (by omega), List.getElem?_eq_getElem h2, hy] at h
        rw [hbel.cell (p := ⟨b', o' + k * 3 + 2, none⟩) hb']
        exact h
      have HX := Lib.hid hx; have HY := Lib.hid hy; clear hx hy hxa hxb hc hc'
      have b1 : (0 : Int) ≤ k := by omega
      have b2 : (k : Int) < n := by omega
      by_cases he : (x0, x1, x2) = (y0, y1, y2)
      · simp only [Prod.mk.injEq] at he; obtain ⟨rfl, rfl, rfl⟩ := he
        go_wp2_with fail
        go_quiet (fail)
        go_wp2
        go_roundw
        case rel =>
          refine ⟨k + 1, by omega, by go_num, fun j a b hj => ?_, bdrewN hbel _⟩
          by_cases hjk : j = k
          · subst hjk; exact HX.out.trans HY.out.symm
          · exact HP.out j a b (by omega)
        case measure => simp [intOf]; omega
      · have HNE := Lib.hid he
        have hparts : (¬ x0 = y0) ∨ (x0 = y0 ∧ ¬ x1 = y1) ∨ (x0 = y0 ∧ x1 = y1 ∧ ¬ x2 = y2) := by
          simp only [Prod.mk.injEq, not_and] at he
          first | (revert he; grind) | grind
        clear he
        rcases hparts with e0 | ⟨rfl, e1⟩ | ⟨rfl, rfl, e2⟩
        all_goals
          go_wp2_with fail
          go_quiet (fail)
          go_wp2
          go_ret
          refine ⟨?_, bdrewN hbel _⟩
          have : decide (ls = ms) = false := by
            rw [decide_eq_false_iff_not]
            rintro rfl
            exact HNE.out (HX.out.symm.trans HY.out)
          rw [this]; rfl
    · obtain rfl : k = n := by omega
      go_wp2
      go_ret
      have : decide (ls = ms) = true := by
        rw [decide_eq_true_iff]
        exact List.ext_getElem (HN.out.trans HL.out) fun j a b => HP.out j a b (by have := HN.out; omega)
      rw [this]
      exact ⟨rfl, hbel⟩
theorem eqV (u v : Value) (ls ms : List (E3)) (w : World) (ha : Kt.Ar w u 3 ls.length (evs ls)) (hb : Kt.Ar w v 3 ms.length (evs ms)) (hm : ls.length ≤ 1099511627776) :
    Calls Try.prog 23 #[u, v] w fun e w' => e = .returned (.bool (decide (ls = ms))) ∧ Below w.heap.size w w' := by
  by_cases hl : ls.length = ms.length
  · exact eqV_same u v ls ms w ha (by rw [hl]; exact hb) hl hm
  · refine (eqV_len u v ls ms w ha hb (by rw [bne_iff_ne]; omega)).mono fun e w' ⟨h1, h2⟩ => ⟨?_, h2⟩
    have : decide (ls = ms) = false := by
      rw [decide_eq_false_iff_not]
      rintro rfl
      exact hl rfl
    rw [h1, this]
end Go.Proofs.Ytidcbboonjenhaa
