/- The walks of package ring: Equal of words and of cells, SameRing. -/
import Derived.Test.YtmgjgajpgjfaiaaRngE
namespace Go.Proofs.Ytmgjgajpgjfaiaa
open Go.RowKit
def us (l : List Int) : List Value := l.map (Value.int .u64)
theorem eqU_len (u v : Value) (ls ms : List (Int)) (w : World) (ha : Kt.Ar w u 1 ls.length (us ls)) (hb : Kt.Ar w v 1 ms.length (us ms)) (hl : ((ls.length : Int) != ms.length) = true) :
    Calls Try.prog 13 #[u, v] w fun e w' => e = .returned (.bool false) ∧ Below w.heap.size w w' := by
  obtain ⟨A, c, rfl, _, _⟩ := ha.form
  obtain ⟨A', c', rfl, _, _⟩ := hb.form
  go_enter Try.func13, Try.ntmps13
  go_wp2_with fail
  go_ret
  exact ⟨rfl, Below.refl _ _⟩
set_option maxHeartbeats 1600000 in
theorem eqU_same (u v : Value) (ls ms : List (Int)) (w : World) (ha : Kt.Ar w u 1 ls.length (us ls)) (hb : Kt.Ar w v 1 ls.length (us ms)) (hl : ls.length = ms.length) (hm : ls.length ≤ 1099511627776) :
    Calls Try.prog 13 #[u, v] w fun e w' => e = .returned (.bool (decide (ls = ms))) ∧ Below w.heap.size w w' := by
  obtain ⟨A, c, rfl, _, hxa⟩ := ha.form
  obtain ⟨A', c', rfl, _, hxb⟩ := hb.form
  have HL := Lib.hid hl
  have HM := Lib.hid hm
  generalize hn : ls.length = n at *
  have HN := Lib.hid hn; clear hn hl ha hb
  go_enter Try.func13, Try.ntmps13
  go_wp2_with fail
  go_loopw [13] (fun i wr => ∃ k : Nat, k ≤ n ∧ i = .int .i64 k ∧ (∀ j (h1 : j < ls.length) (h2 : j < ms.length), j < k → ls[j] = ms[j]) ∧ Below w.heap.size w wr) (fun i _ => n - (intOf i).toNat)
  case atStart => exact ⟨0, Nat.zero_le _, rfl, fun j _ _ h => absurd h (by omega), Below.refl _ _⟩
  case round =>
    obtain ⟨k, hk, rfl, hpre, hbel⟩ := hrel
    have HP := Lib.hid hpre; clear hpre
    have hkm : k ≤ 1099511627776 := by have := HM.out; omega
    by_cases hlt : k < n
    · obtain ⟨b, o, rfl, hb, hc⟩ := hxa (by omega)
      obtain ⟨b', o', rfl, hb', hc'⟩ := hxb (by omega)
      have h1 : k < ls.length := by have := HN.out; omega
      have h2 : k < ms.length := by have := HN.out; have := HL.out; omega
      obtain ⟨x, hx⟩ : ∃ x, ls[k] = x := ⟨_, rfl⟩
      obtain ⟨y, hy⟩ : ∃ y, ms[k] = y := ⟨_, rfl⟩
      have hcell : wr.cell? ⟨b, o + k, none⟩ = some (.int .u64 x) := (hbel.cell (p := ⟨b, o + k, none⟩) hb).trans ((hc k (by simp [us]; exact h1)).trans (by simp [us, hx]))
      have hcell' : wr.cell? ⟨b', o' + k, none⟩ = some (.int .u64 y) := (hbel.cell (p := ⟨b', o' + k, none⟩) hb').trans ((hc' k (by simp [us]; exact h2)).trans (by simp [us, hy]))
      have HX := Lib.hid hx; have HY := Lib.hid hy; clear hx hy hxa hxb hc hc'
      have b1 : (0 : Int) ≤ k := by omega
      have b2 : (k : Int) < n := by omega
      by_cases he : x = y
      · subst he
        go_wp2_with fail
        go_quiet (fail)
        go_wp2
        go_roundw
        case rel =>
          refine ⟨k + 1, by omega, by go_num, fun j a b hj => ?_, bdrewN hbel _⟩
          by_cases hjk : j = k
          · subst hjk; exact HX.out.trans HY.out.symm
          · exact HP.out j a b (by omega)
        case measure => simp [intOf]; omega
      · have HNE := Lib.hid he
        have e0 : (x != y) = true := by rw [bne_iff_ne]; exact he
        clear he
        all_goals
          go_wp2_with fail
          go_quiet (fail)
          go_wp2
          go_ret
          refine ⟨?_, bdrewN hbel _⟩
          have : decide (ls = ms) = false := by
            rw [decide_eq_false_iff_not]
            rintro rfl
            exact HNE.out (HX.out.symm.trans HY.out)
          rw [this]; rfl
    · obtain rfl : k = n := by omega
      go_wp2
      go_ret
      have : decide (ls = ms) = true := by
        rw [decide_eq_true_iff]
        exact List.ext_getElem (HN.out.trans HL.out) fun j a b => HP.out j a b (by have := HN.out; omega)
      rw [this]
      exact ⟨rfl, hbel⟩
theorem eqU (u v : Value) (ls ms : List (Int)) (w : World) (ha : Kt.Ar w u 1 ls.length (us ls)) (hb : Kt.Ar w v 1 ms.length (us ms)) (hm : ls.length ≤ 1099511627776) :
    Calls Try.prog 13 #[u, v] w fun e w' => e = .returned (.bool (decide (ls = ms))) ∧ Below w.heap.size w w' := by
  by_cases hl : ls.length = ms.length
  · exact eqU_same u v ls ms w ha (by rw [hl]; exact hb) hl hm
  · refine (eqU_len u v ls ms w ha hb (by rw [bne_iff_ne]; omega)).mono fun e w' ⟨h1, h2⟩ => ⟨?_, h2⟩
    have : decide (ls = ms) = false := by
      rw [decide_eq_false_iff_not]
      rintro rfl
      exact hl rfl
    rw [h1, this]
theorem eqC_len (u v : Value) (ls ms : List (RC)) (w : World) (ha : Kt.Ar w u 3 ls.length (cvs ls)) (hb : Kt.Ar w v 3 ms.length (cvs ms)) (hl : ((ls.length : Int) != ms.length) = true) :
    Calls Try.prog 16 #[u, v] w fun e w' => e = .returned (.bool false) ∧ Below w.heap.size w w' := by
  obtain ⟨A, c, rfl, _, _⟩ := ha.form
  obtain ⟨A', c', rfl, _, _⟩ := hb.form
  go_enter Try.func16, Try.ntmps16
  go_wp2_with fail
  go_ret
  exact ⟨rfl, Below.refl _ _⟩
set_option maxHeartbeats 1600000 in
theorem eqC_same (u v : Value) (ls ms : List (RC)) (w : World) (ha : Kt.Ar w u 3 ls.length (cvs ls)) (hb : Kt.Ar w v 3 ls.length (cvs ms)) (hl : ls.length = ms.length) (hm : ls.length ≤ 1099511627776) :
    Calls Try.prog 16 #[u, v] w fun e w' => e = .returned (.bool (decide (ls = ms))) ∧ Below w.heap.size w w' := by
  obtain ⟨A, c, rfl, _, hxa⟩ := ha.form
  obtain ⟨A', c', rfl, _, hxb⟩ := hb.form
  have HL := Lib.hid hl
  have HM := Lib.hid hm
  generalize hn : ls.length = n at *
  have HN := Lib.hid hn; clear hn hl ha hb
  go_enter Try.func16, Try.ntmps16
  go_wp2_with fail
  go_loopw [13] (fun i wr => ∃ k : Nat, k ≤ n ∧ i = .int .i64 k ∧ (∀ j (h1 : j < ls.length) (h2 : j < ms.length), j < k → ls[j] = ms[j]) ∧ Below w.heap.size w wr) (fun i _ => n - (intOf i).toNat)
  case atStart => exact ⟨0, Nat.zero_le _, rfl, fun j _ _ h => absurd h (by omega), Below.refl _ _⟩
  case round =>
    obtain ⟨k, hk, rfl, hpre, hbel⟩ := hrel
    have HP := Lib.hid hpre; clear hpre
    have hkm : k ≤ 1099511627776 := by have := HM.out; omega
    by_cases hlt : k < n
    · obtain ⟨b, o, rfl, hb, hc⟩ := hxa (by omega)
      obtain ⟨b', o', rfl, hb', hc'⟩ := hxb (by omega)
      have h1 : k < ls.length := by have := HN.out; omega
      have h2 : k < ms.length := by have := HN.out; have := HL.out; omega
      obtain ⟨x, hx⟩ : ∃ x, ls[k] = x := ⟨_, rfl⟩
      obtain ⟨y, hy⟩ : ∃ y, ms[k] = y := ⟨_, rfl⟩
      obtain ⟨x0, x1, x2⟩ := x
      have xc0 : wr.cell? ⟨b, o + k * 3, none⟩ = some (.int .u64 x0) := by
        have h := hc (k * 3 + 0) (by rw [cvs_len]; omega)
        rw [← List.getElem?_eq_getElem, cvs_get _ _ _ (by omega), List.getElem?_eq_getElem h1, hx] at h
        rw [hbel.cell (p := ⟨b, o + k * 3, none⟩) hb]
        exact h
      have xc1 : wr.cell? ⟨b, o + k * 3 + 1, none⟩ = some (.int .i64 x1) := by
        have h := hc (k * 3 + 1) (by rw [cvs_len]; omega)
        rw [← List.getElem?_eq_getElem, cvs_get _ _ _ (by omega), List.getElem?_eq_getElem h1, hx] at h
        rw [hbel.cell (p := ⟨b, o + k * 3 + 1, none⟩) hb]
        exact h
      have xc2 : wr.cell? ⟨b, o + k * 3 + 2, none⟩ = some (.bool x2) := by
        have h := hc (k * 3 + 2) (by rw [cvs_len]; omega)
        rw [← List.getElem?_eq_getElem, cvs_get _ _ _ (by omega), List.getElem?_eq_getElem h1, hx] at h
        rw [hbel.cell (p := ⟨b, o + k * 3 + 2, none⟩) hb]
        exact h
      obtain ⟨y0, y1, y2⟩ := y
      have yc0 : wr.cell? ⟨b', o' + k * 3, none⟩ = some (.int .u64 y0) := by
        have h := hc' (k * 3 + 0) (by rw [cvs_len]; omega)
        rw [← List.getElem?_eq_getElem, cvs_get _ _ _ (by omega), List.getElem?_eq_getElem h2, hy] at h
        rw [hbel.cell (p := ⟨b', o' + k * 3, none⟩) hb']
        exact h
      have yc1 : wr.cell? ⟨b', o' + k * 3 + 1, none⟩ = some (.int .i64 y1) := by
        have h := hc' (k * 3 + 1) (by rw [cvs_len]; omega)
        rw [← List.getElem?_eq_getElem, cvs_get _ _ _ (by omega), List.getElem?_eq_getElem h2, hy] at h
        rw [hbel.cell (p := ⟨b', o' + k * 3 + 1, none⟩) hb']
        exact h
      have yc2 : wr.cell? ⟨b', o' + k * 3 + 2, none⟩ = some (.bool y2) := by
        have h := hc' (k * 3 + 2) (by rw [cvs_len]; omega)
        rw [← List.getElem?_eq_getElem, cvs_get _ _ _ (by omega), List.getElem?_eq_getElem h2, hy] at h
        rw [hbel.cell (p := ⟨b', o' + k * 3 + 2, none⟩) hb']
        exact h
      have HX := Lib.hid hx; have HY := Lib.hid hy; clear hx hy hxa hxb hc hc'
      have b1 : (0 : Int) ≤ k := by omega
      have b2 : (k : Int) < n := by omega
      by_cases he : (x0, x1, x2) = (y0, y1, y2)
      · simp only [Prod.mk.injEq] at he; obtain ⟨rfl, rfl, rfl⟩ := he
        go_wp2_with fail
        go_quiet (fail)
        go_wp2
        go_roundw
        case rel =>
          refine ⟨k + 1, by omega, by go_num, fun j a b hj => ?_, bdrewN hbel _⟩
          by_cases hjk : j = k
          · subst hjk; exact HX.out.trans HY.out.symm
          · exact HP.out j a b (by omega)
        case measure => simp [intOf]; omega
      · have HNE := Lib.hid he
        have hparts : (¬ x0 = y0) ∨ (x0 = y0 ∧ ¬ x1 = y1) ∨ (x0 = y0 ∧ x1 = y1 ∧ ¬ x2 = y2) := by
          simp only [Prod.mk.injEq, not_and] at he
          first | (revert he; grind) | grind
        clear he
        rcases hparts with e0 | ⟨rfl, e1⟩ | ⟨rfl, rfl, e2⟩
        all_goals
          go_wp2_with fail
          go_quiet (fail)
          go_wp2
          go_ret
          refine ⟨?_, bdrewN hbel _⟩
          have : decide (ls = ms) = false := by
            rw [decide_eq_false_iff_not]
            rintro rfl
            exact HNE.out (HX.out.symm.trans HY.out)
          rw [this]; rfl
    · obtain rfl : k = n := by omega
      go_wp2
      go_ret
      have : decide (ls = ms) = true := by
        rw [decide_eq_true_iff]
        exact List.ext_getElem (HN.out.trans HL.out) fun j a b => HP.out j a b (by have := HN.out; omega)
      rw [this]
      exact ⟨rfl, hbel⟩
theorem eqC (u v : Value) (ls ms : List (RC)) (w : World) (ha : Kt.Ar w u 3 ls.length (cvs ls)) (hb : Kt.Ar w v 3 ms.length (cvs ms)) (hm : ls.length ≤ 1099511627776) :
    Calls Try.prog 16 #[u, v] w fun e w' => e = .returned (.bool (decide (ls = ms))) ∧ Below w.heap.size w w' := by
  by_cases hl : ls.length = ms.length
  · exact eqC_same u v ls ms w ha (by rw [hl]; exact hb) hl hm
  · refine (eqC_len u v ls ms w ha hb (by rw [bne_iff_ne]; omega)).mono fun e w' ⟨h1, h2⟩ => ⟨?_, h2⟩
    have : decide (ls = ms) = false := by
      rw [decide_eq_false_iff_not]
      rintro rfl
      exact hl rfl
    rw [h1, this]
set_option maxHeartbeats 800000 in
theorem same_true (V U : Value) (r : Rg) (w : World) (hV : RA w V r) (hU : RA w U r) (h1 : r.cs.length ≤ 1048576) : Calls Try.prog 14 #[V, U] w fun e w' => e = .returned (.bool true) ∧ Below w.heap.size w w' := by
  obtain ⟨C, rfl, hC⟩ := hV
  obtain ⟨C', rfl, hC'⟩ := hU
  have gC := hC; have gC' := hC'
  obtain ⟨LA, Lc, rfl, _, _⟩ := hC.form
  obtain ⟨LA', Lc', rfl, _, _⟩ := hC'.form
  clear hC hC'
  unfold rgV
  go_enter Try.func14, Try.ntmps14
  go_wp2_with fail
  refine (eqC _ _ r.cs r.cs _ (gC.on (Kt.balloc (Kt.balloc (Below.refl _ w) _) _)) (gC'.on (Kt.balloc (Kt.balloc (Below.refl _ w) _) _)) (by omega)).mono ?_
  rintro en w1 ⟨rfl, hb⟩
  have hbel := Kt.bthen (Kt.balloc (Kt.balloc (Below.refl _ w) _) _) hb
  have e1 : decide (r.cs = r.cs) = true := by simp
  rw [e1]
  clear hb e1
  go_wp2_with fail
  go_ret
  exact ⟨rfl, hbel⟩
theorem between_true (n lo hi : Int) (w : World) (h1 : lo ≤ n) (h2 : n ≤ hi) : Calls Try.prog 22 #[.int .i64 n, .int .i64 lo, .int .i64 hi] w fun e w' => e = .returned (.bool true) ∧ w = w' := by
  have d1 : decide (lo ≤ n) = true := decide_eq_true h1
  have d2 : decide (n ≤ hi) = true := decide_eq_true h2
  go_enter Try.func22, Try.ntmps22
  go_wp2
  go_ret
  exact ⟨rfl, rfl⟩
set_option maxHeartbeats 1600000 in
theorem ring_right (V : Value) (r : Rg) (w : World) (h : RA w V r) (hr : Right r) : Calls Try.prog 15 #[V] w fun e w' => e = .returned (.int .i64 0) ∧ Below w.heap.size w w' := by
  have hpb := bit_cases.1 hr.pb; have hgb := bit_cases.1 hr.gb
  have hpa := hr.pa; have hga := hr.ga; have hsn := hr.sn; have hlo := hr.lo; have hhi := hr.hi
  have HR := Lib.hid hr; clear hr
  obtain ⟨C, rfl, hC⟩ := h
  obtain ⟨A, c, rfl, hcl, hcells⟩ := hC.form
  obtain ⟨b, o, rfl, hb, hcell⟩ := hcells (by omega)
  have HCELL := Lib.hid hcell; clear hcell
  unfold rgV
  clear hC hcells
  have pb1 : 0 ≤ r.pb := by omega
  have pb2 : r.pb ≤ 1 := by omega
  have gb1 : 0 ≤ r.gb := by omega
  have gb2 : r.gb ≤ 1 := by omega
  have HPB := Lib.hid hpb; have HGB := Lib.hid hgb; clear hpb hgb
  go_enter Try.func15, Try.ntmps15
  go_wp2_with ((with_reducible refine (between_true _ _ _ _ (by omega) (by omega)).mono ?_); rintro en w' ⟨rfl, rfl⟩)
  go_loopw [4, 49] (fun f i wr => ∃ k : Nat, k ≤ r.cs.length ∧ i = .int .i64 k ∧ f = .bool true ∧ Below w.heap.size w wr) (fun _ i _ => r.cs.length - (intOf i).toNat)
  case atStart => exact ⟨0, Nat.zero_le _, rfl, rfl, Kt.balloc (Below.refl _ w) _⟩
  case round =>
    obtain ⟨k, hk, rfl, rfl, hbel⟩ := hrel
    by_cases hlt : k < r.cs.length
    · obtain ⟨x, hx⟩ : ∃ x, r.cs[k] = x := ⟨_, rfl⟩
      have hf := HR.out.fine k hlt
      have hz := HR.out.zero
      rw [hx] at hf
      obtain ⟨x1, x2, x3⟩ := x
      have g : ∀ j (hj : j < 3), wr.cell? ⟨b, o + (k * 3 + j), none⟩ = (cv (x1, x2, x3))[j]? := fun j hj => by
        rw [hbel.cell (p := ⟨b, o + (k * 3 + j), none⟩) hb, HCELL.out (k * 3 + j) (by rw [cvs_len]; omega), ← List.getElem?_eq_getElem, cvs_get _ _ _ hj, List.getElem?_eq_getElem hlt, hx]; rfl
      have g0 : wr.cell? ⟨b, o + k * 3, none⟩ = some (.int .u64 x1) := g 0 (by omega)
      have g1 : wr.cell? ⟨b, o + k * 3 + 1, none⟩ = some (.int .i64 x2) := g 1 (by omega)
      have g2 : wr.cell? ⟨b, o + k * 3 + 2, none⟩ = some (.bool x3) := g 2 (by omega)
      clear g
      unfold fineC at hf
      rw [Bool.and_eq_true, bit_cases] at hf
      obtain ⟨hl, hbit⟩ := hf
      have hbz : 0 ≤ x2 ∧ x2 ≤ 1 := by dsimp only at hbit; omega
      dsimp only at hl
      rw [beq_iff_eq] at hl
      subst hl
      obtain ⟨hb1, hb2⟩ := hbz
      clear hbit
      have hbk : b < wr.heap.size := Nat.lt_of_lt_of_le hb hbel.size
      by_cases hlast : k + 1 = r.cs.length
      · have hx1 : x1 = 0 := by
          rw [show r.cs.length - 1 = k by omega, List.getElem?_eq_getElem hlt, hx] at hz
          simpa using hz
        subst hx1
        have t1 : decide (k + 1 = r.cs.length) = true := decide_eq_true hlast
        have t2 : ((k : Int) + 1 == r.cs.length) = true := by rw [beq_iff_eq]; omega
        have t3 : decide ((k : Int) + 1 < r.cs.length) = false := decide_eq_false (by omega)
        rw [t1] at g2
        have HX := Lib.hid hx; clear hx hz t1
        go_wp2_with ((with_reducible refine (between_true _ _ _ _ (by omega) (by omega)).mono ?_); rintro en w' ⟨rfl, rfl⟩)
        go_roundw
        case rel => exact ⟨k + 1, by omega, by go_num, rfl, Kt.balloc hbel _⟩
        case measure => simp [intOf]; omega
      · have t1 : decide (k + 1 = r.cs.length) = false := decide_eq_false hlast
        have t2 : ((k : Int) + 1 == r.cs.length) = false := by rw [beq_eq_false_iff_ne]; omega
        have t3 : decide ((k : Int) + 1 < r.cs.length) = true := decide_eq_true (by omega)
        rw [t1] at g2
        have HX := Lib.hid hx; clear hx hz t1
        go_wp2_with ((with_reducible refine (between_true _ _ _ _ (by omega) (by omega)).mono ?_); rintro en w' ⟨rfl, rfl⟩)
        go_roundw
        case rel => exact ⟨k + 1, by omega, by go_num, rfl, Kt.balloc hbel _⟩
        case measure => simp [intOf]; omega
    · obtain rfl : k = r.cs.length := by omega
      go_wp2_with fail
      go_ret
      exact ⟨rfl, hbel⟩
end Go.Proofs.Ytmgjgajpgjfaiaa
