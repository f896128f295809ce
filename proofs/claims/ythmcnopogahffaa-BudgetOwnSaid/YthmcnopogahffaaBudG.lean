/- slices.Equal and slices.Clone at numbers and berths. -/
import Derived.Test.YthmcnopogahffaaBudF
import Derived.Test.YthmcnopogahffaaEq
import Derived.Test.YthmcnopogahffaaMid
import Derived.Test.YthmcnopogahffaaSlm
import Derived.Test.YthmcnopogahffaaAny
import Derived.Deep.MidRow
import Derived.Deep.QuietTactic
import Derived.BigQuiet
namespace Go.Proofs.Ythmcnopogahffaa
open Go.RowKit
def beTy : Fr.Ty := .cat 1 (.int .i64) (.cat 1 (.int .i64) .nil)
theorem fit_eqb_calls : Fr.fits Try.prog 12 31 beTy = true := by kernel_rfl
theorem ok_eqb_calls : Fr.eqOk Try.prog 12 31 = true := by kernel_rfl
theorem sz_eqb_calls : (Try.prog.info? 31).map (·.size) = some 2 := by kernel_rfl
theorem neq_eqb_calls (X Y : List Value) (hx : Fr.Cl beTy X) (hy : Fr.Cl beTy Y) (w : World) : (binOp .neq 31 (.agg X.toArray) (.agg Y.toArray)).run Try.prog w = .ok (.bool (!@decide (X = Y) (Classical.propDecidable _))) w := by
  have h := (Fr.eql_agg (P := Try.prog) w 31 beTy 12 (by omega) fit_eqb_calls ok_eqb_calls rfl X.toArray Y.toArray hx hy rfl rfl).2
  rw [h]
  congr 2
  exact congrArg _ (decide_eq_decide.2 ⟨fun e => by simpa using congrArg Array.toList e, fun e => by rw [e]⟩)
set_option maxHeartbeats 1600000 in
theorem eqb_calls_same (u v : Value) (n : Nat) (xs ys : List Value) (w : World) (ha : Kt.Ar w u 2 n xs) (hb : Kt.Ar w v 2 n ys) (hx : ∀ i, i < n → Fr.Cl beTy ((xs.drop (i * 2)).take 2)) (hy : ∀ i, i < n → Fr.Cl beTy ((ys.drop (i * 2)).take 2)) (hm : n ≤ 1099511627776) :
    Calls Try.prog 18 #[u, v] w fun e w' => ∃ b, e = .returned (.bool b) ∧ (b = true ↔ xs = ys) ∧ Below w.heap.size w w' := by
  obtain ⟨A, c, rfl, _, hxa⟩ := ha.form
  obtain ⟨A', c', rfl, _, hxb⟩ := hb.form
  have HLX := Lib.hid ha.len
  have HLY := Lib.hid hb.len
  have HX := Lib.hid hx
  have HY := Lib.hid hy
  have HXA := Lib.hid hxa
  have HXB := Lib.hid hxb
  have HM := Lib.hid hm
  clear ha hb hx hy hxa hxb
  go_enter Try.func18, Try.ntmps18
  go_wp2_with fail
  go_loopw [13] (fun i wr => ∃ k : Nat, k ≤ n ∧ i = .int .i64 k ∧ Hid (xs.take (k * 2) = ys.take (k * 2)) ∧ Hid (Below w.heap.size w wr)) (fun i _ => n - (intOf i).toNat)
  case atStart => exact ⟨0, Nat.zero_le _, rfl, Lib.hid (by simp), Lib.hid (Below.refl _ _)⟩
  case round =>
    obtain ⟨k, hk, rfl, HP, HB⟩ := hrel
    by_cases hlt : k < n
    · obtain ⟨b, o, rfl, hb0, hc1⟩ := HXA.out (by omega)
      obtain ⟨b', o', rfl, hb0', hc1'⟩ := HXB.out (by omega)
      have hz := HB.out.size
      have hmul : k * 2 + 2 ≤ n * 2 := by rw [← Nat.succ_mul]; exact Nat.mul_le_mul_right _ hlt
      obtain ⟨X, hX⟩ : ∃ X, (xs.drop (k * 2)).take 2 = X := ⟨_, rfl⟩
      obtain ⟨Y, hY⟩ : ∃ Y, (ys.drop (k * 2)).take 2 = Y := ⟨_, rfl⟩
      have lX : X.length = 2 := by rw [← hX, List.length_take, List.length_drop, HLX.out]; omega
      have lY : Y.length = 2 := by rw [← hY, List.length_take, List.length_drop, HLY.out]; omega
      have cX := HX.out k hlt
      have cY := HY.out k hlt
      rw [hX] at cX
      rw [hY] at cY
      have RX : wr.rangeAt b (o + k * 2) X := fun j u hj => by
        have hj7 : j < 2 := by have := (List.getElem?_eq_some_iff.1 hj).1; omega
        rw [← hX, List.getElem?_take_of_lt hj7, List.getElem?_drop] at hj
        obtain ⟨hj1, rfl⟩ := List.getElem?_eq_some_iff.1 hj
        rw [Nat.add_assoc]
        exact (HB.out.cell (p := ⟨b, o + (k * 2 + j), none⟩) hb0).trans (hc1 _ hj1)
      have RY : wr.rangeAt b' (o' + k * 2) Y := fun j u hj => by
        have hj7 : j < 2 := by have := (List.getElem?_eq_some_iff.1 hj).1; omega
        rw [← hY, List.getElem?_take_of_lt hj7, List.getElem?_drop] at hj
        obtain ⟨hj1, rfl⟩ := List.getElem?_eq_some_iff.1 hj
        rw [Nat.add_assoc]
        exact (HB.out.cell (p := ⟨b', o' + (k * 2 + j), none⟩) hb0').trans (hc1' _ hj1)
      have NE := neq_eqb_calls X Y cX cY
      have HT : Hid ((xs.take ((k + 1) * 2) = ys.take ((k + 1) * 2) ↔ X = Y) ∧ (xs = ys → X = Y)) := Lib.hid ⟨by
        rw [Nat.succ_mul, List.take_add, List.take_add, HP.out, hX, hY]
        exact ⟨List.append_cancel_left, fun e => by rw [e]⟩, fun e => by rw [← hX, ← hY, e]⟩
      have RXY := Lib.hid (And.intro RX RY)
      have sX : (Try.prog.info? 31).map (·.size) = some X.length := by rw [lX]; exact sz_eqb_calls
      have sY : (Try.prog.info? 31).map (·.size) = some Y.length := by rw [lY]; exact sz_eqb_calls
      have b1 : (0 : Int) ≤ k := by omega
      have b2 : (k : Int) < n := by omega
      clear hX hY cX cY hc1 hc1' RX RY hmul hz lX lY
      obtain ⟨q, hq⟩ : ∃ q, @decide (X = Y) (Classical.propDecidable _) = q := ⟨_, rfl⟩
      rw [hq] at NE
      have HQ : Hid (q = true ↔ X = Y) := Lib.hid (by rw [← hq]; simp)
      clear hq
      go_wp2_with fail
      refine Kt.G.start 8 (fun W => W.rangeAt b (o + k * 2) X ∧ W.rangeAt b' (o' + k * 2) Y) (by kernel_rfl) RXY.out (fun hHeld => ?_)
      refine Kt.G.takeP 0 { dst := some 16, op := Op.move (Operand.tmp 0), type := 23, pos := "slices.go:25", after := #[], guard := none } ?_ (fun _ => hHeld) rfl (by kernel_rfl) (fun _ _ _ h => h) (by rfl) ?_ ?_
      rotate_left
      · intro w; go_simp; try with_reducible rfl
      try simp only [Act.put, List.setIfInBounds_toArray, List.set_cons_zero, List.set_cons_succ]
      refine Kt.G.takeP 1 { dst := some 17, op := Op.move (Operand.tmp 5), type := 3, pos := "slices.go:25", after := #[], guard := none } ?_ (fun _ => hHeld) rfl (by kernel_rfl) (fun _ _ _ h => h) (by rfl) ?_ ?_
      rotate_left
      · intro w; go_simp; try with_reducible rfl
      try simp only [Act.put, List.setIfInBounds_toArray, List.set_cons_zero, List.set_cons_succ]
      refine Kt.G.takeP 2 { dst := some 18, op := Op.indexAddr 23 (Operand.tmp 16) (Operand.tmp 17), type := 0, pos := "slices.go:25", after := #[{ on := 0, ground := Ground.data }, { on := 1, ground := Ground.data }], guard := none } ?_ (fun _ => hHeld) rfl (by kernel_rfl) (fun _ _ _ h => h) (by rfl) ?_ ?_
      rotate_left
      · intro w; go_simp; try with_reducible rfl
      try simp only [Act.put, List.setIfInBounds_toArray, List.set_cons_zero, List.set_cons_succ]
      refine Kt.G.load_mid 3 { dst := some 19, op := Op.load 31 (Operand.tmp 18), type := 31, pos := "slices.go:25", after := #[{ on := 2, ground := Ground.data }], guard := none } 31 (.tmp 18) b (o + k * 2) X _ hHeld rfl (by kernel_rfl) (fun _ _ _ h => h) (by rfl) rfl rfl (fun w hSw => hSw.1) Try.underlying31 rfl sX ?_
      try simp only [Act.put, List.setIfInBounds_toArray, List.set_cons_zero, List.set_cons_succ]
      refine Kt.G.takeP 4 { dst := some 20, op := Op.move (Operand.tmp 1), type := 23, pos := "slices.go:25", after := #[], guard := none } ?_ (fun _ => hHeld) rfl (by kernel_rfl) (fun _ _ _ h => h) (by rfl) ?_ ?_
      rotate_left
      · intro w; go_simp; try with_reducible rfl
      try simp only [Act.put, List.setIfInBounds_toArray, List.set_cons_zero, List.set_cons_succ]
      refine Kt.G.takeP 5 { dst := some 21, op := Op.move (Operand.tmp 5), type := 3, pos := "slices.go:25", after := #[], guard := none } ?_ (fun _ => hHeld) rfl (by kernel_rfl) (fun _ _ _ h => h) (by rfl) ?_ ?_
      rotate_left
      · intro w; go_simp; try with_reducible rfl
      try simp only [Act.put, List.setIfInBounds_toArray, List.set_cons_zero, List.set_cons_succ]
      refine Kt.G.takeP 6 { dst := some 22, op := Op.indexAddr 23 (Operand.tmp 20) (Operand.tmp 21), type := 0, pos := "slices.go:25", after := #[{ on := 4, ground := Ground.data }, { on := 5, ground := Ground.data }], guard := none } ?_ (fun _ => hHeld) rfl (by kernel_rfl) (fun _ _ _ h => h) (by rfl) ?_ ?_
      rotate_left
      · intro w; go_simp; try with_reducible rfl
      try simp only [Act.put, List.setIfInBounds_toArray, List.set_cons_zero, List.set_cons_succ]
      refine Kt.G.load_mid 7 { dst := some 23, op := Op.load 31 (Operand.tmp 22), type := 31, pos := "slices.go:25", after := #[{ on := 6, ground := Ground.data }], guard := none } 31 (.tmp 22) b' (o' + k * 2) Y _ hHeld rfl (by kernel_rfl) (fun _ _ _ h => h) (by rfl) rfl rfl (fun w hSw => hSw.2) Try.underlying31 rfl sY ?_
      try simp only [Act.put, List.setIfInBounds_toArray, List.set_cons_zero, List.set_cons_succ]
      refine Kt.G.one 8 { dst := some 24, op := Op.binOp BinOp.neq 31 (Operand.tmp 19) (Operand.tmp 23) 31, type := 4, pos := "slices.go:25", after := #[{ on := 3, ground := Ground.data }, { on := 7, ground := Ground.data }], guard := none } rfl (by kernel_rfl) (by rfl) (fun K hK => ?_)
      go_simp
      refine hK.out _ _ (Kt.G.late (by kernel_rfl)) (fun _ => ?_)
      clear hK K
      try simp only [Act.put, List.setIfInBounds_toArray, List.set_cons_zero, List.set_cons_succ]
      refine Kt.G.done (by kernel_rfl) (NoPanic.normal ?_) _
      cases q with
      | true =>
        go_wp2_with fail
        go_roundw
        case rel => exact ⟨k + 1, by omega, by go_num, Lib.hid (HT.out.1.2 (HQ.out.1 rfl)), Lib.hid HB.out.drew⟩
        case measure => (simp [intOf] <;> omega)
      | false =>
        go_wp2_with fail
        go_ret
        exact ⟨_, rfl, ⟨fun h => (by cases h), fun e => HQ.out.2 (HT.out.2 e)⟩, HB.out.drew⟩
    · obtain rfl : k = n := by omega
      clear hlt hk
      have HEQ : Hid (xs = ys) := Lib.hid (by
        have h := HP.out
        rwa [List.take_of_length_le (by rw [HLX.out]; exact Nat.le_refl _), List.take_of_length_le (by rw [HLY.out]; exact Nat.le_refl _)] at h)
      go_wp2_with fail
      go_ret
      exact ⟨_, rfl, ⟨fun _ => HEQ.out, fun _ => rfl⟩, HB.out⟩
theorem eqb_calls (u v : Value) (n m : Nat) (xs ys : List Value) (w : World) (ha : Kt.Ar w u 2 n xs) (hb : Kt.Ar w v 2 m ys) (hx : ∀ i, i < n → Fr.Cl beTy ((xs.drop (i * 2)).take 2)) (hy : ∀ i, i < m → Fr.Cl beTy ((ys.drop (i * 2)).take 2)) (hm : n ≤ 1099511627776) :
    Calls Try.prog 18 #[u, v] w fun e w' => ∃ b, e = .returned (.bool b) ∧ (b = true ↔ xs = ys) ∧ Below w.heap.size w w' := by
  by_cases hl : n = m
  · subst hl; exact eqb_calls_same u v n xs ys w ha hb hx hy hm
  · have HNE : Hid (¬ xs = ys) := Lib.hid (fun e => by
      have h1 := ha.len; have h2 := hb.len
      rw [e, h2] at h1
      omega)
    have e1 : ((n : Int) != m) = true := by rw [bne_iff_ne]; omega
    obtain ⟨A, c, rfl, _, _⟩ := ha.form
    obtain ⟨A', c', rfl, _, _⟩ := hb.form
    clear ha hb hx hy hl
    go_enter Try.func18, Try.ntmps18
    go_wp2_with fail
    go_ret
    exact ⟨_, rfl, ⟨fun h => (by cases h), fun e => absurd e HNE.out⟩, Below.refl _ _⟩
theorem infoBc : (Try.prog.info? 31).map (fun i => (i.zero, i.size, i.bytes)) = some (some (.agg #[.int .i64 0, .int .i64 0]), 2, 16) := by kernel_rfl
set_option maxHeartbeats 800000 in
theorem cloneb_calls (v : Value) (n : Nat) (xs : List Value) (w : World) (h : Kt.Ar w v 2 n xs) (h1 : ∀ u ∈ xs, u.oneCell' = true) (hn : n ≤ 1048576) :
    Calls Try.prog 16 #[v] w fun e w' => ∃ A c, e = .returned (.slice A n c) ∧ Kt.Sl w' w.heap.size 31 2 (.slice A n c) n xs ∧ Below w.heap.size w w' := by
  have qT : ∀ (w : World) (a : Option Addr) (n c n' c' : Nat), (binOp .eql 23 (.slice a n c) (.slice none n' c')).run Try.prog w = .ok (.bool a.isNone) w := fun w a n c n' c' => Lib.run_eql_slice_nil w _ _ a n c n' c' Try.underlying23
  obtain ⟨A, c, rfl, hnc, hx⟩ := h.form
  have hlen := h.len
  cases A with
  | none =>
    have hn0 : n = 0 := by
      rcases Nat.eq_zero_or_pos n with h0 | h0
      · exact h0
      · obtain ⟨b, o, e, _⟩ := hx h0; cases e
    subst hn0
    obtain rfl : xs = [] := List.eq_nil_of_length_eq_zero (by simpa using hlen)
    go_enter Try.func16, Try.ntmps16
    go_wp2
    go_ret
    exact ⟨none, 0, rfl, Kt.Sl.nil _ _ _ _, Below.refl _ _⟩
  | some ad =>
    have hnews : ∀ j u, xs[j]? = some u → (w.alloc (.cells #[] 31)).cell? (ad.add j) = some u := by
      intro j u hj
      obtain ⟨hj1, hj2⟩ := List.getElem?_eq_some_iff.1 hj
      obtain ⟨b, o, e, hb, hc⟩ := hx (by omega)
      injection e with e
      subst e
      rw [Addr.add_lit, World.cell?_alloc_lt _ _ _ (by exact hb), hc j hj1, hj2]
    have hs0 : Kt.Sl (w.alloc (.cells #[] 31)) w.heap.size 31 2 (.slice (some ⟨w.heap.size, 0, none⟩) 0 0) 0 [] :=
      ⟨rfl, .inr ⟨w.heap.size, 0, 0, #[], rfl, Nat.le_refl _, heap_alloc_new w _, Nat.le_refl _, by simp [maxLen], by simp, fun j u hj => by simp at hj⟩⟩
    go_enter Try.func16, Try.ntmps16
    go_wp2_with (
      refine Kt.append_sl _ (by rfl) (.tmp 5) (.tmp 6) 23 rfl w.heap.size 31 (.agg #[.int .i64 0, .int .i64 0]) 2 16 infoBc Try.underlying23 rfl (by decide) _ 0 [] rfl hs0 ad n c xs rfl hlen hnews h1 (by unfold maxLen; omega) (by omega) (by rw [World.size_alloc]; omega) ?_
      intro A' c' w1 hs1 hb1 hz1 hk1 hl1
      clear hk1 hl1 hs0 hnews hx)
    go_ret
    rw [Nat.zero_add] at hs1
    exact ⟨A', c', rfl, hs1, ((Below.refl _ w).alloc (Nat.le_refl _) _).trans hb1⟩
theorem infoIc : (Try.prog.info? 3).map (fun i => (i.zero, i.size, i.bytes)) = some (some (.int .i64 0), 1, 8) := by kernel_rfl
set_option maxHeartbeats 800000 in
theorem clonen_calls (v : Value) (n : Nat) (xs : List Value) (w : World) (h : Kt.Ar w v 1 n xs) (h1 : ∀ u ∈ xs, u.oneCell' = true) (hn : n ≤ 17592186044416) :
    Calls Try.prog 14 #[v] w fun e w' => ∃ A c, e = .returned (.slice A n c) ∧ Kt.Sl w' w.heap.size 3 1 (.slice A n c) n xs ∧ Below w.heap.size w w' := by
  have qT : ∀ (w : World) (a : Option Addr) (n c n' c' : Nat), (binOp .eql 22 (.slice a n c) (.slice none n' c')).run Try.prog w = .ok (.bool a.isNone) w := fun w a n c n' c' => Lib.run_eql_slice_nil w _ _ a n c n' c' Try.underlying22
  obtain ⟨A, c, rfl, hnc, hx⟩ := h.form
  have hlen := h.len
  cases A with
  | none =>
    have hn0 : n = 0 := by
      rcases Nat.eq_zero_or_pos n with h0 | h0
      · exact h0
      · obtain ⟨b, o, e, _⟩ := hx h0; cases e
    subst hn0
    obtain rfl : xs = [] := List.eq_nil_of_length_eq_zero (by simpa using hlen)
    go_enter Try.func14, Try.ntmps14
    go_wp2
    go_ret
    exact ⟨none, 0, rfl, Kt.Sl.nil _ _ _ _, Below.refl _ _⟩
  | some ad =>
    have hnews : ∀ j u, xs[j]? = some u → (w.alloc (.cells #[] 3)).cell? (ad.add j) = some u := by
      intro j u hj
      obtain ⟨hj1, hj2⟩ := List.getElem?_eq_some_iff.1 hj
      obtain ⟨b, o, e, hb, hc⟩ := hx (by omega)
      injection e with e
      subst e
      rw [Addr.add_lit, World.cell?_alloc_lt _ _ _ (by exact hb), hc j hj1, hj2]
    have hs0 : Kt.Sl (w.alloc (.cells #[] 3)) w.heap.size 3 1 (.slice (some ⟨w.heap.size, 0, none⟩) 0 0) 0 [] :=
      ⟨rfl, .inr ⟨w.heap.size, 0, 0, #[], rfl, Nat.le_refl _, heap_alloc_new w _, Nat.le_refl _, by simp [maxLen], by simp, fun j u hj => by simp at hj⟩⟩
    go_enter Try.func14, Try.ntmps14
    go_wp2_with (
      refine Kt.append_sl _ (by rfl) (.tmp 5) (.tmp 6) 22 rfl w.heap.size 3 (.int .i64 0) 1 8 infoIc Try.underlying22 rfl (by decide) _ 0 [] rfl hs0 ad n c xs rfl hlen hnews h1 (by unfold maxLen; omega) (by omega) (by rw [World.size_alloc]; omega) ?_
      intro A' c' w1 hs1 hb1 hz1 hk1 hl1
      clear hk1 hl1 hs0 hnews hx)
    go_ret
    rw [Nat.zero_add] at hs1
    exact ⟨A', c', rfl, hs1, ((Below.refl _ w).alloc (Nat.le_refl _) _).trans hb1⟩
theorem eqn_calls_len (u v : Value) (ls ms : List (Int)) (w : World) (ha : Kt.Ar w u 1 ls.length (iv ls)) (hb : Kt.Ar w v 1 ms.length (iv ms)) (hl : ((ls.length : Int) != ms.length) = true) :
    Calls Try.prog 17 #[u, v] w fun e w' => e = .returned (.bool false) ∧ Below w.heap.size w w' := by
  obtain ⟨A, c, rfl, _, _⟩ := ha.form
  obtain ⟨A', c', rfl, _, _⟩ := hb.form
  go_enter Try.func17, Try.ntmps17
  go_wp2_with fail
  go_ret
  exact ⟨rfl, Below.refl _ _⟩
set_option maxHeartbeats 1600000 in
theorem eqn_calls_same (u v : Value) (ls ms : List (Int)) (w : World) (ha : Kt.Ar w u 1 ls.length (iv ls)) (hb : Kt.Ar w v 1 ls.length (iv ms)) (hl : ls.length = ms.length) (hm : ls.length ≤ 17592186044416) :
    Calls Try.prog 17 #[u, v] w fun e w' => e = .returned (.bool (decide (ls = ms))) ∧ Below w.heap.size w w' := by
  obtain ⟨A, c, rfl, _, hxa⟩ := ha.form
  obtain ⟨A', c', rfl, _, hxb⟩ := hb.form
  have HL := Lib.hid hl
  have HM := Lib.hid hm
  generalize hn : ls.length = n at *
  have HN := Lib.hid hn; clear hn hl ha hb
  go_enter Try.func17, Try.ntmps17
  go_wp2_with fail
  go_loopw [13] (fun i wr => ∃ k : Nat, k ≤ n ∧ i = .int .i64 k ∧ (∀ j (h1 : j < ls.length) (h2 : j < ms.length), j < k → ls[j] = ms[j]) ∧ Below w.heap.size w wr) (fun i _ => n - (intOf i).toNat)
  case atStart => exact ⟨0, Nat.zero_le _, rfl, fun j _ _ h => absurd h (by omega), Below.refl _ _⟩
  case round =>
    obtain ⟨k, hk, rfl, hpre, hbel⟩ := hrel
    have HP := Lib.hid hpre; clear hpre
    have hkm : k ≤ 17592186044416 := by have := HM.out; omega
    by_cases hlt : k < n
    · obtain ⟨b, o, rfl, hb, hc⟩ := hxa (by omega)
      obtain ⟨b', o', rfl, hb', hc'⟩ := hxb (by omega)
      have h1 : k < ls.length := by have := HN.out; omega
      have h2 : k < ms.length := by have := HN.out; have := HL.out; omega
      obtain ⟨x, hx⟩ : ∃ x, ls[k] = x := ⟨_, rfl⟩
      obtain ⟨y, hy⟩ : ∃ y, ms[k] = y := ⟨_, rfl⟩
      have hcell : wr.cell? ⟨b, o + k, none⟩ = some (.int .i64 x) := (hbel.cell (p := ⟨b, o + k, none⟩) hb).trans ((hc k (by simp [iv]; exact h1)).trans (by simp [iv, hx]))
      have hcell' : wr.cell? ⟨b', o' + k, none⟩ = some (.int .i64 y) := (hbel.cell (p := ⟨b', o' + k, none⟩) hb').trans ((hc' k (by simp [iv]; exact h2)).trans (by simp [iv, hy]))
      have HX := Lib.hid hx; have HY := Lib.hid hy; clear hx hy hxa hxb hc hc'
      have b1 : (0 : Int) ≤ k := by omega
      have b2 : (k : Int) < n := by omega
      by_cases he : x = y
      · subst he
        go_wp2_with fail
        go_quiet (fail)
        go_wp2
        go_roundw
        case rel =>
          refine ⟨k + 1, by omega, by go_num, fun j a b hj => ?_, bdrewN hbel _⟩
          by_cases hjk : j = k
          · subst hjk; exact HX.out.trans HY.out.symm
          · exact HP.out j a b (by omega)
        case measure => simp [intOf]; omega
      · have HNE := Lib.hid he
        have e0 : (x != y) = true := by rw [bne_iff_ne]; exact he
        clear he
        all_goals
          go_wp2_with fail
          go_quiet (fail)
          go_wp2
          go_ret
          refine ⟨?_, bdrewN hbel _⟩
          have : decide (ls = ms) = false := by
            rw [decide_eq_false_iff_not]
            rintro rfl
            exact HNE.out (HX.out.symm.trans HY.out)
          rw [this]; rfl
    · obtain rfl : k = n := by omega
      go_wp2
      go_ret
      have : decide (ls = ms) = true := by
        rw [decide_eq_true_iff]
        exact List.ext_getElem (HN.out.trans HL.out) fun j a b => HP.out j a b (by have := HN.out; omega)
      rw [this]
      exact ⟨rfl, hbel⟩
theorem eqn_calls (u v : Value) (ls ms : List (Int)) (w : World) (ha : Kt.Ar w u 1 ls.length (iv ls)) (hb : Kt.Ar w v 1 ms.length (iv ms)) (hm : ls.length ≤ 17592186044416) :
    Calls Try.prog 17 #[u, v] w fun e w' => e = .returned (.bool (decide (ls = ms))) ∧ Below w.heap.size w w' := by
  by_cases hl : ls.length = ms.length
  · exact eqn_calls_same u v ls ms w ha (by rw [hl]; exact hb) hl hm
  · refine (eqn_calls_len u v ls ms w ha hb (by rw [bne_iff_ne]; omega)).mono fun e w' ⟨h1, h2⟩ => ⟨?_, h2⟩
    have : decide (ls = ms) = false := by
      rw [decide_eq_false_iff_not]
      rintro rfl
      exact hl rfl
    rw [h1, this]
end Go.Proofs.Ythmcnopogahffaa
