/- slices.Equal and slices.Clone at ends. -/
import Derived.Test.YtmddfpmchcmgiaaDscR
import Derived.Test.YtmddfpmchcmgiaaGen
import Derived.Deep.MidRow
namespace Go.Proofs.Ytmddfpmchcmgiaa
open Go.RowKit
def enTy : Fr.Ty := .cat 1 (.int .i64) (.cat 1 .bool (.cat 1 (.int .i64) (.cat 1 (.int .i64) (.cat 1 (.int .i64) .nil))))
theorem fit_eqe_calls : Fr.fits Try.prog 12 43 enTy = true := by kernel_rfl
theorem ok_eqe_calls : Fr.eqOk Try.prog 12 43 = true := by kernel_rfl
theorem sz_eqe_calls : (Try.prog.info? 43).map (·.size) = some 5 := by kernel_rfl
set_option maxRecDepth 100000 in
theorem neq_eqe_calls (X Y : List Value) (hx : Fr.Cl enTy X) (hy : Fr.Cl enTy Y) (w : World) : (binOp .neq 43 (.agg X.toArray) (.agg Y.toArray)).run Try.prog w = .ok (.bool (!@decide (X = Y) (Classical.propDecidable _))) w := by
  have h := (Fr.eql_agg (P := Try.prog) w 43 enTy 12 (by omega) fit_eqe_calls ok_eqe_calls rfl X.toArray Y.toArray hx hy rfl rfl).2
  rw [h]
  congr 2
  exact congrArg _ (decide_eq_decide.2 ⟨fun e => by simpa using congrArg Array.toList e, fun e => by rw [e]⟩)
set_option maxRecDepth 100000 in
set_option maxHeartbeats 1600000 in
theorem eqe_calls_same (u v : Value) (n : Nat) (xs ys : List Value) (w : World) (ha : Kt.Ar w u 5 n xs) (hb : Kt.Ar w v 5 n ys) (hx : ∀ i, i < n → Fr.Cl enTy ((xs.drop (i * 5)).take 5)) (hy : ∀ i, i < n → Fr.Cl enTy ((ys.drop (i * 5)).take 5)) (hm : n ≤ 35184372088832) :
    Calls Try.prog 44 #[u, v] w fun e w' => ∃ b, e = .returned (.bool b) ∧ (b = true ↔ xs = ys) ∧ Below w.heap.size w w' := by
  obtain ⟨A, c, rfl, _, hxa⟩ := ha.form
  obtain ⟨A', c', rfl, _, hxb⟩ := hb.form
  have HLX := Lib.hid ha.len
  have HLY := Lib.hid hb.len
  have HX := Lib.hid hx
  have HY := Lib.hid hy
  have HXA := Lib.hid hxa
  have HXB := Lib.hid hxb
  have HM := Lib.hid hm
  clear ha hb hx hy hxa hxb
  go_enter Try.func44, Try.ntmps44
  go_wp2_with fail
  go_loopw [13] (fun i wr => ∃ k : Nat, k ≤ n ∧ i = .int .i64 k ∧ Hid (xs.take (k * 5) = ys.take (k * 5)) ∧ Hid (Below w.heap.size w wr)) (fun i _ => n - (intOf i).toNat)
  case atStart => exact ⟨0, Nat.zero_le _, rfl, Lib.hid (by simp), Lib.hid (Below.refl _ _)⟩
  case round =>
    obtain ⟨k, hk, rfl, HP, HB⟩ := hrel
    by_cases hlt : k < n
    · obtain ⟨b, o, rfl, hb0, hc1⟩ := HXA.out (by omega)
      obtain ⟨b', o', rfl, hb0', hc1'⟩ := HXB.out (by omega)
      have hz := HB.out.size
      have hmul : k * 5 + 5 ≤ n * 5 := by rw [← Nat.succ_mul]; exact Nat.mul_le_mul_right _ hlt
      obtain ⟨X, hX⟩ : ∃ X, (xs.drop (k * 5)).take 5 = X := ⟨_, rfl⟩
      obtain ⟨Y, hY⟩ : ∃ Y, (ys.drop (k * 5)).take 5 = Y := ⟨_, rfl⟩
      have lX : X.length = 5 := by rw [← hX, List.length_take, List.length_drop, HLX.out]; omega
      have lY : Y.length = 5 := by rw [← hY, List.length_take, List.length_drop, HLY.out]; omega
      have cX := HX.out k hlt
      have cY := HY.out k hlt
      rw [hX] at cX
      rw [hY] at cY
      have RX : wr.rangeAt b (o + k * 5) X := fun j u hj => by
        have hj7 : j < 5 := by have := (List.getElem?_eq_some_iff.1 hj).1; omega
        rw [← hX, List.getElem?_take_of_lt hj7, List.getElem?_drop] at hj
        obtain ⟨hj1, rfl⟩ := List.getElem?_eq_some_iff.1 hj
        rw [Nat.add_assoc]
        exact (HB.out.cell (p := ⟨b, o + (k * 5 + j), none⟩) hb0).trans (hc1 _ hj1)
      have RY : wr.rangeAt b' (o' + k * 5) Y := fun j u hj => by
        have hj7 : j < 5 := by have := (List.getElem?_eq_some_iff.1 hj).1; omega
        rw [← hY, List.getElem?_take_of_lt hj7, List.getElem?_drop] at hj
        obtain ⟨hj1, rfl⟩ := List.getElem?_eq_some_iff.1 hj
        rw [Nat.add_assoc]
        exact (HB.out.cell (p := ⟨b', o' + (k * 5 + j), none⟩) hb0').trans (hc1' _ hj1)
      have NE := neq_eqe_calls X Y cX cY
      have HT : Hid ((xs.take ((k + 1) * 5) = ys.take ((k + 1) * 5) ↔ X = Y) ∧ (xs = ys → X = Y)) := Lib.hid ⟨by
        rw [Nat.succ_mul, List.take_add, List.take_add, HP.out, hX, hY]
        exact ⟨List.append_cancel_left, fun e => by rw [e]⟩, fun e => by rw [← hX, ← hY, e]⟩
      have RXY := Lib.hid (And.intro RX RY)
      have sX : (Try.prog.info? 43).map (·.size) = some X.length := by rw [lX]; exact sz_eqe_calls
      have sY : (Try.prog.info? 43).map (·.size) = some Y.length := by rw [lY]; exact sz_eqe_calls
      have b1 : (0 : Int) ≤ k := by omega
      have b2 : (k : Int) < n := by omega
      clear hX hY cX cY hc1 hc1' RX RY hmul hz lX lY
      obtain ⟨q, hq⟩ : ∃ q, @decide (X = Y) (Classical.propDecidable _) = q := ⟨_, rfl⟩
      rw [hq] at NE
      have HQ : Hid (q = true ↔ X = Y) := Lib.hid (by rw [← hq]; simp)
      clear hq
      go_wp2_with fail
      refine Kt.G.start 8 (fun W => W.rangeAt b (o + k * 5) X ∧ W.rangeAt b' (o' + k * 5) Y) (by kernel_rfl) RXY.out (fun hHeld => ?_)
      refine Kt.G.takeP 0 { dst := some 16, op := Op.move (Operand.tmp 0), type := 30, pos := "slices.go:25", after := #[], guard := none } ?_ (fun _ => hHeld) rfl (by kernel_rfl) (fun _ _ _ h => h) (by rfl) ?_ ?_
      rotate_left
      · intro w; go_simp; try with_reducible rfl
      try simp only [Act.put, List.setIfInBounds_toArray, List.set_cons_zero, List.set_cons_succ]
      refine Kt.G.takeP 1 { dst := some 17, op := Op.move (Operand.tmp 5), type := 3, pos := "slices.go:25", after := #[], guard := none } ?_ (fun _ => hHeld) rfl (by kernel_rfl) (fun _ _ _ h => h) (by rfl) ?_ ?_
      rotate_left
      · intro w; go_simp; try with_reducible rfl
      try simp only [Act.put, List.setIfInBounds_toArray, List.set_cons_zero, List.set_cons_succ]
      refine Kt.G.takeP 2 { dst := some 18, op := Op.indexAddr 30 (Operand.tmp 16) (Operand.tmp 17), type := 0, pos := "slices.go:25", after := #[{ on := 0, ground := Ground.data }, { on := 1, ground := Ground.data }], guard := none } ?_ (fun _ => hHeld) rfl (by kernel_rfl) (fun _ _ _ h => h) (by rfl) ?_ ?_
      rotate_left
      · intro w; go_simp; try with_reducible rfl
      try simp only [Act.put, List.setIfInBounds_toArray, List.set_cons_zero, List.set_cons_succ]
      refine Kt.G.load_mid 3 { dst := some 19, op := Op.load 43 (Operand.tmp 18), type := 43, pos := "slices.go:25", after := #[{ on := 2, ground := Ground.data }], guard := none } 43 (.tmp 18) b (o + k * 5) X _ hHeld rfl (by kernel_rfl) (fun _ _ _ h => h) (by rfl) rfl rfl (fun w hSw => hSw.1) Try.underlying43 rfl sX ?_
      try simp only [Act.put, List.setIfInBounds_toArray, List.set_cons_zero, List.set_cons_succ]
      refine Kt.G.takeP 4 { dst := some 20, op := Op.move (Operand.tmp 1), type := 30, pos := "slices.go:25", after := #[], guard := none } ?_ (fun _ => hHeld) rfl (by kernel_rfl) (fun _ _ _ h => h) (by rfl) ?_ ?_
      rotate_left
      · intro w; go_simp; try with_reducible rfl
      try simp only [Act.put, List.setIfInBounds_toArray, List.set_cons_zero, List.set_cons_succ]
      refine Kt.G.takeP 5 { dst := some 21, op := Op.move (Operand.tmp 5), type := 3, pos := "slices.go:25", after := #[], guard := none } ?_ (fun _ => hHeld) rfl (by kernel_rfl) (fun _ _ _ h => h) (by rfl) ?_ ?_
      rotate_left
      · intro w; go_simp; try with_reducible rfl
      try simp only [Act.put, List.setIfInBounds_toArray, List.set_cons_zero, List.set_cons_succ]
      refine Kt.G.takeP 6 { dst := some 22, op := Op.indexAddr 30 (Operand.tmp 20) (Operand.tmp 21), type := 0, pos := "slices.go:25", after := #[{ on := 4, ground := Ground.data }, { on := 5, ground := Ground.data }], guard := none } ?_ (fun _ => hHeld) rfl (by kernel_rfl) (fun _ _ _ h => h) (by rfl) ?_ ?_
      rotate_left
      · intro w; go_simp; try with_reducible rfl
      try simp only [Act.put, List.setIfInBounds_toArray, List.set_cons_zero, List.set_cons_succ]
      refine Kt.G.load_mid 7 { dst := some 23, op := Op.load 43 (Operand.tmp 22), type := 43, pos := "slices.go:25", after := #[{ on := 6, ground := Ground.data }], guard := none } 43 (.tmp 22) b' (o' + k * 5) Y _ hHeld rfl (by kernel_rfl) (fun _ _ _ h => h) (by rfl) rfl rfl (fun w hSw => hSw.2) Try.underlying43 rfl sY ?_
      try simp only [Act.put, List.setIfInBounds_toArray, List.set_cons_zero, List.set_cons_succ]
      refine Kt.G.one 8 { dst := some 24, op := Op.binOp BinOp.neq 43 (Operand.tmp 19) (Operand.tmp 23) 43, type := 4, pos := "slices.go:25", after := #[{ on := 3, ground := Ground.data }, { on := 7, ground := Ground.data }], guard := none } rfl (by kernel_rfl) (by rfl) (fun K hK => ?_)
      go_simp
      refine hK.out _ _ (Kt.G.late (by kernel_rfl)) (fun _ => ?_)
      clear hK K
      try simp only [Act.put, List.setIfInBounds_toArray, List.set_cons_zero, List.set_cons_succ]
      refine Kt.G.done (by kernel_rfl) (NoPanic.normal ?_) _
      cases q with
      | true =>
        go_wp2_with fail
        go_roundw
        case rel => exact ⟨k + 1, by omega, by go_num, Lib.hid (HT.out.1.2 (HQ.out.1 rfl)), Lib.hid HB.out.drew⟩
        case measure => (simp [intOf] <;> omega)
      | false =>
        go_wp2_with fail
        go_ret
        exact ⟨_, rfl, ⟨fun h => (by cases h), fun e => HQ.out.2 (HT.out.2 e)⟩, HB.out.drew⟩
    · obtain rfl : k = n := by omega
      clear hlt hk
      have HEQ : Hid (xs = ys) := Lib.hid (by
        have h := HP.out
        rwa [List.take_of_length_le (by rw [HLX.out]; exact Nat.le_refl _), List.take_of_length_le (by rw [HLY.out]; exact Nat.le_refl _)] at h)
      go_wp2_with fail
      go_ret
      exact ⟨_, rfl, ⟨fun _ => HEQ.out, fun _ => rfl⟩, HB.out⟩
set_option maxRecDepth 100000 in
theorem eqe_calls (u v : Value) (n m : Nat) (xs ys : List Value) (w : World) (ha : Kt.Ar w u 5 n xs) (hb : Kt.Ar w v 5 m ys) (hx : ∀ i, i < n → Fr.Cl enTy ((xs.drop (i * 5)).take 5)) (hy : ∀ i, i < m → Fr.Cl enTy ((ys.drop (i * 5)).take 5)) (hm : n ≤ 35184372088832) :
    Calls Try.prog 44 #[u, v] w fun e w' => ∃ b, e = .returned (.bool b) ∧ (b = true ↔ xs = ys) ∧ Below w.heap.size w w' := by
  by_cases hl : n = m
  · subst hl; exact eqe_calls_same u v n xs ys w ha hb hx hy hm
  · have HNE : Hid (¬ xs = ys) := Lib.hid (fun e => by
      have h1 := ha.len; have h2 := hb.len
      rw [e, h2] at h1
      omega)
    have e1 : ((n : Int) != m) = true := by rw [bne_iff_ne]; omega
    obtain ⟨A, c, rfl, _, _⟩ := ha.form
    obtain ⟨A', c', rfl, _, _⟩ := hb.form
    clear ha hb hx hy hl
    go_enter Try.func44, Try.ntmps44
    go_wp2_with fail
    go_ret
    exact ⟨_, rfl, ⟨fun h => (by cases h), fun e => absurd e HNE.out⟩, Below.refl _ _⟩
theorem infoEc : (Try.prog.info? 43).map (fun i => (i.zero, i.size, i.bytes)) = some (some (.agg #[.int .i64 0, .bool false, .int .i64 0, .int .i64 0, .int .i64 0]), 5, 40) := by kernel_rfl
set_option maxRecDepth 100000 in
set_option maxHeartbeats 800000 in
theorem clonee_calls (v : Value) (n : Nat) (xs : List Value) (w : World) (h : Kt.Ar w v 5 n xs) (h1 : ∀ u ∈ xs, u.oneCell' = true) (hn : n ≤ 3518437208883) :
    Calls Try.prog 19 #[v] w fun e w' => ∃ A c, e = .returned (.slice A n c) ∧ Kt.Sl w' w.heap.size 43 5 (.slice A n c) n xs ∧ Below w.heap.size w w' := by
  have qT : ∀ (w : World) (a : Option Addr) (n c n' c' : Nat), (binOp .eql 30 (.slice a n c) (.slice none n' c')).run Try.prog w = .ok (.bool a.isNone) w := fun w a n c n' c' => Lib.run_eql_slice_nil w _ _ a n c n' c' Try.underlying30
  obtain ⟨A, c, rfl, hnc, hx⟩ := h.form
  have hlen := h.len
  cases A with
  | none =>
    have hn0 : n = 0 := by
      rcases Nat.eq_zero_or_pos n with h0 | h0
      · exact h0
      · obtain ⟨b, o, e, _⟩ := hx h0; cases e
    subst hn0
    obtain rfl : xs = [] := List.eq_nil_of_length_eq_zero (by simpa using hlen)
    go_enter Try.func19, Try.ntmps19
    go_wp2
    go_ret
    exact ⟨none, 0, rfl, Kt.Sl.nil _ _ _ _, Below.refl _ _⟩
  | some ad =>
    have hnews : ∀ j u, xs[j]? = some u → (w.alloc (.cells #[] 43)).cell? (ad.add j) = some u := by
      intro j u hj
      obtain ⟨hj1, hj2⟩ := List.getElem?_eq_some_iff.1 hj
      obtain ⟨b, o, e, hb, hc⟩ := hx (by omega)
      injection e with e
      subst e
      rw [Addr.add_lit, World.cell?_alloc_lt _ _ _ (by exact hb), hc j hj1, hj2]
    have hs0 : Kt.Sl (w.alloc (.cells #[] 43)) w.heap.size 43 5 (.slice (some ⟨w.heap.size, 0, none⟩) 0 0) 0 [] :=
      ⟨rfl, .inr ⟨w.heap.size, 0, 0, #[], rfl, Nat.le_refl _, heap_alloc_new w _, Nat.le_refl _, by simp [maxLen], by simp, fun j u hj => by simp at hj⟩⟩
    go_enter Try.func19, Try.ntmps19
    go_wp2_with (
      refine Kt.append_sl _ (by rfl) (.tmp 5) (.tmp 6) 30 rfl w.heap.size 43 (.agg #[.int .i64 0, .bool false, .int .i64 0, .int .i64 0, .int .i64 0]) 5 40 infoEc Try.underlying30 rfl (by decide) _ 0 [] rfl hs0 ad n c xs rfl hlen hnews h1 (by unfold maxLen; omega) (by omega) (by rw [World.size_alloc]; omega) ?_
      intro A' c' w1 hs1 hb1 hz1 hk1 hl1
      clear hk1 hl1 hs0 hnews hx)
    go_ret
    rw [Nat.zero_add] at hs1
    exact ⟨A', c', rfl, hs1, ((Below.refl _ w).alloc (Nat.le_refl _) _).trans hb1⟩
end Go.Proofs.Ytmddfpmchcmgiaa
