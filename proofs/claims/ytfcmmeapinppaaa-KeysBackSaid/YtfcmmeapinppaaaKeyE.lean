/- slices.Equal at keys' events; keysLives. -/
import Derived.Test.YtfcmmeapinppaaaKeyD
import Derived.Test.YtfcmmeapinppaaaEq
import Derived.Test.YtfcmmeapinppaaaMid
import Derived.Test.YtfcmmeapinppaaaSlm
import Derived.Deep.MidRow
namespace Go.Proofs.Ytfcmmeapinppaaa
open Go.RowKit
def kyTy : Fr.Ty := .cat 1 (.int .i64) (.cat 1 .bool .nil)
theorem fit_eqk_calls : Fr.fits Try.prog 12 47 kyTy = true := by kernel_rfl
theorem ok_eqk_calls : Fr.eqOk Try.prog 12 47 = true := by kernel_rfl
theorem sz_eqk_calls : (Try.prog.info? 47).map (·.size) = some 2 := by kernel_rfl
theorem neq_eqk_calls (X Y : List Value) (hx : Fr.Cl kyTy X) (hy : Fr.Cl kyTy Y) (w : World) : (binOp .neq 47 (.agg X.toArray) (.agg Y.toArray)).run Try.prog w = .ok (.bool (!@decide (X = Y) (Classical.propDecidable _))) w := by
  have h := (Fr.eql_agg (P := Try.prog) w 47 kyTy 12 (by omega) fit_eqk_calls ok_eqk_calls rfl X.toArray Y.toArray hx hy rfl rfl).2
  rw [h]
  congr 2
  exact congrArg _ (decide_eq_decide.2 ⟨fun e => by simpa using congrArg Array.toList e, fun e => by rw [e]⟩)
set_option maxHeartbeats 1600000 in
theorem eqk_calls_same (u v : Value) (n : Nat) (xs ys : List Value) (w : World) (ha : Kt.Ar w u 2 n xs) (hb : Kt.Ar w v 2 n ys) (hx : ∀ i, i < n → Fr.Cl kyTy ((xs.drop (i * 2)).take 2)) (hy : ∀ i, i < n → Fr.Cl kyTy ((ys.drop (i * 2)).take 2)) (hm : n ≤ 1099511627776) :
    Calls Try.prog 18 #[u, v] w fun e w' => ∃ b, e = .returned (.bool b) ∧ (b = true ↔ xs = ys) ∧ Below w.heap.size w w' := by
  obtain ⟨A, c, rfl, _, hxa⟩ := ha.form
  obtain ⟨A', c', rfl, _, hxb⟩ := hb.form
  have HLX := Lib.hid ha.len
  have HLY := Lib.hid hb.len
  have HX := Lib.hid hx
  have HY := Lib.hid hy
  have HXA := Lib.hid hxa
  have HXB := Lib.hid hxb
  have HM := Lib.hid hm
  clear ha hb hx hy hxa hxb
  go_enter Try.func18, Try.ntmps18
  go_wp2_with fail
  go_loopw [13] (fun i wr => ∃ k : Nat, k ≤ n ∧ i = .int .i64 k ∧ Hid (xs.take (k * 2) = ys.take (k * 2)) ∧ Hid (Below w.heap.size w wr)) (fun i _ => n - (intOf i).toNat)
  case atStart => exact ⟨0, Nat.zero_le _, rfl, Lib.hid (by simp), Lib.hid (Below.refl _ _)⟩
  case round =>
    obtain ⟨k, hk, rfl, HP, HB⟩ := hrel
    by_cases hlt : k < n
    · obtain ⟨b, o, rfl, hb0, hc1⟩ := HXA.out (by omega)
      obtain ⟨b', o', rfl, hb0', hc1'⟩ := HXB.out (by omega)
      have hz := HB.out.size
      have hmul : k * 2 + 2 ≤ n * 2 := by rw [← Nat.succ_mul]; exact Nat.mul_le_mul_right _ hlt
      obtain ⟨X, hX⟩ : ∃ X, (xs.drop (k * 2)).take 2 = X := ⟨_, rfl⟩
      obtain ⟨Y, hY⟩ : ∃ Y, (ys.drop (k * 2)).take 2 = Y := ⟨_, rfl⟩
      have lX : X.length = 2 := by rw [← hX, List.length_take, List.length_drop, HLX.out]; omega
      have lY : Y.length = 2 := by rw [← hY, List.length_take, List.length_drop, HLY.out]; omega
      have cX := HX.out k hlt
      have cY := HY.out k hlt
      rw [hX] at cX
      rw [hY] at cY
      have RX : wr.rangeAt b (o + k * 2) X := fun j u hj => by
        have hj7 : j < 2 := by have := (List.getElem?_eq_some_iff.1 hj).1; omega
        rw [← hX, List.getElem?_take_of_lt hj7, List.getElem?_drop] at hj
        obtain ⟨hj1, rfl⟩ := List.getElem?_eq_some_iff.1 hj
        rw [Nat.add_assoc]
        exact (HB.out.cell (p := ⟨b, o + (k * 2 + j), none⟩) hb0).trans (hc1 _ hj1)
      have RY : wr.rangeAt b' (o' + k * 2) Y := fun j u hj => by
        have hj7 : j < 2 := by have := (List.getElem?_eq_some_iff.1 hj).1; omega
        rw [← hY, List.getElem?_take_of_lt hj7, List.getElem?_drop] at hj
        obtain ⟨hj1, rfl⟩ := List.getElem?_eq_some_iff.1 hj
        rw [Nat.add_assoc]
        exact (HB.out.cell (p := ⟨b', o' + (k * 2 + j), none⟩) hb0').trans (hc1' _ hj1)
      have NE := neq_eqk_calls X Y cX cY
      have HT : Hid ((xs.take ((k + 1) * 2) = ys.take ((k + 1) * 2) ↔ X = Y) ∧ (xs = ys → X = Y)) := Lib.hid ⟨by
        rw [Nat.succ_mul, List.take_add, List.take_add, HP.out, hX, hY]
        exact ⟨List.append_cancel_left, fun e => by rw [e]⟩, fun e => by rw [← hX, ← hY, e]⟩
      have RXY := Lib.hid (And.intro RX RY)
      have sX : (Try.prog.info? 47).map (·.size) = some X.length := by rw [lX]; exact sz_eqk_calls
      have sY : (Try.prog.info? 47).map (·.size) = some Y.length := by rw [lY]; exact sz_eqk_calls
      have b1 : (0 : Int) ≤ k := by omega
      have b2 : (k : Int) < n := by omega
      clear hX hY cX cY hc1 hc1' RX RY hmul hz lX lY
      obtain ⟨q, hq⟩ : ∃ q, @decide (X = Y) (Classical.propDecidable _) = q := ⟨_, rfl⟩
      rw [hq] at NE
      have HQ : Hid (q = true ↔ X = Y) := Lib.hid (by rw [← hq]; simp)
      clear hq
      go_wp2_with fail
      refine Kt.G.start 8 (fun W => W.rangeAt b (o + k * 2) X ∧ W.rangeAt b' (o' + k * 2) Y) (by kernel_rfl) RXY.out (fun hHeld => ?_)
      refine Kt.G.takeP 0 { dst := some 16, op := Op.move (Operand.tmp 0), type := 32, pos := "slices.go:25", after := #[], guard := none } ?_ (fun _ => hHeld) rfl (by kernel_rfl) (fun _ _ _ h => h) (by rfl) ?_ ?_
      rotate_left
      · intro w; go_simp; try with_reducible rfl
      try simp only [Act.put, List.setIfInBounds_toArray, List.set_cons_zero, List.set_cons_succ]
      refine Kt.G.takeP 1 { dst := some 17, op := Op.move (Operand.tmp 5), type := 3, pos := "slices.go:25", after := #[], guard := none } ?_ (fun _ => hHeld) rfl (by kernel_rfl) (fun _ _ _ h => h) (by rfl) ?_ ?_
      rotate_left
      · intro w; go_simp; try with_reducible rfl
      try simp only [Act.put, List.setIfInBounds_toArray, List.set_cons_zero, List.set_cons_succ]
      refine Kt.G.takeP 2 { dst := some 18, op := Op.indexAddr 32 (Operand.tmp 16) (Operand.tmp 17), type := 0, pos := "slices.go:25", after := #[{ on := 0, ground := Ground.data }, { on := 1, ground := Ground.data }], guard := none } ?_ (fun _ => hHeld) rfl (by kernel_rfl) (fun _ _ _ h => h) (by rfl) ?_ ?_
      rotate_left
      · intro w; go_simp; try with_reducible rfl
      try simp only [Act.put, List.setIfInBounds_toArray, List.set_cons_zero, List.set_cons_succ]
      refine Kt.G.load_mid 3 { dst := some 19, op := Op.load 47 (Operand.tmp 18), type := 47, pos := "slices.go:25", after := #[{ on := 2, ground := Ground.data }], guard := none } 47 (.tmp 18) b (o + k * 2) X _ hHeld rfl (by kernel_rfl) (fun _ _ _ h => h) (by rfl) rfl rfl (fun w hSw => hSw.1) Try.underlying47 rfl sX ?_
      try simp only [Act.put, List.setIfInBounds_toArray, List.set_cons_zero, List.set_cons_succ]
      refine Kt.G.takeP 4 { dst := some 20, op := Op.move (Operand.tmp 1), type := 32, pos := "slices.go:25", after := #[], guard := none } ?_ (fun _ => hHeld) rfl (by kernel_rfl) (fun _ _ _ h => h) (by rfl) ?_ ?_
      rotate_left
      · intro w; go_simp; try with_reducible rfl
      try simp only [Act.put, List.setIfInBounds_toArray, List.set_cons_zero, List.set_cons_succ]
      refine Kt.G.takeP 5 { dst := some 21, op := Op.move (Operand.tmp 5), type := 3, pos := "slices.go:25", after := #[], guard := none } ?_ (fun _ => hHeld) rfl (by kernel_rfl) (fun _ _ _ h => h) (by rfl) ?_ ?_
      rotate_left
      · intro w; go_simp; try with_reducible rfl
      try simp only [Act.put, List.setIfInBounds_toArray, List.set_cons_zero, List.set_cons_succ]
      refine Kt.G.takeP 6 { dst := some 22, op := Op.indexAddr 32 (Operand.tmp 20) (Operand.tmp 21), type := 0, pos := "slices.go:25", after := #[{ on := 4, ground := Ground.data }, { on := 5, ground := Ground.data }], guard := none } ?_ (fun _ => hHeld) rfl (by kernel_rfl) (fun _ _ _ h => h) (by rfl) ?_ ?_
      rotate_left
      · intro w; go_simp; try with_reducible rfl
      try simp only [Act.put, List.setIfInBounds_toArray, List.set_cons_zero, List.set_cons_succ]
      refine Kt.G.load_mid 7 { dst := some 23, op := Op.load 47 (Operand.tmp 22), type := 47, pos := "slices.go:25", after := #[{ on := 6, ground := Ground.data }], guard := none } 47 (.tmp 22) b' (o' + k * 2) Y _ hHeld rfl (by kernel_rfl) (fun _ _ _ h => h) (by rfl) rfl rfl (fun w hSw => hSw.2) Try.underlying47 rfl sY ?_
      try simp only [Act.put, List.setIfInBounds_toArray, List.set_cons_zero, List.set_cons_succ]
      refine Kt.G.one 8 { dst := some 24, op := Op.binOp BinOp.neq 47 (Operand.tmp 19) (Operand.tmp 23) 47, type := 4, pos := "slices.go:25", after := #[{ on := 3, ground := Ground.data }, { on := 7, ground := Ground.data }], guard := none } rfl (by kernel_rfl) (by rfl) (fun K hK => ?_)
      go_simp
      refine hK.out _ _ (Kt.G.late (by kernel_rfl)) (fun _ => ?_)
      clear hK K
      try simp only [Act.put, List.setIfInBounds_toArray, List.set_cons_zero, List.set_cons_succ]
      refine Kt.G.done (by kernel_rfl) (NoPanic.normal ?_) _
      cases q with
      | true =>
        go_wp2_with fail
        go_roundw
        case rel => exact ⟨k + 1, by omega, by go_num, Lib.hid (HT.out.1.2 (HQ.out.1 rfl)), Lib.hid HB.out.drew⟩
        case measure => (simp [intOf] <;> omega)
      | false =>
        go_wp2_with fail
        go_ret
        exact ⟨_, rfl, ⟨fun h => (by cases h), fun e => HQ.out.2 (HT.out.2 e)⟩, HB.out.drew⟩
    · obtain rfl : k = n := by omega
      clear hlt hk
      have HEQ : Hid (xs = ys) := Lib.hid (by
        have h := HP.out
        rwa [List.take_of_length_le (by rw [HLX.out]; exact Nat.le_refl _), List.take_of_length_le (by rw [HLY.out]; exact Nat.le_refl _)] at h)
      go_wp2_with fail
      go_ret
      exact ⟨_, rfl, ⟨fun _ => HEQ.out, fun _ => rfl⟩, HB.out⟩
theorem eqk_calls (u v : Value) (n m : Nat) (xs ys : List Value) (w : World) (ha : Kt.Ar w u 2 n xs) (hb : Kt.Ar w v 2 m ys) (hx : ∀ i, i < n → Fr.Cl kyTy ((xs.drop (i * 2)).take 2)) (hy : ∀ i, i < m → Fr.Cl kyTy ((ys.drop (i * 2)).take 2)) (hm : n ≤ 1099511627776) :
    Calls Try.prog 18 #[u, v] w fun e w' => ∃ b, e = .returned (.bool b) ∧ (b = true ↔ xs = ys) ∧ Below w.heap.size w w' := by
  by_cases hl : n = m
  · subst hl; exact eqk_calls_same u v n xs ys w ha hb hx hy hm
  · have HNE : Hid (¬ xs = ys) := Lib.hid (fun e => by
      have h1 := ha.len; have h2 := hb.len
      rw [e, h2] at h1
      omega)
    have e1 : ((n : Int) != m) = true := by rw [bne_iff_ne]; omega
    obtain ⟨A, c, rfl, _, _⟩ := ha.form
    obtain ⟨A', c', rfl, _, _⟩ := hb.form
    clear ha hb hx hy hl
    go_enter Try.func18, Try.ntmps18
    go_wp2_with fail
    go_ret
    exact ⟨_, rfl, ⟨fun h => (by cases h), fun e => absurd e HNE.out⟩, Below.refl _ _⟩
end Go.Proofs.Ytfcmmeapinppaaa
