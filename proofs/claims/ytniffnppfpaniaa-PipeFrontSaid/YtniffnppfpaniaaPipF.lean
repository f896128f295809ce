/- The law of the front, walked: PipeFront. -/
import Derived.Test.YtniffnppfpaniaaPipL
namespace Go.Proofs.Ytniffnppfpaniaa
open Go.RowKit
theorem ar_drop {w : World} {A : Option Addr} {n c told : Nat} {xs : List Value} (h : Kt.Ar w (.slice A n c) 1 n xs) (ht : told ≤ n) : Kt.Ar w (.slice (if c = told then A else A.map (·.add told)) (n - told) (c - told)) 1 (n - told) (xs.drop told) := by
  have hl := h.len
  obtain ⟨A', c', e, hnc, hx⟩ := h.form
  injection e with e1 _ e2
  subst e1 e2
  refine ⟨by rw [List.length_drop]; omega, _, _, rfl, by omega, fun hpos => ?_⟩
  obtain ⟨b, o, rfl, hb, hc⟩ := hx (by omega)
  rw [if_neg (by omega)]
  refine ⟨b, o + told, ?_, hb, fun j hj => ?_⟩
  · simp only [Option.map_some, Addr.add]
    by_cases h0 : told = 0
    · subst h0; simp
    · simp [h0]
  · rw [List.length_drop] at hj
    rw [List.getElem_drop, Nat.add_assoc]
    exact hc (told + j) (by omega)
theorem ar_take {w : World} {A : Option Addr} {n c m : Nat} {xs : List Value} (h : Kt.Ar w (.slice A n c) 1 n xs) (hm : m ≤ n) : Kt.Ar w (.slice A m c) 1 m (xs.take m) := by
  have hl := h.len
  obtain ⟨A', c', e, hnc, hx⟩ := h.form
  injection e with e1 _ e2
  subst e1 e2
  refine ⟨by rw [List.length_take]; omega, _, _, rfl, by omega, fun hpos => ?_⟩
  obtain ⟨b, o, rfl, hb, hc⟩ := hx (by omega)
  refine ⟨b, o, rfl, hb, fun j hj => ?_⟩
  rw [List.length_take] at hj
  rw [List.getElem_take]
  exact hc j (by omega)
theorem pa_zero (w : World) : PA w (.agg #[.int .i64 0, .int .i64 0, .slice none 0 0, .slice none 0 0]) ⟨0, 0, [], []⟩ :=
  ⟨_, _, rfl, Kt.Ar.of_sl (Kt.Sl.nil w 0 0 1), Kt.Ar.of_sl (Kt.Sl.nil w 0 0 1)⟩
set_option maxHeartbeats 1600000 in
theorem front_no (V U : Value) (n : Int) (hn : n = 1 ∨ n = 2) (w : World) (HR : Hid (Calls Try.prog 8 #[V, U] w (Fails w n))) :
    Calls Try.prog 3 #[V, U] w fun e w' => e = .returned (.bool true) ∧ Below w.heap.size w w' := by
  have hn0 : (n != 0) = true := by rcases hn with rfl | rfl <;> rfl
  clear hn
  go_enter Try.func3, Try.ntmps3
  go_wp2_with fail
  refine HR.out.mono ?_; rintro en w2 ⟨rfl, hb2⟩
  have hB2 := Kt.balloc hb2 (.cells #[.int .i64 0, .int .i64 0, .slice none 0 0, .slice none 0 0] 25)
  have hrow := heap_alloc_new w2 (.cells #[.int .i64 0, .int .i64 0, .slice none 0 0, .slice none 0 0] 25)
  unfold zeroP
  go_wp2_with fail
  refine (lives_calls _).mono ?_; rintro en w3 ⟨rfl, hb3⟩
  have row3 := (hb3.block _ (by simp)).trans hrow
  go_wp2_with fail
  refine (lives_calls _).mono ?_; rintro en w4 ⟨rfl, hb4⟩
  have row4 := (hb4.block _ (Array.getElem?_eq_some_iff.1 row3).1).trans row3
  have hc := fun i => cell_of_row _ _ i _ _ _ row4
  go_wp2_with fail
  refine (same_true _ _ ⟨0, 0, [], []⟩ _ (pa_zero _) (pa_zero _) (by simp) (by simp)).mono ?_; rintro en w5 ⟨rfl, hb5⟩
  go_wp2_with fail
  go_ret
  exact ⟨rfl, Kt.bthen (Kt.bthen (Kt.bthen hB2 hb3) hb4) hb5⟩
-- YES
set_option maxHeartbeats 1600000 in
theorem front_yes (V U : Value) (ts : List ByteArray) (p : St) (told got : Nat) (w : World) (hV : Kt.Ar w V 1 ts.length (sts ts)) (hn : ts.length ≤ 200) (hI : Inv ts p told got) (HR : Hid (Calls Try.prog 8 #[V, U] w (Gives w p))) :
    Calls Try.prog 3 #[V, U] w fun e w' => e = .returned (.bool true) ∧ Below w.heap.size w w' := by
  have gV := hV
  obtain ⟨VA, vc, rfl, hvc, _⟩ := hV.form
  have hle := hI.le; have hge := hI.ge; have hgn := hI.gn
  have hll := hI.llen
  have hgl := hI.glen
  have hs := hI.s; have ht := hI.t
  have HLS := Lib.hid hI.ls; have HGS := Lib.hid hI.gs
  clear hI hV
  have e1 : (ts.length : Int) - (p.ls.length : Int) = told := by omega
  have i1 : (told : Int) ≤ p.gs.length := by omega
  have i2 : (p.gs.length : Int) ≤ told + 1 := by omega
  have i3 : (p.gs.length : Int) ≤ ts.length := by omega
  have i4 : (told : Int) ≤ ts.length := by omega
  have i5 : (ts.length : Int) ≤ 200 := by omega
  have i6 : (ts.length : Int) ≤ vc := by omega
  have n1 : p.gs.length ≤ vc := by omega
  have n2 : told ≤ ts.length := by omega
  have n3 : told ≤ vc := by omega
  have m1 : (told : Int).tmod 2 = (told : Int) % 2 := Int.tmod_eq_emod_of_nonneg (by omega)
  have m2 : (p.gs.length : Int).tmod 2 = (p.gs.length : Int) % 2 := Int.tmod_eq_emod_of_nonneg (by omega)
  have m3 : (p.s == (told : Int) % 2) = true := by rw [beq_iff_eq]; exact hs
  have m4 : (p.t == (p.gs.length : Int) % 2) = true := by rw [beq_iff_eq, hgl]; exact ht
  have HLL := Lib.hid hll; have HGL := Lib.hid hgl
  clear hs ht hll hgl hle hge hgn hn hvc
  go_enter Try.func3, Try.ntmps3
  go_wp2_with fail
  refine HR.out.mono ?_; rintro en w2 ⟨v, rfl, ⟨L, G, rfl, hL, hG⟩, hb2⟩
  obtain ⟨LA, Lc, rfl, _, _⟩ := hL.form
  obtain ⟨GA, Gc, rfl, _, _⟩ := hG.form
  have hB2 := Kt.balloc hb2 (.cells #[.int .i64 p.s, .int .i64 p.t, .slice LA p.ls.length Lc, .slice GA p.gs.length Gc] 25)
  have hrow := heap_alloc_new w2 (.cells #[.int .i64 p.s, .int .i64 p.t, .slice LA p.ls.length Lc, .slice GA p.gs.length Gc] 25)
  go_wp2_with fail
  refine (lives_calls _).mono ?_; rintro en w3 ⟨rfl, hb3⟩
  have row3 := (hb3.block _ (by simp)).trans hrow
  have hB3 := Kt.bthen hB2 hb3
  have aL := (Kt.Ar.of_sl hL).on (Kt.bthen (Kt.balloc (Below.refl _ w2) _) hb3)
  have aG := (Kt.Ar.of_sl hG).on (Kt.bthen (Kt.balloc (Below.refl _ w2) _) hb3)
  have aV := gV.on hB3
  have aVd : Kt.Ar w3 (.slice (if vc = told then VA else VA.map (·.add told)) (ts.length - told) (vc - told)) 1 p.ls.length (sts p.ls) := by
    have h := ar_drop (told := told) aV (by omega)
    rw [HLL.out, HLS.out]
    simpa [sts] using h
  have aVt : Kt.Ar w3 (.slice VA p.gs.length vc) 1 p.gs.length (sts p.gs) := by
    have h := ar_take (m := p.gs.length) aV (by omega)
    have e : sts p.gs = (sts ts).take p.gs.length := by rw [HGL.out, HGS.out]; simp [sts]
    rw [e]
    exact h
  have hc := fun i => cell_of_row _ _ i _ _ _ row3
  go_wp2_with fail
  have HF := ((Kt.Fb.nil w3 (Below.refl _ w3)).add row3).drew
  clear hc hrow hb3 hb2 hB2 hL hG gV aV
  refine Kt.G.start 32 (Kt.Fb w3 [(w2.heap.size, #[.int .i64 p.s, .int .i64 p.t, .slice LA p.ls.length Lc, .slice GA p.gs.length Gc], 25)]) (by kernel_rfl) HF (fun hHeld => ?_)
  refine Kt.G.takeP 0 { dst := some 57, op := Op.fieldAddr 25 (Operand.tmp 5) 2, type := 0, pos := "pipe.go:27", after := #[], guard := none } ?_ (fun _ => hHeld) rfl (by kernel_rfl) (fun _ _ _ h => h) (by rfl) ?_ ?_
  rotate_left
  · intro w; go_simp; try with_reducible rfl
  try simp only [Act.put, List.setIfInBounds_toArray, List.set_cons_zero, List.set_cons_succ]
  refine Kt.G.take 1 { dst := some 58, op := Op.load 22 (Operand.tmp 57), type := 22, pos := "pipe.go:27", after := #[{ on := 0, ground := Ground.data }], guard := none } ?_ hHeld rfl (by kernel_rfl) (fun _ _ _ h => h) (by rfl) ?_ ?_
  rotate_left
  · intro w hSw; have r0 := hSw.row _ (List.Mem.head _); have c0 := fun i => cell_of_row _ _ i _ _ _ r0; dsimp only at *; go_simp; try with_reducible rfl
  try simp only [Act.put, List.setIfInBounds_toArray, List.set_cons_zero, List.set_cons_succ]
  refine Kt.G.takeP 2 { dst := some 59, op := Op.move (Operand.tmp 0), type := 22, pos := "pipe.go:27", after := #[], guard := none } ?_ (fun _ => hHeld) rfl (by kernel_rfl) (fun _ _ _ h => h) (by rfl) ?_ ?_
  rotate_left
  · intro w; go_simp; try with_reducible rfl
  try simp only [Act.put, List.setIfInBounds_toArray, List.set_cons_zero, List.set_cons_succ]
  refine Kt.G.takeP 3 { dst := some 60, op := Op.move (Operand.tmp 7), type := 3, pos := "pipe.go:27", after := #[], guard := none } ?_ (fun _ => hHeld) rfl (by kernel_rfl) (fun _ _ _ h => h) (by rfl) ?_ ?_
  rotate_left
  · intro w; go_simp; try with_reducible rfl
  try simp only [Act.put, List.setIfInBounds_toArray, List.set_cons_zero, List.set_cons_succ]
  refine Kt.G.takeP 4 { dst := some 61, op := Op.slice 22 (Operand.tmp 59) (some (Operand.tmp 60)) none none, type := 22, pos := "pipe.go:27", after := #[{ on := 2, ground := Ground.data }, { on := 3, ground := Ground.data }], guard := none } ?_ (fun _ => hHeld) rfl (by kernel_rfl) (fun _ _ _ h => h) (by rfl) ?_ ?_
  rotate_left
  · intro w; go_simp; try with_reducible rfl
  try simp only [Act.put, List.setIfInBounds_toArray, List.set_cons_zero, List.set_cons_succ]
  refine Kt.G.one 5 { dst := some 62, op := Op.call { callee := Callee.value (Operand.func 11), args := #[Operand.tmp 58, Operand.tmp 61], argTypes := #[22, 22] }, type := 4, pos := "pipe.go:27", after := #[{ on := 1, ground := Ground.data }, { on := 4, ground := Ground.data }], guard := none } rfl (by kernel_rfl) (by rfl) (fun K hK => ?_)
  go_simp
  refine (equal_true _ _ p.ls.length p.ls _ rfl (aL.on hHeld.bel) (aVd.on hHeld.bel) (by omega)).mono ?_; rintro en x5 ⟨rfl, hb5⟩
  refine hK.out _ _ (fun _ => hHeld.on hb5) (fun hHeld => ?_)
  have hHeld := hHeld rfl
  clear hK K
  try simp only [Act.put, List.setIfInBounds_toArray, List.set_cons_zero, List.set_cons_succ]
  refine Kt.G.takeP 6 { dst := some 63, op := Op.move (Operand.tmp 62), type := 4, pos := "pipe.go:27", after := #[{ on := 5, ground := Ground.data }, { on := 5, ground := Ground.chain }], guard := none } ?_ (fun _ => hHeld) rfl (by kernel_rfl) (fun _ _ _ h => h) (by rfl) ?_ ?_
  rotate_left
  · intro w; go_simp; try with_reducible rfl
  try simp only [Act.put, List.setIfInBounds_toArray, List.set_cons_zero, List.set_cons_succ]
  refine Kt.G.takeP 7 { dst := some 64, op := Op.fieldAddr 25 (Operand.tmp 5) 3, type := 0, pos := "pipe.go:27", after := #[{ on := 6, ground := Ground.guard }], guard := some (6, true) } ?_ (fun _ => hHeld) rfl (by kernel_rfl) (fun _ _ _ h => h) (by rfl) ?_ ?_
  rotate_left
  · intro w; go_simp; try with_reducible rfl
  try simp only [Act.put, List.setIfInBounds_toArray, List.set_cons_zero, List.set_cons_succ]
  refine Kt.G.take 8 { dst := some 65, op := Op.load 22 (Operand.tmp 64), type := 22, pos := "pipe.go:27", after := #[{ on := 7, ground := Ground.data }, { on := 6, ground := Ground.guard }], guard := some (6, true) } ?_ hHeld rfl (by kernel_rfl) (fun _ _ _ h => h) (by rfl) ?_ ?_
  rotate_left
  · intro w hSw; have r0 := hSw.row _ (List.Mem.head _); have c0 := fun i => cell_of_row _ _ i _ _ _ r0; dsimp only at *; go_simp; try with_reducible rfl
  try simp only [Act.put, List.setIfInBounds_toArray, List.set_cons_zero, List.set_cons_succ]
  refine Kt.G.takeP 9 { dst := some 66, op := Op.move (Operand.tmp 0), type := 22, pos := "pipe.go:27", after := #[{ on := 6, ground := Ground.guard }], guard := some (6, true) } ?_ (fun _ => hHeld) rfl (by kernel_rfl) (fun _ _ _ h => h) (by rfl) ?_ ?_
  rotate_left
  · intro w; go_simp; try with_reducible rfl
  try simp only [Act.put, List.setIfInBounds_toArray, List.set_cons_zero, List.set_cons_succ]
  refine Kt.G.takeP 10 { dst := some 67, op := Op.fieldAddr 25 (Operand.tmp 5) 3, type := 0, pos := "pipe.go:27", after := #[{ on := 6, ground := Ground.guard }], guard := some (6, true) } ?_ (fun _ => hHeld) rfl (by kernel_rfl) (fun _ _ _ h => h) (by rfl) ?_ ?_
  rotate_left
  · intro w; go_simp; try with_reducible rfl
  try simp only [Act.put, List.setIfInBounds_toArray, List.set_cons_zero, List.set_cons_succ]
  refine Kt.G.take 11 { dst := some 68, op := Op.load 22 (Operand.tmp 67), type := 22, pos := "pipe.go:27", after := #[{ on := 10, ground := Ground.data }, { on := 6, ground := Ground.guard }], guard := some (6, true) } ?_ hHeld rfl (by kernel_rfl) (fun _ _ _ h => h) (by rfl) ?_ ?_
  rotate_left
  · intro w hSw; have r0 := hSw.row _ (List.Mem.head _); have c0 := fun i => cell_of_row _ _ i _ _ _ r0; dsimp only at *; go_simp; try with_reducible rfl
  try simp only [Act.put, List.setIfInBounds_toArray, List.set_cons_zero, List.set_cons_succ]
  refine Kt.G.takeP 12 { dst := some 69, op := Op.call { callee := Callee.builtin Builtin.len, args := #[Operand.tmp 68], argTypes := #[22] }, type := 3, pos := "pipe.go:27", after := #[{ on := 11, ground := Ground.data }, { on := 6, ground := Ground.guard }], guard := some (6, true) } ?_ (fun _ => hHeld) rfl (by kernel_rfl) (fun _ _ _ h => h) (by rfl) ?_ ?_
  rotate_left
  · intro w; go_simp; try with_reducible rfl
  try simp only [Act.put, List.setIfInBounds_toArray, List.set_cons_zero, List.set_cons_succ]
  refine Kt.G.takeP 13 { dst := some 70, op := Op.slice 22 (Operand.tmp 66) none (some (Operand.tmp 69)) none, type := 22, pos := "pipe.go:27", after := #[{ on := 9, ground := Ground.data }, { on := 12, ground := Ground.data }, { on := 6, ground := Ground.guard }], guard := some (6, true) } ?_ (fun _ => hHeld) rfl (by kernel_rfl) (fun _ _ _ h => h) (by rfl) ?_ ?_
  rotate_left
  · intro w; go_simp; try with_reducible rfl
  try simp only [Act.put, List.setIfInBounds_toArray, List.set_cons_zero, List.set_cons_succ]
  refine Kt.G.one 14 { dst := some 71, op := Op.call { callee := Callee.value (Operand.func 11), args := #[Operand.tmp 65, Operand.tmp 70], argTypes := #[22, 22] }, type := 4, pos := "pipe.go:27", after := #[{ on := 8, ground := Ground.data }, { on := 13, ground := Ground.data }, { on := 6, ground := Ground.chain }, { on := 6, ground := Ground.guard }], guard := some (6, true) } rfl (by kernel_rfl) (by rfl) (fun K hK => ?_)
  go_simp
  refine (equal_true _ _ p.gs.length p.gs _ rfl (aG.on hHeld.bel) (aVt.on hHeld.bel) (by omega)).mono ?_; rintro en x14 ⟨rfl, hb14⟩
  refine hK.out _ _ (fun _ => hHeld.on hb14) (fun hHeld => ?_)
  have hHeld := hHeld rfl
  clear hK K
  try simp only [Act.put, List.setIfInBounds_toArray, List.set_cons_zero, List.set_cons_succ]
  refine Kt.G.takeP 15 { dst := some 72, op := Op.pick (Operand.tmp 63) (Operand.tmp 71) (Operand.const (Value.bool false)), type := 4, pos := "pipe.go:27", after := #[{ on := 6, ground := Ground.data }, { on := 14, ground := Ground.data }], guard := none } ?_ (fun _ => hHeld) rfl (by kernel_rfl) (fun _ _ _ h => h) (by rfl) ?_ ?_
  rotate_left
  · intro w; go_simp; try with_reducible rfl
  try simp only [Act.put, List.setIfInBounds_toArray, List.set_cons_zero, List.set_cons_succ]
  refine Kt.G.takeP 16 { dst := some 73, op := Op.move (Operand.tmp 72), type := 4, pos := "pipe.go:27", after := #[{ on := 15, ground := Ground.data }, { on := 14, ground := Ground.chain }], guard := none } ?_ (fun _ => hHeld) rfl (by kernel_rfl) (fun _ _ _ h => h) (by rfl) ?_ ?_
  rotate_left
  · intro w; go_simp; try with_reducible rfl
  try simp only [Act.put, List.setIfInBounds_toArray, List.set_cons_zero, List.set_cons_succ]
  refine Kt.G.takeP 17 { dst := some 74, op := Op.fieldAddr 25 (Operand.tmp 5) 0, type := 0, pos := "pipe.go:27", after := #[{ on := 16, ground := Ground.guard }], guard := some (16, true) } ?_ (fun _ => hHeld) rfl (by kernel_rfl) (fun _ _ _ h => h) (by rfl) ?_ ?_
  rotate_left
  · intro w; go_simp; try with_reducible rfl
  try simp only [Act.put, List.setIfInBounds_toArray, List.set_cons_zero, List.set_cons_succ]
  refine Kt.G.take 18 { dst := some 75, op := Op.load 3 (Operand.tmp 74), type := 3, pos := "pipe.go:27", after := #[{ on := 17, ground := Ground.data }, { on := 16, ground := Ground.guard }], guard := some (16, true) } ?_ hHeld rfl (by kernel_rfl) (fun _ _ _ h => h) (by rfl) ?_ ?_
  rotate_left
  · intro w hSw; have r0 := hSw.row _ (List.Mem.head _); have c0 := fun i => cell_of_row _ _ i _ _ _ r0; dsimp only at *; go_simp; try with_reducible rfl
  try simp only [Act.put, List.setIfInBounds_toArray, List.set_cons_zero, List.set_cons_succ]
  refine Kt.G.takeP 19 { dst := some 76, op := Op.move (Operand.tmp 7), type := 3, pos := "pipe.go:27", after := #[{ on := 16, ground := Ground.guard }], guard := some (16, true) } ?_ (fun _ => hHeld) rfl (by kernel_rfl) (fun _ _ _ h => h) (by rfl) ?_ ?_
  rotate_left
  · intro w; go_simp; try with_reducible rfl
  try simp only [Act.put, List.setIfInBounds_toArray, List.set_cons_zero, List.set_cons_succ]
  refine Kt.G.takeP 20 { dst := some 77, op := Op.binOp BinOp.rem 3 (Operand.tmp 76) (Operand.const (Value.int IntKind.i64 2)) 3, type := 3, pos := "pipe.go:27", after := #[{ on := 19, ground := Ground.data }, { on := 16, ground := Ground.guard }], guard := some (16, true) } ?_ (fun _ => hHeld) rfl (by kernel_rfl) (fun _ _ _ h => h) (by rfl) ?_ ?_
  rotate_left
  · intro w; go_simp; try with_reducible rfl
  try simp only [Act.put, List.setIfInBounds_toArray, List.set_cons_zero, List.set_cons_succ]
  refine Kt.G.takeP 21 { dst := some 78, op := Op.binOp BinOp.eql 3 (Operand.tmp 75) (Operand.tmp 77) 3, type := 4, pos := "pipe.go:27", after := #[{ on := 18, ground := Ground.data }, { on := 20, ground := Ground.data }, { on := 16, ground := Ground.guard }], guard := some (16, true) } ?_ (fun _ => hHeld) rfl (by kernel_rfl) (fun _ _ _ h => h) (by rfl) ?_ ?_
  rotate_left
  · intro w; go_simp; try with_reducible rfl
  try simp only [Act.put, List.setIfInBounds_toArray, List.set_cons_zero, List.set_cons_succ]
  refine Kt.G.takeP 22 { dst := some 79, op := Op.pick (Operand.tmp 73) (Operand.tmp 78) (Operand.const (Value.bool false)), type := 4, pos := "pipe.go:27", after := #[{ on := 16, ground := Ground.data }, { on := 21, ground := Ground.data }], guard := none } ?_ (fun _ => hHeld) rfl (by kernel_rfl) (fun _ _ _ h => h) (by rfl) ?_ ?_
  rotate_left
  · intro w; go_simp; try with_reducible rfl
  try simp only [Act.put, List.setIfInBounds_toArray, List.set_cons_zero, List.set_cons_succ]
  refine Kt.G.takeP 23 { dst := some 80, op := Op.move (Operand.tmp 79), type := 4, pos := "pipe.go:27", after := #[{ on := 22, ground := Ground.data }, { on := 16, ground := Ground.chain }], guard := none } ?_ (fun _ => hHeld) rfl (by kernel_rfl) (fun _ _ _ h => h) (by rfl) ?_ ?_
  rotate_left
  · intro w; go_simp; try with_reducible rfl
  try simp only [Act.put, List.setIfInBounds_toArray, List.set_cons_zero, List.set_cons_succ]
  refine Kt.G.takeP 24 { dst := some 81, op := Op.fieldAddr 25 (Operand.tmp 5) 1, type := 0, pos := "pipe.go:27", after := #[{ on := 23, ground := Ground.guard }], guard := some (23, true) } ?_ (fun _ => hHeld) rfl (by kernel_rfl) (fun _ _ _ h => h) (by rfl) ?_ ?_
  rotate_left
  · intro w; go_simp; try with_reducible rfl
  try simp only [Act.put, List.setIfInBounds_toArray, List.set_cons_zero, List.set_cons_succ]
  refine Kt.G.take 25 { dst := some 82, op := Op.load 3 (Operand.tmp 81), type := 3, pos := "pipe.go:27", after := #[{ on := 24, ground := Ground.data }, { on := 23, ground := Ground.guard }], guard := some (23, true) } ?_ hHeld rfl (by kernel_rfl) (fun _ _ _ h => h) (by rfl) ?_ ?_
  rotate_left
  · intro w hSw; have r0 := hSw.row _ (List.Mem.head _); have c0 := fun i => cell_of_row _ _ i _ _ _ r0; dsimp only at *; go_simp; try with_reducible rfl
  try simp only [Act.put, List.setIfInBounds_toArray, List.set_cons_zero, List.set_cons_succ]
  refine Kt.G.takeP 26 { dst := some 83, op := Op.fieldAddr 25 (Operand.tmp 5) 3, type := 0, pos := "pipe.go:27", after := #[{ on := 23, ground := Ground.guard }], guard := some (23, true) } ?_ (fun _ => hHeld) rfl (by kernel_rfl) (fun _ _ _ h => h) (by rfl) ?_ ?_
  rotate_left
  · intro w; go_simp; try with_reducible rfl
  try simp only [Act.put, List.setIfInBounds_toArray, List.set_cons_zero, List.set_cons_succ]
  refine Kt.G.take 27 { dst := some 84, op := Op.load 22 (Operand.tmp 83), type := 22, pos := "pipe.go:27", after := #[{ on := 26, ground := Ground.data }, { on := 23, ground := Ground.guard }], guard := some (23, true) } ?_ hHeld rfl (by kernel_rfl) (fun _ _ _ h => h) (by rfl) ?_ ?_
  rotate_left
  · intro w hSw; have r0 := hSw.row _ (List.Mem.head _); have c0 := fun i => cell_of_row _ _ i _ _ _ r0; dsimp only at *; go_simp; try with_reducible rfl
  try simp only [Act.put, List.setIfInBounds_toArray, List.set_cons_zero, List.set_cons_succ]
  refine Kt.G.takeP 28 { dst := some 85, op := Op.call { callee := Callee.builtin Builtin.len, args := #[Operand.tmp 84], argTypes := #[22] }, type := 3, pos := "pipe.go:27", after := #[{ on := 27, ground := Ground.data }, { on := 23, ground := Ground.guard }], guard := some (23, true) } ?_ (fun _ => hHeld) rfl (by kernel_rfl) (fun _ _ _ h => h) (by rfl) ?_ ?_
  rotate_left
  · intro w; go_simp; try with_reducible rfl
  try simp only [Act.put, List.setIfInBounds_toArray, List.set_cons_zero, List.set_cons_succ]
  refine Kt.G.takeP 29 { dst := some 86, op := Op.binOp BinOp.rem 3 (Operand.tmp 85) (Operand.const (Value.int IntKind.i64 2)) 3, type := 3, pos := "pipe.go:27", after := #[{ on := 28, ground := Ground.data }, { on := 23, ground := Ground.guard }], guard := some (23, true) } ?_ (fun _ => hHeld) rfl (by kernel_rfl) (fun _ _ _ h => h) (by rfl) ?_ ?_
  rotate_left
  · intro w; go_simp; try with_reducible rfl
  try simp only [Act.put, List.setIfInBounds_toArray, List.set_cons_zero, List.set_cons_succ]
  refine Kt.G.takeP 30 { dst := some 87, op := Op.binOp BinOp.eql 3 (Operand.tmp 82) (Operand.tmp 86) 3, type := 4, pos := "pipe.go:27", after := #[{ on := 25, ground := Ground.data }, { on := 29, ground := Ground.data }, { on := 23, ground := Ground.guard }], guard := some (23, true) } ?_ (fun _ => hHeld) rfl (by kernel_rfl) (fun _ _ _ h => h) (by rfl) ?_ ?_
  rotate_left
  · intro w; go_simp; try with_reducible rfl
  try simp only [Act.put, List.setIfInBounds_toArray, List.set_cons_zero, List.set_cons_succ]
  refine Kt.G.takeP 31 { dst := some 88, op := Op.pick (Operand.tmp 80) (Operand.tmp 87) (Operand.const (Value.bool false)), type := 4, pos := "pipe.go:27", after := #[{ on := 23, ground := Ground.data }, { on := 30, ground := Ground.data }], guard := none } ?_ (fun _ => hHeld) rfl (by kernel_rfl) (fun _ _ _ h => h) (by rfl) ?_ ?_
  rotate_left
  · intro w; go_simp; try with_reducible rfl
  try simp only [Act.put, List.setIfInBounds_toArray, List.set_cons_zero, List.set_cons_succ]
  refine Kt.G.one 32 { dst := some 4, op := Op.assign (Operand.tmp 88), type := 4, pos := "pipe.go:27", after := #[{ on := 31, ground := Ground.data }, { on := 23, ground := Ground.chain }, { on := 0, ground := Ground.phase }, { on := 1, ground := Ground.phase }, { on := 2, ground := Ground.phase }, { on := 3, ground := Ground.phase }, { on := 4, ground := Ground.phase }, { on := 5, ground := Ground.phase }, { on := 6, ground := Ground.phase }, { on := 7, ground := Ground.phase }, { on := 8, ground := Ground.phase }, { on := 9, ground := Ground.phase }, { on := 10, ground := Ground.phase }, { on := 11, ground := Ground.phase }, { on := 12, ground := Ground.phase }, { on := 13, ground := Ground.phase }, { on := 14, ground := Ground.phase }, { on := 15, ground := Ground.phase }, { on := 16, ground := Ground.phase }, { on := 17, ground := Ground.phase }, { on := 18, ground := Ground.phase }, { on := 19, ground := Ground.phase }, { on := 20, ground := Ground.phase }, { on := 21, ground := Ground.phase }, { on := 22, ground := Ground.phase }, { on := 23, ground := Ground.phase }, { on := 24, ground := Ground.phase }, { on := 25, ground := Ground.phase }, { on := 26, ground := Ground.phase }, { on := 27, ground := Ground.phase }, { on := 28, ground := Ground.phase }, { on := 29, ground := Ground.phase }, { on := 30, ground := Ground.phase }, { on := 31, ground := Ground.phase }], guard := none } rfl (by kernel_rfl) (by rfl) (fun K hK => ?_)
  go_simp
  refine hK.out _ _ (Kt.G.late (by kernel_rfl)) (fun _ => ?_)
  clear hK K
  try simp only [Act.put, List.setIfInBounds_toArray, List.set_cons_zero, List.set_cons_succ]
  refine Kt.G.done (by kernel_rfl) (NoPanic.normal ?_) _
  go_wp2
  all_goals
    go_ret
    exact ⟨rfl, Kt.bthen hB3 hHeld.bel⟩
theorem front_walk (v0 v1 : Value) (w : World) (r0 : Fr.RdV w reachBytes (.slice 1 .string) v0) (r1 : Fr.RdV w reachBytes (.slice 1 (.int .i64)) v1) :
    Calls Try.prog 3 #[v0, v1] w fun e w' => e = .returned (.bool true) ∧ Below w.heap.size w w' := by
  obtain ⟨ts, _, _, hV⟩ := Kt.ar_strs r0
  obtain ⟨fs, hb, _, hU⟩ := Kt.ar_ints r1
  rcases run_total v0 v1 ts fs w hV hU with ⟨hn, h⟩ | ⟨n, hn, h⟩
  · obtain ⟨got, hI⟩ := run_from ts fs
    exact front_yes v0 v1 ts _ _ got w hV hn hI (Lib.hid h)
  · exact front_no v0 v1 n hn w (Lib.hid h)
end Go.Proofs.Ytniffnppfpaniaa
