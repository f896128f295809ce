/- bulk: small numbers, a status, a first case. -/
import Derived.Test.YtdpoocjjckbgdaaBlkW
import Derived.Test.YtdpoocjjckbgdaaAny
import Derived.Outline
namespace Go.Proofs.Ytdpoocjjckbgdaa
open Go.RowKit
theorem cvB (w : World) (b : Nat) (ns : List Int) (n cap : Nat) (hn : n = ns.length) (hc : ∀ j (hj : j < ns.length), w.cell? ⟨b, j, none⟩ = some (.int .u8 ns[j])) : (convert 47 9 (.slice (some ⟨b, 0, none⟩) n cap)).run Try.prog w = .ok (.string ⟨(ns.map fun n => UInt8.ofNat n.toNat).toArray⟩) w :=
  Kt.conv_ns w 47 9 5 b 0 n cap ns hn Try.underlying47 Try.underlying5 Try.underlying9 (fun j hj => by rw [Nat.zero_add]; exact hc j hj)
def longN (n : Int) : List Int := [n % 256, n / 256 % 256, n / 65536 % 256, n / 16777216]
def longS (n : Int) : ByteArray := ⟨((longN n).map fun n => UInt8.ofNat n.toNat).toArray⟩
set_option maxHeartbeats 400000 in
theorem long_calls (n : Int) (h : 0 ≤ n ∧ n < 4294967296) (w : World) : Calls Try.prog 13 #[.int .i64 n] w fun e w' => e = .returned (.string (longS n)) ∧ Below w.heap.size w w' := by
  have hcv : (convert 47 9 (.slice (some ⟨w.heap.size, 0, none⟩) 4 4)).run Try.prog (w.alloc (.cells #[.int .u8 (n % 256), .int .u8 (n / 256 % 256), .int .u8 (n / 65536 % 256), .int .u8 (n / 16777216)] 5)) = .ok (.string (longS n)) (w.alloc (.cells #[.int .u8 (n % 256), .int .u8 (n / 256 % 256), .int .u8 (n / 65536 % 256), .int .u8 (n / 16777216)] 5)) :=
    cvB _ _ (longN n) 4 4 rfl (fun j hj => by
      match j, hj with
      | 0, _ => simp [longN]
      | 1, _ => simp [longN]
      | 2, _ => simp [longN]
      | 3, _ => simp [longN])
  go_enter Try.func13, Try.ntmps13
  go_wp2
  go_ret
  exact ⟨rfl, Kt.balloc (Below.refl _ w) _⟩
theorem is32_true (n : Int) (h : 0 ≤ n ∧ n < 4294967296) (w : World) : Calls Try.prog 12 #[.int .i64 n] w fun e w' => e = .returned (.bool true) ∧ w = w' := by
  go_enter Try.func12, Try.ntmps12
  go_wp2
  go_ret
  exact ⟨rfl, rfl⟩
theorem cv_one (x : Int) (w : World) (b : Nat) (h : w.cell? ⟨b, 0, none⟩ = some (.int .u8 x)) : (convert 47 9 (.slice (some ⟨b, 0, none⟩) 1 1)).run Try.prog w = .ok (.string ⟨#[UInt8.ofNat x.toNat]⟩) w :=
  cvB w b [x] 1 1 rfl (fun j hj => by
    match j, hj with
    | 0, _ => exact h)
theorem longS_size (n : Int) : (longS n).size = 4 := rfl
def statS (t r c : Int) : ByteArray := ⟨#[85, 83, 66, 83]⟩ ++ longS t ++ longS r ++ ⟨#[UInt8.ofNat c.toNat]⟩
set_option maxHeartbeats 4000000 in
theorem status_good (t r c : Int) (ht : 0 ≤ t ∧ t < 4294967296) (hr : 0 ≤ r ∧ r < 4294967296) (hc : 0 ≤ c ∧ c ≤ 2) (w : World) : Calls Try.prog 9 #[.agg #[.int .i64 t, .int .i64 r, .int .i64 c]] w fun e w' => e = .returned (.tuple #[.string (statS t r c), .int .i64 0]) ∧ Below w.heap.size w w' := by
  have H1 := Lib.hid (long_calls t ht)
  have H2 := Lib.hid (long_calls r hr)
  have hs1 := longS_size t
  have hs2 := longS_size r
  unfold statS
  generalize longS t = S1 at *
  generalize longS r = S2 at *
  have hcv := cv_one c
  have hwc : IntKind.u8.wrap c = c := by rw [IntKind.wrap_u8]; omega
  go_enter Try.func9, Try.ntmps9
  go_wp2_with (go_at_call 12; refine (is32_true _ (by assumption) _).mono ?_; rintro e w' ⟨rfl, rfl⟩)
  have hw0 : w.heap.size < (w.alloc (.cells #[.int .i64 t, .int .i64 r, .int .i64 c] 35)).heap.size := by simp
  have hB := Kt.balloc (Below.refl _ w) (.cells #[.int .i64 t, .int .i64 r, .int .i64 c] 35)
  have c0 : (w.alloc (.cells #[.int .i64 t, .int .i64 r, .int .i64 c] 35)).cell? ⟨w.heap.size, 0, none⟩ = some (.int .i64 t) := by simp
  have c1 : (w.alloc (.cells #[.int .i64 t, .int .i64 r, .int .i64 c] 35)).cell? ⟨w.heap.size, 1, none⟩ = some (.int .i64 r) := by simp
  have c2 : (w.alloc (.cells #[.int .i64 t, .int .i64 r, .int .i64 c] 35)).cell? ⟨w.heap.size, 2, none⟩ = some (.int .i64 c) := by simp
  generalize (w.alloc (.cells #[.int .i64 t, .int .i64 r, .int .i64 c] 35)) = W0 at *
  have HF : Kt.Fc w [(w.heap.size, 0, .int .i64 t), (w.heap.size, 1, .int .i64 r), (w.heap.size, 2, .int .i64 c)] W0.drew := ((((Kt.Fc.nil w hB).add hw0 c2).add hw0 c1).add hw0 c0).drew
  refine Kt.G.start 14 (Kt.Fc w [(w.heap.size, 0, .int .i64 t), (w.heap.size, 1, .int .i64 r), (w.heap.size, 2, .int .i64 c)]) (by kernel_rfl) HF (fun hHeld => ?_)
  refine Kt.G.takeP 0 { dst := some 24, op := Op.fieldAddr 35 (Operand.tmp 1) 0, type := 0, pos := "bulk.go:49", after := #[], guard := none } ?_ (fun _ => hHeld) rfl (by kernel_rfl) (fun _ _ _ h => h) (by rfl) ?_ ?_
  rotate_left
  · intro w; go_simp; try with_reducible rfl
  try simp only [Act.put, List.setIfInBounds_toArray, List.set_cons_zero, List.set_cons_succ]
  refine Kt.G.take 1 { dst := some 25, op := Op.load 3 (Operand.tmp 24), type := 3, pos := "bulk.go:49", after := #[{ on := 0, ground := Ground.data }], guard := none } ?_ hHeld rfl (by kernel_rfl) (fun _ _ _ h => h) (by rfl) ?_ ?_
  rotate_left
  · intro w hSw; have c0 := (hSw.cell _ (List.Mem.head _)).2; have c1 := (hSw.cell _ (List.Mem.tail _ (List.Mem.head _))).2; have c2 := (hSw.cell _ (List.Mem.tail _ (List.Mem.tail _ (List.Mem.head _)))).2; dsimp only at *; go_simp; try with_reducible rfl
  try simp only [Act.put, List.setIfInBounds_toArray, List.set_cons_zero, List.set_cons_succ]
  refine Kt.G.takeP 4 { dst := some 28, op := Op.fieldAddr 35 (Operand.tmp 1) 1, type := 0, pos := "bulk.go:49", after := #[], guard := none } ?_ (fun _ => hHeld) rfl (by kernel_rfl) (fun _ _ _ h => h) (by rfl) ?_ ?_
  rotate_left
  · intro w; go_simp; try with_reducible rfl
  try simp only [Act.put, List.setIfInBounds_toArray, List.set_cons_zero, List.set_cons_succ]
  refine Kt.G.take 5 { dst := some 29, op := Op.load 3 (Operand.tmp 28), type := 3, pos := "bulk.go:49", after := #[{ on := 4, ground := Ground.data }], guard := none } ?_ hHeld rfl (by kernel_rfl) (fun _ _ _ h => h) (by rfl) ?_ ?_
  rotate_left
  · intro w hSw; have c0 := (hSw.cell _ (List.Mem.head _)).2; have c1 := (hSw.cell _ (List.Mem.tail _ (List.Mem.head _))).2; have c2 := (hSw.cell _ (List.Mem.tail _ (List.Mem.tail _ (List.Mem.head _)))).2; dsimp only at *; go_simp; try with_reducible rfl
  try simp only [Act.put, List.setIfInBounds_toArray, List.set_cons_zero, List.set_cons_succ]
  refine Kt.G.takeP 8 { dst := some 32, op := Op.fieldAddr 35 (Operand.tmp 1) 2, type := 0, pos := "bulk.go:49", after := #[], guard := none } ?_ (fun _ => hHeld) rfl (by kernel_rfl) (fun _ _ _ h => h) (by rfl) ?_ ?_
  rotate_left
  · intro w; go_simp; try with_reducible rfl
  try simp only [Act.put, List.setIfInBounds_toArray, List.set_cons_zero, List.set_cons_succ]
  refine Kt.G.take 9 { dst := some 33, op := Op.load 3 (Operand.tmp 32), type := 3, pos := "bulk.go:49", after := #[{ on := 8, ground := Ground.data }], guard := none } ?_ hHeld rfl (by kernel_rfl) (fun _ _ _ h => h) (by rfl) ?_ ?_
  rotate_left
  · intro w hSw; have c0 := (hSw.cell _ (List.Mem.head _)).2; have c1 := (hSw.cell _ (List.Mem.tail _ (List.Mem.head _))).2; have c2 := (hSw.cell _ (List.Mem.tail _ (List.Mem.tail _ (List.Mem.head _)))).2; dsimp only at *; go_simp; try with_reducible rfl
  try simp only [Act.put, List.setIfInBounds_toArray, List.set_cons_zero, List.set_cons_succ]
  refine Kt.G.takeP 10 { dst := some 34, op := Op.convert 3 5 (Operand.tmp 33), type := 5, pos := "bulk.go:49", after := #[{ on := 9, ground := Ground.data }], guard := none } ?_ (fun _ => hHeld) rfl (by kernel_rfl) (fun _ _ _ h => h) (by rfl) ?_ ?_
  rotate_left
  · intro w; go_simp; try with_reducible rfl
  try simp only [Act.put, List.setIfInBounds_toArray, List.set_cons_zero, List.set_cons_succ]
  refine Kt.G.two 2 11 { dst := some 26, op := Op.call { callee := Callee.value (Operand.func 13), args := #[Operand.tmp 25], argTypes := #[3] }, type := 9, pos := "bulk.go:49", after := #[{ on := 1, ground := Ground.data }], guard := none } { dst := some 35, op := Op.buildSlice 47 1 #[(0, Operand.tmp 34)], type := 47, pos := "bulk.go:49", after := #[{ on := 10, ground := Ground.data }], guard := none } rfl rfl (by kernel_rfl) (by rfl) (by rfl) (fun K hK => ?_) (fun K hK => ?_)
  · go_simp
    refine (H1.out _).mono ?_; rintro en x2 ⟨rfl, hb2⟩
    refine hK.out _ _ (fun _ => hHeld.on hb2) (fun hHeld => ?_)
    have hHeld := hHeld rfl
    clear hK K
    try simp only [Act.put, List.setIfInBounds_toArray, List.set_cons_zero, List.set_cons_succ]
    refine Kt.G.takeP 3 { dst := some 27, op := Op.binOp BinOp.add 9 (Operand.const (Value.string { data := #[85, 83, 66, 83] })) (Operand.tmp 26) 9, type := 9, pos := "bulk.go:49", after := #[{ on := 2, ground := Ground.data }], guard := none } ?_ (fun _ => hHeld) rfl (by kernel_rfl) (fun _ _ _ h => h) (by rfl) ?_ ?_
    rotate_left
    · intro w; go_simp; try with_reducible rfl
    try simp only [Act.put, List.setIfInBounds_toArray, List.set_cons_zero, List.set_cons_succ]
    refine Kt.G.two 6 11 { dst := some 30, op := Op.call { callee := Callee.value (Operand.func 13), args := #[Operand.tmp 29], argTypes := #[3] }, type := 9, pos := "bulk.go:49", after := #[{ on := 5, ground := Ground.data }, { on := 2, ground := Ground.chain }], guard := none } { dst := some 35, op := Op.buildSlice 47 1 #[(0, Operand.tmp 34)], type := 47, pos := "bulk.go:49", after := #[{ on := 10, ground := Ground.data }], guard := none } rfl rfl (by kernel_rfl) (by rfl) (by rfl) (fun K hK => ?_) (fun K hK => ?_)
    · go_simp
      refine (H2.out _).mono ?_; rintro en x6 ⟨rfl, hb6⟩
      refine hK.out _ _ (fun _ => hHeld.on hb6) (fun hHeld => ?_)
      have hHeld := hHeld rfl
      clear hK K
      try simp only [Act.put, List.setIfInBounds_toArray, List.set_cons_zero, List.set_cons_succ]
      refine Kt.G.takeP 7 { dst := some 31, op := Op.binOp BinOp.add 9 (Operand.tmp 27) (Operand.tmp 30) 9, type := 9, pos := "bulk.go:49", after := #[{ on := 3, ground := Ground.data }, { on := 6, ground := Ground.data }], guard := none } ?_ (fun _ => hHeld) rfl (by kernel_rfl) (fun _ _ _ h => h) (by rfl) ?_ ?_
      rotate_left
      · intro w; go_simp; try with_reducible rfl
      try simp only [Act.put, List.setIfInBounds_toArray, List.set_cons_zero, List.set_cons_succ]
      refine Kt.G.one 11 { dst := some 35, op := Op.buildSlice 47 1 #[(0, Operand.tmp 34)], type := 47, pos := "bulk.go:49", after := #[{ on := 10, ground := Ground.data }], guard := none } rfl (by kernel_rfl) (by rfl) (fun K hK => ?_)
      go_simp
      refine hK.out _ _ (fun _ => hHeld.alloc _) (fun hHeld => ?_)
      have hHeld := hHeld rfl
      clear hK K
      try simp only [Act.put, List.setIfInBounds_toArray, List.set_cons_zero, List.set_cons_succ]
      have hHeld := hHeld.add (b := x6.heap.size) (o := 0) (v := .int .u8 c) (by show _ < (x6.alloc _).heap.size; rw [World.size_alloc]; omega) (by simp)
      refine Kt.G.more (F' := Kt.Fc w ((x6.heap.size, 0, .int .u8 c) :: [(w.heap.size, 0, .int .i64 t), (w.heap.size, 1, .int .i64 r), (w.heap.size, 2, .int .i64 c)])) (fun _ h => Kt.Fc.less h) _ _ _ _ ?_
      refine Kt.G.take 12 { dst := some 36, op := Op.convert 47 9 (Operand.tmp 35), type := 9, pos := "bulk.go:49", after := #[{ on := 11, ground := Ground.data }], guard := none } (.string ⟨#[UInt8.ofNat c.toNat]⟩) hHeld rfl (by kernel_rfl) (fun _ _ _ h => h) (by rfl) ?_ ?_
      · intro w hSw; have hcv := cv_one c w _ (hSw.cell _ (List.Mem.head _)).2; go_simp; try with_reducible rfl
      try simp only [Act.put, List.setIfInBounds_toArray, List.set_cons_zero, List.set_cons_succ]
      refine Kt.G.takeP 13 { dst := some 37, op := Op.binOp BinOp.add 9 (Operand.tmp 31) (Operand.tmp 36) 9, type := 9, pos := "bulk.go:49", after := #[{ on := 7, ground := Ground.data }, { on := 12, ground := Ground.data }], guard := none } ?_ (fun _ => hHeld) rfl (by kernel_rfl) (fun _ _ _ h => h) (by rfl) ?_ ?_
      rotate_left
      · intro w; go_simp; try with_reducible rfl
      try simp only [Act.put, List.setIfInBounds_toArray, List.set_cons_zero, List.set_cons_succ]
      refine Kt.G.one 14 { dst := some 2, op := Op.assign (Operand.tmp 37), type := 9, pos := "bulk.go:49", after := #[{ on := 13, ground := Ground.data }, { on := 6, ground := Ground.chain }, { on := 0, ground := Ground.phase }, { on := 1, ground := Ground.phase }, { on := 2, ground := Ground.phase }, { on := 3, ground := Ground.phase }, { on := 4, ground := Ground.phase }, { on := 5, ground := Ground.phase }, { on := 6, ground := Ground.phase }, { on := 7, ground := Ground.phase }, { on := 8, ground := Ground.phase }, { on := 9, ground := Ground.phase }, { on := 10, ground := Ground.phase }, { on := 11, ground := Ground.phase }, { on := 12, ground := Ground.phase }, { on := 13, ground := Ground.phase }], guard := none } rfl (by kernel_rfl) (by rfl) (fun K hK => ?_)
      go_simp
      refine hK.out _ _ (Kt.G.late (by kernel_rfl)) (fun _ => ?_)
      clear hK K
      try simp only [Act.put, List.setIfInBounds_toArray, List.set_cons_zero, List.set_cons_succ]
      refine Kt.G.takeP 15 { dst := some 3, op := Op.assign (Operand.const (Value.int IntKind.i64 0)), type := 26, pos := "bulk.go:49", after := #[{ on := 14, ground := Ground.chain }, { on := 0, ground := Ground.phase }, { on := 1, ground := Ground.phase }, { on := 2, ground := Ground.phase }, { on := 3, ground := Ground.phase }, { on := 4, ground := Ground.phase }, { on := 5, ground := Ground.phase }, { on := 6, ground := Ground.phase }, { on := 7, ground := Ground.phase }, { on := 8, ground := Ground.phase }, { on := 9, ground := Ground.phase }, { on := 10, ground := Ground.phase }, { on := 11, ground := Ground.phase }, { on := 12, ground := Ground.phase }, { on := 13, ground := Ground.phase }, { on := 14, ground := Ground.phase }], guard := none } ?_ (Kt.G.late (by kernel_rfl)) rfl (by kernel_rfl) (fun _ _ _ h => h) (by rfl) ?_ ?_
      rotate_left
      · intro w; go_simp; try with_reducible rfl
      try simp only [Act.put, List.setIfInBounds_toArray, List.set_cons_zero, List.set_cons_succ]
      refine Kt.G.done (by kernel_rfl) (NoPanic.normal ?_) _
      go_wp2
      go_ret2
      exact ⟨rfl, hHeld.bel⟩
    · go_simp
      refine hK.out _ _ (fun _ => hHeld.alloc _) (fun hHeld => ?_)
      have hHeld := hHeld rfl
      clear hK K
      try simp only [Act.put, List.setIfInBounds_toArray, List.set_cons_zero, List.set_cons_succ]
      have hHeld := hHeld.add (b := x2.heap.size) (o := 0) (v := .int .u8 c) (by show _ < (x2.alloc _).heap.size; rw [World.size_alloc]; omega) (by simp)
      refine Kt.G.more (F' := Kt.Fc w ((x2.heap.size, 0, .int .u8 c) :: [(w.heap.size, 0, .int .i64 t), (w.heap.size, 1, .int .i64 r), (w.heap.size, 2, .int .i64 c)])) (fun _ h => Kt.Fc.less h) _ _ _ _ ?_
      refine Kt.G.take 12 { dst := some 36, op := Op.convert 47 9 (Operand.tmp 35), type := 9, pos := "bulk.go:49", after := #[{ on := 11, ground := Ground.data }], guard := none } (.string ⟨#[UInt8.ofNat c.toNat]⟩) hHeld rfl (by kernel_rfl) (fun _ _ _ h => h) (by rfl) ?_ ?_
      · intro w hSw; have hcv := cv_one c w _ (hSw.cell _ (List.Mem.head _)).2; go_simp; try with_reducible rfl
      try simp only [Act.put, List.setIfInBounds_toArray, List.set_cons_zero, List.set_cons_succ]
      refine Kt.G.one 6 { dst := some 30, op := Op.call { callee := Callee.value (Operand.func 13), args := #[Operand.tmp 29], argTypes := #[3] }, type := 9, pos := "bulk.go:49", after := #[{ on := 5, ground := Ground.data }, { on := 2, ground := Ground.chain }], guard := none } rfl (by kernel_rfl) (by rfl) (fun K hK => ?_)
      go_simp
      refine (H2.out _).mono ?_; rintro en x6 ⟨rfl, hb6⟩
      refine hK.out _ _ (fun _ => hHeld.on hb6) (fun hHeld => ?_)
      have hHeld := hHeld rfl
      clear hK K
      try simp only [Act.put, List.setIfInBounds_toArray, List.set_cons_zero, List.set_cons_succ]
      refine Kt.G.takeP 7 { dst := some 31, op := Op.binOp BinOp.add 9 (Operand.tmp 27) (Operand.tmp 30) 9, type := 9, pos := "bulk.go:49", after := #[{ on := 3, ground := Ground.data }, { on := 6, ground := Ground.data }], guard := none } ?_ (fun _ => hHeld) rfl (by kernel_rfl) (fun _ _ _ h => h) (by rfl) ?_ ?_
      rotate_left
      · intro w; go_simp; try with_reducible rfl
      try simp only [Act.put, List.setIfInBounds_toArray, List.set_cons_zero, List.set_cons_succ]
      refine Kt.G.takeP 13 { dst := some 37, op := Op.binOp BinOp.add 9 (Operand.tmp 31) (Operand.tmp 36) 9, type := 9, pos := "bulk.go:49", after := #[{ on := 7, ground := Ground.data }, { on := 12, ground := Ground.data }], guard := none } ?_ (fun _ => hHeld) rfl (by kernel_rfl) (fun _ _ _ h => h) (by rfl) ?_ ?_
      rotate_left
      · intro w; go_simp; try with_reducible rfl
      try simp only [Act.put, List.setIfInBounds_toArray, List.set_cons_zero, List.set_cons_succ]
      refine Kt.G.one 14 { dst := some 2, op := Op.assign (Operand.tmp 37), type := 9, pos := "bulk.go:49", after := #[{ on := 13, ground := Ground.data }, { on := 6, ground := Ground.chain }, { on := 0, ground := Ground.phase }, { on := 1, ground := Ground.phase }, { on := 2, ground := Ground.phase }, { on := 3, ground := Ground.phase }, { on := 4, ground := Ground.phase }, { on := 5, ground := Ground.phase }, { on := 6, ground := Ground.phase }, { on := 7, ground := Ground.phase }, { on := 8, ground := Ground.phase }, { on := 9, ground := Ground.phase }, { on := 10, ground := Ground.phase }, { on := 11, ground := Ground.phase }, { on := 12, ground := Ground.phase }, { on := 13, ground := Ground.phase }], guard := none } rfl (by kernel_rfl) (by rfl) (fun K hK => ?_)
      go_simp
      refine hK.out _ _ (Kt.G.late (by kernel_rfl)) (fun _ => ?_)
      clear hK K
      try simp only [Act.put, List.setIfInBounds_toArray, List.set_cons_zero, List.set_cons_succ]
      refine Kt.G.takeP 15 { dst := some 3, op := Op.assign (Operand.const (Value.int IntKind.i64 0)), type := 26, pos := "bulk.go:49", after := #[{ on := 14, ground := Ground.chain }, { on := 0, ground := Ground.phase }, { on := 1, ground := Ground.phase }, { on := 2, ground := Ground.phase }, { on := 3, ground := Ground.phase }, { on := 4, ground := Ground.phase }, { on := 5, ground := Ground.phase }, { on := 6, ground := Ground.phase }, { on := 7, ground := Ground.phase }, { on := 8, ground := Ground.phase }, { on := 9, ground := Ground.phase }, { on := 10, ground := Ground.phase }, { on := 11, ground := Ground.phase }, { on := 12, ground := Ground.phase }, { on := 13, ground := Ground.phase }, { on := 14, ground := Ground.phase }], guard := none } ?_ (Kt.G.late (by kernel_rfl)) rfl (by kernel_rfl) (fun _ _ _ h => h) (by rfl) ?_ ?_
      rotate_left
      · intro w; go_simp; try with_reducible rfl
      try simp only [Act.put, List.setIfInBounds_toArray, List.set_cons_zero, List.set_cons_succ]
      refine Kt.G.done (by kernel_rfl) (NoPanic.normal ?_) _
      go_wp2
      go_ret2
      exact ⟨rfl, hHeld.bel⟩
  · go_simp
    refine hK.out _ _ (fun _ => hHeld.alloc _) (fun hHeld => ?_)
    have hHeld := hHeld rfl
    clear hK K
    try simp only [Act.put, List.setIfInBounds_toArray, List.set_cons_zero, List.set_cons_succ]
    have hHeld := hHeld.add (b := W0.heap.size) (o := 0) (v := .int .u8 c) (by show _ < (W0.alloc _).heap.size; rw [World.size_alloc]; omega) (by simp)
    refine Kt.G.more (F' := Kt.Fc w ((W0.heap.size, 0, .int .u8 c) :: [(w.heap.size, 0, .int .i64 t), (w.heap.size, 1, .int .i64 r), (w.heap.size, 2, .int .i64 c)])) (fun _ h => Kt.Fc.less h) _ _ _ _ ?_
    refine Kt.G.take 12 { dst := some 36, op := Op.convert 47 9 (Operand.tmp 35), type := 9, pos := "bulk.go:49", after := #[{ on := 11, ground := Ground.data }], guard := none } (.string ⟨#[UInt8.ofNat c.toNat]⟩) hHeld rfl (by kernel_rfl) (fun _ _ _ h => h) (by rfl) ?_ ?_
    · intro w hSw; have hcv := cv_one c w _ (hSw.cell _ (List.Mem.head _)).2; go_simp; try with_reducible rfl
    try simp only [Act.put, List.setIfInBounds_toArray, List.set_cons_zero, List.set_cons_succ]
    refine Kt.G.one 2 { dst := some 26, op := Op.call { callee := Callee.value (Operand.func 13), args := #[Operand.tmp 25], argTypes := #[3] }, type := 9, pos := "bulk.go:49", after := #[{ on := 1, ground := Ground.data }], guard := none } rfl (by kernel_rfl) (by rfl) (fun K hK => ?_)
    go_simp
    refine (H1.out _).mono ?_; rintro en x2 ⟨rfl, hb2⟩
    refine hK.out _ _ (fun _ => hHeld.on hb2) (fun hHeld => ?_)
    have hHeld := hHeld rfl
    clear hK K
    try simp only [Act.put, List.setIfInBounds_toArray, List.set_cons_zero, List.set_cons_succ]
    refine Kt.G.takeP 3 { dst := some 27, op := Op.binOp BinOp.add 9 (Operand.const (Value.string { data := #[85, 83, 66, 83] })) (Operand.tmp 26) 9, type := 9, pos := "bulk.go:49", after := #[{ on := 2, ground := Ground.data }], guard := none } ?_ (fun _ => hHeld) rfl (by kernel_rfl) (fun _ _ _ h => h) (by rfl) ?_ ?_
    rotate_left
    · intro w; go_simp; try with_reducible rfl
    try simp only [Act.put, List.setIfInBounds_toArray, List.set_cons_zero, List.set_cons_succ]
    refine Kt.G.one 6 { dst := some 30, op := Op.call { callee := Callee.value (Operand.func 13), args := #[Operand.tmp 29], argTypes := #[3] }, type := 9, pos := "bulk.go:49", after := #[{ on := 5, ground := Ground.data }, { on := 2, ground := Ground.chain }], guard := none } rfl (by kernel_rfl) (by rfl) (fun K hK => ?_)
    go_simp
    refine (H2.out _).mono ?_; rintro en x6 ⟨rfl, hb6⟩
    refine hK.out _ _ (fun _ => hHeld.on hb6) (fun hHeld => ?_)
    have hHeld := hHeld rfl
    clear hK K
    try simp only [Act.put, List.setIfInBounds_toArray, List.set_cons_zero, List.set_cons_succ]
    refine Kt.G.takeP 7 { dst := some 31, op := Op.binOp BinOp.add 9 (Operand.tmp 27) (Operand.tmp 30) 9, type := 9, pos := "bulk.go:49", after := #[{ on := 3, ground := Ground.data }, { on := 6, ground := Ground.data }], guard := none } ?_ (fun _ => hHeld) rfl (by kernel_rfl) (fun _ _ _ h => h) (by rfl) ?_ ?_
    rotate_left
    · intro w; go_simp; try with_reducible rfl
    try simp only [Act.put, List.setIfInBounds_toArray, List.set_cons_zero, List.set_cons_succ]
    refine Kt.G.takeP 13 { dst := some 37, op := Op.binOp BinOp.add 9 (Operand.tmp 31) (Operand.tmp 36) 9, type := 9, pos := "bulk.go:49", after := #[{ on := 7, ground := Ground.data }, { on := 12, ground := Ground.data }], guard := none } ?_ (fun _ => hHeld) rfl (by kernel_rfl) (fun _ _ _ h => h) (by rfl) ?_ ?_
    rotate_left
    · intro w; go_simp; try with_reducible rfl
    try simp only [Act.put, List.setIfInBounds_toArray, List.set_cons_zero, List.set_cons_succ]
    refine Kt.G.one 14 { dst := some 2, op := Op.assign (Operand.tmp 37), type := 9, pos := "bulk.go:49", after := #[{ on := 13, ground := Ground.data }, { on := 6, ground := Ground.chain }, { on := 0, ground := Ground.phase }, { on := 1, ground := Ground.phase }, { on := 2, ground := Ground.phase }, { on := 3, ground := Ground.phase }, { on := 4, ground := Ground.phase }, { on := 5, ground := Ground.phase }, { on := 6, ground := Ground.phase }, { on := 7, ground := Ground.phase }, { on := 8, ground := Ground.phase }, { on := 9, ground := Ground.phase }, { on := 10, ground := Ground.phase }, { on := 11, ground := Ground.phase }, { on := 12, ground := Ground.phase }, { on := 13, ground := Ground.phase }], guard := none } rfl (by kernel_rfl) (by rfl) (fun K hK => ?_)
    go_simp
    refine hK.out _ _ (Kt.G.late (by kernel_rfl)) (fun _ => ?_)
    clear hK K
    try simp only [Act.put, List.setIfInBounds_toArray, List.set_cons_zero, List.set_cons_succ]
    refine Kt.G.takeP 15 { dst := some 3, op := Op.assign (Operand.const (Value.int IntKind.i64 0)), type := 26, pos := "bulk.go:49", after := #[{ on := 14, ground := Ground.chain }, { on := 0, ground := Ground.phase }, { on := 1, ground := Ground.phase }, { on := 2, ground := Ground.phase }, { on := 3, ground := Ground.phase }, { on := 4, ground := Ground.phase }, { on := 5, ground := Ground.phase }, { on := 6, ground := Ground.phase }, { on := 7, ground := Ground.phase }, { on := 8, ground := Ground.phase }, { on := 9, ground := Ground.phase }, { on := 10, ground := Ground.phase }, { on := 11, ground := Ground.phase }, { on := 12, ground := Ground.phase }, { on := 13, ground := Ground.phase }, { on := 14, ground := Ground.phase }], guard := none } ?_ (Kt.G.late (by kernel_rfl)) rfl (by kernel_rfl) (fun _ _ _ h => h) (by rfl) ?_ ?_
    rotate_left
    · intro w; go_simp; try with_reducible rfl
    try simp only [Act.put, List.setIfInBounds_toArray, List.set_cons_zero, List.set_cons_succ]
    refine Kt.G.done (by kernel_rfl) (NoPanic.normal ?_) _
    go_wp2
    go_ret2
    exact ⟨rfl, hHeld.bel⟩
end Go.Proofs.Ytdpoocjjckbgdaa
