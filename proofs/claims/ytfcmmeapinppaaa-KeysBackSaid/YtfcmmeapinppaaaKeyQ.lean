/- KeysReplay walked. -/
import Derived.Test.YtfcmmeapinppaaaKeyP
import Derived.Test.YtfcmmeapinppaaaOnk
namespace Go.Proofs.Ytfcmmeapinppaaa
open Go.RowKit
/-- the codes below 4 taken out -/
def Hd.clr (h : Hd) : Hd := { h with a := UInt64.ofNat (h.a.toNat &&& 18446744073709551600) }
theorem clr_bits (x : UInt64) : bits BinOp.andNot IntKind.u64 (x.toNat : Int) 15 = ((UInt64.ofNat (x.toNat &&& 18446744073709551600)).toNat : Int) := by
  have h := u64_andNot_nat x.toNat 15 x.toNat_lt (by omega)
  have hx : x.toNat &&& 18446744073709551600 < 2 ^ 64 := Nat.and_lt_two_pow _ (by omega)
  rw [UInt64.toNat_ofNat', Nat.mod_eq_of_lt hx]
  exact h
theorem clr_mask : ∀ i : Fin 64, (18446744073709551600 : Nat).testBit i.val = decide (4 ≤ i.val) := by decide +kernel
theorem clr_has (h : Hd) (c : Nat) (hc : c < 256) : h.clr.has c = (h.has c && decide (4 ≤ c)) := by
  rw [Hd.has_bit, Hd.has_bit]
  have hx : h.a.toNat &&& 18446744073709551600 < 2 ^ 64 := Nat.and_lt_two_pow _ (by omega)
  by_cases e : c < 64
  · have e0 : c / 64 = 0 := by omega
    have e1 : c % 64 = c := by omega
    rw [e0, e1]
    show (UInt64.ofNat (h.a.toNat &&& 18446744073709551600)).toNat.testBit c = (h.a.toNat.testBit c && _)
    rw [UInt64.toNat_ofNat', Nat.mod_eq_of_lt hx, Nat.testBit_and, clr_mask ⟨c, e⟩]
  · have : h.clr.at (c / 64) = h.at (c / 64) := by
      obtain ⟨q, hq⟩ : ∃ q, c / 64 = q + 1 := ⟨c / 64 - 1, by omega⟩
      rw [hq]
      match q with
      | 0 => rfl
      | 1 => rfl
      | q + 2 => rfl
    rw [this, decide_eq_true (show 4 ≤ c by omega), Bool.and_true]
theorem clr_ok (h : Hd) : h.clr.ok := fun c hc => by
  rw [clr_has _ _ (by omega), decide_eq_false (by omega), Bool.and_false]
def sumTo (x y : Hd) : Nat → Nat
  | 0 => 0
  | q + 1 => sumTo x y q + pop ((x.at q).toNat ^^^ (y.at q).toNat)
theorem sumTo_four (x y : Hd) : sumTo x y 4 = (diffR x y).length := by
  rw [diff_words]
  simp only [sumTo, pop_eq, Hd.at, Nat.zero_add]
theorem sumTo_symm (x y : Hd) : ∀ q, sumTo x y q = sumTo y x q
  | 0 => rfl
  | q + 1 => by
    unfold sumTo
    rw [sumTo_symm x y q, Nat.xor_comm]
theorem sumTo_le (x y : Hd) : ∀ q, sumTo x y q ≤ 64 * q
  | 0 => Nat.le_refl _
  | q + 1 => by
    have := sumTo_le x y q
    have := pop_le ((x.at q).toNat ^^^ (y.at q).toNat)
    unfold sumTo
    omega
set_option maxRecDepth 100000 in
set_option maxHeartbeats 1600000 in
theorem replay_calls (x y : Hd) (w : World) : Calls Try.prog 4 #[x.v, y.v] w fun e w' => e = .returned (.bool true) ∧ Below w.heap.size w w' := by
  unfold Hd.v
  go_enter Try.func4, Try.ntmps4
  unfold Hd.vs
  go_upto_region 1 with (fail)
  have HX0 : Hid (((w.alloc (.cells x.vs 27)).alloc (.cells y.vs 27)).heap[w.heap.size]? = some (.cells x.vs 27 (0, 0))) := Lib.hid
    ((Below.heap_alloc _ _ _ (by rw [World.size_alloc]; omega)).trans (heap_alloc_new w _))
  have HY0 : Hid (((w.alloc (.cells x.vs 27)).alloc (.cells y.vs 27)).heap[w.heap.size + 1]? = some (.cells y.vs 27 (0, 0))) := Lib.hid (by
    have := heap_alloc_new (w.alloc (.cells x.vs 27)) (.cells y.vs 27)
    rw [World.size_alloc] at this
    exact this)
  have HB0 := Lib.hid (Kt.balloc (Kt.balloc (Below.refl w.heap.size w) (.cells x.vs 27)) (.cells y.vs 27))
  refine Kt.fold (fun W => W = ((w.alloc (.cells x.vs 27)).alloc (.cells y.vs 27))) rfl (fun W hW => ?_)
  rw [← hW] at HX0 HY0 HB0
  clear hW
  have hx := HX0.out
  have hy := HY0.out
  unfold Hd.vs at hx hy
  have q1 := fun i => cell_of_row _ _ i _ _ _ hx
  have q2 := fun i => cell_of_row _ _ i _ _ _ hy
  have f1 := fun i => frozen_of_row _ _ i _ _ hx
  have f2 := fun i => frozen_of_row _ _ i _ _ hy
  have HF : W.drew.heap[w.heap.size]? = some (.cells #[.int .u64 (x.a.toNat : Int), .int .u64 (x.b.toNat : Int), .int .u64 (x.c.toNat : Int), .int .u64 (x.d.toNat : Int)] 27 (0, 0)) ∧ W.drew.heap[w.heap.size + 1]? = some (.cells #[.int .u64 (y.a.toNat : Int), .int .u64 (y.b.toNat : Int), .int .u64 (y.c.toNat : Int), .int .u64 (y.d.toNat : Int)] 27 (0, 0)) := ⟨hx, hy⟩
  clear hx hy
  have HNB := Lib.hid ((HB0.out.setCell (p := ⟨w.heap.size, 0, none⟩) (Nat.le_refl _) (.int .u64 (bits BinOp.andNot IntKind.u64 (x.a.toNat : Int) 15))).setCell (p := ⟨w.heap.size + 1, 0, none⟩) (Nat.le_succ _) (.int .u64 (bits BinOp.andNot IntKind.u64 (y.a.toNat : Int) 15))).drew
  have HNX : Hid (((W.setCell ⟨w.heap.size, 0, none⟩ (.int .u64 (bits BinOp.andNot IntKind.u64 (x.a.toNat : Int) 15))).setCell ⟨w.heap.size + 1, 0, none⟩ (.int .u64 (bits BinOp.andNot IntKind.u64 (y.a.toNat : Int) 15))).drew.heap[w.heap.size]? = some (.cells x.clr.vs 27 (0, 0))) := Lib.hid (by
    refine (heap_setCell_other _ _ _ _ (by show w.heap.size ≠ w.heap.size + 1; omega)).trans ?_
    rw [heap_setCell_same _ _ _ _ _ _ HX0.out, clr_bits]
    rfl)
  have HNY : Hid (((W.setCell ⟨w.heap.size, 0, none⟩ (.int .u64 (bits BinOp.andNot IntKind.u64 (x.a.toNat : Int) 15))).setCell ⟨w.heap.size + 1, 0, none⟩ (.int .u64 (bits BinOp.andNot IntKind.u64 (y.a.toNat : Int) 15))).drew.heap[w.heap.size + 1]? = some (.cells y.clr.vs 27 (0, 0))) := Lib.hid (by
    have h1 : (W.setCell ⟨w.heap.size, 0, none⟩ (.int .u64 (bits BinOp.andNot IntKind.u64 (x.a.toNat : Int) 15))).heap[w.heap.size + 1]? = _ := (heap_setCell_other _ _ _ _ (by show w.heap.size + 1 ≠ w.heap.size; omega)).trans HY0.out
    refine (heap_setCell_same _ _ _ _ _ _ h1).trans ?_
    rw [clr_bits]
    rfl)
  go_cut [21] from 10 to 21 (fun s21 wx => ∃ v, s21 = v ∧ wx.heap[w.heap.size]? = some (.cells x.clr.vs 27 (0, 0)) ∧ wx.heap[w.heap.size + 1]? = some (.cells y.clr.vs 27 (0, 0)) ∧ Below w.heap.size w wx)
  case first =>
    refine Kt.G.start 10 (fun W => W.heap[w.heap.size]? = some (.cells #[.int .u64 (x.a.toNat : Int), .int .u64 (x.b.toNat : Int), .int .u64 (x.c.toNat : Int), .int .u64 (x.d.toNat : Int)] 27 (0, 0)) ∧ W.heap[w.heap.size + 1]? = some (.cells #[.int .u64 (y.a.toNat : Int), .int .u64 (y.b.toNat : Int), .int .u64 (y.c.toNat : Int), .int .u64 (y.d.toNat : Int)] 27 (0, 0))) (by kernel_rfl) HF (fun hHeld => ?_)
    refine Kt.G.takeP 0 { dst := some 10, op := Op.fieldAddr 27 (Operand.tmp 2) 0, type := 0, pos := "keys.go:35", after := #[], guard := none } ?_ (fun _ => hHeld) rfl (by kernel_rfl) (fun _ _ _ h => h) (by rfl) ?_ ?_
    rotate_left
    · intro w; go_simp; try with_reducible rfl
    try simp only [Act.put, List.setIfInBounds_toArray, List.set_cons_zero, List.set_cons_succ]
    refine Kt.G.takeP 1 { dst := some 11, op := Op.indexAddr 25 (Operand.tmp 10) (Operand.const (Value.int IntKind.i64 0)), type := 0, pos := "keys.go:35", after := #[{ on := 0, ground := Ground.data }], guard := none } ?_ (fun _ => hHeld) rfl (by kernel_rfl) (fun _ _ _ h => h) (by rfl) ?_ ?_
    rotate_left
    · intro w; go_simp; try with_reducible rfl
    try simp only [Act.put, List.setIfInBounds_toArray, List.set_cons_zero, List.set_cons_succ]
    refine Kt.G.take 2 { dst := some 12, op := Op.load 24 (Operand.tmp 11), type := 24, pos := "keys.go:35", after := #[{ on := 1, ground := Ground.data }], guard := none } ?_ hHeld rfl (by kernel_rfl) (fun _ _ _ h => h) (by rfl) ?_ ?_
    rotate_left
    · intro w hSw; have q := fun i => cell_of_row _ _ i _ _ _ hSw.1; have q2 := fun i => cell_of_row _ _ i _ _ _ hSw.2; go_simp; try with_reducible rfl
    try simp only [Act.put, List.setIfInBounds_toArray, List.set_cons_zero, List.set_cons_succ]
    refine Kt.G.takeP 3 { dst := some 13, op := Op.binOp BinOp.andNot 24 (Operand.tmp 12) (Operand.const (Value.int IntKind.u64 15)) 24, type := 24, pos := "keys.go:35", after := #[{ on := 2, ground := Ground.data }], guard := none } ?_ (fun _ => hHeld) rfl (by kernel_rfl) (fun _ _ _ h => h) (by rfl) ?_ ?_
    rotate_left
    · intro w; go_simp; try with_reducible rfl
    try simp only [Act.put, List.setIfInBounds_toArray, List.set_cons_zero, List.set_cons_succ]
    refine Kt.G.takeP 4 { dst := some 14, op := Op.fieldAddr 27 (Operand.tmp 3) 0, type := 0, pos := "keys.go:35", after := #[{ on := 10, ground := Ground.gcOnly Departure.lateStores }], guard := none } ?_ (fun _ => hHeld) rfl (by kernel_rfl) (fun _ _ _ h => h) (by rfl) ?_ ?_
    rotate_left
    · intro w; go_simp; try with_reducible rfl
    try simp only [Act.put, List.setIfInBounds_toArray, List.set_cons_zero, List.set_cons_succ]
    refine Kt.G.takeP 5 { dst := some 15, op := Op.indexAddr 25 (Operand.tmp 14) (Operand.const (Value.int IntKind.i64 0)), type := 0, pos := "keys.go:35", after := #[{ on := 4, ground := Ground.data }, { on := 10, ground := Ground.gcOnly Departure.lateStores }], guard := none } ?_ (fun _ => hHeld) rfl (by kernel_rfl) (fun _ _ _ h => h) (by rfl) ?_ ?_
    rotate_left
    · intro w; go_simp; try with_reducible rfl
    try simp only [Act.put, List.setIfInBounds_toArray, List.set_cons_zero, List.set_cons_succ]
    refine Kt.G.takeP 8 { dst := some 18, op := Op.fieldAddr 27 (Operand.tmp 2) 0, type := 0, pos := "keys.go:35", after := #[], guard := none } ?_ (fun _ => hHeld) rfl (by kernel_rfl) (fun _ _ _ h => h) (by rfl) ?_ ?_
    rotate_left
    · intro w; go_simp; try with_reducible rfl
    try simp only [Act.put, List.setIfInBounds_toArray, List.set_cons_zero, List.set_cons_succ]
    refine Kt.G.takeP 9 { dst := some 19, op := Op.indexAddr 25 (Operand.tmp 18) (Operand.const (Value.int IntKind.i64 0)), type := 0, pos := "keys.go:35", after := #[{ on := 8, ground := Ground.data }, { on := 0, ground := Ground.phase }, { on := 1, ground := Ground.phase }, { on := 2, ground := Ground.phase }, { on := 3, ground := Ground.phase }, { on := 4, ground := Ground.textOnly Departure.lateStores }, { on := 5, ground := Ground.textOnly Departure.lateStores }, { on := 6, ground := Ground.textOnly Departure.lateStores }, { on := 7, ground := Ground.textOnly Departure.lateStores }], guard := none } ?_ (fun _ => hHeld) rfl (by kernel_rfl) (fun _ _ _ h => h) (by rfl) ?_ ?_
    rotate_left
    · intro w; go_simp; try with_reducible rfl
    try simp only [Act.put, List.setIfInBounds_toArray, List.set_cons_zero, List.set_cons_succ]
    refine Kt.G.takeP 11 { dst := some 20, op := Op.fieldAddr 27 (Operand.tmp 3) 0, type := 0, pos := "keys.go:35", after := #[], guard := none } ?_ (fun _ => hHeld) rfl (by kernel_rfl) (fun _ _ _ h => h) (by rfl) ?_ ?_
    rotate_left
    · intro w; go_simp; try with_reducible rfl
    try simp only [Act.put, List.setIfInBounds_toArray, List.set_cons_zero, List.set_cons_succ]
    refine Kt.G.two 6 10 { dst := some 16, op := Op.load 24 (Operand.tmp 15), type := 24, pos := "keys.go:35", after := #[{ on := 5, ground := Ground.data }, { on := 10, ground := Ground.gcOnly Departure.lateStores }], guard := none } { dst := none, op := Op.store 24 (Operand.tmp 19) (Operand.tmp 13), type := 0, pos := "keys.go:35", after := #[{ on := 9, ground := Ground.data }, { on := 3, ground := Ground.data }, { on := 0, ground := Ground.phase }, { on := 1, ground := Ground.phase }, { on := 2, ground := Ground.phase }, { on := 3, ground := Ground.phase }, { on := 4, ground := Ground.textOnly Departure.lateStores }, { on := 5, ground := Ground.textOnly Departure.lateStores }, { on := 6, ground := Ground.textOnly Departure.lateStores }, { on := 7, ground := Ground.textOnly Departure.lateStores }], guard := none } rfl rfl (by kernel_rfl) (by rfl) (by rfl) (fun K hK => ?_) (fun K hK => ?_)
    · go_simp
      refine hK.out _ _ (fun _ => hHeld) (fun hHeld => ?_)
      have hHeld := hHeld rfl
      clear hK K
      try simp only [Act.put, List.setIfInBounds_toArray, List.set_cons_zero, List.set_cons_succ]
      refine Kt.G.takeP 7 { dst := some 17, op := Op.binOp BinOp.andNot 24 (Operand.tmp 16) (Operand.const (Value.int IntKind.u64 15)) 24, type := 24, pos := "keys.go:35", after := #[{ on := 6, ground := Ground.data }, { on := 10, ground := Ground.gcOnly Departure.lateStores }], guard := none } ?_ (fun _ => hHeld) rfl (by kernel_rfl) (fun _ _ _ h => h) (by rfl) ?_ ?_
      rotate_left
      · intro w; go_simp; try with_reducible rfl
      try simp only [Act.put, List.setIfInBounds_toArray, List.set_cons_zero, List.set_cons_succ]
      refine Kt.G.one 10 { dst := none, op := Op.store 24 (Operand.tmp 19) (Operand.tmp 13), type := 0, pos := "keys.go:35", after := #[{ on := 9, ground := Ground.data }, { on := 3, ground := Ground.data }, { on := 0, ground := Ground.phase }, { on := 1, ground := Ground.phase }, { on := 2, ground := Ground.phase }, { on := 3, ground := Ground.phase }, { on := 4, ground := Ground.textOnly Departure.lateStores }, { on := 5, ground := Ground.textOnly Departure.lateStores }, { on := 6, ground := Ground.textOnly Departure.lateStores }, { on := 7, ground := Ground.textOnly Departure.lateStores }], guard := none } rfl (by kernel_rfl) (by rfl) (fun K hK => ?_)
      go_simp
      refine hK.out _ _ (Kt.G.late (by kernel_rfl)) (fun _ => ?_)
      clear hK K
      try simp only [Act.put, List.setIfInBounds_toArray, List.set_cons_zero, List.set_cons_succ]
      refine Kt.G.takeP 12 { dst := some 21, op := Op.indexAddr 25 (Operand.tmp 20) (Operand.const (Value.int IntKind.i64 0)), type := 0, pos := "keys.go:35", after := #[{ on := 11, ground := Ground.data }, { on := 0, ground := Ground.phase }, { on := 1, ground := Ground.phase }, { on := 2, ground := Ground.phase }, { on := 3, ground := Ground.phase }, { on := 4, ground := Ground.phase }, { on := 5, ground := Ground.phase }, { on := 6, ground := Ground.phase }, { on := 7, ground := Ground.phase }, { on := 8, ground := Ground.phase }, { on := 9, ground := Ground.phase }, { on := 10, ground := Ground.phase }], guard := none } ?_ (Kt.G.late (by kernel_rfl)) rfl (by kernel_rfl) (fun _ _ _ h => h) (by rfl) ?_ ?_
      rotate_left
      · intro w; go_simp; try with_reducible rfl
      try simp only [Act.put, List.setIfInBounds_toArray, List.set_cons_zero, List.set_cons_succ]
      refine Kt.G.one 13 { dst := none, op := Op.store 24 (Operand.tmp 21) (Operand.tmp 17), type := 0, pos := "keys.go:35", after := #[{ on := 12, ground := Ground.data }, { on := 7, ground := Ground.data }, { on := 10, ground := Ground.chain }, { on := 0, ground := Ground.phase }, { on := 1, ground := Ground.phase }, { on := 2, ground := Ground.phase }, { on := 3, ground := Ground.phase }, { on := 4, ground := Ground.phase }, { on := 5, ground := Ground.phase }, { on := 6, ground := Ground.phase }, { on := 7, ground := Ground.phase }, { on := 8, ground := Ground.phase }, { on := 9, ground := Ground.phase }, { on := 10, ground := Ground.phase }], guard := none } rfl (by kernel_rfl) (by rfl) (fun K hK => ?_)
      go_simp
      refine hK.out _ _ (Kt.G.late (by kernel_rfl)) (fun _ => ?_)
      clear hK K
      try simp only [Act.put, List.setIfInBounds_toArray, List.set_cons_zero, List.set_cons_succ]
      refine Kt.G.done (by kernel_rfl) (NoPanic.normal ?_) _
      go_wp2_with fail
      go_meet
      case rel => exact ⟨_, rfl, HNX.out, HNY.out, HNB.out⟩
    · go_simp
      refine hK.out _ _ (Kt.G.late (by kernel_rfl)) (fun _ => ?_)
      clear hK K
      try simp only [Act.put, List.setIfInBounds_toArray, List.set_cons_zero, List.set_cons_succ]
      refine Kt.G.one 6 { dst := some 16, op := Op.load 24 (Operand.tmp 15), type := 24, pos := "keys.go:35", after := #[{ on := 5, ground := Ground.data }, { on := 10, ground := Ground.gcOnly Departure.lateStores }], guard := none } rfl (by kernel_rfl) (by rfl) (fun K hK => ?_)
      go_simp
      refine hK.out _ _ (Kt.G.late (by kernel_rfl)) (fun _ => ?_)
      clear hK K
      try simp only [Act.put, List.setIfInBounds_toArray, List.set_cons_zero, List.set_cons_succ]
      refine Kt.G.takeP 7 { dst := some 17, op := Op.binOp BinOp.andNot 24 (Operand.tmp 16) (Operand.const (Value.int IntKind.u64 15)) 24, type := 24, pos := "keys.go:35", after := #[{ on := 6, ground := Ground.data }, { on := 10, ground := Ground.gcOnly Departure.lateStores }], guard := none } ?_ (Kt.G.late (by kernel_rfl)) rfl (by kernel_rfl) (fun _ _ _ h => h) (by rfl) ?_ ?_
      rotate_left
      · intro w; go_simp; try with_reducible rfl
      try simp only [Act.put, List.setIfInBounds_toArray, List.set_cons_zero, List.set_cons_succ]
      refine Kt.G.takeP 12 { dst := some 21, op := Op.indexAddr 25 (Operand.tmp 20) (Operand.const (Value.int IntKind.i64 0)), type := 0, pos := "keys.go:35", after := #[{ on := 11, ground := Ground.data }, { on := 0, ground := Ground.phase }, { on := 1, ground := Ground.phase }, { on := 2, ground := Ground.phase }, { on := 3, ground := Ground.phase }, { on := 4, ground := Ground.phase }, { on := 5, ground := Ground.phase }, { on := 6, ground := Ground.phase }, { on := 7, ground := Ground.phase }, { on := 8, ground := Ground.phase }, { on := 9, ground := Ground.phase }, { on := 10, ground := Ground.phase }], guard := none } ?_ (Kt.G.late (by kernel_rfl)) rfl (by kernel_rfl) (fun _ _ _ h => h) (by rfl) ?_ ?_
      rotate_left
      · intro w; go_simp; try with_reducible rfl
      try simp only [Act.put, List.setIfInBounds_toArray, List.set_cons_zero, List.set_cons_succ]
      refine Kt.G.one 13 { dst := none, op := Op.store 24 (Operand.tmp 21) (Operand.tmp 17), type := 0, pos := "keys.go:35", after := #[{ on := 12, ground := Ground.data }, { on := 7, ground := Ground.data }, { on := 10, ground := Ground.chain }, { on := 0, ground := Ground.phase }, { on := 1, ground := Ground.phase }, { on := 2, ground := Ground.phase }, { on := 3, ground := Ground.phase }, { on := 4, ground := Ground.phase }, { on := 5, ground := Ground.phase }, { on := 6, ground := Ground.phase }, { on := 7, ground := Ground.phase }, { on := 8, ground := Ground.phase }, { on := 9, ground := Ground.phase }, { on := 10, ground := Ground.phase }], guard := none } rfl (by kernel_rfl) (by rfl) (fun K hK => ?_)
      go_simp
      refine hK.out _ _ (Kt.G.late (by kernel_rfl)) (fun _ => ?_)
      clear hK K
      try simp only [Act.put, List.setIfInBounds_toArray, List.set_cons_zero, List.set_cons_succ]
      refine Kt.G.done (by kernel_rfl) (NoPanic.normal ?_) _
      go_wp2_with fail
      go_meet
      case rel => exact ⟨_, rfl, HNX.out, HNY.out, HNB.out⟩
  case rest =>
    obtain ⟨v, rfl, hx, hy, hb⟩ := hcut
    clear HNX HNY HNB HF q1 q2 f1 f2 HX0 HY0 HB0
    obtain ⟨X, hX⟩ : ∃ X, x.clr = X := ⟨_, rfl⟩
    obtain ⟨Y, hY⟩ : ∃ Y, y.clr = Y := ⟨_, rfl⟩
    have HOX : Hid X.ok := Lib.hid (by rw [← hX]; exact clr_ok x)
    have HOY : Hid Y.ok := Lib.hid (by rw [← hY]; exact clr_ok y)
    rw [hX] at hx
    rw [hY] at hy
    clear hX hY
    have HX := Lib.hid hx
    have HY := Lib.hid hy
    have HB := Lib.hid hb
    unfold Hd.vs at hx hy
    have p1 := fun i => cell_of_row _ _ i _ _ _ hx
    have p2 := fun i => cell_of_row _ _ i _ _ _ hy
    clear hx hy hb
    have HD := Lib.hid (fun W => diff_calls X Y W)
    have HD2 := Lib.hid (fun W => diff_calls Y X W)
    have HA := Lib.hid (fun V W => apply_calls X (diffR X Y) V W)
    have EQ := eq_hd Y Y
    rw [decide_eq_true rfl] at EQ
    have GQ := fun x y => guard_hd x y Y Y
    rw [appR_diff X Y HOX.out HOY.out, ← diffR_kv, diffR_len] at HA
    simp only [Hd.v, Hd.vs] at HD HD2 HA EQ GQ
    go_wp2_with fail
    refine (HD.out _).mono ?_
    rintro e w1 ⟨V, rfl, hrow, hb⟩
    have har := Kt.Ar.of_sl (Kt.Sl.of_own hrow)
    have hN : (lack Y (codesL X 256)).length + (lack X (codesL Y 256)).length = sumTo X Y 4 := by rw [sumTo_four, diffR_len]
    have hN2 : (lack X (codesL Y 256)).length + (lack Y (codesL X 256)).length = sumTo X Y 4 := by rw [sumTo_symm, sumTo_four, diffR_len]
    have hle := sumTo_le X Y 4
    obtain ⟨N, hNN⟩ : ∃ N, sumTo X Y 4 = N := ⟨_, rfl⟩
    have HN := Lib.hid hNN
    rw [hNN] at hN hN2 hle
    clear hNN
    rw [hN] at har HA
    rw [hN2] at HD2
    generalize evs false (lack Y (codesL X 256)) ++ evs true (lack X (codesL Y 256)) = L1 at *
    clear hrow hN hN2
    obtain ⟨A, c, hVe, _⟩ := har.form
    have HA2 := Lib.hid (HA.out V w1 har (by omega))
    clear HA har HD
    subst hVe
    have HX1 := Lib.hid (Kt.row_on hb HX.out)
    have HY1 := Lib.hid (Kt.row_on hb HY.out)
    have HB1 := Lib.hid (Kt.bthen HB.out hb)
    clear hb HX HY HB p1 p2
    have hx := HX1.out
    have hy := HY1.out
    unfold Hd.vs at hx hy
    have p1 := fun i => cell_of_row _ _ i _ _ _ hx
    have p2 := fun i => cell_of_row _ _ i _ _ _ hy
    clear hx hy
    go_wp2_with fail
    refine HA2.out.mono ?_
    rintro e w2 ⟨rfl, hb⟩
    clear HA2
    have HX2 := Lib.hid (Kt.row_on hb HX1.out)
    have HY2 := Lib.hid (Kt.row_on hb HY1.out)
    have HB2 := Lib.hid (Kt.bthen HB1.out hb)
    clear hb HX1 HY1 HB1 p1 p2
    go_wp2_with fail
    have HX3 := Lib.hid (Kt.row_on (Kt.balloc (Below.refl _ w2) (.cells #[.int .u64 (Y.a.toNat : Int), .int .u64 (Y.b.toNat : Int), .int .u64 (Y.c.toNat : Int), .int .u64 (Y.d.toNat : Int)] 27)) HX2.out)
    have HY3 := Lib.hid (Kt.row_on (Kt.balloc (Below.refl _ w2) (.cells #[.int .u64 (Y.a.toNat : Int), .int .u64 (Y.b.toNat : Int), .int .u64 (Y.c.toNat : Int), .int .u64 (Y.d.toNat : Int)] 27)) HY2.out)
    have HE3 := Lib.hid (heap_alloc_new w2 (.cells #[.int .u64 (Y.a.toNat : Int), .int .u64 (Y.b.toNat : Int), .int .u64 (Y.c.toNat : Int), .int .u64 (Y.d.toNat : Int)] 27))
    have HB3 := Lib.hid (Kt.balloc HB2.out (.cells #[.int .u64 (Y.a.toNat : Int), .int .u64 (Y.b.toNat : Int), .int .u64 (Y.c.toNat : Int), .int .u64 (Y.d.toNat : Int)] 27))
    clear HX2 HY2 HB2
    generalize w2.heap.size = E at *
    generalize w2.alloc (.cells #[.int .u64 (Y.a.toNat : Int), .int .u64 (Y.b.toNat : Int), .int .u64 (Y.c.toNat : Int), .int .u64 (Y.d.toNat : Int)] 27) = w3 at *
    go_loopw [31, 8] (fun i n wr => ∃ (k : Nat), k ≤ 4 ∧ i = .int .i64 k ∧ n = .int .i64 (sumTo X Y k : Nat) ∧ Hid (wr.heap[w.heap.size]? = some (.cells X.vs 27 (0, 0))) ∧ Hid (wr.heap[w.heap.size + 1]? = some (.cells Y.vs 27 (0, 0))) ∧ Hid (wr.heap[E]? = some (.cells #[.int .u64 (Y.a.toNat : Int), .int .u64 (Y.b.toNat : Int), .int .u64 (Y.c.toNat : Int), .int .u64 (Y.d.toNat : Int)] 27 (0, 0))) ∧ Hid (Below w.heap.size w wr)) (fun i _ _ => 4 - (intOf i).toNat)
    case atStart => exact ⟨0, Nat.zero_le _, rfl, rfl, HX3, HY3, HE3, HB3⟩
    case round =>
      clear HX3 HY3 HE3 HB3
      obtain ⟨k, hk, rfl, rfl, HX3, HY3, HE3, HB3⟩ := hrel
      by_cases hlt : k < 4
      · have hsl := sumTo_le X Y k
        have HSS : Hid (sumTo X Y (k + 1) = sumTo X Y k + pop ((X.at k).toNat ^^^ (Y.at k).toNat)) := Lib.hid rfl
        have hpl := pop_le ((X.at k).toNat ^^^ (Y.at k).toNat)
        have c1 : wr.cell? ⟨w.heap.size, k, none⟩ = some (.int .u64 ((X.at k).toNat : Int)) := by
          rw [cell_of_row _ _ _ _ _ _ HX3.out, ← Array.getElem?_toList]; exact X.cell k hlt
        have c2 : wr.cell? ⟨w.heap.size + 1, k, none⟩ = some (.int .u64 ((Y.at k).toNat : Int)) := by
          rw [cell_of_row _ _ _ _ _ _ HY3.out, ← Array.getElem?_toList]; exact Y.cell k hlt
        have hxor : bits BinOp.xor IntKind.u64 ((X.at k).toNat : Int) ((Y.at k).toNat : Int) = (((X.at k).toNat ^^^ (Y.at k).toNat : Nat) : Int) := u64_xor_nat _ _ (X.at k).toNat_lt (Y.at k).toNat_lt
        have HO := Lib.hid (fun W => ones_calls _ _ hxor (Nat.xor_lt_two_pow (n := 64) (X.at k).toNat_lt (Y.at k).toNat_lt) W)
        clear hxor
        generalize pop ((X.at k).toNat ^^^ (Y.at k).toNat) = P at *
        generalize sumTo X Y k = S at *
        generalize (X.at k).toNat = xk at *
        generalize (Y.at k).toNat = yk at *
        have k0 : (0 : Int) ≤ k := by omega
        have k4 : (k : Int) < 4 := by omega
        have HK := Lib.hid (And.intro hlt (And.intro hsl hpl))
        clear hk hlt hsl hpl
        go_upto_region 8 with (fail)
        have HF : wr.drew.cell? ⟨w.heap.size, k, none⟩ = some (.int .u64 (xk : Int)) ∧ wr.drew.cell? ⟨w.heap.size + 1, k, none⟩ = some (.int .u64 (yk : Int)) := ⟨c1, c2⟩
        refine Kt.G.start 12 (fun W => W.cell? ⟨w.heap.size, k, none⟩ = some (.int .u64 (xk : Int)) ∧ W.cell? ⟨w.heap.size + 1, k, none⟩ = some (.int .u64 (yk : Int))) (by kernel_rfl) HF (fun hHeld => ?_)
        refine Kt.G.takeP 0 { dst := some 34, op := Op.move (Operand.tmp 8), type := 3, pos := "keys.go:40", after := #[], guard := none } ?_ (fun _ => hHeld) rfl (by kernel_rfl) (fun _ _ _ h => h) (by rfl) ?_ ?_
        rotate_left
        · intro w; go_simp; try with_reducible rfl
        try simp only [Act.put, List.setIfInBounds_toArray, List.set_cons_zero, List.set_cons_succ]
        refine Kt.G.takeP 1 { dst := some 35, op := Op.move (Operand.tmp 9), type := 3, pos := "keys.go:40", after := #[], guard := none } ?_ (fun _ => hHeld) rfl (by kernel_rfl) (fun _ _ _ h => h) (by rfl) ?_ ?_
        rotate_left
        · intro w; go_simp; try with_reducible rfl
        try simp only [Act.put, List.setIfInBounds_toArray, List.set_cons_zero, List.set_cons_succ]
        refine Kt.G.takeP 2 { dst := some 36, op := Op.fieldAddr 27 (Operand.tmp 2) 0, type := 0, pos := "keys.go:40", after := #[], guard := none } ?_ (fun _ => hHeld) rfl (by kernel_rfl) (fun _ _ _ h => h) (by rfl) ?_ ?_
        rotate_left
        · intro w; go_simp; try with_reducible rfl
        try simp only [Act.put, List.setIfInBounds_toArray, List.set_cons_zero, List.set_cons_succ]
        refine Kt.G.takeP 3 { dst := some 37, op := Op.indexAddr 25 (Operand.tmp 36) (Operand.tmp 35), type := 0, pos := "keys.go:40", after := #[{ on := 2, ground := Ground.data }, { on := 1, ground := Ground.data }], guard := none } ?_ (fun _ => hHeld) rfl (by kernel_rfl) (fun _ _ _ h => h) (by rfl) ?_ ?_
        rotate_left
        · intro w; go_simp; try with_reducible rfl
        try simp only [Act.put, List.setIfInBounds_toArray, List.set_cons_zero, List.set_cons_succ]
        refine Kt.G.take 4 { dst := some 38, op := Op.load 24 (Operand.tmp 37), type := 24, pos := "keys.go:40", after := #[{ on := 3, ground := Ground.data }], guard := none } ?_ hHeld rfl (by kernel_rfl) (fun _ _ _ h => h) (by rfl) ?_ ?_
        rotate_left
        · intro w hSw; obtain ⟨q1, q2⟩ := hSw; go_simp; try with_reducible rfl
        try simp only [Act.put, List.setIfInBounds_toArray, List.set_cons_zero, List.set_cons_succ]
        refine Kt.G.takeP 5 { dst := some 39, op := Op.move (Operand.tmp 9), type := 3, pos := "keys.go:40", after := #[], guard := none } ?_ (fun _ => hHeld) rfl (by kernel_rfl) (fun _ _ _ h => h) (by rfl) ?_ ?_
        rotate_left
        · intro w; go_simp; try with_reducible rfl
        try simp only [Act.put, List.setIfInBounds_toArray, List.set_cons_zero, List.set_cons_succ]
        refine Kt.G.takeP 6 { dst := some 40, op := Op.fieldAddr 27 (Operand.tmp 3) 0, type := 0, pos := "keys.go:40", after := #[], guard := none } ?_ (fun _ => hHeld) rfl (by kernel_rfl) (fun _ _ _ h => h) (by rfl) ?_ ?_
        rotate_left
        · intro w; go_simp; try with_reducible rfl
        try simp only [Act.put, List.setIfInBounds_toArray, List.set_cons_zero, List.set_cons_succ]
        refine Kt.G.takeP 7 { dst := some 41, op := Op.indexAddr 25 (Operand.tmp 40) (Operand.tmp 39), type := 0, pos := "keys.go:40", after := #[{ on := 6, ground := Ground.data }, { on := 5, ground := Ground.data }], guard := none } ?_ (fun _ => hHeld) rfl (by kernel_rfl) (fun _ _ _ h => h) (by rfl) ?_ ?_
        rotate_left
        · intro w; go_simp; try with_reducible rfl
        try simp only [Act.put, List.setIfInBounds_toArray, List.set_cons_zero, List.set_cons_succ]
        refine Kt.G.take 8 { dst := some 42, op := Op.load 24 (Operand.tmp 41), type := 24, pos := "keys.go:40", after := #[{ on := 7, ground := Ground.data }], guard := none } ?_ hHeld rfl (by kernel_rfl) (fun _ _ _ h => h) (by rfl) ?_ ?_
        rotate_left
        · intro w hSw; obtain ⟨q1, q2⟩ := hSw; go_simp; try with_reducible rfl
        try simp only [Act.put, List.setIfInBounds_toArray, List.set_cons_zero, List.set_cons_succ]
        refine Kt.G.takeP 9 { dst := some 43, op := Op.binOp BinOp.xor 24 (Operand.tmp 38) (Operand.tmp 42) 24, type := 24, pos := "keys.go:40", after := #[{ on := 4, ground := Ground.data }, { on := 8, ground := Ground.data }], guard := none } ?_ (fun _ => hHeld) rfl (by kernel_rfl) (fun _ _ _ h => h) (by rfl) ?_ ?_
        rotate_left
        · intro w; go_simp; try with_reducible rfl
        try simp only [Act.put, List.setIfInBounds_toArray, List.set_cons_zero, List.set_cons_succ]
        refine Kt.G.one 10 { dst := some 44, op := Op.call { callee := Callee.value (Operand.func 12), args := #[Operand.tmp 43], argTypes := #[24] }, type := 3, pos := "keys.go:40", after := #[{ on := 9, ground := Ground.data }], guard := none } rfl (by kernel_rfl) (by rfl) (fun K hK => ?_)
        go_simp
        refine (HO.out _).mono ?_; rintro en w2 ⟨rfl, rfl⟩
        refine hK.out _ _ (fun _ => hHeld) (fun hHeld => ?_)
        have hHeld := hHeld rfl
        clear hK K
        try simp only [Act.put, List.setIfInBounds_toArray, List.set_cons_zero, List.set_cons_succ]
        refine Kt.G.takeP 11 { dst := some 45, op := Op.binOp BinOp.add 3 (Operand.tmp 34) (Operand.tmp 44) 3, type := 3, pos := "keys.go:40", after := #[{ on := 0, ground := Ground.data }, { on := 10, ground := Ground.data }], guard := none } ?_ (fun _ => hHeld) rfl (by kernel_rfl) (fun _ _ _ h => h) (by rfl) ?_ ?_
        rotate_left
        · intro w; go_simp; try with_reducible rfl
        try simp only [Act.put, List.setIfInBounds_toArray, List.set_cons_zero, List.set_cons_succ]
        refine Kt.G.one 12 { dst := some 8, op := Op.assign (Operand.tmp 45), type := 3, pos := "keys.go:40", after := #[{ on := 11, ground := Ground.data }, { on := 10, ground := Ground.chain }, { on := 0, ground := Ground.phase }, { on := 1, ground := Ground.phase }, { on := 2, ground := Ground.phase }, { on := 3, ground := Ground.phase }, { on := 4, ground := Ground.phase }, { on := 5, ground := Ground.phase }, { on := 6, ground := Ground.phase }, { on := 7, ground := Ground.phase }, { on := 8, ground := Ground.phase }, { on := 9, ground := Ground.phase }, { on := 10, ground := Ground.phase }, { on := 11, ground := Ground.phase }], guard := none } rfl (by kernel_rfl) (by rfl) (fun K hK => ?_)
        go_simp
        refine hK.out _ _ (Kt.G.late (by kernel_rfl)) (fun _ => ?_)
        clear hK K
        try simp only [Act.put, List.setIfInBounds_toArray, List.set_cons_zero, List.set_cons_succ]
        refine Kt.G.done (by kernel_rfl) (NoPanic.normal ?_) _
        clear hHeld HF c1 c2
        have HX4 : Hid (wr.drew.heap[w.heap.size]? = some (.cells X.vs 27 (0, 0))) := HX3
        have HY4 : Hid (wr.drew.heap[w.heap.size + 1]? = some (.cells Y.vs 27 (0, 0))) := HY3
        have HE4 : Hid (wr.drew.heap[E]? = some (.cells #[.int .u64 (Y.a.toNat : Int), .int .u64 (Y.b.toNat : Int), .int .u64 (Y.c.toNat : Int), .int .u64 (Y.d.toNat : Int)] 27 (0, 0))) := HE3
        have HB4 := Lib.hid HB3.out.drew
        clear HX3 HY3 HE3 HB3
        generalize wr.drew = w4 at *
        have hK := HK.out
        go_wp2_with fail
        go_roundw
        case rel => exact ⟨k + 1, by omega, by go_num, by rw [HSS.out]; rw [IntWalk.i64_in ((S : Int) + (P : Int)) (by omega), Int.natCast_add], HX4, HY4, HE4, HB4⟩
        case measure => (simp [intOf] <;> omega)
      · obtain rfl : k = 4 := by omega
        rw [HN.out]
        have hx := HX3.out
        have hy := HY3.out
        unfold Hd.vs at hx hy
        have p1 := fun i => cell_of_row _ _ i _ _ _ hx
        have p2 := fun i => cell_of_row _ _ i _ _ _ hy
        have p3 := fun i => cell_of_row _ _ i _ _ _ HE3.out
        clear hx hy hlt hk
        go_wp2_with fail
        refine (lives_calls _).mono ?_
        rintro e w5 ⟨rfl, hb⟩
        have HX5 := Lib.hid (Kt.row_on hb HX3.out)
        have HY5 := Lib.hid (Kt.row_on hb HY3.out)
        have HE5 := Lib.hid (Kt.row_on hb HE3.out)
        have HB5 := Lib.hid (Kt.bthen HB3.out hb)
        clear hb HX3 HY3 HE3 HB3 p1 p2 p3
        have hx := HX5.out
        have hy := HY5.out
        unfold Hd.vs at hx hy
        have p1 := fun i => cell_of_row _ _ i _ _ _ hx
        have p2 := fun i => cell_of_row _ _ i _ _ _ hy
        have p3 := fun i => cell_of_row _ _ i _ _ _ HE5.out
        clear hx hy
        go_wp2_with fail
        refine (HD2.out _).mono ?_
        rintro e w6 ⟨V2, rfl, hrow, hb⟩
        obtain ⟨A2, c2, hVe, _⟩ := (Kt.Ar.of_sl (Kt.Sl.of_own hrow)).form
        subst hVe
        have HB6 := Lib.hid (Kt.bthen HB5.out hb)
        clear hrow hb p1 p2 p3
        go_wp2_with fail
        go_ret
        exact ⟨rfl, HB6.out⟩
theorem hd_of {w : World} {B : Nat} {v : Value} (r : Fr.RdV w B hdTy v) : ∃ h : Hd, v = h.v := by
  obtain ⟨cs, rfl, hc⟩ := r
  obtain ⟨h1, h2, h3⟩ := hc
  obtain ⟨hl, hr⟩ := h2
  have h3 : cs.toList.drop 4 = [] := h3
  have hlen : cs.toList.length = 4 := by
    have := congrArg List.length h3
    rw [List.length_drop] at this
    simp at this
    have h1' : 4 ≤ cs.toList.length := h1
    simp at h1' ⊢
    omega
  have hg : ∀ i, i < 4 → ∃ u : UInt64, cs.toList[i]? = some (.int .u64 (u.toNat : Int)) := by
    intro i hi
    obtain ⟨n, h, hw⟩ := hr i hi
    have hz : (cs.toList.take 4).drop (i * 1) = (cs.toList.drop i).take (4 - i) := by
      rw [Nat.mul_one, List.drop_take]
    rw [hz, List.take_take] at h
    have h0 := congrArg (fun l => l[0]?) h
    simp only [List.getElem?_take, List.getElem?_drop, List.getElem?_cons_zero] at h0
    rw [if_pos (by omega), Nat.add_zero] at h0
    have hw2 : 0 ≤ n ∧ n < 18446744073709551616 := by
      simp [Lit.wf, IntKind.min, IntKind.max, IntKind.signed, IntKind.bits] at hw
      omega
    refine ⟨UInt64.ofNat n.toNat, ?_⟩
    rw [h0, UInt64.toNat_ofNat', Nat.mod_eq_of_lt (by omega)]
    congr 2
    omega
  obtain ⟨a, ha⟩ := hg 0 (by omega)
  obtain ⟨b, hb⟩ := hg 1 (by omega)
  obtain ⟨c, hc⟩ := hg 2 (by omega)
  obtain ⟨d, hd⟩ := hg 3 (by omega)
  refine ⟨⟨a, b, c, d⟩, ?_⟩
  have : cs.toList = [.int .u64 (a.toNat : Int), .int .u64 (b.toNat : Int), .int .u64 (c.toNat : Int), .int .u64 (d.toNat : Int)] := by
    match h : cs.toList, hlen with
    | [x0, x1, x2, x3], _ =>
      rw [h] at ha hb hc hd
      simp at ha hb hc hd
      rw [ha, hb, hc, hd]
  show Value.agg cs = Value.agg _
  congr 1
  rw [← Array.toList_inj, this]; rfl
theorem replay_walk (v0 v1 : Value) (w : World) (r0 : Fr.RdV w reachBytes hdTy v0) (r1 : Fr.RdV w reachBytes hdTy v1) :
    Calls Try.prog 4 #[v0, v1] w fun e w' => e = .returned (.bool true) ∧ Below w.heap.size w w' := by
  obtain ⟨x, rfl⟩ := hd_of r0
  obtain ⟨y, rfl⟩ := hd_of r1
  exact replay_calls x y w
end Go.Proofs.Ytfcmmeapinppaaa
