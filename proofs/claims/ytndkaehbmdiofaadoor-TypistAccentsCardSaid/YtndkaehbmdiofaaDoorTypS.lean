/- typist: stroke walked. -/
import Derived.Test.YtndkaehbmdiofaaDoorTypA
namespace Go.Proofs.YtndkaehbmdiofaaDoor
open Go.RowKit Go.Proofs.YtndkaehbmdiofaaDoor.Typ
theorem Mx.held {g : Nat} {t : St} {w : World} (h : Mx g t w) (R : Hd) : Mx g { t with held := R } ((((w.setCell ⟨g, 0, none⟩ (.int .u64 (R.a.toNat : Int))).setCell ⟨g, 1, none⟩ (.int .u64 (R.b.toNat : Int))).setCell ⟨g, 2, none⟩ (.int .u64 (R.c.toNat : Int))).setCell ⟨g, 3, none⟩ (.int .u64 (R.d.toNat : Int))) :=
  heap_setCell_same _ _ _ _ _ _ (heap_setCell_same _ _ _ _ _ _ (heap_setCell_same _ _ _ _ _ _ (heap_setCell_same _ _ _ _ _ _ h)))
/-- what holds of a machine between its ticks -/
structure TkT (t : St) : Prop where
  sz : t.text.size ≤ 4096
  dd : t.dead = 0 ∨ t.dead = 1 ∨ t.dead = 2
  lw : t.last = 0 ∨ (prints t.last = true ∧ 1 ≤ t.wait ∧ t.wait ≤ 20)
set_option maxRecDepth 100000 in
set_option maxHeartbeats 3200000 in
theorem stroke_key (t : St) (c n : Int) (d : Bool) (g : Nat) (w0 : World) (h : Mx g t w0) (hk : TkT t) (hT : Tb g w0) :
    Calls Tryd.prog 20 #[.pointer (some ⟨g, 0, none⟩), .agg #[.int .i64 1, .int .i64 c, .bool d, .int .i64 n]] w0 fun e w' => e = .returned (.int .i64 (strokeP t ⟨1, c, d, n⟩).2) ∧ Mx g (strokeP t ⟨1, c, d, n⟩).1 w' ∧ Upd g w0 w' := by
  obtain ⟨R1, R2, hR⟩ : ∃ a b, app1 t.held c d = (a, b) := ⟨_, _, rfl⟩
  have HAP := Lib.hid hR
  obtain ⟨T, E, hTE⟩ : ∃ T E, strokeP t ⟨1, c, d, n⟩ = (T, E) := ⟨_, _, rfl⟩
  have HP : Hid ((T, E) = if R2 ≠ 0 then (t, R2) else if d = true then (downP { t with held := R1 } c, 0) else if c = t.last then ({ t with held := R1, last := 0, wait := 0 }, 0) else ({ t with held := R1 }, 0)) := Lib.hid (by rw [← hTE]; unfold strokeP; rw [if_pos rfl]; dsimp only; rw [hR])
  rw [hTE]
  have HKT := Lib.hid hk
  have HT := Lib.hid hT
  have HLT := Lib.hid (Mx.lt h)
  have HS0 := Lib.hid (Kt.row_on (Kt.balloc (Below.refl _ w0) (.cells #[.int .i64 1, .int .i64 c, .bool d, .int .i64 n] 31)) h)
  have HN0 := Lib.hid (heap_alloc_new w0 (.cells #[.int .i64 1, .int .i64 c, .bool d, .int .i64 n] 31))
  have HB0 := Lib.hid (Kt.balloc (Below.refl _ w0) (.cells #[.int .i64 1, .int .i64 c, .bool d, .int .i64 n] 31))
  clear h hk hT hR hTE
  go_enter Tryd.func20, Tryd.ntmps20
  go_upto_region 10 with (fail)
  refine Kt.fold (fun X => Hid ((X.heap[g]? = some (.cells t.cs 55 (0, 0)) ∧ X.heap[w0.heap.size]? = some (.cells #[.int .i64 1, .int .i64 c, .bool d, .int .i64 n] 31 (0, 0))) ∧ Below w0.heap.size w0 X)) (Lib.hid ⟨⟨HS0.out, HN0.out⟩, HB0.out⟩) (fun W1 HW1 => ?_)
  clear HS0 HN0 HB0
  have HS1 := Lib.hid HW1.out.1
  have HB1 := Lib.hid HW1.out.2
  have HLT1 := Lib.hid (lt_of_row0 HW1.out.1.2)
  clear HW1
  unfold St.cs at HS1
  go_cut [5, 6] from 48 to 59 (fun p e wx => ∃ kH, p = .pointer (some ⟨kH, 0, none⟩) ∧ e = .int .i64 R2 ∧ wx.heap[kH]? = some (.cells R1.vs 35 (0, 0)) ∧ w0.heap.size < kH ∧ Below W1.heap.size W1 wx)
  case first =>
    have HLT := HLT1
    -- REGION 10
    have HF := ((Kt.Fb.nil W1 (Below.refl _ _)).add HS1.out.2).add HS1.out.1
    refine Kt.G.start 13 (Kt.Fb W1 [(g, #[.int .u64 (t.held.a.toNat : Int), .int .u64 (t.held.b.toNat : Int), .int .u64 (t.held.c.toNat : Int), .int .u64 (t.held.d.toNat : Int), .bool t.caps, .int .i64 t.dead, .int .i64 t.last, .int .i64 t.wait, .string t.text], 55), (w0.heap.size, #[.int .i64 1, .int .i64 c, .bool d, .int .i64 n], 31)]) (by kernel_rfl) HF.drew (fun hHeld => ?_)
    clear HF
    generalize W1.drew = x0 at *
    refine Kt.G.takeP 0 { dst := some 49, op := Op.move (Operand.tmp 0), type := 53, pos := "typist.go:134", after := #[], guard := none } ?_ (fun _ => hHeld) rfl (by kernel_rfl) (fun _ _ _ h => h) (by rfl) ?_ ?_
    rotate_left
    · intro w; go_simp; try with_reducible rfl
    try simp only [Act.put, List.setIfInBounds_toArray, List.set_cons_zero, List.set_cons_succ]
    refine Kt.G.takeP 1 { dst := some 50, op := Op.nilCheck (Operand.tmp 49), type := 0, pos := "typist.go:134", after := #[{ on := 0, ground := Ground.data }], guard := none } ?_ (fun _ => hHeld) rfl (by kernel_rfl) (fun _ _ _ h => h) (by rfl) ?_ ?_
    rotate_left
    · intro w; go_simp; try with_reducible rfl
    try simp only [Act.put, List.setIfInBounds_toArray, List.set_cons_zero, List.set_cons_succ]
    refine Kt.G.takeP 2 { dst := some 51, op := Op.fieldAddr 55 (Operand.tmp 50) 0, type := 0, pos := "typist.go:134", after := #[{ on := 1, ground := Ground.data }], guard := none } ?_ (fun _ => hHeld) rfl (by kernel_rfl) (fun _ _ _ h => h) (by rfl) ?_ ?_
    rotate_left
    · intro w; go_simp; try with_reducible rfl
    try simp only [Act.put, List.setIfInBounds_toArray, List.set_cons_zero, List.set_cons_succ]
    refine Kt.G.takeP 3 { dst := some 52, op := Op.fieldAddr 37 (Operand.tmp 51) 0, type := 0, pos := "typist.go:134", after := #[{ on := 2, ground := Ground.data }], guard := none } ?_ (fun _ => hHeld) rfl (by kernel_rfl) (fun _ _ _ h => h) (by rfl) ?_ ?_
    rotate_left
    · intro w; go_simp; try with_reducible rfl
    try simp only [Act.put, List.setIfInBounds_toArray, List.set_cons_zero, List.set_cons_succ]
    refine Kt.G.take 4 { dst := some 53, op := Op.load 35 (Operand.tmp 52), type := 35, pos := "typist.go:134", after := #[{ on := 3, ground := Ground.data }], guard := none } ?_ hHeld rfl (by kernel_rfl) (fun _ _ _ h => h) (by rfl) ?_ ?_
    rotate_left
    · intro w hSw; have r0 := hSw.row (g, #[.int .u64 (t.held.a.toNat : Int), .int .u64 (t.held.b.toNat : Int), .int .u64 (t.held.c.toNat : Int), .int .u64 (t.held.d.toNat : Int), .bool t.caps, .int .i64 t.dead, .int .i64 t.last, .int .i64 t.wait, .string t.text], 55) (by simp); have c0 := fun i => cell_of_row _ _ i _ _ _ r0; have r1 := hSw.row (w0.heap.size, #[.int .i64 1, .int .i64 c, .bool d, .int .i64 n], 31) (by simp); have c1 := fun i => cell_of_row _ _ i _ _ _ r1; dsimp only at *; go_simp; try with_reducible rfl
    try simp only [Act.put, List.setIfInBounds_toArray, List.set_cons_zero, List.set_cons_succ]
    refine Kt.G.takeP 5 { dst := some 54, op := Op.fieldAddr 31 (Operand.tmp 3) 1, type := 0, pos := "typist.go:134", after := #[], guard := none } ?_ (fun _ => hHeld) rfl (by kernel_rfl) (fun _ _ _ h => h) (by rfl) ?_ ?_
    rotate_left
    · intro w; go_simp; try with_reducible rfl
    try simp only [Act.put, List.setIfInBounds_toArray, List.set_cons_zero, List.set_cons_succ]
    refine Kt.G.take 6 { dst := some 55, op := Op.load 29 (Operand.tmp 54), type := 29, pos := "typist.go:134", after := #[{ on := 5, ground := Ground.data }], guard := none } ?_ hHeld rfl (by kernel_rfl) (fun _ _ _ h => h) (by rfl) ?_ ?_
    rotate_left
    · intro w hSw; have r0 := hSw.row (g, #[.int .u64 (t.held.a.toNat : Int), .int .u64 (t.held.b.toNat : Int), .int .u64 (t.held.c.toNat : Int), .int .u64 (t.held.d.toNat : Int), .bool t.caps, .int .i64 t.dead, .int .i64 t.last, .int .i64 t.wait, .string t.text], 55) (by simp); have c0 := fun i => cell_of_row _ _ i _ _ _ r0; have r1 := hSw.row (w0.heap.size, #[.int .i64 1, .int .i64 c, .bool d, .int .i64 n], 31) (by simp); have c1 := fun i => cell_of_row _ _ i _ _ _ r1; dsimp only at *; go_simp; try with_reducible rfl
    try simp only [Act.put, List.setIfInBounds_toArray, List.set_cons_zero, List.set_cons_succ]
    refine Kt.G.two 7 12 { dst := some 56, op := Op.buildSlice 71 1 #[(0, Operand.tmp 55)], type := 71, pos := "typist.go:134", after := #[{ on := 6, ground := Ground.data }], guard := none } { dst := some 5, op := Op.alloc 35, type := 0, pos := "typist.go:134", after := #[], guard := none } rfl rfl (by kernel_rfl) (by rfl) (by rfl) (fun K hK => ?_) (fun K hK => ?_)
    · try (have rK0 := rK)
      try (have hbb := Kt.balloc (Below.refl x0.heap.size x0) (.cells #[.int .i64 c, .bool d] 29))
      try (replace rK := Kt.row_on hbb rK0)
      try clear rK0
      try clear hbb
      have hz7 := hHeld.bel.size
      go_simp
      refine hK.out _ _ (fun _ => hHeld.alloc _) (fun hHeld => ?_)
      have hHeld := hHeld rfl
      clear hK K
      try simp only [Act.put, List.setIfInBounds_toArray, List.set_cons_zero, List.set_cons_succ]
      have hHeld := hHeld.add (heap_alloc_new x0 (.cells #[.int .i64 c, .bool d] 29))
      generalize hK7 : x0.heap.size = K7 at *
      clear hK7
      generalize x0.alloc (.cells #[.int .i64 c, .bool d] 29) = y7 at *
      refine Kt.G.more (F' := Kt.Fb W1 ((K7, #[.int .i64 c, .bool d], 29) :: [(g, #[.int .u64 (t.held.a.toNat : Int), .int .u64 (t.held.b.toNat : Int), .int .u64 (t.held.c.toNat : Int), .int .u64 (t.held.d.toNat : Int), .bool t.caps, .int .i64 t.dead, .int .i64 t.last, .int .i64 t.wait, .string t.text], 55), (w0.heap.size, #[.int .i64 1, .int .i64 c, .bool d, .int .i64 n], 31)])) (fun _ h => Kt.Fb.less h) _ _ _ _ ?_
      refine Kt.G.two 8 12 { dst := some 57, op := Op.call { callee := Callee.value (Operand.func 28), args := #[Operand.tmp 53, Operand.tmp 56], argTypes := #[35, 71] }, type := 69, pos := "typist.go:134", after := #[{ on := 4, ground := Ground.data }, { on := 7, ground := Ground.data }], guard := none } { dst := some 5, op := Op.alloc 35, type := 0, pos := "typist.go:134", after := #[], guard := none } rfl rfl (by kernel_rfl) (by rfl) (by rfl) (fun K hK => ?_) (fun K hK => ?_)
      · have rk7 := hHeld.row (K7, #[.int .i64 c, .bool d], 29) (by simp)
        go_simp
        refine (apply1_calls t.held c d K7 _ rk7).mono ?_; rw [HAP.out]; rintro en x8 ⟨rfl, hb8⟩
        unfold Hd.v Hd.vs
        refine hK.out _ _ (fun _ => hHeld.on hb8) (fun hHeld => ?_)
        have hHeld := hHeld rfl
        clear hK K
        try simp only
        try (replace rK := Kt.row_on hb8 rK)
        clear hb8 rk7
        refine Kt.G.takeP 9 { dst := some 48, op := Op.move (Operand.tmp 57), type := 69, pos := "typist.go:134", after := #[{ on := 8, ground := Ground.data }], guard := none } ?_ (fun _ => hHeld) rfl (by kernel_rfl) (fun _ _ _ h => h) (by rfl) ?_ ?_
        rotate_left
        · intro w; go_simp; try with_reducible rfl
        try simp only [Act.put, List.setIfInBounds_toArray, List.set_cons_zero, List.set_cons_succ]
        refine Kt.G.takeP 10 { dst := some 58, op := Op.extract (Operand.tmp 48) 0, type := 35, pos := "typist.go:134", after := #[{ on := 9, ground := Ground.data }], guard := none } ?_ (fun _ => hHeld) rfl (by kernel_rfl) (fun _ _ _ h => h) (by rfl) ?_ ?_
        rotate_left
        · intro w; go_simp; try with_reducible rfl
        try simp only [Act.put, List.setIfInBounds_toArray, List.set_cons_zero, List.set_cons_succ]
        refine Kt.G.takeP 11 { dst := some 59, op := Op.extract (Operand.tmp 48) 1, type := 38, pos := "typist.go:134", after := #[{ on := 9, ground := Ground.data }, { on := 13, ground := Ground.gcOnly Departure.lateStores }], guard := none } ?_ (fun _ => hHeld) rfl (by kernel_rfl) (fun _ _ _ h => h) (by rfl) ?_ ?_
        rotate_left
        · intro w; go_simp; try with_reducible rfl
        try simp only [Act.put, List.setIfInBounds_toArray, List.set_cons_zero, List.set_cons_succ]
        refine Kt.G.one 12 { dst := some 5, op := Op.alloc 35, type := 0, pos := "typist.go:134", after := #[], guard := none } rfl (by kernel_rfl) (by rfl) (fun K hK => ?_)
        have hk0 : W1.heap.size ≤ x8.heap.size := hHeld.bel.size
        go_simp
        refine hK.out _ _ (fun _ => hHeld.alloc _) (fun hHeld => ?_)
        have hHeld := hHeld rfl
        clear hK K
        try simp only [Act.put, List.setIfInBounds_toArray, List.set_cons_zero, List.set_cons_succ]
        have rK := heap_alloc_new x8 (.cells #[.int .u64 0, .int .u64 0, .int .u64 0, .int .u64 0] 35)
        generalize hkH : x8.heap.size = kH at *
        clear hkH
        generalize x8.alloc (.cells #[.int .u64 0, .int .u64 0, .int .u64 0, .int .u64 0] 35) = xk at *
        refine Kt.G.one 13 { dst := none, op := Op.store 35 (Operand.tmp 5) (Operand.tmp 58), type := 0, pos := "typist.go:134", after := #[{ on := 12, ground := Ground.data }, { on := 10, ground := Ground.data }, { on := 8, ground := Ground.chain }, { on := 0, ground := Ground.phase }, { on := 1, ground := Ground.phase }, { on := 2, ground := Ground.phase }, { on := 3, ground := Ground.phase }, { on := 4, ground := Ground.phase }, { on := 5, ground := Ground.phase }, { on := 6, ground := Ground.phase }, { on := 7, ground := Ground.phase }, { on := 8, ground := Ground.phase }, { on := 9, ground := Ground.phase }, { on := 10, ground := Ground.phase }, { on := 11, ground := Ground.textOnly Departure.lateStores }, { on := 12, ground := Ground.phase }], guard := none } rfl (by kernel_rfl) (by rfl) (fun K hK => ?_)
        have cK := fun i => cell_of_row _ _ i _ _ _ rK; have fK := fun i => frozen_of_row _ _ i _ _ rK
        go_simp
        refine hK.out _ _ (Kt.G.late (by kernel_rfl)) (fun _ => ?_)
        clear hK K
        try simp only [Act.put, List.setIfInBounds_toArray, List.set_cons_zero, List.set_cons_succ]
        refine Kt.G.takeP 14 { dst := some 6, op := Op.assign (Operand.tmp 59), type := 38, pos := "typist.go:134", after := #[{ on := 11, ground := Ground.data }, { on := 13, ground := Ground.chain }, { on := 0, ground := Ground.phase }, { on := 1, ground := Ground.phase }, { on := 2, ground := Ground.phase }, { on := 3, ground := Ground.phase }, { on := 4, ground := Ground.phase }, { on := 5, ground := Ground.phase }, { on := 6, ground := Ground.phase }, { on := 7, ground := Ground.phase }, { on := 8, ground := Ground.phase }, { on := 9, ground := Ground.phase }, { on := 10, ground := Ground.phase }, { on := 11, ground := Ground.phase }, { on := 12, ground := Ground.phase }, { on := 13, ground := Ground.phase }], guard := none } ?_ (Kt.G.late (by kernel_rfl)) rfl (by kernel_rfl) (fun _ _ _ h => h) (by rfl) ?_ ?_
        rotate_left
        · intro w; go_simp; try with_reducible rfl
        try simp only [Act.put, List.setIfInBounds_toArray, List.set_cons_zero, List.set_cons_succ]
        refine Kt.G.done (by kernel_rfl) (NoPanic.normal ?_) _
        go_wp2_with fail
        go_meet
        case rel =>
          exact ⟨kH, rfl, rfl, Kt.fill [.int .u64 (R1.a.toNat : Int), .int .u64 (R1.b.toNat : Int), .int .u64 (R1.c.toNat : Int), .int .u64 (R1.d.toNat : Int)] rK rfl, Nat.lt_of_lt_of_le HLT.out hk0, set4 hHeld.bel hk0 _ _ _ _⟩
      · have hk0 : W1.heap.size ≤ y7.heap.size := hHeld.bel.size
        go_simp
        refine hK.out _ _ (fun _ => hHeld.alloc _) (fun hHeld => ?_)
        have hHeld := hHeld rfl
        clear hK K
        try simp only [Act.put, List.setIfInBounds_toArray, List.set_cons_zero, List.set_cons_succ]
        have rK := heap_alloc_new y7 (.cells #[.int .u64 0, .int .u64 0, .int .u64 0, .int .u64 0] 35)
        generalize hkH : y7.heap.size = kH at *
        clear hkH
        generalize y7.alloc (.cells #[.int .u64 0, .int .u64 0, .int .u64 0, .int .u64 0] 35) = xk at *
        refine Kt.G.one 8 { dst := some 57, op := Op.call { callee := Callee.value (Operand.func 28), args := #[Operand.tmp 53, Operand.tmp 56], argTypes := #[35, 71] }, type := 69, pos := "typist.go:134", after := #[{ on := 4, ground := Ground.data }, { on := 7, ground := Ground.data }], guard := none } rfl (by kernel_rfl) (by rfl) (fun K hK => ?_)
        have rk7 := hHeld.row (K7, #[.int .i64 c, .bool d], 29) (by simp)
        go_simp
        refine (apply1_calls t.held c d K7 _ rk7).mono ?_; rw [HAP.out]; rintro en x8 ⟨rfl, hb8⟩
        unfold Hd.v Hd.vs
        refine hK.out _ _ (fun _ => hHeld.on hb8) (fun hHeld => ?_)
        have hHeld := hHeld rfl
        clear hK K
        try simp only
        try (replace rK := Kt.row_on hb8 rK)
        clear hb8 rk7
        refine Kt.G.takeP 9 { dst := some 48, op := Op.move (Operand.tmp 57), type := 69, pos := "typist.go:134", after := #[{ on := 8, ground := Ground.data }], guard := none } ?_ (fun _ => hHeld) rfl (by kernel_rfl) (fun _ _ _ h => h) (by rfl) ?_ ?_
        rotate_left
        · intro w; go_simp; try with_reducible rfl
        try simp only [Act.put, List.setIfInBounds_toArray, List.set_cons_zero, List.set_cons_succ]
        refine Kt.G.takeP 10 { dst := some 58, op := Op.extract (Operand.tmp 48) 0, type := 35, pos := "typist.go:134", after := #[{ on := 9, ground := Ground.data }], guard := none } ?_ (fun _ => hHeld) rfl (by kernel_rfl) (fun _ _ _ h => h) (by rfl) ?_ ?_
        rotate_left
        · intro w; go_simp; try with_reducible rfl
        try simp only [Act.put, List.setIfInBounds_toArray, List.set_cons_zero, List.set_cons_succ]
        refine Kt.G.takeP 11 { dst := some 59, op := Op.extract (Operand.tmp 48) 1, type := 38, pos := "typist.go:134", after := #[{ on := 9, ground := Ground.data }, { on := 13, ground := Ground.gcOnly Departure.lateStores }], guard := none } ?_ (fun _ => hHeld) rfl (by kernel_rfl) (fun _ _ _ h => h) (by rfl) ?_ ?_
        rotate_left
        · intro w; go_simp; try with_reducible rfl
        try simp only [Act.put, List.setIfInBounds_toArray, List.set_cons_zero, List.set_cons_succ]
        refine Kt.G.one 13 { dst := none, op := Op.store 35 (Operand.tmp 5) (Operand.tmp 58), type := 0, pos := "typist.go:134", after := #[{ on := 12, ground := Ground.data }, { on := 10, ground := Ground.data }, { on := 8, ground := Ground.chain }, { on := 0, ground := Ground.phase }, { on := 1, ground := Ground.phase }, { on := 2, ground := Ground.phase }, { on := 3, ground := Ground.phase }, { on := 4, ground := Ground.phase }, { on := 5, ground := Ground.phase }, { on := 6, ground := Ground.phase }, { on := 7, ground := Ground.phase }, { on := 8, ground := Ground.phase }, { on := 9, ground := Ground.phase }, { on := 10, ground := Ground.phase }, { on := 11, ground := Ground.textOnly Departure.lateStores }, { on := 12, ground := Ground.phase }], guard := none } rfl (by kernel_rfl) (by rfl) (fun K hK => ?_)
        have cK := fun i => cell_of_row _ _ i _ _ _ rK; have fK := fun i => frozen_of_row _ _ i _ _ rK
        go_simp
        refine hK.out _ _ (Kt.G.late (by kernel_rfl)) (fun _ => ?_)
        clear hK K
        try simp only [Act.put, List.setIfInBounds_toArray, List.set_cons_zero, List.set_cons_succ]
        refine Kt.G.takeP 14 { dst := some 6, op := Op.assign (Operand.tmp 59), type := 38, pos := "typist.go:134", after := #[{ on := 11, ground := Ground.data }, { on := 13, ground := Ground.chain }, { on := 0, ground := Ground.phase }, { on := 1, ground := Ground.phase }, { on := 2, ground := Ground.phase }, { on := 3, ground := Ground.phase }, { on := 4, ground := Ground.phase }, { on := 5, ground := Ground.phase }, { on := 6, ground := Ground.phase }, { on := 7, ground := Ground.phase }, { on := 8, ground := Ground.phase }, { on := 9, ground := Ground.phase }, { on := 10, ground := Ground.phase }, { on := 11, ground := Ground.phase }, { on := 12, ground := Ground.phase }, { on := 13, ground := Ground.phase }], guard := none } ?_ (Kt.G.late (by kernel_rfl)) rfl (by kernel_rfl) (fun _ _ _ h => h) (by rfl) ?_ ?_
        rotate_left
        · intro w; go_simp; try with_reducible rfl
        try simp only [Act.put, List.setIfInBounds_toArray, List.set_cons_zero, List.set_cons_succ]
        refine Kt.G.done (by kernel_rfl) (NoPanic.normal ?_) _
        go_wp2_with fail
        go_meet
        case rel =>
          exact ⟨kH, rfl, rfl, Kt.fill [.int .u64 (R1.a.toNat : Int), .int .u64 (R1.b.toNat : Int), .int .u64 (R1.c.toNat : Int), .int .u64 (R1.d.toNat : Int)] rK rfl, Nat.lt_of_lt_of_le HLT.out hk0, set4 hHeld.bel hk0 _ _ _ _⟩
    · have hk0 : W1.heap.size ≤ x0.heap.size := hHeld.bel.size
      go_simp
      refine hK.out _ _ (fun _ => hHeld.alloc _) (fun hHeld => ?_)
      have hHeld := hHeld rfl
      clear hK K
      try simp only [Act.put, List.setIfInBounds_toArray, List.set_cons_zero, List.set_cons_succ]
      have rK := heap_alloc_new x0 (.cells #[.int .u64 0, .int .u64 0, .int .u64 0, .int .u64 0] 35)
      generalize hkH : x0.heap.size = kH at *
      clear hkH
      generalize x0.alloc (.cells #[.int .u64 0, .int .u64 0, .int .u64 0, .int .u64 0] 35) = xk at *
      refine Kt.G.one 7 { dst := some 56, op := Op.buildSlice 71 1 #[(0, Operand.tmp 55)], type := 71, pos := "typist.go:134", after := #[{ on := 6, ground := Ground.data }], guard := none } rfl (by kernel_rfl) (by rfl) (fun K hK => ?_)
      try (have rK0 := rK)
      try (have hbb := Kt.balloc (Below.refl xk.heap.size xk) (.cells #[.int .i64 c, .bool d] 29))
      try (replace rK := Kt.row_on hbb rK0)
      try clear rK0
      try clear hbb
      have hz7 := hHeld.bel.size
      go_simp
      refine hK.out _ _ (fun _ => hHeld.alloc _) (fun hHeld => ?_)
      have hHeld := hHeld rfl
      clear hK K
      try simp only [Act.put, List.setIfInBounds_toArray, List.set_cons_zero, List.set_cons_succ]
      have hHeld := hHeld.add (heap_alloc_new xk (.cells #[.int .i64 c, .bool d] 29))
      generalize hK7 : xk.heap.size = K7 at *
      clear hK7
      generalize xk.alloc (.cells #[.int .i64 c, .bool d] 29) = y7 at *
      refine Kt.G.more (F' := Kt.Fb W1 ((K7, #[.int .i64 c, .bool d], 29) :: [(g, #[.int .u64 (t.held.a.toNat : Int), .int .u64 (t.held.b.toNat : Int), .int .u64 (t.held.c.toNat : Int), .int .u64 (t.held.d.toNat : Int), .bool t.caps, .int .i64 t.dead, .int .i64 t.last, .int .i64 t.wait, .string t.text], 55), (w0.heap.size, #[.int .i64 1, .int .i64 c, .bool d, .int .i64 n], 31)])) (fun _ h => Kt.Fb.less h) _ _ _ _ ?_
      refine Kt.G.one 8 { dst := some 57, op := Op.call { callee := Callee.value (Operand.func 28), args := #[Operand.tmp 53, Operand.tmp 56], argTypes := #[35, 71] }, type := 69, pos := "typist.go:134", after := #[{ on := 4, ground := Ground.data }, { on := 7, ground := Ground.data }], guard := none } rfl (by kernel_rfl) (by rfl) (fun K hK => ?_)
      have rk7 := hHeld.row (K7, #[.int .i64 c, .bool d], 29) (by simp)
      go_simp
      refine (apply1_calls t.held c d K7 _ rk7).mono ?_; rw [HAP.out]; rintro en x8 ⟨rfl, hb8⟩
      unfold Hd.v Hd.vs
      refine hK.out _ _ (fun _ => hHeld.on hb8) (fun hHeld => ?_)
      have hHeld := hHeld rfl
      clear hK K
      try simp only
      try (replace rK := Kt.row_on hb8 rK)
      clear hb8 rk7
      refine Kt.G.takeP 9 { dst := some 48, op := Op.move (Operand.tmp 57), type := 69, pos := "typist.go:134", after := #[{ on := 8, ground := Ground.data }], guard := none } ?_ (fun _ => hHeld) rfl (by kernel_rfl) (fun _ _ _ h => h) (by rfl) ?_ ?_
      rotate_left
      · intro w; go_simp; try with_reducible rfl
      try simp only [Act.put, List.setIfInBounds_toArray, List.set_cons_zero, List.set_cons_succ]
      refine Kt.G.takeP 10 { dst := some 58, op := Op.extract (Operand.tmp 48) 0, type := 35, pos := "typist.go:134", after := #[{ on := 9, ground := Ground.data }], guard := none } ?_ (fun _ => hHeld) rfl (by kernel_rfl) (fun _ _ _ h => h) (by rfl) ?_ ?_
      rotate_left
      · intro w; go_simp; try with_reducible rfl
      try simp only [Act.put, List.setIfInBounds_toArray, List.set_cons_zero, List.set_cons_succ]
      refine Kt.G.takeP 11 { dst := some 59, op := Op.extract (Operand.tmp 48) 1, type := 38, pos := "typist.go:134", after := #[{ on := 9, ground := Ground.data }, { on := 13, ground := Ground.gcOnly Departure.lateStores }], guard := none } ?_ (fun _ => hHeld) rfl (by kernel_rfl) (fun _ _ _ h => h) (by rfl) ?_ ?_
      rotate_left
      · intro w; go_simp; try with_reducible rfl
      try simp only [Act.put, List.setIfInBounds_toArray, List.set_cons_zero, List.set_cons_succ]
      refine Kt.G.one 13 { dst := none, op := Op.store 35 (Operand.tmp 5) (Operand.tmp 58), type := 0, pos := "typist.go:134", after := #[{ on := 12, ground := Ground.data }, { on := 10, ground := Ground.data }, { on := 8, ground := Ground.chain }, { on := 0, ground := Ground.phase }, { on := 1, ground := Ground.phase }, { on := 2, ground := Ground.phase }, { on := 3, ground := Ground.phase }, { on := 4, ground := Ground.phase }, { on := 5, ground := Ground.phase }, { on := 6, ground := Ground.phase }, { on := 7, ground := Ground.phase }, { on := 8, ground := Ground.phase }, { on := 9, ground := Ground.phase }, { on := 10, ground := Ground.phase }, { on := 11, ground := Ground.textOnly Departure.lateStores }, { on := 12, ground := Ground.phase }], guard := none } rfl (by kernel_rfl) (by rfl) (fun K hK => ?_)
      have cK := fun i => cell_of_row _ _ i _ _ _ rK; have fK := fun i => frozen_of_row _ _ i _ _ rK
      go_simp
      refine hK.out _ _ (Kt.G.late (by kernel_rfl)) (fun _ => ?_)
      clear hK K
      try simp only [Act.put, List.setIfInBounds_toArray, List.set_cons_zero, List.set_cons_succ]
      refine Kt.G.takeP 14 { dst := some 6, op := Op.assign (Operand.tmp 59), type := 38, pos := "typist.go:134", after := #[{ on := 11, ground := Ground.data }, { on := 13, ground := Ground.chain }, { on := 0, ground := Ground.phase }, { on := 1, ground := Ground.phase }, { on := 2, ground := Ground.phase }, { on := 3, ground := Ground.phase }, { on := 4, ground := Ground.phase }, { on := 5, ground := Ground.phase }, { on := 6, ground := Ground.phase }, { on := 7, ground := Ground.phase }, { on := 8, ground := Ground.phase }, { on := 9, ground := Ground.phase }, { on := 10, ground := Ground.phase }, { on := 11, ground := Ground.phase }, { on := 12, ground := Ground.phase }, { on := 13, ground := Ground.phase }], guard := none } ?_ (Kt.G.late (by kernel_rfl)) rfl (by kernel_rfl) (fun _ _ _ h => h) (by rfl) ?_ ?_
      rotate_left
      · intro w; go_simp; try with_reducible rfl
      try simp only [Act.put, List.setIfInBounds_toArray, List.set_cons_zero, List.set_cons_succ]
      refine Kt.G.done (by kernel_rfl) (NoPanic.normal ?_) _
      go_wp2_with fail
      go_meet
      case rel =>
        exact ⟨kH, rfl, rfl, Kt.fill [.int .u64 (R1.a.toNat : Int), .int .u64 (R1.b.toNat : Int), .int .u64 (R1.c.toNat : Int), .int .u64 (R1.d.toNat : Int)] rK rfl, Nat.lt_of_lt_of_le HLT.out hk0, set4 hHeld.bel hk0 _ _ _ _⟩
    -- END 10
  case rest =>
    obtain ⟨kH, rfl, rfl, hrk, hkw, hbw⟩ := hcut
    have HM2 : Hid (Mx g t wc) := Lib.hid (Kt.row_on hbw HS1.out.1)
    have HN2 := Lib.hid (Kt.row_on hbw HS1.out.2)
    have HK2 := Lib.hid hrk
    have HW2 := Lib.hid (And.intro hkw (Kt.bthen HB1.out hbw))
    clear hrk hkw hbw HS1 HB1 HLT1 HAP
    by_cases hz : R2 = 0
    · subst hz
      have hr := HM2.out
      unfold Mx St.cs at hr
      have q := fun i => cell_of_row _ _ i _ _ _ hr
      have qf := fun i => frozen_of_row _ _ i _ _ hr
      have hr2 := HK2.out
      unfold Hd.vs at hr2
      have q2 := fun i => cell_of_row _ _ i _ _ _ hr2
      clear hr hr2
      go_upto_region 14 with (fail)
      have hne : w0.heap.size ≠ g := by have := HLT.out; omega
      refine Kt.fold (fun X => Hid (Mx g { t with held := R1 } X ∧ X.heap[w0.heap.size]? = some (.cells #[.int .i64 1, .int .i64 c, .bool d, .int .i64 n] 31 (0, 0)) ∧ Upd g w0 X))
        (Lib.hid ⟨HM2.out.held R1, (heap_setCell_other _ _ _ _ hne).trans ((heap_setCell_other _ _ _ _ hne).trans ((heap_setCell_other _ _ _ _ hne).trans ((heap_setCell_other _ _ _ _ hne).trans HN2.out))), ((((Upd.of_below HW2.out.2 HLT.out).set _ _).set _ _).set _ _).set _ _⟩) (fun W3 H3 => ?_)
      clear q qf q2 HM2 HN2 HK2 HW2 hne
      have q3 := fun i => cell_of_row _ _ i _ _ _ H3.out.2.1
      cases d
      · by_cases hcl : c = t.last
        · have hp := HP.out
          rw [if_neg (by decide), if_neg (by decide), if_pos hcl] at hp
          cases hp
          have hcl' : (c == t.last) = true := by rw [beq_iff_eq]; exact hcl
          have hr := H3.out.1
          unfold Mx St.cs at hr
          have q := fun i => cell_of_row _ _ i _ _ _ hr
          have qf := fun i => frozen_of_row _ _ i _ _ hr
          clear hr hcl HP
          go_upto_region 16 with (fail)
          go_quiet (fail)
          go_wp2_with fail
          go_ret
          exact ⟨rfl, ((show Mx g _ (W3.drewN nq) from H3.out.1).last 0).wait 0, ((H3.out.2.2.drewN nq).set _ _).set _ _⟩
        · have hp := HP.out
          rw [if_neg (by decide), if_neg (by decide), if_neg hcl] at hp
          cases hp
          have hcl' : (c == t.last) = false := by rw [beq_eq_false_iff_ne]; exact hcl
          have hr := H3.out.1
          unfold Mx St.cs at hr
          have q := fun i => cell_of_row _ _ i _ _ _ hr
          clear hr hcl HP
          go_upto_region 16 with (fail)
          go_quiet (fail)
          go_wp2_with fail
          go_ret
          exact ⟨rfl, H3.out.1, H3.out.2.2.drewN nq⟩
      · have hp := HP.out
        rw [if_neg (by decide), if_pos rfl] at hp
        cases hp
        clear HP
        go_wp2_with fail
        refine (down_calls { t with held := R1 } c g _ H3.out.1 HKT.out.sz HKT.out.dd (HT.out.on H3.out.2.2.below)).mono ?_
        rintro en w4 ⟨rfl, hm, hu⟩
        have H4 := Lib.hid (And.intro hm (H3.out.2.2.trans hu))
        clear hm hu H3 q3
        go_wp2_with fail
        go_ret
        exact ⟨rfl, H4.out⟩
    · have hz' : (R2 != 0) = true := by rw [bne_iff_ne]; exact hz
      have hp := HP.out
      rw [if_pos hz] at hp
      cases hp
      clear hz HP
      go_wp2_with fail
      go_ret
      exact ⟨rfl, HM2.out, Upd.of_below HW2.out.2 HLT.out⟩
theorem stroke_bad (t : St) (k c n : Int) (d : Bool) (g : Nat) (w0 : World) (h : Mx g t w0) (hb : k ≠ 1 ∧ (k ≠ 2 ∨ n < 0 ∨ 100 < n)) :
    Calls Tryd.prog 20 #[.pointer (some ⟨g, 0, none⟩), .agg #[.int .i64 k, .int .i64 c, .bool d, .int .i64 n]] w0 fun e w' => e = .returned (.int .i64 1) ∧ Mx g t w' ∧ Upd g w0 w' := by
  have HN0 := Lib.hid (heap_alloc_new w0 (.cells #[.int .i64 k, .int .i64 c, .bool d, .int .i64 n] 31))
  have HB0 := Lib.hid (Kt.balloc (Below.refl _ w0) (.cells #[.int .i64 k, .int .i64 c, .bool d, .int .i64 n] 31))
  have HM := Lib.hid h
  have h1 : (k == 1) = false := by rw [beq_eq_false_iff_ne]; exact hb.1
  have h2 : ((k != 2) = true) ∨ ((k != 2) = false ∧ n < 0) ∨ ((k != 2) = false ∧ 0 ≤ n ∧ 100 < n) := by
    simp only [bne_iff_ne, bne_eq_false_iff_eq, ne_eq]
    omega
  clear h hb
  rcases h2 with h2 | ⟨h2, h3⟩ | ⟨h2, h3, h4⟩
  all_goals
    go_enter Tryd.func20, Tryd.ntmps20
    go_wp2_with fail
    go_ret
    exact ⟨rfl, HM.out.on HB0.out, Upd.of_below HB0.out HM.out.lt⟩
theorem tick_zero (n : Nat) (t : St) (h : t.last = 0) : tickP n t = t := by
  cases n with
  | zero => rfl
  | succ n => unfold tickP; rw [if_pos h]
theorem tick_typed (n : Nat) (t : St) (h : t.last ≠ 0) (hw : t.wait = 1) : tickP (n + 1) t = tickP n { typedP { t with wait := 0 } t.last with wait := 4 } := by
  show (if t.last = 0 then t else if t.wait - 1 = 0 then _ else _) = _
  rw [if_neg h, if_pos (by omega)]
theorem tick_less (n : Nat) (t : St) (h : t.last ≠ 0) (hw : t.wait ≠ 1) : tickP (n + 1) t = tickP n { t with wait := t.wait - 1 } := by
  show (if t.last = 0 then t else if t.wait - 1 = 0 then _ else _) = _
  rw [if_neg h, if_neg (by omega)]
theorem TkT.typed {t : St} (h : TkT t) (hl : t.last ≠ 0) : TkT { typedP { t with wait := 0 } t.last with wait := 4 } := by
  refine ⟨typed_text _ _ h.sz, .inl (typed_dead _ _), .inr ⟨?_, by show (1 : Int) ≤ 4; decide, by show (4 : Int) ≤ 20; decide⟩⟩
  show prints (typedP { t with wait := 0 } t.last).last = true
  rw [typed_last]
  exact (h.lw.resolve_left hl).1
theorem TkT.less {t : St} (h : TkT t) (hl : t.last ≠ 0) (hw : t.wait ≠ 1) : TkT { t with wait := t.wait - 1 } := by
  obtain ⟨h1, h2, h3⟩ := h.lw.resolve_left hl
  exact ⟨h.sz, h.dd, .inr ⟨h1, by show 1 ≤ t.wait - 1; omega, by show t.wait - 1 ≤ 20; omega⟩⟩
theorem nx {k N : Nat} (hk : k < N) (hN : N ≤ 100) : wrap64 ((k : Int) + 1) = ((k + 1 : Nat) : Int) := by unfold wrap64; omega
theorem nxm {k N : Nat} (hk : k < N) : N - (intOf (.int .i64 ((k + 1 : Nat) : Int))).toNat < N - (intOf (.int .i64 (k : Int))).toNat := by
  simp only [intOf]; omega
set_option maxRecDepth 100000 in
set_option maxHeartbeats 3200000 in
theorem stroke_tick (t : St) (c n : Int) (d : Bool) (g : Nat) (w0 : World) (h : Mx g t w0) (hk : TkT t) (hT : Tb g w0) (h0 : 0 ≤ n) (h100 : n ≤ 100) :
    Calls Tryd.prog 20 #[.pointer (some ⟨g, 0, none⟩), .agg #[.int .i64 2, .int .i64 c, .bool d, .int .i64 n]] w0 fun e w' => e = .returned (.int .i64 0) ∧ Mx g (tickP n.toNat t) w' ∧ Upd g w0 w' := by
  obtain ⟨N, hN⟩ : ∃ N : Nat, n.toNat = N := ⟨_, rfl⟩
  have hnN : n = N := by omega
  have hN100 : N ≤ 100 := by omega
  rw [hN]
  subst hnN
  obtain ⟨T, hTE⟩ : ∃ T, tickP N t = T := ⟨_, rfl⟩
  rw [hTE]
  have HB0 := Lib.hid (Kt.balloc (Below.refl _ w0) (.cells #[.int .i64 2, .int .i64 c, .bool d, .int .i64 (N : Int)] 31))
  have HS0 : Hid (Mx g t (w0.alloc (.cells #[.int .i64 2, .int .i64 c, .bool d, .int .i64 (N : Int)] 31)) ∧ Upd g w0 (w0.alloc (.cells #[.int .i64 2, .int .i64 c, .bool d, .int .i64 (N : Int)] 31))) := Lib.hid ⟨h.on HB0.out, Upd.of_below HB0.out h.lt⟩
  have HK := Lib.hid (And.intro hk hTE)
  have HT := Lib.hid hT
  have HN := Lib.hid hN100
  clear h hk hT hN hTE hN100
  go_enter Tryd.func20, Tryd.ntmps20
  go_wp2_with fail
  clear h0 h100
  refine Kt.fold (fun X => Hid (Mx g t X ∧ Upd g w0 X)) HS0 (fun W HW => ?_)
  clear HS0 HB0
  go_loopw [9] (fun ii wr => ∃ (k : Nat) (u : St), ii = .int .i64 k ∧ Hid (k ≤ N) ∧ Hid (TkT u ∧ tickP (N - k) u = T) ∧ Hid (Mx g u wr ∧ Upd g w0 wr)) (fun ii _ => N - (intOf ii).toNat)
  case atStart => exact ⟨0, t, rfl, Lib.hid (Nat.zero_le _), HK, HW⟩
  case round =>
    obtain ⟨k, u, rfl, HKN, HKU, HWR⟩ := hrel
    clear HK HW
    by_cases hk : k < N
    · have hk' : (k : Int) < N := by omega
      have hr := HWR.out.1
      unfold Mx St.cs at hr
      have q := fun i => cell_of_row _ _ i _ _ _ hr
      have qf := fun i => frozen_of_row _ _ i _ _ hr
      clear hr
      by_cases hl : u.last = 0
      · have hl' : (u.last == 0) = true := by rw [beq_iff_eq]; exact hl
        have HE : Hid (u = T) := Lib.hid (by rw [← HKU.out.2, tick_zero _ _ hl])
        clear hl hk HKU
        go_wp2_with fail
        go_ret
        exact ⟨rfl, HE.out ▸ HWR.out.1, HWR.out.2⟩
      · have hl' : (u.last == 0) = false := by rw [beq_eq_false_iff_ne]; exact hl
        obtain ⟨p1, p2, p3⟩ := HKU.out.1.lw.resolve_left hl
        have hw1 := nx hk HN.out
        obtain ⟨m, hm⟩ : ∃ m, N - k = m + 1 := ⟨N - k - 1, by omega⟩
        have hmm : N - (k + 1) = m := by omega
        by_cases hw : u.wait = 1
        · have hx : IntKind.i64.wrap (u.wait - 1) = 0 := by rw [hw]; rfl
          have HKN2 := Lib.hid (show TkT { typedP { u with wait := 0 } u.last with wait := 4 } ∧ tickP m { typedP { u with wait := 0 } u.last with wait := 4 } = T from ⟨HKU.out.1.typed hl, by rw [← HKU.out.2, hm, tick_typed _ _ hl hw]⟩)
          have HTY := Lib.hid (fun W (h2 : Mx g { u with wait := 0 } W) (h3 : Tb g W) => typed_calls { u with wait := 0 } u.last p1 g W h2 HKU.out.1.sz HKU.out.1.dd h3)
          have HH := Lib.hid (And.intro hk (And.intro hmm hw1))
          clear hl hk p1 p2 p3 hm hmm hw HKU HKN hw1
          go_wp2_with fail
          refine (HTY.out _ (HWR.out.1.wait 0) (HT.out.on (HWR.out.2.set _ _).below)).mono ?_
          rintro en w4 ⟨rfl, hm, hu⟩
          have HM4 := Lib.hid (And.intro hm ((HWR.out.2.set 7 (.int .i64 0)).trans hu))
          clear q qf
          have hr := hm
          unfold Mx St.cs at hr
          have q := fun i => cell_of_row _ _ i _ _ _ hr
          have qf := fun i => frozen_of_row _ _ i _ _ hr
          have hw1 := HH.out.2.2
          clear hr hm hu HWR HTY
          go_wp2_with fail
          exact ⟨⟨k + 1, _, rfl, Lib.hid HH.out.1, Lib.hid ⟨HKN2.out.1, by rw [HH.out.2.1]; exact HKN2.out.2⟩, Lib.hid ⟨HM4.out.1.wait 4, HM4.out.2.set _ _⟩⟩, nxm HH.out.1⟩
        · have hx : IntKind.i64.wrap (u.wait - 1) = u.wait - 1 := IntWalk.i64_in _ (by omega)
          have hx2 : (u.wait - 1 == 0) = false := by rw [beq_eq_false_iff_ne]; omega
          have HKN2 := Lib.hid (show TkT { u with wait := u.wait - 1 } ∧ tickP m { u with wait := u.wait - 1 } = T from ⟨HKU.out.1.less hl hw, by rw [← HKU.out.2, hm, tick_less _ _ hl hw]⟩)
          have HH := Lib.hid (And.intro hk hmm)
          clear hl hk p1 p2 p3 hm hmm hw HKU HKN
          go_wp2_with fail
          exact ⟨⟨k + 1, _, rfl, Lib.hid HH.out.1, Lib.hid ⟨HKN2.out.1, by rw [HH.out.2]; exact HKN2.out.2⟩, Lib.hid ⟨HWR.out.1.wait _, HWR.out.2.set _ _⟩⟩, nxm HH.out.1⟩
    · have hkk : ¬ (k : Int) < N := by omega
      have HE : Hid (u = T) := Lib.hid (by have := HKN.out; rw [← HKU.out.2, show N - k = 0 by omega]; rfl)
      clear HKU hk
      go_wp2_with fail
      go_ret
      exact ⟨rfl, HE.out ▸ HWR.out.1, HWR.out.2⟩
theorem stroke_calls (t : St) (s : Sk) (g : Nat) (w0 : World) (h : Mx g t w0) (hk : TkT t) (hT : Tb g w0) :
    Calls Tryd.prog 20 #[.pointer (some ⟨g, 0, none⟩), .agg #[.int .i64 s.kind, .int .i64 s.code, .bool s.down, .int .i64 s.n]] w0 fun e w' => e = .returned (.int .i64 (strokeP t s).2) ∧ Mx g (strokeP t s).1 w' ∧ Upd g w0 w' := by
  obtain ⟨k, c, d, n⟩ := s
  by_cases h1 : k = 1
  · subst h1; exact stroke_key t c n d g w0 h hk hT
  · by_cases h2 : k ≠ 2 ∨ n < 0 ∨ 100 < n
    · have e : strokeP t ⟨k, c, d, n⟩ = (t, 1) := by unfold strokeP; rw [if_neg h1, if_pos h2]
      rw [e]
      exact stroke_bad t k c n d g w0 h ⟨h1, h2⟩
    · have e : strokeP t ⟨k, c, d, n⟩ = (tickP n.toNat t, 0) := by unfold strokeP; rw [if_neg h1, if_neg h2]
      rw [e]
      obtain rfl : k = 2 := by omega
      exact stroke_tick t c n d g w0 h hk hT (by omega) (by omega)
end Go.Proofs.YtndkaehbmdiofaaDoor
