/- Disks: Make walked. -/
import Derived.Test.YtafiedhjjnapoaaTri
import Derived.Test.YtafiedhjjnapoaaScsW
namespace Go.Proofs.Ytafiedhjjnapoaa
open Go.RowKit Go.Proofs.Ytafiedhjjnapoaa.Scs
def OkMk (a n : Int) : Prop := 0 ≤ a ∧ a < 4294967296 ∧ 0 ≤ n ∧ n ≤ 65535
theorem mk_eq (z : Nat) (a n : Int) (h : OkMk a n) (hz : z < 256) : (⟨(List.map (fun (n : Int) => UInt8.ofNat n.toNat) [IntKind.u8.wrap (z : Int), 0]).toArray⟩ ++ four a.toNat ++ ⟨(List.map (fun (n : Int) => UInt8.ofNat n.toNat) [0, IntKind.u8.wrap (n / 256), IntKind.u8.wrap n, 0]).toArray⟩ : ByteArray) = mk z a.toNat n.toNat := by
  obtain ⟨h1, h2, h3, h4⟩ := h
  have wr : ∀ x : Int, IntKind.u8.wrap x = x % 256 := fun x => by rfl
  have e1 : UInt8.ofNat (IntKind.u8.wrap (z : Int)).toNat = UInt8.ofNat z := by
    rw [wr]; congr 1; omega
  have e2 : UInt8.ofNat (IntKind.u8.wrap (n / 256)).toNat = UInt8.ofNat (n.toNat / 256) := by
    rw [wr]; apply UInt8.toNat_inj.1; rw [u8m, u8m]; omega
  have e3 : UInt8.ofNat (IntKind.u8.wrap n).toNat = UInt8.ofNat n.toNat := by
    rw [wr]; apply UInt8.toNat_inj.1; rw [u8m, u8m]; omega
  simp only [List.map_cons, List.map_nil, e1, e2, e3]
  rfl
theorem make_bad (z a n : Int) (hz : z = 40 ∨ z = 42) (h : ¬ OkMk a n) (w : World) :
    Calls Try.prog 40 #[.int .i64 z, .int .i64 a, .int .i64 n] w fun e w' => e = .returned (.tuple #[.string ⟨#[]⟩, .int .i64 1]) ∧ w' = w := by
  unfold OkMk at h
  have h4 : a < 0 ∨ (0 ≤ a ∧ 4294967296 ≤ a) ∨ (0 ≤ a ∧ a < 4294967296 ∧ n < 0) ∨ (0 ≤ a ∧ a < 4294967296 ∧ 0 ≤ n ∧ 65535 < n) := by omega
  clear h
  rcases hz with rfl | rfl <;> rcases h4 with h1 | ⟨h1, h2⟩ | ⟨h1, h2, h3⟩ | ⟨h1, h2, h3, h5⟩
  all_goals
    go_enter Try.func40, Try.ntmps40
    go_wp2_with fail
    refine bodyPost_ret (v := .tuple #[.string ⟨#[]⟩, .int .i64 1]) (by simp [results, Try.results40]) rfl ?_
    exact ⟨rfl, rfl⟩
set_option maxRecDepth 100000 in
theorem make_calls40 (a n : Int) (h : OkMk a n) (w : World) :
    Calls Try.prog 40 #[.int .i64 40, .int .i64 a, .int .i64 n] w fun e w' => e = .returned (.tuple #[.string (mk 40 a.toNat n.toNat), .int .i64 0]) ∧ Below w.heap.size w w' := by
  obtain ⟨h1, h2, h3, h4⟩ := h
  have HL : Hid (∀ W, Calls Try.prog 53 #[.int .i64 a] W fun e w' => e = .returned (.string (four a.toNat)) ∧ Below W.heap.size W w') := Lib.hid fun W => by
    obtain ⟨k, rfl⟩ : ∃ k : Nat, (k : Int) = a := ⟨a.toNat, by omega⟩
    exact long_calls k (by omega) W
  have HN := Lib.hid (And.intro h1 (And.intro h2 (And.intro h3 h4)))
  have h5 : ¬ (65535 : Int) < n := by omega
  have h6 : ¬ n < 0 := by omega
  have h7 : ¬ a < 0 := by omega
  have h8 : ¬ 4294967296 ≤ a := by omega
  obtain ⟨B5, hB5⟩ : ∃ B, four a.toNat = B := ⟨_, rfl⟩
  have sB5 : B5.size = 4 := by rw [← hB5]; rfl
  rw [hB5] at HL
  go_enter Try.func40, Try.ntmps40
  go_upto_region 3 with (fail)
  clear h1 h2 h3 h4 h5 h6 h7 h8
  -- REGION 40
  obtain ⟨B2, hB2⟩ : ∃ B : ByteArray, (⟨(List.map (fun (n : Int) => UInt8.ofNat n.toNat) [IntKind.u8.wrap 40, 0]).toArray⟩ : ByteArray) = B := ⟨_, rfl⟩
  have sB2 : B2.size = 2 := by rw [← hB2]; rfl
  obtain ⟨B12, hB12⟩ : ∃ B : ByteArray, (⟨(List.map (fun (n : Int) => UInt8.ofNat n.toNat) [0, IntKind.u8.wrap (n / 256), IntKind.u8.wrap n, 0]).toArray⟩ : ByteArray) = B := ⟨_, rfl⟩
  have sB12 : B12.size = 4 := by rw [← hB12]; rfl
  have HE : Hid (B2 ++ B5 ++ B12 = mk 40 a.toNat n.toNat) := Lib.hid (by rw [← hB2, ← hB5, ← hB12]; exact mk_eq 40 a n HN.out (by decide))
  refine Kt.G.start 15 (Kt.Fb w []) (by kernel_rfl) (Kt.Fb.nil w (Below.refl _ _).drew) (fun hHeld => ?_)
  generalize w.drew = x0 at *
  refine Kt.G.takeP 0 { dst := some 34, op := Op.move (Operand.tmp 0), type := 3, pos := "scsi.go:68", after := #[], guard := none } ?_ (fun _ => hHeld) rfl (by kernel_rfl) (fun _ _ _ h => h) (by rfl) ?_ ?_
  rotate_left
  · intro w; go_simp; try with_reducible rfl
  try simp only [Act.put, List.setIfInBounds_toArray, List.set_cons_zero, List.set_cons_succ]
  refine Kt.G.takeP 1 { dst := some 35, op := Op.convert 3 5 (Operand.tmp 34), type := 5, pos := "scsi.go:68", after := #[{ on := 0, ground := Ground.data }], guard := none } ?_ (fun _ => hHeld) rfl (by kernel_rfl) (fun _ _ _ h => h) (by rfl) ?_ ?_
  rotate_left
  · intro w; go_simp; try with_reducible rfl
  try simp only [Act.put, List.setIfInBounds_toArray, List.set_cons_zero, List.set_cons_succ]
  refine Kt.G.takeP 4 { dst := some 38, op := Op.move (Operand.tmp 1), type := 3, pos := "scsi.go:68", after := #[], guard := none } ?_ (fun _ => hHeld) rfl (by kernel_rfl) (fun _ _ _ h => h) (by rfl) ?_ ?_
  rotate_left
  · intro w; go_simp; try with_reducible rfl
  try simp only [Act.put, List.setIfInBounds_toArray, List.set_cons_zero, List.set_cons_succ]
  refine Kt.G.takeP 7 { dst := some 41, op := Op.move (Operand.tmp 2), type := 3, pos := "scsi.go:68", after := #[], guard := none } ?_ (fun _ => hHeld) rfl (by kernel_rfl) (fun _ _ _ h => h) (by rfl) ?_ ?_
  rotate_left
  · intro w; go_simp; try with_reducible rfl
  try simp only [Act.put, List.setIfInBounds_toArray, List.set_cons_zero, List.set_cons_succ]
  refine Kt.G.takeP 8 { dst := some 42, op := Op.binOp BinOp.shr 3 (Operand.tmp 41) (Operand.const (Value.int IntKind.u64 8)) 69, type := 3, pos := "scsi.go:68", after := #[{ on := 7, ground := Ground.data }], guard := none } ?_ (fun _ => hHeld) rfl (by kernel_rfl) (fun _ _ _ h => h) (by rfl) ?_ ?_
  rotate_left
  · intro w; go_simp; try with_reducible rfl
  try simp only [Act.put, List.setIfInBounds_toArray, List.set_cons_zero, List.set_cons_succ]
  refine Kt.G.takeP 9 { dst := some 43, op := Op.convert 3 5 (Operand.tmp 42), type := 5, pos := "scsi.go:68", after := #[{ on := 8, ground := Ground.data }], guard := none } ?_ (fun _ => hHeld) rfl (by kernel_rfl) (fun _ _ _ h => h) (by rfl) ?_ ?_
  rotate_left
  · intro w; go_simp; try with_reducible rfl
  try simp only [Act.put, List.setIfInBounds_toArray, List.set_cons_zero, List.set_cons_succ]
  refine Kt.G.takeP 10 { dst := some 44, op := Op.move (Operand.tmp 2), type := 3, pos := "scsi.go:68", after := #[], guard := none } ?_ (fun _ => hHeld) rfl (by kernel_rfl) (fun _ _ _ h => h) (by rfl) ?_ ?_
  rotate_left
  · intro w; go_simp; try with_reducible rfl
  try simp only [Act.put, List.setIfInBounds_toArray, List.set_cons_zero, List.set_cons_succ]
  refine Kt.G.takeP 11 { dst := some 45, op := Op.convert 3 5 (Operand.tmp 44), type := 5, pos := "scsi.go:68", after := #[{ on := 10, ground := Ground.data }], guard := none } ?_ (fun _ => hHeld) rfl (by kernel_rfl) (fun _ _ _ h => h) (by rfl) ?_ ?_
  rotate_left
  · intro w; go_simp; try with_reducible rfl
  try simp only [Act.put, List.setIfInBounds_toArray, List.set_cons_zero, List.set_cons_succ]
  refine Kt.G.three 2 5 12 { dst := some 36, op := Op.buildSlice 56 2 #[(0, Operand.tmp 35), (1, Operand.const (Value.int IntKind.u8 0))], type := 56, pos := "scsi.go:68", after := #[{ on := 1, ground := Ground.data }], guard := none } { dst := some 39, op := Op.call { callee := Callee.value (Operand.func 53), args := #[Operand.tmp 38], argTypes := #[3] }, type := 9, pos := "scsi.go:68", after := #[{ on := 4, ground := Ground.data }], guard := none } { dst := some 46, op := Op.buildSlice 56 4 #[(0, Operand.const (Value.int IntKind.u8 0)), (1, Operand.tmp 43), (2, Operand.tmp 45), (3, Operand.const (Value.int IntKind.u8 0))], type := 56, pos := "scsi.go:68", after := #[{ on := 9, ground := Ground.data }, { on := 11, ground := Ground.data }], guard := none } rfl rfl rfl (by kernel_rfl) (by rfl) (by rfl) (by rfl) (fun K hK => ?_) (fun K hK => ?_) (fun K hK => ?_)
  · have hz2 := hHeld.bel.size
    go_simp
    refine hK.out _ _ (fun _ => hHeld.alloc _) (fun hHeld => ?_)
    have hHeld := hHeld rfl
    clear hK K
    try simp only [Act.put, List.setIfInBounds_toArray, List.set_cons_zero, List.set_cons_succ]
    have hHeld := hHeld.add (heap_alloc_new x0 (.cells #[.int .u8 (IntKind.u8.wrap 40), .int .u8 0] 5))
    generalize hK2 : x0.heap.size = K2 at *
    clear hK2
    generalize x0.alloc (.cells #[.int .u8 (IntKind.u8.wrap 40), .int .u8 0] 5) = y2 at *
    refine Kt.G.more (F' := Kt.Fb w ((K2, #[.int .u8 (IntKind.u8.wrap 40), .int .u8 0], 5) :: [])) (fun _ h => Kt.Fb.less h) _ _ _ _ ?_
    refine Kt.G.take 3 { dst := some 37, op := Op.convert 56 9 (Operand.tmp 36), type := 9, pos := "scsi.go:68", after := #[{ on := 2, ground := Ground.data }], guard := none } (.string B2) hHeld rfl (by kernel_rfl) (fun _ _ _ h => h) (by rfl) ?_ ?_
    · intro w hSw; have hcv := Kt.cv_row [IntKind.u8.wrap 40, 0] #[.int .u8 (IntKind.u8.wrap 40), .int .u8 0] 2 K2 rfl rfl (hSw.row (K2, #[.int .u8 (IntKind.u8.wrap 40), .int .u8 0], 5) (by simp)); rw [hB2] at hcv; go_simp; try with_reducible rfl
    try simp only [Act.put, List.setIfInBounds_toArray, List.set_cons_zero, List.set_cons_succ]
    refine Kt.G.two 5 12 { dst := some 39, op := Op.call { callee := Callee.value (Operand.func 53), args := #[Operand.tmp 38], argTypes := #[3] }, type := 9, pos := "scsi.go:68", after := #[{ on := 4, ground := Ground.data }], guard := none } { dst := some 46, op := Op.buildSlice 56 4 #[(0, Operand.const (Value.int IntKind.u8 0)), (1, Operand.tmp 43), (2, Operand.tmp 45), (3, Operand.const (Value.int IntKind.u8 0))], type := 56, pos := "scsi.go:68", after := #[{ on := 9, ground := Ground.data }, { on := 11, ground := Ground.data }], guard := none } rfl rfl (by kernel_rfl) (by rfl) (by rfl) (fun K hK => ?_) (fun K hK => ?_)
    · go_simp
      refine (HL.out _).mono ?_; rintro en x5 ⟨rfl, hb5⟩
      refine hK.out _ _ (fun _ => hHeld.on hb5) (fun hHeld => ?_)
      have hHeld := hHeld rfl
      clear hK K
      try simp only [Act.put, List.setIfInBounds_toArray, List.set_cons_zero, List.set_cons_succ]
      clear hb5
      refine Kt.G.takeP 6 { dst := some 40, op := Op.binOp BinOp.add 9 (Operand.tmp 37) (Operand.tmp 39) 9, type := 9, pos := "scsi.go:68", after := #[{ on := 3, ground := Ground.data }, { on := 5, ground := Ground.data }], guard := none } ?_ (fun _ => hHeld) rfl (by kernel_rfl) (fun _ _ _ h => h) (by rfl) ?_ ?_
      rotate_left
      · intro w; go_simp; try with_reducible rfl
      try simp only [Act.put, List.setIfInBounds_toArray, List.set_cons_zero, List.set_cons_succ]
      refine Kt.G.one 12 { dst := some 46, op := Op.buildSlice 56 4 #[(0, Operand.const (Value.int IntKind.u8 0)), (1, Operand.tmp 43), (2, Operand.tmp 45), (3, Operand.const (Value.int IntKind.u8 0))], type := 56, pos := "scsi.go:68", after := #[{ on := 9, ground := Ground.data }, { on := 11, ground := Ground.data }], guard := none } rfl (by kernel_rfl) (by rfl) (fun K hK => ?_)
      have hz12 := hHeld.bel.size
      go_simp
      refine hK.out _ _ (fun _ => hHeld.alloc _) (fun hHeld => ?_)
      have hHeld := hHeld rfl
      clear hK K
      try simp only [Act.put, List.setIfInBounds_toArray, List.set_cons_zero, List.set_cons_succ]
      have hHeld := hHeld.add (heap_alloc_new x5 (.cells #[.int .u8 0, .int .u8 (IntKind.u8.wrap (n / 256)), .int .u8 (IntKind.u8.wrap n), .int .u8 0] 5))
      generalize hK12 : x5.heap.size = K12 at *
      clear hK12
      generalize x5.alloc (.cells #[.int .u8 0, .int .u8 (IntKind.u8.wrap (n / 256)), .int .u8 (IntKind.u8.wrap n), .int .u8 0] 5) = y12 at *
      refine Kt.G.more (F' := Kt.Fb w ((K12, #[.int .u8 0, .int .u8 (IntKind.u8.wrap (n / 256)), .int .u8 (IntKind.u8.wrap n), .int .u8 0], 5) :: [(K2, #[.int .u8 (IntKind.u8.wrap 40), .int .u8 0], 5)])) (fun _ h => Kt.Fb.less h) _ _ _ _ ?_
      refine Kt.G.take 13 { dst := some 47, op := Op.convert 56 9 (Operand.tmp 46), type := 9, pos := "scsi.go:68", after := #[{ on := 12, ground := Ground.data }], guard := none } (.string B12) hHeld rfl (by kernel_rfl) (fun _ _ _ h => h) (by rfl) ?_ ?_
      · intro w hSw; have hcv := Kt.cv_row [0, IntKind.u8.wrap (n / 256), IntKind.u8.wrap n, 0] #[.int .u8 0, .int .u8 (IntKind.u8.wrap (n / 256)), .int .u8 (IntKind.u8.wrap n), .int .u8 0] 4 K12 rfl rfl (hSw.row (K12, #[.int .u8 0, .int .u8 (IntKind.u8.wrap (n / 256)), .int .u8 (IntKind.u8.wrap n), .int .u8 0], 5) (by simp)); rw [hB12] at hcv; go_simp; try with_reducible rfl
      try simp only [Act.put, List.setIfInBounds_toArray, List.set_cons_zero, List.set_cons_succ]
      refine Kt.G.takeP 14 { dst := some 48, op := Op.binOp BinOp.add 9 (Operand.tmp 40) (Operand.tmp 47) 9, type := 9, pos := "scsi.go:68", after := #[{ on := 6, ground := Ground.data }, { on := 13, ground := Ground.data }], guard := none } ?_ (fun _ => hHeld) rfl (by kernel_rfl) (fun _ _ _ h => h) (by rfl) ?_ ?_
      rotate_left
      · intro w; go_simp; try with_reducible rfl
      try simp only [Act.put, List.setIfInBounds_toArray, List.set_cons_zero, List.set_cons_succ]
      refine Kt.G.one 15 { dst := some 6, op := Op.assign (Operand.tmp 48), type := 9, pos := "scsi.go:68", after := #[{ on := 14, ground := Ground.data }, { on := 5, ground := Ground.chain }, { on := 0, ground := Ground.phase }, { on := 1, ground := Ground.phase }, { on := 2, ground := Ground.phase }, { on := 3, ground := Ground.phase }, { on := 4, ground := Ground.phase }, { on := 5, ground := Ground.phase }, { on := 6, ground := Ground.phase }, { on := 7, ground := Ground.phase }, { on := 8, ground := Ground.phase }, { on := 9, ground := Ground.phase }, { on := 10, ground := Ground.phase }, { on := 11, ground := Ground.phase }, { on := 12, ground := Ground.phase }, { on := 13, ground := Ground.phase }, { on := 14, ground := Ground.phase }], guard := none } rfl (by kernel_rfl) (by rfl) (fun K hK => ?_)
      go_simp
      refine hK.out _ _ (Kt.G.late (by kernel_rfl)) (fun _ => ?_)
      clear hK K
      try simp only [Act.put, List.setIfInBounds_toArray, List.set_cons_zero, List.set_cons_succ]
      refine Kt.G.takeP 16 { dst := some 7, op := Op.assign (Operand.const (Value.int IntKind.i64 0)), type := 28, pos := "scsi.go:68", after := #[{ on := 15, ground := Ground.chain }, { on := 0, ground := Ground.phase }, { on := 1, ground := Ground.phase }, { on := 2, ground := Ground.phase }, { on := 3, ground := Ground.phase }, { on := 4, ground := Ground.phase }, { on := 5, ground := Ground.phase }, { on := 6, ground := Ground.phase }, { on := 7, ground := Ground.phase }, { on := 8, ground := Ground.phase }, { on := 9, ground := Ground.phase }, { on := 10, ground := Ground.phase }, { on := 11, ground := Ground.phase }, { on := 12, ground := Ground.phase }, { on := 13, ground := Ground.phase }, { on := 14, ground := Ground.phase }, { on := 15, ground := Ground.phase }], guard := none } ?_ (Kt.G.late (by kernel_rfl)) rfl (by kernel_rfl) (fun _ _ _ h => h) (by rfl) ?_ ?_
      rotate_left
      · intro w; go_simp; try with_reducible rfl
      try simp only [Act.put, List.setIfInBounds_toArray, List.set_cons_zero, List.set_cons_succ]
      refine Kt.G.done (by kernel_rfl) (NoPanic.normal ?_) _
      go_wp2_with fail
      refine bodyPost_ret (v := .tuple #[.string (B2 ++ B5 ++ B12), .int .i64 0]) (by simp [results, Try.results40]) rfl ?_
      exact ⟨by rw [HE.out], hHeld.bel⟩
    · have hz12 := hHeld.bel.size
      go_simp
      refine hK.out _ _ (fun _ => hHeld.alloc _) (fun hHeld => ?_)
      have hHeld := hHeld rfl
      clear hK K
      try simp only [Act.put, List.setIfInBounds_toArray, List.set_cons_zero, List.set_cons_succ]
      have hHeld := hHeld.add (heap_alloc_new y2 (.cells #[.int .u8 0, .int .u8 (IntKind.u8.wrap (n / 256)), .int .u8 (IntKind.u8.wrap n), .int .u8 0] 5))
      generalize hK12 : y2.heap.size = K12 at *
      clear hK12
      generalize y2.alloc (.cells #[.int .u8 0, .int .u8 (IntKind.u8.wrap (n / 256)), .int .u8 (IntKind.u8.wrap n), .int .u8 0] 5) = y12 at *
      refine Kt.G.more (F' := Kt.Fb w ((K12, #[.int .u8 0, .int .u8 (IntKind.u8.wrap (n / 256)), .int .u8 (IntKind.u8.wrap n), .int .u8 0], 5) :: [(K2, #[.int .u8 (IntKind.u8.wrap 40), .int .u8 0], 5)])) (fun _ h => Kt.Fb.less h) _ _ _ _ ?_
      refine Kt.G.take 13 { dst := some 47, op := Op.convert 56 9 (Operand.tmp 46), type := 9, pos := "scsi.go:68", after := #[{ on := 12, ground := Ground.data }], guard := none } (.string B12) hHeld rfl (by kernel_rfl) (fun _ _ _ h => h) (by rfl) ?_ ?_
      · intro w hSw; have hcv := Kt.cv_row [0, IntKind.u8.wrap (n / 256), IntKind.u8.wrap n, 0] #[.int .u8 0, .int .u8 (IntKind.u8.wrap (n / 256)), .int .u8 (IntKind.u8.wrap n), .int .u8 0] 4 K12 rfl rfl (hSw.row (K12, #[.int .u8 0, .int .u8 (IntKind.u8.wrap (n / 256)), .int .u8 (IntKind.u8.wrap n), .int .u8 0], 5) (by simp)); rw [hB12] at hcv; go_simp; try with_reducible rfl
      try simp only [Act.put, List.setIfInBounds_toArray, List.set_cons_zero, List.set_cons_succ]
      refine Kt.G.one 5 { dst := some 39, op := Op.call { callee := Callee.value (Operand.func 53), args := #[Operand.tmp 38], argTypes := #[3] }, type := 9, pos := "scsi.go:68", after := #[{ on := 4, ground := Ground.data }], guard := none } rfl (by kernel_rfl) (by rfl) (fun K hK => ?_)
      go_simp
      refine (HL.out _).mono ?_; rintro en x5 ⟨rfl, hb5⟩
      refine hK.out _ _ (fun _ => hHeld.on hb5) (fun hHeld => ?_)
      have hHeld := hHeld rfl
      clear hK K
      try simp only [Act.put, List.setIfInBounds_toArray, List.set_cons_zero, List.set_cons_succ]
      clear hb5
      refine Kt.G.takeP 6 { dst := some 40, op := Op.binOp BinOp.add 9 (Operand.tmp 37) (Operand.tmp 39) 9, type := 9, pos := "scsi.go:68", after := #[{ on := 3, ground := Ground.data }, { on := 5, ground := Ground.data }], guard := none } ?_ (fun _ => hHeld) rfl (by kernel_rfl) (fun _ _ _ h => h) (by rfl) ?_ ?_
      rotate_left
      · intro w; go_simp; try with_reducible rfl
      try simp only [Act.put, List.setIfInBounds_toArray, List.set_cons_zero, List.set_cons_succ]
      refine Kt.G.takeP 14 { dst := some 48, op := Op.binOp BinOp.add 9 (Operand.tmp 40) (Operand.tmp 47) 9, type := 9, pos := "scsi.go:68", after := #[{ on := 6, ground := Ground.data }, { on := 13, ground := Ground.data }], guard := none } ?_ (fun _ => hHeld) rfl (by kernel_rfl) (fun _ _ _ h => h) (by rfl) ?_ ?_
      rotate_left
      · intro w; go_simp; try with_reducible rfl
      try simp only [Act.put, List.setIfInBounds_toArray, List.set_cons_zero, List.set_cons_succ]
      refine Kt.G.one 15 { dst := some 6, op := Op.assign (Operand.tmp 48), type := 9, pos := "scsi.go:68", after := #[{ on := 14, ground := Ground.data }, { on := 5, ground := Ground.chain }, { on := 0, ground := Ground.phase }, { on := 1, ground := Ground.phase }, { on := 2, ground := Ground.phase }, { on := 3, ground := Ground.phase }, { on := 4, ground := Ground.phase }, { on := 5, ground := Ground.phase }, { on := 6, ground := Ground.phase }, { on := 7, ground := Ground.phase }, { on := 8, ground := Ground.phase }, { on := 9, ground := Ground.phase }, { on := 10, ground := Ground.phase }, { on := 11, ground := Ground.phase }, { on := 12, ground := Ground.phase }, { on := 13, ground := Ground.phase }, { on := 14, ground := Ground.phase }], guard := none } rfl (by kernel_rfl) (by rfl) (fun K hK => ?_)
      go_simp
      refine hK.out _ _ (Kt.G.late (by kernel_rfl)) (fun _ => ?_)
      clear hK K
      try simp only [Act.put, List.setIfInBounds_toArray, List.set_cons_zero, List.set_cons_succ]
      refine Kt.G.takeP 16 { dst := some 7, op := Op.assign (Operand.const (Value.int IntKind.i64 0)), type := 28, pos := "scsi.go:68", after := #[{ on := 15, ground := Ground.chain }, { on := 0, ground := Ground.phase }, { on := 1, ground := Ground.phase }, { on := 2, ground := Ground.phase }, { on := 3, ground := Ground.phase }, { on := 4, ground := Ground.phase }, { on := 5, ground := Ground.phase }, { on := 6, ground := Ground.phase }, { on := 7, ground := Ground.phase }, { on := 8, ground := Ground.phase }, { on := 9, ground := Ground.phase }, { on := 10, ground := Ground.phase }, { on := 11, ground := Ground.phase }, { on := 12, ground := Ground.phase }, { on := 13, ground := Ground.phase }, { on := 14, ground := Ground.phase }, { on := 15, ground := Ground.phase }], guard := none } ?_ (Kt.G.late (by kernel_rfl)) rfl (by kernel_rfl) (fun _ _ _ h => h) (by rfl) ?_ ?_
      rotate_left
      · intro w; go_simp; try with_reducible rfl
      try simp only [Act.put, List.setIfInBounds_toArray, List.set_cons_zero, List.set_cons_succ]
      refine Kt.G.done (by kernel_rfl) (NoPanic.normal ?_) _
      go_wp2_with fail
      refine bodyPost_ret (v := .tuple #[.string (B2 ++ B5 ++ B12), .int .i64 0]) (by simp [results, Try.results40]) rfl ?_
      exact ⟨by rw [HE.out], hHeld.bel⟩
  · go_simp
    refine (HL.out _).mono ?_; rintro en x5 ⟨rfl, hb5⟩
    refine hK.out _ _ (fun _ => hHeld.on hb5) (fun hHeld => ?_)
    have hHeld := hHeld rfl
    clear hK K
    try simp only [Act.put, List.setIfInBounds_toArray, List.set_cons_zero, List.set_cons_succ]
    clear hb5
    refine Kt.G.two 2 12 { dst := some 36, op := Op.buildSlice 56 2 #[(0, Operand.tmp 35), (1, Operand.const (Value.int IntKind.u8 0))], type := 56, pos := "scsi.go:68", after := #[{ on := 1, ground := Ground.data }], guard := none } { dst := some 46, op := Op.buildSlice 56 4 #[(0, Operand.const (Value.int IntKind.u8 0)), (1, Operand.tmp 43), (2, Operand.tmp 45), (3, Operand.const (Value.int IntKind.u8 0))], type := 56, pos := "scsi.go:68", after := #[{ on := 9, ground := Ground.data }, { on := 11, ground := Ground.data }], guard := none } rfl rfl (by kernel_rfl) (by rfl) (by rfl) (fun K hK => ?_) (fun K hK => ?_)
    · have hz2 := hHeld.bel.size
      go_simp
      refine hK.out _ _ (fun _ => hHeld.alloc _) (fun hHeld => ?_)
      have hHeld := hHeld rfl
      clear hK K
      try simp only [Act.put, List.setIfInBounds_toArray, List.set_cons_zero, List.set_cons_succ]
      have hHeld := hHeld.add (heap_alloc_new x5 (.cells #[.int .u8 (IntKind.u8.wrap 40), .int .u8 0] 5))
      generalize hK2 : x5.heap.size = K2 at *
      clear hK2
      generalize x5.alloc (.cells #[.int .u8 (IntKind.u8.wrap 40), .int .u8 0] 5) = y2 at *
      refine Kt.G.more (F' := Kt.Fb w ((K2, #[.int .u8 (IntKind.u8.wrap 40), .int .u8 0], 5) :: [])) (fun _ h => Kt.Fb.less h) _ _ _ _ ?_
      refine Kt.G.take 3 { dst := some 37, op := Op.convert 56 9 (Operand.tmp 36), type := 9, pos := "scsi.go:68", after := #[{ on := 2, ground := Ground.data }], guard := none } (.string B2) hHeld rfl (by kernel_rfl) (fun _ _ _ h => h) (by rfl) ?_ ?_
      · intro w hSw; have hcv := Kt.cv_row [IntKind.u8.wrap 40, 0] #[.int .u8 (IntKind.u8.wrap 40), .int .u8 0] 2 K2 rfl rfl (hSw.row (K2, #[.int .u8 (IntKind.u8.wrap 40), .int .u8 0], 5) (by simp)); rw [hB2] at hcv; go_simp; try with_reducible rfl
      try simp only [Act.put, List.setIfInBounds_toArray, List.set_cons_zero, List.set_cons_succ]
      refine Kt.G.takeP 6 { dst := some 40, op := Op.binOp BinOp.add 9 (Operand.tmp 37) (Operand.tmp 39) 9, type := 9, pos := "scsi.go:68", after := #[{ on := 3, ground := Ground.data }, { on := 5, ground := Ground.data }], guard := none } ?_ (fun _ => hHeld) rfl (by kernel_rfl) (fun _ _ _ h => h) (by rfl) ?_ ?_
      rotate_left
      · intro w; go_simp; try with_reducible rfl
      try simp only [Act.put, List.setIfInBounds_toArray, List.set_cons_zero, List.set_cons_succ]
      refine Kt.G.one 12 { dst := some 46, op := Op.buildSlice 56 4 #[(0, Operand.const (Value.int IntKind.u8 0)), (1, Operand.tmp 43), (2, Operand.tmp 45), (3, Operand.const (Value.int IntKind.u8 0))], type := 56, pos := "scsi.go:68", after := #[{ on := 9, ground := Ground.data }, { on := 11, ground := Ground.data }], guard := none } rfl (by kernel_rfl) (by rfl) (fun K hK => ?_)
      have hz12 := hHeld.bel.size
      go_simp
      refine hK.out _ _ (fun _ => hHeld.alloc _) (fun hHeld => ?_)
      have hHeld := hHeld rfl
      clear hK K
      try simp only [Act.put, List.setIfInBounds_toArray, List.set_cons_zero, List.set_cons_succ]
      have hHeld := hHeld.add (heap_alloc_new y2 (.cells #[.int .u8 0, .int .u8 (IntKind.u8.wrap (n / 256)), .int .u8 (IntKind.u8.wrap n), .int .u8 0] 5))
      generalize hK12 : y2.heap.size = K12 at *
      clear hK12
      generalize y2.alloc (.cells #[.int .u8 0, .int .u8 (IntKind.u8.wrap (n / 256)), .int .u8 (IntKind.u8.wrap n), .int .u8 0] 5) = y12 at *
      refine Kt.G.more (F' := Kt.Fb w ((K12, #[.int .u8 0, .int .u8 (IntKind.u8.wrap (n / 256)), .int .u8 (IntKind.u8.wrap n), .int .u8 0], 5) :: [(K2, #[.int .u8 (IntKind.u8.wrap 40), .int .u8 0], 5)])) (fun _ h => Kt.Fb.less h) _ _ _ _ ?_
      refine Kt.G.take 13 { dst := some 47, op := Op.convert 56 9 (Operand.tmp 46), type := 9, pos := "scsi.go:68", after := #[{ on := 12, ground := Ground.data }], guard := none } (.string B12) hHeld rfl (by kernel_rfl) (fun _ _ _ h => h) (by rfl) ?_ ?_
      · intro w hSw; have hcv := Kt.cv_row [0, IntKind.u8.wrap (n / 256), IntKind.u8.wrap n, 0] #[.int .u8 0, .int .u8 (IntKind.u8.wrap (n / 256)), .int .u8 (IntKind.u8.wrap n), .int .u8 0] 4 K12 rfl rfl (hSw.row (K12, #[.int .u8 0, .int .u8 (IntKind.u8.wrap (n / 256)), .int .u8 (IntKind.u8.wrap n), .int .u8 0], 5) (by simp)); rw [hB12] at hcv; go_simp; try with_reducible rfl
      try simp only [Act.put, List.setIfInBounds_toArray, List.set_cons_zero, List.set_cons_succ]
      refine Kt.G.takeP 14 { dst := some 48, op := Op.binOp BinOp.add 9 (Operand.tmp 40) (Operand.tmp 47) 9, type := 9, pos := "scsi.go:68", after := #[{ on := 6, ground := Ground.data }, { on := 13, ground := Ground.data }], guard := none } ?_ (fun _ => hHeld) rfl (by kernel_rfl) (fun _ _ _ h => h) (by rfl) ?_ ?_
      rotate_left
      · intro w; go_simp; try with_reducible rfl
      try simp only [Act.put, List.setIfInBounds_toArray, List.set_cons_zero, List.set_cons_succ]
      refine Kt.G.one 15 { dst := some 6, op := Op.assign (Operand.tmp 48), type := 9, pos := "scsi.go:68", after := #[{ on := 14, ground := Ground.data }, { on := 5, ground := Ground.chain }, { on := 0, ground := Ground.phase }, { on := 1, ground := Ground.phase }, { on := 2, ground := Ground.phase }, { on := 3, ground := Ground.phase }, { on := 4, ground := Ground.phase }, { on := 5, ground := Ground.phase }, { on := 6, ground := Ground.phase }, { on := 7, ground := Ground.phase }, { on := 8, ground := Ground.phase }, { on := 9, ground := Ground.phase }, { on := 10, ground := Ground.phase }, { on := 11, ground := Ground.phase }, { on := 12, ground := Ground.phase }, { on := 13, ground := Ground.phase }, { on := 14, ground := Ground.phase }], guard := none } rfl (by kernel_rfl) (by rfl) (fun K hK => ?_)
      go_simp
      refine hK.out _ _ (Kt.G.late (by kernel_rfl)) (fun _ => ?_)
      clear hK K
      try simp only [Act.put, List.setIfInBounds_toArray, List.set_cons_zero, List.set_cons_succ]
      refine Kt.G.takeP 16 { dst := some 7, op := Op.assign (Operand.const (Value.int IntKind.i64 0)), type := 28, pos := "scsi.go:68", after := #[{ on := 15, ground := Ground.chain }, { on := 0, ground := Ground.phase }, { on := 1, ground := Ground.phase }, { on := 2, ground := Ground.phase }, { on := 3, ground := Ground.phase }, { on := 4, ground := Ground.phase }, { on := 5, ground := Ground.phase }, { on := 6, ground := Ground.phase }, { on := 7, ground := Ground.phase }, { on := 8, ground := Ground.phase }, { on := 9, ground := Ground.phase }, { on := 10, ground := Ground.phase }, { on := 11, ground := Ground.phase }, { on := 12, ground := Ground.phase }, { on := 13, ground := Ground.phase }, { on := 14, ground := Ground.phase }, { on := 15, ground := Ground.phase }], guard := none } ?_ (Kt.G.late (by kernel_rfl)) rfl (by kernel_rfl) (fun _ _ _ h => h) (by rfl) ?_ ?_
      rotate_left
      · intro w; go_simp; try with_reducible rfl
      try simp only [Act.put, List.setIfInBounds_toArray, List.set_cons_zero, List.set_cons_succ]
      refine Kt.G.done (by kernel_rfl) (NoPanic.normal ?_) _
      go_wp2_with fail
      refine bodyPost_ret (v := .tuple #[.string (B2 ++ B5 ++ B12), .int .i64 0]) (by simp [results, Try.results40]) rfl ?_
      exact ⟨by rw [HE.out], hHeld.bel⟩
    · have hz12 := hHeld.bel.size
      go_simp
      refine hK.out _ _ (fun _ => hHeld.alloc _) (fun hHeld => ?_)
      have hHeld := hHeld rfl
      clear hK K
      try simp only [Act.put, List.setIfInBounds_toArray, List.set_cons_zero, List.set_cons_succ]
      have hHeld := hHeld.add (heap_alloc_new x5 (.cells #[.int .u8 0, .int .u8 (IntKind.u8.wrap (n / 256)), .int .u8 (IntKind.u8.wrap n), .int .u8 0] 5))
      generalize hK12 : x5.heap.size = K12 at *
      clear hK12
      generalize x5.alloc (.cells #[.int .u8 0, .int .u8 (IntKind.u8.wrap (n / 256)), .int .u8 (IntKind.u8.wrap n), .int .u8 0] 5) = y12 at *
      refine Kt.G.more (F' := Kt.Fb w ((K12, #[.int .u8 0, .int .u8 (IntKind.u8.wrap (n / 256)), .int .u8 (IntKind.u8.wrap n), .int .u8 0], 5) :: [])) (fun _ h => Kt.Fb.less h) _ _ _ _ ?_
      refine Kt.G.take 13 { dst := some 47, op := Op.convert 56 9 (Operand.tmp 46), type := 9, pos := "scsi.go:68", after := #[{ on := 12, ground := Ground.data }], guard := none } (.string B12) hHeld rfl (by kernel_rfl) (fun _ _ _ h => h) (by rfl) ?_ ?_
      · intro w hSw; have hcv := Kt.cv_row [0, IntKind.u8.wrap (n / 256), IntKind.u8.wrap n, 0] #[.int .u8 0, .int .u8 (IntKind.u8.wrap (n / 256)), .int .u8 (IntKind.u8.wrap n), .int .u8 0] 4 K12 rfl rfl (hSw.row (K12, #[.int .u8 0, .int .u8 (IntKind.u8.wrap (n / 256)), .int .u8 (IntKind.u8.wrap n), .int .u8 0], 5) (by simp)); rw [hB12] at hcv; go_simp; try with_reducible rfl
      try simp only [Act.put, List.setIfInBounds_toArray, List.set_cons_zero, List.set_cons_succ]
      refine Kt.G.one 2 { dst := some 36, op := Op.buildSlice 56 2 #[(0, Operand.tmp 35), (1, Operand.const (Value.int IntKind.u8 0))], type := 56, pos := "scsi.go:68", after := #[{ on := 1, ground := Ground.data }], guard := none } rfl (by kernel_rfl) (by rfl) (fun K hK => ?_)
      have hz2 := hHeld.bel.size
      go_simp
      refine hK.out _ _ (fun _ => hHeld.alloc _) (fun hHeld => ?_)
      have hHeld := hHeld rfl
      clear hK K
      try simp only [Act.put, List.setIfInBounds_toArray, List.set_cons_zero, List.set_cons_succ]
      have hHeld := hHeld.add (heap_alloc_new y12 (.cells #[.int .u8 (IntKind.u8.wrap 40), .int .u8 0] 5))
      generalize hK2 : y12.heap.size = K2 at *
      clear hK2
      generalize y12.alloc (.cells #[.int .u8 (IntKind.u8.wrap 40), .int .u8 0] 5) = y2 at *
      refine Kt.G.more (F' := Kt.Fb w ((K2, #[.int .u8 (IntKind.u8.wrap 40), .int .u8 0], 5) :: [(K12, #[.int .u8 0, .int .u8 (IntKind.u8.wrap (n / 256)), .int .u8 (IntKind.u8.wrap n), .int .u8 0], 5)])) (fun _ h => Kt.Fb.less h) _ _ _ _ ?_
      refine Kt.G.take 3 { dst := some 37, op := Op.convert 56 9 (Operand.tmp 36), type := 9, pos := "scsi.go:68", after := #[{ on := 2, ground := Ground.data }], guard := none } (.string B2) hHeld rfl (by kernel_rfl) (fun _ _ _ h => h) (by rfl) ?_ ?_
      · intro w hSw; have hcv := Kt.cv_row [IntKind.u8.wrap 40, 0] #[.int .u8 (IntKind.u8.wrap 40), .int .u8 0] 2 K2 rfl rfl (hSw.row (K2, #[.int .u8 (IntKind.u8.wrap 40), .int .u8 0], 5) (by simp)); rw [hB2] at hcv; go_simp; try with_reducible rfl
      try simp only [Act.put, List.setIfInBounds_toArray, List.set_cons_zero, List.set_cons_succ]
      refine Kt.G.takeP 6 { dst := some 40, op := Op.binOp BinOp.add 9 (Operand.tmp 37) (Operand.tmp 39) 9, type := 9, pos := "scsi.go:68", after := #[{ on := 3, ground := Ground.data }, { on := 5, ground := Ground.data }], guard := none } ?_ (fun _ => hHeld) rfl (by kernel_rfl) (fun _ _ _ h => h) (by rfl) ?_ ?_
      rotate_left
      · intro w; go_simp; try with_reducible rfl
      try simp only [Act.put, List.setIfInBounds_toArray, List.set_cons_zero, List.set_cons_succ]
      refine Kt.G.takeP 14 { dst := some 48, op := Op.binOp BinOp.add 9 (Operand.tmp 40) (Operand.tmp 47) 9, type := 9, pos := "scsi.go:68", after := #[{ on := 6, ground := Ground.data }, { on := 13, ground := Ground.data }], guard := none } ?_ (fun _ => hHeld) rfl (by kernel_rfl) (fun _ _ _ h => h) (by rfl) ?_ ?_
      rotate_left
      · intro w; go_simp; try with_reducible rfl
      try simp only [Act.put, List.setIfInBounds_toArray, List.set_cons_zero, List.set_cons_succ]
      refine Kt.G.one 15 { dst := some 6, op := Op.assign (Operand.tmp 48), type := 9, pos := "scsi.go:68", after := #[{ on := 14, ground := Ground.data }, { on := 5, ground := Ground.chain }, { on := 0, ground := Ground.phase }, { on := 1, ground := Ground.phase }, { on := 2, ground := Ground.phase }, { on := 3, ground := Ground.phase }, { on := 4, ground := Ground.phase }, { on := 5, ground := Ground.phase }, { on := 6, ground := Ground.phase }, { on := 7, ground := Ground.phase }, { on := 8, ground := Ground.phase }, { on := 9, ground := Ground.phase }, { on := 10, ground := Ground.phase }, { on := 11, ground := Ground.phase }, { on := 12, ground := Ground.phase }, { on := 13, ground := Ground.phase }, { on := 14, ground := Ground.phase }], guard := none } rfl (by kernel_rfl) (by rfl) (fun K hK => ?_)
      go_simp
      refine hK.out _ _ (Kt.G.late (by kernel_rfl)) (fun _ => ?_)
      clear hK K
      try simp only [Act.put, List.setIfInBounds_toArray, List.set_cons_zero, List.set_cons_succ]
      refine Kt.G.takeP 16 { dst := some 7, op := Op.assign (Operand.const (Value.int IntKind.i64 0)), type := 28, pos := "scsi.go:68", after := #[{ on := 15, ground := Ground.chain }, { on := 0, ground := Ground.phase }, { on := 1, ground := Ground.phase }, { on := 2, ground := Ground.phase }, { on := 3, ground := Ground.phase }, { on := 4, ground := Ground.phase }, { on := 5, ground := Ground.phase }, { on := 6, ground := Ground.phase }, { on := 7, ground := Ground.phase }, { on := 8, ground := Ground.phase }, { on := 9, ground := Ground.phase }, { on := 10, ground := Ground.phase }, { on := 11, ground := Ground.phase }, { on := 12, ground := Ground.phase }, { on := 13, ground := Ground.phase }, { on := 14, ground := Ground.phase }, { on := 15, ground := Ground.phase }], guard := none } ?_ (Kt.G.late (by kernel_rfl)) rfl (by kernel_rfl) (fun _ _ _ h => h) (by rfl) ?_ ?_
      rotate_left
      · intro w; go_simp; try with_reducible rfl
      try simp only [Act.put, List.setIfInBounds_toArray, List.set_cons_zero, List.set_cons_succ]
      refine Kt.G.done (by kernel_rfl) (NoPanic.normal ?_) _
      go_wp2_with fail
      refine bodyPost_ret (v := .tuple #[.string (B2 ++ B5 ++ B12), .int .i64 0]) (by simp [results, Try.results40]) rfl ?_
      exact ⟨by rw [HE.out], hHeld.bel⟩
  · have hz12 := hHeld.bel.size
    go_simp
    refine hK.out _ _ (fun _ => hHeld.alloc _) (fun hHeld => ?_)
    have hHeld := hHeld rfl
    clear hK K
    try simp only [Act.put, List.setIfInBounds_toArray, List.set_cons_zero, List.set_cons_succ]
    have hHeld := hHeld.add (heap_alloc_new x0 (.cells #[.int .u8 0, .int .u8 (IntKind.u8.wrap (n / 256)), .int .u8 (IntKind.u8.wrap n), .int .u8 0] 5))
    generalize hK12 : x0.heap.size = K12 at *
    clear hK12
    generalize x0.alloc (.cells #[.int .u8 0, .int .u8 (IntKind.u8.wrap (n / 256)), .int .u8 (IntKind.u8.wrap n), .int .u8 0] 5) = y12 at *
    refine Kt.G.more (F' := Kt.Fb w ((K12, #[.int .u8 0, .int .u8 (IntKind.u8.wrap (n / 256)), .int .u8 (IntKind.u8.wrap n), .int .u8 0], 5) :: [])) (fun _ h => Kt.Fb.less h) _ _ _ _ ?_
    refine Kt.G.take 13 { dst := some 47, op := Op.convert 56 9 (Operand.tmp 46), type := 9, pos := "scsi.go:68", after := #[{ on := 12, ground := Ground.data }], guard := none } (.string B12) hHeld rfl (by kernel_rfl) (fun _ _ _ h => h) (by rfl) ?_ ?_
    · intro w hSw; have hcv := Kt.cv_row [0, IntKind.u8.wrap (n / 256), IntKind.u8.wrap n, 0] #[.int .u8 0, .int .u8 (IntKind.u8.wrap (n / 256)), .int .u8 (IntKind.u8.wrap n), .int .u8 0] 4 K12 rfl rfl (hSw.row (K12, #[.int .u8 0, .int .u8 (IntKind.u8.wrap (n / 256)), .int .u8 (IntKind.u8.wrap n), .int .u8 0], 5) (by simp)); rw [hB12] at hcv; go_simp; try with_reducible rfl
    try simp only [Act.put, List.setIfInBounds_toArray, List.set_cons_zero, List.set_cons_succ]
    refine Kt.G.two 2 5 { dst := some 36, op := Op.buildSlice 56 2 #[(0, Operand.tmp 35), (1, Operand.const (Value.int IntKind.u8 0))], type := 56, pos := "scsi.go:68", after := #[{ on := 1, ground := Ground.data }], guard := none } { dst := some 39, op := Op.call { callee := Callee.value (Operand.func 53), args := #[Operand.tmp 38], argTypes := #[3] }, type := 9, pos := "scsi.go:68", after := #[{ on := 4, ground := Ground.data }], guard := none } rfl rfl (by kernel_rfl) (by rfl) (by rfl) (fun K hK => ?_) (fun K hK => ?_)
    · have hz2 := hHeld.bel.size
      go_simp
      refine hK.out _ _ (fun _ => hHeld.alloc _) (fun hHeld => ?_)
      have hHeld := hHeld rfl
      clear hK K
      try simp only [Act.put, List.setIfInBounds_toArray, List.set_cons_zero, List.set_cons_succ]
      have hHeld := hHeld.add (heap_alloc_new y12 (.cells #[.int .u8 (IntKind.u8.wrap 40), .int .u8 0] 5))
      generalize hK2 : y12.heap.size = K2 at *
      clear hK2
      generalize y12.alloc (.cells #[.int .u8 (IntKind.u8.wrap 40), .int .u8 0] 5) = y2 at *
      refine Kt.G.more (F' := Kt.Fb w ((K2, #[.int .u8 (IntKind.u8.wrap 40), .int .u8 0], 5) :: [(K12, #[.int .u8 0, .int .u8 (IntKind.u8.wrap (n / 256)), .int .u8 (IntKind.u8.wrap n), .int .u8 0], 5)])) (fun _ h => Kt.Fb.less h) _ _ _ _ ?_
      refine Kt.G.take 3 { dst := some 37, op := Op.convert 56 9 (Operand.tmp 36), type := 9, pos := "scsi.go:68", after := #[{ on := 2, ground := Ground.data }], guard := none } (.string B2) hHeld rfl (by kernel_rfl) (fun _ _ _ h => h) (by rfl) ?_ ?_
      · intro w hSw; have hcv := Kt.cv_row [IntKind.u8.wrap 40, 0] #[.int .u8 (IntKind.u8.wrap 40), .int .u8 0] 2 K2 rfl rfl (hSw.row (K2, #[.int .u8 (IntKind.u8.wrap 40), .int .u8 0], 5) (by simp)); rw [hB2] at hcv; go_simp; try with_reducible rfl
      try simp only [Act.put, List.setIfInBounds_toArray, List.set_cons_zero, List.set_cons_succ]
      refine Kt.G.one 5 { dst := some 39, op := Op.call { callee := Callee.value (Operand.func 53), args := #[Operand.tmp 38], argTypes := #[3] }, type := 9, pos := "scsi.go:68", after := #[{ on := 4, ground := Ground.data }], guard := none } rfl (by kernel_rfl) (by rfl) (fun K hK => ?_)
      go_simp
      refine (HL.out _).mono ?_; rintro en x5 ⟨rfl, hb5⟩
      refine hK.out _ _ (fun _ => hHeld.on hb5) (fun hHeld => ?_)
      have hHeld := hHeld rfl
      clear hK K
      try simp only [Act.put, List.setIfInBounds_toArray, List.set_cons_zero, List.set_cons_succ]
      clear hb5
      refine Kt.G.takeP 6 { dst := some 40, op := Op.binOp BinOp.add 9 (Operand.tmp 37) (Operand.tmp 39) 9, type := 9, pos := "scsi.go:68", after := #[{ on := 3, ground := Ground.data }, { on := 5, ground := Ground.data }], guard := none } ?_ (fun _ => hHeld) rfl (by kernel_rfl) (fun _ _ _ h => h) (by rfl) ?_ ?_
      rotate_left
      · intro w; go_simp; try with_reducible rfl
      try simp only [Act.put, List.setIfInBounds_toArray, List.set_cons_zero, List.set_cons_succ]
      refine Kt.G.takeP 14 { dst := some 48, op := Op.binOp BinOp.add 9 (Operand.tmp 40) (Operand.tmp 47) 9, type := 9, pos := "scsi.go:68", after := #[{ on := 6, ground := Ground.data }, { on := 13, ground := Ground.data }], guard := none } ?_ (fun _ => hHeld) rfl (by kernel_rfl) (fun _ _ _ h => h) (by rfl) ?_ ?_
      rotate_left
      · intro w; go_simp; try with_reducible rfl
      try simp only [Act.put, List.setIfInBounds_toArray, List.set_cons_zero, List.set_cons_succ]
      refine Kt.G.one 15 { dst := some 6, op := Op.assign (Operand.tmp 48), type := 9, pos := "scsi.go:68", after := #[{ on := 14, ground := Ground.data }, { on := 5, ground := Ground.chain }, { on := 0, ground := Ground.phase }, { on := 1, ground := Ground.phase }, { on := 2, ground := Ground.phase }, { on := 3, ground := Ground.phase }, { on := 4, ground := Ground.phase }, { on := 5, ground := Ground.phase }, { on := 6, ground := Ground.phase }, { on := 7, ground := Ground.phase }, { on := 8, ground := Ground.phase }, { on := 9, ground := Ground.phase }, { on := 10, ground := Ground.phase }, { on := 11, ground := Ground.phase }, { on := 12, ground := Ground.phase }, { on := 13, ground := Ground.phase }, { on := 14, ground := Ground.phase }], guard := none } rfl (by kernel_rfl) (by rfl) (fun K hK => ?_)
      go_simp
      refine hK.out _ _ (Kt.G.late (by kernel_rfl)) (fun _ => ?_)
      clear hK K
      try simp only [Act.put, List.setIfInBounds_toArray, List.set_cons_zero, List.set_cons_succ]
      refine Kt.G.takeP 16 { dst := some 7, op := Op.assign (Operand.const (Value.int IntKind.i64 0)), type := 28, pos := "scsi.go:68", after := #[{ on := 15, ground := Ground.chain }, { on := 0, ground := Ground.phase }, { on := 1, ground := Ground.phase }, { on := 2, ground := Ground.phase }, { on := 3, ground := Ground.phase }, { on := 4, ground := Ground.phase }, { on := 5, ground := Ground.phase }, { on := 6, ground := Ground.phase }, { on := 7, ground := Ground.phase }, { on := 8, ground := Ground.phase }, { on := 9, ground := Ground.phase }, { on := 10, ground := Ground.phase }, { on := 11, ground := Ground.phase }, { on := 12, ground := Ground.phase }, { on := 13, ground := Ground.phase }, { on := 14, ground := Ground.phase }, { on := 15, ground := Ground.phase }], guard := none } ?_ (Kt.G.late (by kernel_rfl)) rfl (by kernel_rfl) (fun _ _ _ h => h) (by rfl) ?_ ?_
      rotate_left
      · intro w; go_simp; try with_reducible rfl
      try simp only [Act.put, List.setIfInBounds_toArray, List.set_cons_zero, List.set_cons_succ]
      refine Kt.G.done (by kernel_rfl) (NoPanic.normal ?_) _
      go_wp2_with fail
      refine bodyPost_ret (v := .tuple #[.string (B2 ++ B5 ++ B12), .int .i64 0]) (by simp [results, Try.results40]) rfl ?_
      exact ⟨by rw [HE.out], hHeld.bel⟩
    · go_simp
      refine (HL.out _).mono ?_; rintro en x5 ⟨rfl, hb5⟩
      refine hK.out _ _ (fun _ => hHeld.on hb5) (fun hHeld => ?_)
      have hHeld := hHeld rfl
      clear hK K
      try simp only [Act.put, List.setIfInBounds_toArray, List.set_cons_zero, List.set_cons_succ]
      clear hb5
      refine Kt.G.one 2 { dst := some 36, op := Op.buildSlice 56 2 #[(0, Operand.tmp 35), (1, Operand.const (Value.int IntKind.u8 0))], type := 56, pos := "scsi.go:68", after := #[{ on := 1, ground := Ground.data }], guard := none } rfl (by kernel_rfl) (by rfl) (fun K hK => ?_)
      have hz2 := hHeld.bel.size
      go_simp
      refine hK.out _ _ (fun _ => hHeld.alloc _) (fun hHeld => ?_)
      have hHeld := hHeld rfl
      clear hK K
      try simp only [Act.put, List.setIfInBounds_toArray, List.set_cons_zero, List.set_cons_succ]
      have hHeld := hHeld.add (heap_alloc_new x5 (.cells #[.int .u8 (IntKind.u8.wrap 40), .int .u8 0] 5))
      generalize hK2 : x5.heap.size = K2 at *
      clear hK2
      generalize x5.alloc (.cells #[.int .u8 (IntKind.u8.wrap 40), .int .u8 0] 5) = y2 at *
      refine Kt.G.more (F' := Kt.Fb w ((K2, #[.int .u8 (IntKind.u8.wrap 40), .int .u8 0], 5) :: [(K12, #[.int .u8 0, .int .u8 (IntKind.u8.wrap (n / 256)), .int .u8 (IntKind.u8.wrap n), .int .u8 0], 5)])) (fun _ h => Kt.Fb.less h) _ _ _ _ ?_
      refine Kt.G.take 3 { dst := some 37, op := Op.convert 56 9 (Operand.tmp 36), type := 9, pos := "scsi.go:68", after := #[{ on := 2, ground := Ground.data }], guard := none } (.string B2) hHeld rfl (by kernel_rfl) (fun _ _ _ h => h) (by rfl) ?_ ?_
      · intro w hSw; have hcv := Kt.cv_row [IntKind.u8.wrap 40, 0] #[.int .u8 (IntKind.u8.wrap 40), .int .u8 0] 2 K2 rfl rfl (hSw.row (K2, #[.int .u8 (IntKind.u8.wrap 40), .int .u8 0], 5) (by simp)); rw [hB2] at hcv; go_simp; try with_reducible rfl
      try simp only [Act.put, List.setIfInBounds_toArray, List.set_cons_zero, List.set_cons_succ]
      refine Kt.G.takeP 6 { dst := some 40, op := Op.binOp BinOp.add 9 (Operand.tmp 37) (Operand.tmp 39) 9, type := 9, pos := "scsi.go:68", after := #[{ on := 3, ground := Ground.data }, { on := 5, ground := Ground.data }], guard := none } ?_ (fun _ => hHeld) rfl (by kernel_rfl) (fun _ _ _ h => h) (by rfl) ?_ ?_
      rotate_left
      · intro w; go_simp; try with_reducible rfl
      try simp only [Act.put, List.setIfInBounds_toArray, List.set_cons_zero, List.set_cons_succ]
      refine Kt.G.takeP 14 { dst := some 48, op := Op.binOp BinOp.add 9 (Operand.tmp 40) (Operand.tmp 47) 9, type := 9, pos := "scsi.go:68", after := #[{ on := 6, ground := Ground.data }, { on := 13, ground := Ground.data }], guard := none } ?_ (fun _ => hHeld) rfl (by kernel_rfl) (fun _ _ _ h => h) (by rfl) ?_ ?_
      rotate_left
      · intro w; go_simp; try with_reducible rfl
      try simp only [Act.put, List.setIfInBounds_toArray, List.set_cons_zero, List.set_cons_succ]
      refine Kt.G.one 15 { dst := some 6, op := Op.assign (Operand.tmp 48), type := 9, pos := "scsi.go:68", after := #[{ on := 14, ground := Ground.data }, { on := 5, ground := Ground.chain }, { on := 0, ground := Ground.phase }, { on := 1, ground := Ground.phase }, { on := 2, ground := Ground.phase }, { on := 3, ground := Ground.phase }, { on := 4, ground := Ground.phase }, { on := 5, ground := Ground.phase }, { on := 6, ground := Ground.phase }, { on := 7, ground := Ground.phase }, { on := 8, ground := Ground.phase }, { on := 9, ground := Ground.phase }, { on := 10, ground := Ground.phase }, { on := 11, ground := Ground.phase }, { on := 12, ground := Ground.phase }, { on := 13, ground := Ground.phase }, { on := 14, ground := Ground.phase }], guard := none } rfl (by kernel_rfl) (by rfl) (fun K hK => ?_)
      go_simp
      refine hK.out _ _ (Kt.G.late (by kernel_rfl)) (fun _ => ?_)
      clear hK K
      try simp only [Act.put, List.setIfInBounds_toArray, List.set_cons_zero, List.set_cons_succ]
      refine Kt.G.takeP 16 { dst := some 7, op := Op.assign (Operand.const (Value.int IntKind.i64 0)), type := 28, pos := "scsi.go:68", after := #[{ on := 15, ground := Ground.chain }, { on := 0, ground := Ground.phase }, { on := 1, ground := Ground.phase }, { on := 2, ground := Ground.phase }, { on := 3, ground := Ground.phase }, { on := 4, ground := Ground.phase }, { on := 5, ground := Ground.phase }, { on := 6, ground := Ground.phase }, { on := 7, ground := Ground.phase }, { on := 8, ground := Ground.phase }, { on := 9, ground := Ground.phase }, { on := 10, ground := Ground.phase }, { on := 11, ground := Ground.phase }, { on := 12, ground := Ground.phase }, { on := 13, ground := Ground.phase }, { on := 14, ground := Ground.phase }, { on := 15, ground := Ground.phase }], guard := none } ?_ (Kt.G.late (by kernel_rfl)) rfl (by kernel_rfl) (fun _ _ _ h => h) (by rfl) ?_ ?_
      rotate_left
      · intro w; go_simp; try with_reducible rfl
      try simp only [Act.put, List.setIfInBounds_toArray, List.set_cons_zero, List.set_cons_succ]
      refine Kt.G.done (by kernel_rfl) (NoPanic.normal ?_) _
      go_wp2_with fail
      refine bodyPost_ret (v := .tuple #[.string (B2 ++ B5 ++ B12), .int .i64 0]) (by simp [results, Try.results40]) rfl ?_
      exact ⟨by rw [HE.out], hHeld.bel⟩
  -- END 40
set_option maxRecDepth 100000 in
theorem make_calls42 (a n : Int) (h : OkMk a n) (w : World) :
    Calls Try.prog 40 #[.int .i64 42, .int .i64 a, .int .i64 n] w fun e w' => e = .returned (.tuple #[.string (mk 42 a.toNat n.toNat), .int .i64 0]) ∧ Below w.heap.size w w' := by
  obtain ⟨h1, h2, h3, h4⟩ := h
  have HL : Hid (∀ W, Calls Try.prog 53 #[.int .i64 a] W fun e w' => e = .returned (.string (four a.toNat)) ∧ Below W.heap.size W w') := Lib.hid fun W => by
    obtain ⟨k, rfl⟩ : ∃ k : Nat, (k : Int) = a := ⟨a.toNat, by omega⟩
    exact long_calls k (by omega) W
  have HN := Lib.hid (And.intro h1 (And.intro h2 (And.intro h3 h4)))
  have h5 : ¬ (65535 : Int) < n := by omega
  have h6 : ¬ n < 0 := by omega
  have h7 : ¬ a < 0 := by omega
  have h8 : ¬ 4294967296 ≤ a := by omega
  obtain ⟨B5, hB5⟩ : ∃ B, four a.toNat = B := ⟨_, rfl⟩
  have sB5 : B5.size = 4 := by rw [← hB5]; rfl
  rw [hB5] at HL
  go_enter Try.func40, Try.ntmps40
  go_upto_region 3 with (fail)
  clear h1 h2 h3 h4 h5 h6 h7 h8
  -- REGION 42
  obtain ⟨B2, hB2⟩ : ∃ B : ByteArray, (⟨(List.map (fun (n : Int) => UInt8.ofNat n.toNat) [IntKind.u8.wrap 42, 0]).toArray⟩ : ByteArray) = B := ⟨_, rfl⟩
  have sB2 : B2.size = 2 := by rw [← hB2]; rfl
  obtain ⟨B12, hB12⟩ : ∃ B : ByteArray, (⟨(List.map (fun (n : Int) => UInt8.ofNat n.toNat) [0, IntKind.u8.wrap (n / 256), IntKind.u8.wrap n, 0]).toArray⟩ : ByteArray) = B := ⟨_, rfl⟩
  have sB12 : B12.size = 4 := by rw [← hB12]; rfl
  have HE : Hid (B2 ++ B5 ++ B12 = mk 42 a.toNat n.toNat) := Lib.hid (by rw [← hB2, ← hB5, ← hB12]; exact mk_eq 42 a n HN.out (by decide))
  refine Kt.G.start 15 (Kt.Fb w []) (by kernel_rfl) (Kt.Fb.nil w (Below.refl _ _).drew) (fun hHeld => ?_)
  generalize w.drew = x0 at *
  refine Kt.G.takeP 0 { dst := some 34, op := Op.move (Operand.tmp 0), type := 3, pos := "scsi.go:68", after := #[], guard := none } ?_ (fun _ => hHeld) rfl (by kernel_rfl) (fun _ _ _ h => h) (by rfl) ?_ ?_
  rotate_left
  · intro w; go_simp; try with_reducible rfl
  try simp only [Act.put, List.setIfInBounds_toArray, List.set_cons_zero, List.set_cons_succ]
  refine Kt.G.takeP 1 { dst := some 35, op := Op.convert 3 5 (Operand.tmp 34), type := 5, pos := "scsi.go:68", after := #[{ on := 0, ground := Ground.data }], guard := none } ?_ (fun _ => hHeld) rfl (by kernel_rfl) (fun _ _ _ h => h) (by rfl) ?_ ?_
  rotate_left
  · intro w; go_simp; try with_reducible rfl
  try simp only [Act.put, List.setIfInBounds_toArray, List.set_cons_zero, List.set_cons_succ]
  refine Kt.G.takeP 4 { dst := some 38, op := Op.move (Operand.tmp 1), type := 3, pos := "scsi.go:68", after := #[], guard := none } ?_ (fun _ => hHeld) rfl (by kernel_rfl) (fun _ _ _ h => h) (by rfl) ?_ ?_
  rotate_left
  · intro w; go_simp; try with_reducible rfl
  try simp only [Act.put, List.setIfInBounds_toArray, List.set_cons_zero, List.set_cons_succ]
  refine Kt.G.takeP 7 { dst := some 41, op := Op.move (Operand.tmp 2), type := 3, pos := "scsi.go:68", after := #[], guard := none } ?_ (fun _ => hHeld) rfl (by kernel_rfl) (fun _ _ _ h => h) (by rfl) ?_ ?_
  rotate_left
  · intro w; go_simp; try with_reducible rfl
  try simp only [Act.put, List.setIfInBounds_toArray, List.set_cons_zero, List.set_cons_succ]
  refine Kt.G.takeP 8 { dst := some 42, op := Op.binOp BinOp.shr 3 (Operand.tmp 41) (Operand.const (Value.int IntKind.u64 8)) 69, type := 3, pos := "scsi.go:68", after := #[{ on := 7, ground := Ground.data }], guard := none } ?_ (fun _ => hHeld) rfl (by kernel_rfl) (fun _ _ _ h => h) (by rfl) ?_ ?_
  rotate_left
  · intro w; go_simp; try with_reducible rfl
  try simp only [Act.put, List.setIfInBounds_toArray, List.set_cons_zero, List.set_cons_succ]
  refine Kt.G.takeP 9 { dst := some 43, op := Op.convert 3 5 (Operand.tmp 42), type := 5, pos := "scsi.go:68", after := #[{ on := 8, ground := Ground.data }], guard := none } ?_ (fun _ => hHeld) rfl (by kernel_rfl) (fun _ _ _ h => h) (by rfl) ?_ ?_
  rotate_left
  · intro w; go_simp; try with_reducible rfl
  try simp only [Act.put, List.setIfInBounds_toArray, List.set_cons_zero, List.set_cons_succ]
  refine Kt.G.takeP 10 { dst := some 44, op := Op.move (Operand.tmp 2), type := 3, pos := "scsi.go:68", after := #[], guard := none } ?_ (fun _ => hHeld) rfl (by kernel_rfl) (fun _ _ _ h => h) (by rfl) ?_ ?_
  rotate_left
  · intro w; go_simp; try with_reducible rfl
  try simp only [Act.put, List.setIfInBounds_toArray, List.set_cons_zero, List.set_cons_succ]
  refine Kt.G.takeP 11 { dst := some 45, op := Op.convert 3 5 (Operand.tmp 44), type := 5, pos := "scsi.go:68", after := #[{ on := 10, ground := Ground.data }], guard := none } ?_ (fun _ => hHeld) rfl (by kernel_rfl) (fun _ _ _ h => h) (by rfl) ?_ ?_
  rotate_left
  · intro w; go_simp; try with_reducible rfl
  try simp only [Act.put, List.setIfInBounds_toArray, List.set_cons_zero, List.set_cons_succ]
  refine Kt.G.three 2 5 12 { dst := some 36, op := Op.buildSlice 56 2 #[(0, Operand.tmp 35), (1, Operand.const (Value.int IntKind.u8 0))], type := 56, pos := "scsi.go:68", after := #[{ on := 1, ground := Ground.data }], guard := none } { dst := some 39, op := Op.call { callee := Callee.value (Operand.func 53), args := #[Operand.tmp 38], argTypes := #[3] }, type := 9, pos := "scsi.go:68", after := #[{ on := 4, ground := Ground.data }], guard := none } { dst := some 46, op := Op.buildSlice 56 4 #[(0, Operand.const (Value.int IntKind.u8 0)), (1, Operand.tmp 43), (2, Operand.tmp 45), (3, Operand.const (Value.int IntKind.u8 0))], type := 56, pos := "scsi.go:68", after := #[{ on := 9, ground := Ground.data }, { on := 11, ground := Ground.data }], guard := none } rfl rfl rfl (by kernel_rfl) (by rfl) (by rfl) (by rfl) (fun K hK => ?_) (fun K hK => ?_) (fun K hK => ?_)
  · have hz2 := hHeld.bel.size
    go_simp
    refine hK.out _ _ (fun _ => hHeld.alloc _) (fun hHeld => ?_)
    have hHeld := hHeld rfl
    clear hK K
    try simp only [Act.put, List.setIfInBounds_toArray, List.set_cons_zero, List.set_cons_succ]
    have hHeld := hHeld.add (heap_alloc_new x0 (.cells #[.int .u8 (IntKind.u8.wrap 42), .int .u8 0] 5))
    generalize hK2 : x0.heap.size = K2 at *
    clear hK2
    generalize x0.alloc (.cells #[.int .u8 (IntKind.u8.wrap 42), .int .u8 0] 5) = y2 at *
    refine Kt.G.more (F' := Kt.Fb w ((K2, #[.int .u8 (IntKind.u8.wrap 42), .int .u8 0], 5) :: [])) (fun _ h => Kt.Fb.less h) _ _ _ _ ?_
    refine Kt.G.take 3 { dst := some 37, op := Op.convert 56 9 (Operand.tmp 36), type := 9, pos := "scsi.go:68", after := #[{ on := 2, ground := Ground.data }], guard := none } (.string B2) hHeld rfl (by kernel_rfl) (fun _ _ _ h => h) (by rfl) ?_ ?_
    · intro w hSw; have hcv := Kt.cv_row [IntKind.u8.wrap 42, 0] #[.int .u8 (IntKind.u8.wrap 42), .int .u8 0] 2 K2 rfl rfl (hSw.row (K2, #[.int .u8 (IntKind.u8.wrap 42), .int .u8 0], 5) (by simp)); rw [hB2] at hcv; go_simp; try with_reducible rfl
    try simp only [Act.put, List.setIfInBounds_toArray, List.set_cons_zero, List.set_cons_succ]
    refine Kt.G.two 5 12 { dst := some 39, op := Op.call { callee := Callee.value (Operand.func 53), args := #[Operand.tmp 38], argTypes := #[3] }, type := 9, pos := "scsi.go:68", after := #[{ on := 4, ground := Ground.data }], guard := none } { dst := some 46, op := Op.buildSlice 56 4 #[(0, Operand.const (Value.int IntKind.u8 0)), (1, Operand.tmp 43), (2, Operand.tmp 45), (3, Operand.const (Value.int IntKind.u8 0))], type := 56, pos := "scsi.go:68", after := #[{ on := 9, ground := Ground.data }, { on := 11, ground := Ground.data }], guard := none } rfl rfl (by kernel_rfl) (by rfl) (by rfl) (fun K hK => ?_) (fun K hK => ?_)
    · go_simp
      refine (HL.out _).mono ?_; rintro en x5 ⟨rfl, hb5⟩
      refine hK.out _ _ (fun _ => hHeld.on hb5) (fun hHeld => ?_)
      have hHeld := hHeld rfl
      clear hK K
      try simp only [Act.put, List.setIfInBounds_toArray, List.set_cons_zero, List.set_cons_succ]
      clear hb5
      refine Kt.G.takeP 6 { dst := some 40, op := Op.binOp BinOp.add 9 (Operand.tmp 37) (Operand.tmp 39) 9, type := 9, pos := "scsi.go:68", after := #[{ on := 3, ground := Ground.data }, { on := 5, ground := Ground.data }], guard := none } ?_ (fun _ => hHeld) rfl (by kernel_rfl) (fun _ _ _ h => h) (by rfl) ?_ ?_
      rotate_left
      · intro w; go_simp; try with_reducible rfl
      try simp only [Act.put, List.setIfInBounds_toArray, List.set_cons_zero, List.set_cons_succ]
      refine Kt.G.one 12 { dst := some 46, op := Op.buildSlice 56 4 #[(0, Operand.const (Value.int IntKind.u8 0)), (1, Operand.tmp 43), (2, Operand.tmp 45), (3, Operand.const (Value.int IntKind.u8 0))], type := 56, pos := "scsi.go:68", after := #[{ on := 9, ground := Ground.data }, { on := 11, ground := Ground.data }], guard := none } rfl (by kernel_rfl) (by rfl) (fun K hK => ?_)
      have hz12 := hHeld.bel.size
      go_simp
      refine hK.out _ _ (fun _ => hHeld.alloc _) (fun hHeld => ?_)
      have hHeld := hHeld rfl
      clear hK K
      try simp only [Act.put, List.setIfInBounds_toArray, List.set_cons_zero, List.set_cons_succ]
      have hHeld := hHeld.add (heap_alloc_new x5 (.cells #[.int .u8 0, .int .u8 (IntKind.u8.wrap (n / 256)), .int .u8 (IntKind.u8.wrap n), .int .u8 0] 5))
      generalize hK12 : x5.heap.size = K12 at *
      clear hK12
      generalize x5.alloc (.cells #[.int .u8 0, .int .u8 (IntKind.u8.wrap (n / 256)), .int .u8 (IntKind.u8.wrap n), .int .u8 0] 5) = y12 at *
      refine Kt.G.more (F' := Kt.Fb w ((K12, #[.int .u8 0, .int .u8 (IntKind.u8.wrap (n / 256)), .int .u8 (IntKind.u8.wrap n), .int .u8 0], 5) :: [(K2, #[.int .u8 (IntKind.u8.wrap 42), .int .u8 0], 5)])) (fun _ h => Kt.Fb.less h) _ _ _ _ ?_
      refine Kt.G.take 13 { dst := some 47, op := Op.convert 56 9 (Operand.tmp 46), type := 9, pos := "scsi.go:68", after := #[{ on := 12, ground := Ground.data }], guard := none } (.string B12) hHeld rfl (by kernel_rfl) (fun _ _ _ h => h) (by rfl) ?_ ?_
      · intro w hSw; have hcv := Kt.cv_row [0, IntKind.u8.wrap (n / 256), IntKind.u8.wrap n, 0] #[.int .u8 0, .int .u8 (IntKind.u8.wrap (n / 256)), .int .u8 (IntKind.u8.wrap n), .int .u8 0] 4 K12 rfl rfl (hSw.row (K12, #[.int .u8 0, .int .u8 (IntKind.u8.wrap (n / 256)), .int .u8 (IntKind.u8.wrap n), .int .u8 0], 5) (by simp)); rw [hB12] at hcv; go_simp; try with_reducible rfl
      try simp only [Act.put, List.setIfInBounds_toArray, List.set_cons_zero, List.set_cons_succ]
      refine Kt.G.takeP 14 { dst := some 48, op := Op.binOp BinOp.add 9 (Operand.tmp 40) (Operand.tmp 47) 9, type := 9, pos := "scsi.go:68", after := #[{ on := 6, ground := Ground.data }, { on := 13, ground := Ground.data }], guard := none } ?_ (fun _ => hHeld) rfl (by kernel_rfl) (fun _ _ _ h => h) (by rfl) ?_ ?_
      rotate_left
      · intro w; go_simp; try with_reducible rfl
      try simp only [Act.put, List.setIfInBounds_toArray, List.set_cons_zero, List.set_cons_succ]
      refine Kt.G.one 15 { dst := some 6, op := Op.assign (Operand.tmp 48), type := 9, pos := "scsi.go:68", after := #[{ on := 14, ground := Ground.data }, { on := 5, ground := Ground.chain }, { on := 0, ground := Ground.phase }, { on := 1, ground := Ground.phase }, { on := 2, ground := Ground.phase }, { on := 3, ground := Ground.phase }, { on := 4, ground := Ground.phase }, { on := 5, ground := Ground.phase }, { on := 6, ground := Ground.phase }, { on := 7, ground := Ground.phase }, { on := 8, ground := Ground.phase }, { on := 9, ground := Ground.phase }, { on := 10, ground := Ground.phase }, { on := 11, ground := Ground.phase }, { on := 12, ground := Ground.phase }, { on := 13, ground := Ground.phase }, { on := 14, ground := Ground.phase }], guard := none } rfl (by kernel_rfl) (by rfl) (fun K hK => ?_)
      go_simp
      refine hK.out _ _ (Kt.G.late (by kernel_rfl)) (fun _ => ?_)
      clear hK K
      try simp only [Act.put, List.setIfInBounds_toArray, List.set_cons_zero, List.set_cons_succ]
      refine Kt.G.takeP 16 { dst := some 7, op := Op.assign (Operand.const (Value.int IntKind.i64 0)), type := 28, pos := "scsi.go:68", after := #[{ on := 15, ground := Ground.chain }, { on := 0, ground := Ground.phase }, { on := 1, ground := Ground.phase }, { on := 2, ground := Ground.phase }, { on := 3, ground := Ground.phase }, { on := 4, ground := Ground.phase }, { on := 5, ground := Ground.phase }, { on := 6, ground := Ground.phase }, { on := 7, ground := Ground.phase }, { on := 8, ground := Ground.phase }, { on := 9, ground := Ground.phase }, { on := 10, ground := Ground.phase }, { on := 11, ground := Ground.phase }, { on := 12, ground := Ground.phase }, { on := 13, ground := Ground.phase }, { on := 14, ground := Ground.phase }, { on := 15, ground := Ground.phase }], guard := none } ?_ (Kt.G.late (by kernel_rfl)) rfl (by kernel_rfl) (fun _ _ _ h => h) (by rfl) ?_ ?_
      rotate_left
      · intro w; go_simp; try with_reducible rfl
      try simp only [Act.put, List.setIfInBounds_toArray, List.set_cons_zero, List.set_cons_succ]
      refine Kt.G.done (by kernel_rfl) (NoPanic.normal ?_) _
      go_wp2_with fail
      refine bodyPost_ret (v := .tuple #[.string (B2 ++ B5 ++ B12), .int .i64 0]) (by simp [results, Try.results40]) rfl ?_
      exact ⟨by rw [HE.out], hHeld.bel⟩
    · have hz12 := hHeld.bel.size
      go_simp
      refine hK.out _ _ (fun _ => hHeld.alloc _) (fun hHeld => ?_)
      have hHeld := hHeld rfl
      clear hK K
      try simp only [Act.put, List.setIfInBounds_toArray, List.set_cons_zero, List.set_cons_succ]
      have hHeld := hHeld.add (heap_alloc_new y2 (.cells #[.int .u8 0, .int .u8 (IntKind.u8.wrap (n / 256)), .int .u8 (IntKind.u8.wrap n), .int .u8 0] 5))
      generalize hK12 : y2.heap.size = K12 at *
      clear hK12
      generalize y2.alloc (.cells #[.int .u8 0, .int .u8 (IntKind.u8.wrap (n / 256)), .int .u8 (IntKind.u8.wrap n), .int .u8 0] 5) = y12 at *
      refine Kt.G.more (F' := Kt.Fb w ((K12, #[.int .u8 0, .int .u8 (IntKind.u8.wrap (n / 256)), .int .u8 (IntKind.u8.wrap n), .int .u8 0], 5) :: [(K2, #[.int .u8 (IntKind.u8.wrap 42), .int .u8 0], 5)])) (fun _ h => Kt.Fb.less h) _ _ _ _ ?_
      refine Kt.G.take 13 { dst := some 47, op := Op.convert 56 9 (Operand.tmp 46), type := 9, pos := "scsi.go:68", after := #[{ on := 12, ground := Ground.data }], guard := none } (.string B12) hHeld rfl (by kernel_rfl) (fun _ _ _ h => h) (by rfl) ?_ ?_
      · intro w hSw; have hcv := Kt.cv_row [0, IntKind.u8.wrap (n / 256), IntKind.u8.wrap n, 0] #[.int .u8 0, .int .u8 (IntKind.u8.wrap (n / 256)), .int .u8 (IntKind.u8.wrap n), .int .u8 0] 4 K12 rfl rfl (hSw.row (K12, #[.int .u8 0, .int .u8 (IntKind.u8.wrap (n / 256)), .int .u8 (IntKind.u8.wrap n), .int .u8 0], 5) (by simp)); rw [hB12] at hcv; go_simp; try with_reducible rfl
      try simp only [Act.put, List.setIfInBounds_toArray, List.set_cons_zero, List.set_cons_succ]
      refine Kt.G.one 5 { dst := some 39, op := Op.call { callee := Callee.value (Operand.func 53), args := #[Operand.tmp 38], argTypes := #[3] }, type := 9, pos := "scsi.go:68", after := #[{ on := 4, ground := Ground.data }], guard := none } rfl (by kernel_rfl) (by rfl) (fun K hK => ?_)
      go_simp
      refine (HL.out _).mono ?_; rintro en x5 ⟨rfl, hb5⟩
      refine hK.out _ _ (fun _ => hHeld.on hb5) (fun hHeld => ?_)
      have hHeld := hHeld rfl
      clear hK K
      try simp only [Act.put, List.setIfInBounds_toArray, List.set_cons_zero, List.set_cons_succ]
      clear hb5
      refine Kt.G.takeP 6 { dst := some 40, op := Op.binOp BinOp.add 9 (Operand.tmp 37) (Operand.tmp 39) 9, type := 9, pos := "scsi.go:68", after := #[{ on := 3, ground := Ground.data }, { on := 5, ground := Ground.data }], guard := none } ?_ (fun _ => hHeld) rfl (by kernel_rfl) (fun _ _ _ h => h) (by rfl) ?_ ?_
      rotate_left
      · intro w; go_simp; try with_reducible rfl
      try simp only [Act.put, List.setIfInBounds_toArray, List.set_cons_zero, List.set_cons_succ]
      refine Kt.G.takeP 14 { dst := some 48, op := Op.binOp BinOp.add 9 (Operand.tmp 40) (Operand.tmp 47) 9, type := 9, pos := "scsi.go:68", after := #[{ on := 6, ground := Ground.data }, { on := 13, ground := Ground.data }], guard := none } ?_ (fun _ => hHeld) rfl (by kernel_rfl) (fun _ _ _ h => h) (by rfl) ?_ ?_
      rotate_left
      · intro w; go_simp; try with_reducible rfl
      try simp only [Act.put, List.setIfInBounds_toArray, List.set_cons_zero, List.set_cons_succ]
      refine Kt.G.one 15 { dst := some 6, op := Op.assign (Operand.tmp 48), type := 9, pos := "scsi.go:68", after := #[{ on := 14, ground := Ground.data }, { on := 5, ground := Ground.chain }, { on := 0, ground := Ground.phase }, { on := 1, ground := Ground.phase }, { on := 2, ground := Ground.phase }, { on := 3, ground := Ground.phase }, { on := 4, ground := Ground.phase }, { on := 5, ground := Ground.phase }, { on := 6, ground := Ground.phase }, { on := 7, ground := Ground.phase }, { on := 8, ground := Ground.phase }, { on := 9, ground := Ground.phase }, { on := 10, ground := Ground.phase }, { on := 11, ground := Ground.phase }, { on := 12, ground := Ground.phase }, { on := 13, ground := Ground.phase }, { on := 14, ground := Ground.phase }], guard := none } rfl (by kernel_rfl) (by rfl) (fun K hK => ?_)
      go_simp
      refine hK.out _ _ (Kt.G.late (by kernel_rfl)) (fun _ => ?_)
      clear hK K
      try simp only [Act.put, List.setIfInBounds_toArray, List.set_cons_zero, List.set_cons_succ]
      refine Kt.G.takeP 16 { dst := some 7, op := Op.assign (Operand.const (Value.int IntKind.i64 0)), type := 28, pos := "scsi.go:68", after := #[{ on := 15, ground := Ground.chain }, { on := 0, ground := Ground.phase }, { on := 1, ground := Ground.phase }, { on := 2, ground := Ground.phase }, { on := 3, ground := Ground.phase }, { on := 4, ground := Ground.phase }, { on := 5, ground := Ground.phase }, { on := 6, ground := Ground.phase }, { on := 7, ground := Ground.phase }, { on := 8, ground := Ground.phase }, { on := 9, ground := Ground.phase }, { on := 10, ground := Ground.phase }, { on := 11, ground := Ground.phase }, { on := 12, ground := Ground.phase }, { on := 13, ground := Ground.phase }, { on := 14, ground := Ground.phase }, { on := 15, ground := Ground.phase }], guard := none } ?_ (Kt.G.late (by kernel_rfl)) rfl (by kernel_rfl) (fun _ _ _ h => h) (by rfl) ?_ ?_
      rotate_left
      · intro w; go_simp; try with_reducible rfl
      try simp only [Act.put, List.setIfInBounds_toArray, List.set_cons_zero, List.set_cons_succ]
      refine Kt.G.done (by kernel_rfl) (NoPanic.normal ?_) _
      go_wp2_with fail
      refine bodyPost_ret (v := .tuple #[.string (B2 ++ B5 ++ B12), .int .i64 0]) (by simp [results, Try.results40]) rfl ?_
      exact ⟨by rw [HE.out], hHeld.bel⟩
  · go_simp
    refine (HL.out _).mono ?_; rintro en x5 ⟨rfl, hb5⟩
    refine hK.out _ _ (fun _ => hHeld.on hb5) (fun hHeld => ?_)
    have hHeld := hHeld rfl
    clear hK K
    try simp only [Act.put, List.setIfInBounds_toArray, List.set_cons_zero, List.set_cons_succ]
    clear hb5
    refine Kt.G.two 2 12 { dst := some 36, op := Op.buildSlice 56 2 #[(0, Operand.tmp 35), (1, Operand.const (Value.int IntKind.u8 0))], type := 56, pos := "scsi.go:68", after := #[{ on := 1, ground := Ground.data }], guard := none } { dst := some 46, op := Op.buildSlice 56 4 #[(0, Operand.const (Value.int IntKind.u8 0)), (1, Operand.tmp 43), (2, Operand.tmp 45), (3, Operand.const (Value.int IntKind.u8 0))], type := 56, pos := "scsi.go:68", after := #[{ on := 9, ground := Ground.data }, { on := 11, ground := Ground.data }], guard := none } rfl rfl (by kernel_rfl) (by rfl) (by rfl) (fun K hK => ?_) (fun K hK => ?_)
    · have hz2 := hHeld.bel.size
      go_simp
      refine hK.out _ _ (fun _ => hHeld.alloc _) (fun hHeld => ?_)
      have hHeld := hHeld rfl
      clear hK K
      try simp only [Act.put, List.setIfInBounds_toArray, List.set_cons_zero, List.set_cons_succ]
      have hHeld := hHeld.add (heap_alloc_new x5 (.cells #[.int .u8 (IntKind.u8.wrap 42), .int .u8 0] 5))
      generalize hK2 : x5.heap.size = K2 at *
      clear hK2
      generalize x5.alloc (.cells #[.int .u8 (IntKind.u8.wrap 42), .int .u8 0] 5) = y2 at *
      refine Kt.G.more (F' := Kt.Fb w ((K2, #[.int .u8 (IntKind.u8.wrap 42), .int .u8 0], 5) :: [])) (fun _ h => Kt.Fb.less h) _ _ _ _ ?_
      refine Kt.G.take 3 { dst := some 37, op := Op.convert 56 9 (Operand.tmp 36), type := 9, pos := "scsi.go:68", after := #[{ on := 2, ground := Ground.data }], guard := none } (.string B2) hHeld rfl (by kernel_rfl) (fun _ _ _ h => h) (by rfl) ?_ ?_
      · intro w hSw; have hcv := Kt.cv_row [IntKind.u8.wrap 42, 0] #[.int .u8 (IntKind.u8.wrap 42), .int .u8 0] 2 K2 rfl rfl (hSw.row (K2, #[.int .u8 (IntKind.u8.wrap 42), .int .u8 0], 5) (by simp)); rw [hB2] at hcv; go_simp; try with_reducible rfl
      try simp only [Act.put, List.setIfInBounds_toArray, List.set_cons_zero, List.set_cons_succ]
      refine Kt.G.takeP 6 { dst := some 40, op := Op.binOp BinOp.add 9 (Operand.tmp 37) (Operand.tmp 39) 9, type := 9, pos := "scsi.go:68", after := #[{ on := 3, ground := Ground.data }, { on := 5, ground := Ground.data }], guard := none } ?_ (fun _ => hHeld) rfl (by kernel_rfl) (fun _ _ _ h => h) (by rfl) ?_ ?_
      rotate_left
      · intro w; go_simp; try with_reducible rfl
      try simp only [Act.put, List.setIfInBounds_toArray, List.set_cons_zero, List.set_cons_succ]
      refine Kt.G.one 12 { dst := some 46, op := Op.buildSlice 56 4 #[(0, Operand.const (Value.int IntKind.u8 0)), (1, Operand.tmp 43), (2, Operand.tmp 45), (3, Operand.const (Value.int IntKind.u8 0))], type := 56, pos := "scsi.go:68", after := #[{ on := 9, ground := Ground.data }, { on := 11, ground := Ground.data }], guard := none } rfl (by kernel_rfl) (by rfl) (fun K hK => ?_)
      have hz12 := hHeld.bel.size
      go_simp
      refine hK.out _ _ (fun _ => hHeld.alloc _) (fun hHeld => ?_)
      have hHeld := hHeld rfl
      clear hK K
      try simp only [Act.put, List.setIfInBounds_toArray, List.set_cons_zero, List.set_cons_succ]
      have hHeld := hHeld.add (heap_alloc_new y2 (.cells #[.int .u8 0, .int .u8 (IntKind.u8.wrap (n / 256)), .int .u8 (IntKind.u8.wrap n), .int .u8 0] 5))
      generalize hK12 : y2.heap.size = K12 at *
      clear hK12
      generalize y2.alloc (.cells #[.int .u8 0, .int .u8 (IntKind.u8.wrap (n / 256)), .int .u8 (IntKind.u8.wrap n), .int .u8 0] 5) = y12 at *
      refine Kt.G.more (F' := Kt.Fb w ((K12, #[.int .u8 0, .int .u8 (IntKind.u8.wrap (n / 256)), .int .u8 (IntKind.u8.wrap n), .int .u8 0], 5) :: [(K2, #[.int .u8 (IntKind.u8.wrap 42), .int .u8 0], 5)])) (fun _ h => Kt.Fb.less h) _ _ _ _ ?_
      refine Kt.G.take 13 { dst := some 47, op := Op.convert 56 9 (Operand.tmp 46), type := 9, pos := "scsi.go:68", after := #[{ on := 12, ground := Ground.data }], guard := none } (.string B12) hHeld rfl (by kernel_rfl) (fun _ _ _ h => h) (by rfl) ?_ ?_
      · intro w hSw; have hcv := Kt.cv_row [0, IntKind.u8.wrap (n / 256), IntKind.u8.wrap n, 0] #[.int .u8 0, .int .u8 (IntKind.u8.wrap (n / 256)), .int .u8 (IntKind.u8.wrap n), .int .u8 0] 4 K12 rfl rfl (hSw.row (K12, #[.int .u8 0, .int .u8 (IntKind.u8.wrap (n / 256)), .int .u8 (IntKind.u8.wrap n), .int .u8 0], 5) (by simp)); rw [hB12] at hcv; go_simp; try with_reducible rfl
      try simp only [Act.put, List.setIfInBounds_toArray, List.set_cons_zero, List.set_cons_succ]
      refine Kt.G.takeP 14 { dst := some 48, op := Op.binOp BinOp.add 9 (Operand.tmp 40) (Operand.tmp 47) 9, type := 9, pos := "scsi.go:68", after := #[{ on := 6, ground := Ground.data }, { on := 13, ground := Ground.data }], guard := none } ?_ (fun _ => hHeld) rfl (by kernel_rfl) (fun _ _ _ h => h) (by rfl) ?_ ?_
      rotate_left
      · intro w; go_simp; try with_reducible rfl
      try simp only [Act.put, List.setIfInBounds_toArray, List.set_cons_zero, List.set_cons_succ]
      refine Kt.G.one 15 { dst := some 6, op := Op.assign (Operand.tmp 48), type := 9, pos := "scsi.go:68", after := #[{ on := 14, ground := Ground.data }, { on := 5, ground := Ground.chain }, { on := 0, ground := Ground.phase }, { on := 1, ground := Ground.phase }, { on := 2, ground := Ground.phase }, { on := 3, ground := Ground.phase }, { on := 4, ground := Ground.phase }, { on := 5, ground := Ground.phase }, { on := 6, ground := Ground.phase }, { on := 7, ground := Ground.phase }, { on := 8, ground := Ground.phase }, { on := 9, ground := Ground.phase }, { on := 10, ground := Ground.phase }, { on := 11, ground := Ground.phase }, { on := 12, ground := Ground.phase }, { on := 13, ground := Ground.phase }, { on := 14, ground := Ground.phase }], guard := none } rfl (by kernel_rfl) (by rfl) (fun K hK => ?_)
      go_simp
      refine hK.out _ _ (Kt.G.late (by kernel_rfl)) (fun _ => ?_)
      clear hK K
      try simp only [Act.put, List.setIfInBounds_toArray, List.set_cons_zero, List.set_cons_succ]
      refine Kt.G.takeP 16 { dst := some 7, op := Op.assign (Operand.const (Value.int IntKind.i64 0)), type := 28, pos := "scsi.go:68", after := #[{ on := 15, ground := Ground.chain }, { on := 0, ground := Ground.phase }, { on := 1, ground := Ground.phase }, { on := 2, ground := Ground.phase }, { on := 3, ground := Ground.phase }, { on := 4, ground := Ground.phase }, { on := 5, ground := Ground.phase }, { on := 6, ground := Ground.phase }, { on := 7, ground := Ground.phase }, { on := 8, ground := Ground.phase }, { on := 9, ground := Ground.phase }, { on := 10, ground := Ground.phase }, { on := 11, ground := Ground.phase }, { on := 12, ground := Ground.phase }, { on := 13, ground := Ground.phase }, { on := 14, ground := Ground.phase }, { on := 15, ground := Ground.phase }], guard := none } ?_ (Kt.G.late (by kernel_rfl)) rfl (by kernel_rfl) (fun _ _ _ h => h) (by rfl) ?_ ?_
      rotate_left
      · intro w; go_simp; try with_reducible rfl
      try simp only [Act.put, List.setIfInBounds_toArray, List.set_cons_zero, List.set_cons_succ]
      refine Kt.G.done (by kernel_rfl) (NoPanic.normal ?_) _
      go_wp2_with fail
      refine bodyPost_ret (v := .tuple #[.string (B2 ++ B5 ++ B12), .int .i64 0]) (by simp [results, Try.results40]) rfl ?_
      exact ⟨by rw [HE.out], hHeld.bel⟩
    · have hz12 := hHeld.bel.size
      go_simp
      refine hK.out _ _ (fun _ => hHeld.alloc _) (fun hHeld => ?_)
      have hHeld := hHeld rfl
      clear hK K
      try simp only [Act.put, List.setIfInBounds_toArray, List.set_cons_zero, List.set_cons_succ]
      have hHeld := hHeld.add (heap_alloc_new x5 (.cells #[.int .u8 0, .int .u8 (IntKind.u8.wrap (n / 256)), .int .u8 (IntKind.u8.wrap n), .int .u8 0] 5))
      generalize hK12 : x5.heap.size = K12 at *
      clear hK12
      generalize x5.alloc (.cells #[.int .u8 0, .int .u8 (IntKind.u8.wrap (n / 256)), .int .u8 (IntKind.u8.wrap n), .int .u8 0] 5) = y12 at *
      refine Kt.G.more (F' := Kt.Fb w ((K12, #[.int .u8 0, .int .u8 (IntKind.u8.wrap (n / 256)), .int .u8 (IntKind.u8.wrap n), .int .u8 0], 5) :: [])) (fun _ h => Kt.Fb.less h) _ _ _ _ ?_
      refine Kt.G.take 13 { dst := some 47, op := Op.convert 56 9 (Operand.tmp 46), type := 9, pos := "scsi.go:68", after := #[{ on := 12, ground := Ground.data }], guard := none } (.string B12) hHeld rfl (by kernel_rfl) (fun _ _ _ h => h) (by rfl) ?_ ?_
      · intro w hSw; have hcv := Kt.cv_row [0, IntKind.u8.wrap (n / 256), IntKind.u8.wrap n, 0] #[.int .u8 0, .int .u8 (IntKind.u8.wrap (n / 256)), .int .u8 (IntKind.u8.wrap n), .int .u8 0] 4 K12 rfl rfl (hSw.row (K12, #[.int .u8 0, .int .u8 (IntKind.u8.wrap (n / 256)), .int .u8 (IntKind.u8.wrap n), .int .u8 0], 5) (by simp)); rw [hB12] at hcv; go_simp; try with_reducible rfl
      try simp only [Act.put, List.setIfInBounds_toArray, List.set_cons_zero, List.set_cons_succ]
      refine Kt.G.one 2 { dst := some 36, op := Op.buildSlice 56 2 #[(0, Operand.tmp 35), (1, Operand.const (Value.int IntKind.u8 0))], type := 56, pos := "scsi.go:68", after := #[{ on := 1, ground := Ground.data }], guard := none } rfl (by kernel_rfl) (by rfl) (fun K hK => ?_)
      have hz2 := hHeld.bel.size
      go_simp
      refine hK.out _ _ (fun _ => hHeld.alloc _) (fun hHeld => ?_)
      have hHeld := hHeld rfl
      clear hK K
      try simp only [Act.put, List.setIfInBounds_toArray, List.set_cons_zero, List.set_cons_succ]
      have hHeld := hHeld.add (heap_alloc_new y12 (.cells #[.int .u8 (IntKind.u8.wrap 42), .int .u8 0] 5))
      generalize hK2 : y12.heap.size = K2 at *
      clear hK2
      generalize y12.alloc (.cells #[.int .u8 (IntKind.u8.wrap 42), .int .u8 0] 5) = y2 at *
      refine Kt.G.more (F' := Kt.Fb w ((K2, #[.int .u8 (IntKind.u8.wrap 42), .int .u8 0], 5) :: [(K12, #[.int .u8 0, .int .u8 (IntKind.u8.wrap (n / 256)), .int .u8 (IntKind.u8.wrap n), .int .u8 0], 5)])) (fun _ h => Kt.Fb.less h) _ _ _ _ ?_
      refine Kt.G.take 3 { dst := some 37, op := Op.convert 56 9 (Operand.tmp 36), type := 9, pos := "scsi.go:68", after := #[{ on := 2, ground := Ground.data }], guard := none } (.string B2) hHeld rfl (by kernel_rfl) (fun _ _ _ h => h) (by rfl) ?_ ?_
      · intro w hSw; have hcv := Kt.cv_row [IntKind.u8.wrap 42, 0] #[.int .u8 (IntKind.u8.wrap 42), .int .u8 0] 2 K2 rfl rfl (hSw.row (K2, #[.int .u8 (IntKind.u8.wrap 42), .int .u8 0], 5) (by simp)); rw [hB2] at hcv; go_simp; try with_reducible rfl
      try simp only [Act.put, List.setIfInBounds_toArray, List.set_cons_zero, List.set_cons_succ]
      refine Kt.G.takeP 6 { dst := some 40, op := Op.binOp BinOp.add 9 (Operand.tmp 37) (Operand.tmp 39) 9, type := 9, pos := "scsi.go:68", after := #[{ on := 3, ground := Ground.data }, { on := 5, ground := Ground.data }], guard := none } ?_ (fun _ => hHeld) rfl (by kernel_rfl) (fun _ _ _ h => h) (by rfl) ?_ ?_
      rotate_left
      · intro w; go_simp; try with_reducible rfl
      try simp only [Act.put, List.setIfInBounds_toArray, List.set_cons_zero, List.set_cons_succ]
      refine Kt.G.takeP 14 { dst := some 48, op := Op.binOp BinOp.add 9 (Operand.tmp 40) (Operand.tmp 47) 9, type := 9, pos := "scsi.go:68", after := #[{ on := 6, ground := Ground.data }, { on := 13, ground := Ground.data }], guard := none } ?_ (fun _ => hHeld) rfl (by kernel_rfl) (fun _ _ _ h => h) (by rfl) ?_ ?_
      rotate_left
      · intro w; go_simp; try with_reducible rfl
      try simp only [Act.put, List.setIfInBounds_toArray, List.set_cons_zero, List.set_cons_succ]
      refine Kt.G.one 15 { dst := some 6, op := Op.assign (Operand.tmp 48), type := 9, pos := "scsi.go:68", after := #[{ on := 14, ground := Ground.data }, { on := 5, ground := Ground.chain }, { on := 0, ground := Ground.phase }, { on := 1, ground := Ground.phase }, { on := 2, ground := Ground.phase }, { on := 3, ground := Ground.phase }, { on := 4, ground := Ground.phase }, { on := 5, ground := Ground.phase }, { on := 6, ground := Ground.phase }, { on := 7, ground := Ground.phase }, { on := 8, ground := Ground.phase }, { on := 9, ground := Ground.phase }, { on := 10, ground := Ground.phase }, { on := 11, ground := Ground.phase }, { on := 12, ground := Ground.phase }, { on := 13, ground := Ground.phase }, { on := 14, ground := Ground.phase }], guard := none } rfl (by kernel_rfl) (by rfl) (fun K hK => ?_)
      go_simp
      refine hK.out _ _ (Kt.G.late (by kernel_rfl)) (fun _ => ?_)
      clear hK K
      try simp only [Act.put, List.setIfInBounds_toArray, List.set_cons_zero, List.set_cons_succ]
      refine Kt.G.takeP 16 { dst := some 7, op := Op.assign (Operand.const (Value.int IntKind.i64 0)), type := 28, pos := "scsi.go:68", after := #[{ on := 15, ground := Ground.chain }, { on := 0, ground := Ground.phase }, { on := 1, ground := Ground.phase }, { on := 2, ground := Ground.phase }, { on := 3, ground := Ground.phase }, { on := 4, ground := Ground.phase }, { on := 5, ground := Ground.phase }, { on := 6, ground := Ground.phase }, { on := 7, ground := Ground.phase }, { on := 8, ground := Ground.phase }, { on := 9, ground := Ground.phase }, { on := 10, ground := Ground.phase }, { on := 11, ground := Ground.phase }, { on := 12, ground := Ground.phase }, { on := 13, ground := Ground.phase }, { on := 14, ground := Ground.phase }, { on := 15, ground := Ground.phase }], guard := none } ?_ (Kt.G.late (by kernel_rfl)) rfl (by kernel_rfl) (fun _ _ _ h => h) (by rfl) ?_ ?_
      rotate_left
      · intro w; go_simp; try with_reducible rfl
      try simp only [Act.put, List.setIfInBounds_toArray, List.set_cons_zero, List.set_cons_succ]
      refine Kt.G.done (by kernel_rfl) (NoPanic.normal ?_) _
      go_wp2_with fail
      refine bodyPost_ret (v := .tuple #[.string (B2 ++ B5 ++ B12), .int .i64 0]) (by simp [results, Try.results40]) rfl ?_
      exact ⟨by rw [HE.out], hHeld.bel⟩
  · have hz12 := hHeld.bel.size
    go_simp
    refine hK.out _ _ (fun _ => hHeld.alloc _) (fun hHeld => ?_)
    have hHeld := hHeld rfl
    clear hK K
    try simp only [Act.put, List.setIfInBounds_toArray, List.set_cons_zero, List.set_cons_succ]
    have hHeld := hHeld.add (heap_alloc_new x0 (.cells #[.int .u8 0, .int .u8 (IntKind.u8.wrap (n / 256)), .int .u8 (IntKind.u8.wrap n), .int .u8 0] 5))
    generalize hK12 : x0.heap.size = K12 at *
    clear hK12
    generalize x0.alloc (.cells #[.int .u8 0, .int .u8 (IntKind.u8.wrap (n / 256)), .int .u8 (IntKind.u8.wrap n), .int .u8 0] 5) = y12 at *
    refine Kt.G.more (F' := Kt.Fb w ((K12, #[.int .u8 0, .int .u8 (IntKind.u8.wrap (n / 256)), .int .u8 (IntKind.u8.wrap n), .int .u8 0], 5) :: [])) (fun _ h => Kt.Fb.less h) _ _ _ _ ?_
    refine Kt.G.take 13 { dst := some 47, op := Op.convert 56 9 (Operand.tmp 46), type := 9, pos := "scsi.go:68", after := #[{ on := 12, ground := Ground.data }], guard := none } (.string B12) hHeld rfl (by kernel_rfl) (fun _ _ _ h => h) (by rfl) ?_ ?_
    · intro w hSw; have hcv := Kt.cv_row [0, IntKind.u8.wrap (n / 256), IntKind.u8.wrap n, 0] #[.int .u8 0, .int .u8 (IntKind.u8.wrap (n / 256)), .int .u8 (IntKind.u8.wrap n), .int .u8 0] 4 K12 rfl rfl (hSw.row (K12, #[.int .u8 0, .int .u8 (IntKind.u8.wrap (n / 256)), .int .u8 (IntKind.u8.wrap n), .int .u8 0], 5) (by simp)); rw [hB12] at hcv; go_simp; try with_reducible rfl
    try simp only [Act.put, List.setIfInBounds_toArray, List.set_cons_zero, List.set_cons_succ]
    refine Kt.G.two 2 5 { dst := some 36, op := Op.buildSlice 56 2 #[(0, Operand.tmp 35), (1, Operand.const (Value.int IntKind.u8 0))], type := 56, pos := "scsi.go:68", after := #[{ on := 1, ground := Ground.data }], guard := none } { dst := some 39, op := Op.call { callee := Callee.value (Operand.func 53), args := #[Operand.tmp 38], argTypes := #[3] }, type := 9, pos := "scsi.go:68", after := #[{ on := 4, ground := Ground.data }], guard := none } rfl rfl (by kernel_rfl) (by rfl) (by rfl) (fun K hK => ?_) (fun K hK => ?_)
    · have hz2 := hHeld.bel.size
      go_simp
      refine hK.out _ _ (fun _ => hHeld.alloc _) (fun hHeld => ?_)
      have hHeld := hHeld rfl
      clear hK K
      try simp only [Act.put, List.setIfInBounds_toArray, List.set_cons_zero, List.set_cons_succ]
      have hHeld := hHeld.add (heap_alloc_new y12 (.cells #[.int .u8 (IntKind.u8.wrap 42), .int .u8 0] 5))
      generalize hK2 : y12.heap.size = K2 at *
      clear hK2
      generalize y12.alloc (.cells #[.int .u8 (IntKind.u8.wrap 42), .int .u8 0] 5) = y2 at *
      refine Kt.G.more (F' := Kt.Fb w ((K2, #[.int .u8 (IntKind.u8.wrap 42), .int .u8 0], 5) :: [(K12, #[.int .u8 0, .int .u8 (IntKind.u8.wrap (n / 256)), .int .u8 (IntKind.u8.wrap n), .int .u8 0], 5)])) (fun _ h => Kt.Fb.less h) _ _ _ _ ?_
      refine Kt.G.take 3 { dst := some 37, op := Op.convert 56 9 (Operand.tmp 36), type := 9, pos := "scsi.go:68", after := #[{ on := 2, ground := Ground.data }], guard := none } (.string B2) hHeld rfl (by kernel_rfl) (fun _ _ _ h => h) (by rfl) ?_ ?_
      · intro w hSw; have hcv := Kt.cv_row [IntKind.u8.wrap 42, 0] #[.int .u8 (IntKind.u8.wrap 42), .int .u8 0] 2 K2 rfl rfl (hSw.row (K2, #[.int .u8 (IntKind.u8.wrap 42), .int .u8 0], 5) (by simp)); rw [hB2] at hcv; go_simp; try with_reducible rfl
      try simp only [Act.put, List.setIfInBounds_toArray, List.set_cons_zero, List.set_cons_succ]
      refine Kt.G.one 5 { dst := some 39, op := Op.call { callee := Callee.value (Operand.func 53), args := #[Operand.tmp 38], argTypes := #[3] }, type := 9, pos := "scsi.go:68", after := #[{ on := 4, ground := Ground.data }], guard := none } rfl (by kernel_rfl) (by rfl) (fun K hK => ?_)
      go_simp
      refine (HL.out _).mono ?_; rintro en x5 ⟨rfl, hb5⟩
      refine hK.out _ _ (fun _ => hHeld.on hb5) (fun hHeld => ?_)
      have hHeld := hHeld rfl
      clear hK K
      try simp only [Act.put, List.setIfInBounds_toArray, List.set_cons_zero, List.set_cons_succ]
      clear hb5
      refine Kt.G.takeP 6 { dst := some 40, op := Op.binOp BinOp.add 9 (Operand.tmp 37) (Operand.tmp 39) 9, type := 9, pos := "scsi.go:68", after := #[{ on := 3, ground := Ground.data }, { on := 5, ground := Ground.data }], guard := none } ?_ (fun _ => hHeld) rfl (by kernel_rfl) (fun _ _ _ h => h) (by rfl) ?_ ?_
      rotate_left
      · intro w; go_simp; try with_reducible rfl
      try simp only [Act.put, List.setIfInBounds_toArray, List.set_cons_zero, List.set_cons_succ]
      refine Kt.G.takeP 14 { dst := some 48, op := Op.binOp BinOp.add 9 (Operand.tmp 40) (Operand.tmp 47) 9, type := 9, pos := "scsi.go:68", after := #[{ on := 6, ground := Ground.data }, { on := 13, ground := Ground.data }], guard := none } ?_ (fun _ => hHeld) rfl (by kernel_rfl) (fun _ _ _ h => h) (by rfl) ?_ ?_
      rotate_left
      · intro w; go_simp; try with_reducible rfl
      try simp only [Act.put, List.setIfInBounds_toArray, List.set_cons_zero, List.set_cons_succ]
      refine Kt.G.one 15 { dst := some 6, op := Op.assign (Operand.tmp 48), type := 9, pos := "scsi.go:68", after := #[{ on := 14, ground := Ground.data }, { on := 5, ground := Ground.chain }, { on := 0, ground := Ground.phase }, { on := 1, ground := Ground.phase }, { on := 2, ground := Ground.phase }, { on := 3, ground := Ground.phase }, { on := 4, ground := Ground.phase }, { on := 5, ground := Ground.phase }, { on := 6, ground := Ground.phase }, { on := 7, ground := Ground.phase }, { on := 8, ground := Ground.phase }, { on := 9, ground := Ground.phase }, { on := 10, ground := Ground.phase }, { on := 11, ground := Ground.phase }, { on := 12, ground := Ground.phase }, { on := 13, ground := Ground.phase }, { on := 14, ground := Ground.phase }], guard := none } rfl (by kernel_rfl) (by rfl) (fun K hK => ?_)
      go_simp
      refine hK.out _ _ (Kt.G.late (by kernel_rfl)) (fun _ => ?_)
      clear hK K
      try simp only [Act.put, List.setIfInBounds_toArray, List.set_cons_zero, List.set_cons_succ]
      refine Kt.G.takeP 16 { dst := some 7, op := Op.assign (Operand.const (Value.int IntKind.i64 0)), type := 28, pos := "scsi.go:68", after := #[{ on := 15, ground := Ground.chain }, { on := 0, ground := Ground.phase }, { on := 1, ground := Ground.phase }, { on := 2, ground := Ground.phase }, { on := 3, ground := Ground.phase }, { on := 4, ground := Ground.phase }, { on := 5, ground := Ground.phase }, { on := 6, ground := Ground.phase }, { on := 7, ground := Ground.phase }, { on := 8, ground := Ground.phase }, { on := 9, ground := Ground.phase }, { on := 10, ground := Ground.phase }, { on := 11, ground := Ground.phase }, { on := 12, ground := Ground.phase }, { on := 13, ground := Ground.phase }, { on := 14, ground := Ground.phase }, { on := 15, ground := Ground.phase }], guard := none } ?_ (Kt.G.late (by kernel_rfl)) rfl (by kernel_rfl) (fun _ _ _ h => h) (by rfl) ?_ ?_
      rotate_left
      · intro w; go_simp; try with_reducible rfl
      try simp only [Act.put, List.setIfInBounds_toArray, List.set_cons_zero, List.set_cons_succ]
      refine Kt.G.done (by kernel_rfl) (NoPanic.normal ?_) _
      go_wp2_with fail
      refine bodyPost_ret (v := .tuple #[.string (B2 ++ B5 ++ B12), .int .i64 0]) (by simp [results, Try.results40]) rfl ?_
      exact ⟨by rw [HE.out], hHeld.bel⟩
    · go_simp
      refine (HL.out _).mono ?_; rintro en x5 ⟨rfl, hb5⟩
      refine hK.out _ _ (fun _ => hHeld.on hb5) (fun hHeld => ?_)
      have hHeld := hHeld rfl
      clear hK K
      try simp only [Act.put, List.setIfInBounds_toArray, List.set_cons_zero, List.set_cons_succ]
      clear hb5
      refine Kt.G.one 2 { dst := some 36, op := Op.buildSlice 56 2 #[(0, Operand.tmp 35), (1, Operand.const (Value.int IntKind.u8 0))], type := 56, pos := "scsi.go:68", after := #[{ on := 1, ground := Ground.data }], guard := none } rfl (by kernel_rfl) (by rfl) (fun K hK => ?_)
      have hz2 := hHeld.bel.size
      go_simp
      refine hK.out _ _ (fun _ => hHeld.alloc _) (fun hHeld => ?_)
      have hHeld := hHeld rfl
      clear hK K
      try simp only [Act.put, List.setIfInBounds_toArray, List.set_cons_zero, List.set_cons_succ]
      have hHeld := hHeld.add (heap_alloc_new x5 (.cells #[.int .u8 (IntKind.u8.wrap 42), .int .u8 0] 5))
      generalize hK2 : x5.heap.size = K2 at *
      clear hK2
      generalize x5.alloc (.cells #[.int .u8 (IntKind.u8.wrap 42), .int .u8 0] 5) = y2 at *
      refine Kt.G.more (F' := Kt.Fb w ((K2, #[.int .u8 (IntKind.u8.wrap 42), .int .u8 0], 5) :: [(K12, #[.int .u8 0, .int .u8 (IntKind.u8.wrap (n / 256)), .int .u8 (IntKind.u8.wrap n), .int .u8 0], 5)])) (fun _ h => Kt.Fb.less h) _ _ _ _ ?_
      refine Kt.G.take 3 { dst := some 37, op := Op.convert 56 9 (Operand.tmp 36), type := 9, pos := "scsi.go:68", after := #[{ on := 2, ground := Ground.data }], guard := none } (.string B2) hHeld rfl (by kernel_rfl) (fun _ _ _ h => h) (by rfl) ?_ ?_
      · intro w hSw; have hcv := Kt.cv_row [IntKind.u8.wrap 42, 0] #[.int .u8 (IntKind.u8.wrap 42), .int .u8 0] 2 K2 rfl rfl (hSw.row (K2, #[.int .u8 (IntKind.u8.wrap 42), .int .u8 0], 5) (by simp)); rw [hB2] at hcv; go_simp; try with_reducible rfl
      try simp only [Act.put, List.setIfInBounds_toArray, List.set_cons_zero, List.set_cons_succ]
      refine Kt.G.takeP 6 { dst := some 40, op := Op.binOp BinOp.add 9 (Operand.tmp 37) (Operand.tmp 39) 9, type := 9, pos := "scsi.go:68", after := #[{ on := 3, ground := Ground.data }, { on := 5, ground := Ground.data }], guard := none } ?_ (fun _ => hHeld) rfl (by kernel_rfl) (fun _ _ _ h => h) (by rfl) ?_ ?_
      rotate_left
      · intro w; go_simp; try with_reducible rfl
      try simp only [Act.put, List.setIfInBounds_toArray, List.set_cons_zero, List.set_cons_succ]
      refine Kt.G.takeP 14 { dst := some 48, op := Op.binOp BinOp.add 9 (Operand.tmp 40) (Operand.tmp 47) 9, type := 9, pos := "scsi.go:68", after := #[{ on := 6, ground := Ground.data }, { on := 13, ground := Ground.data }], guard := none } ?_ (fun _ => hHeld) rfl (by kernel_rfl) (fun _ _ _ h => h) (by rfl) ?_ ?_
      rotate_left
      · intro w; go_simp; try with_reducible rfl
      try simp only [Act.put, List.setIfInBounds_toArray, List.set_cons_zero, List.set_cons_succ]
      refine Kt.G.one 15 { dst := some 6, op := Op.assign (Operand.tmp 48), type := 9, pos := "scsi.go:68", after := #[{ on := 14, ground := Ground.data }, { on := 5, ground := Ground.chain }, { on := 0, ground := Ground.phase }, { on := 1, ground := Ground.phase }, { on := 2, ground := Ground.phase }, { on := 3, ground := Ground.phase }, { on := 4, ground := Ground.phase }, { on := 5, ground := Ground.phase }, { on := 6, ground := Ground.phase }, { on := 7, ground := Ground.phase }, { on := 8, ground := Ground.phase }, { on := 9, ground := Ground.phase }, { on := 10, ground := Ground.phase }, { on := 11, ground := Ground.phase }, { on := 12, ground := Ground.phase }, { on := 13, ground := Ground.phase }, { on := 14, ground := Ground.phase }], guard := none } rfl (by kernel_rfl) (by rfl) (fun K hK => ?_)
      go_simp
      refine hK.out _ _ (Kt.G.late (by kernel_rfl)) (fun _ => ?_)
      clear hK K
      try simp only [Act.put, List.setIfInBounds_toArray, List.set_cons_zero, List.set_cons_succ]
      refine Kt.G.takeP 16 { dst := some 7, op := Op.assign (Operand.const (Value.int IntKind.i64 0)), type := 28, pos := "scsi.go:68", after := #[{ on := 15, ground := Ground.chain }, { on := 0, ground := Ground.phase }, { on := 1, ground := Ground.phase }, { on := 2, ground := Ground.phase }, { on := 3, ground := Ground.phase }, { on := 4, ground := Ground.phase }, { on := 5, ground := Ground.phase }, { on := 6, ground := Ground.phase }, { on := 7, ground := Ground.phase }, { on := 8, ground := Ground.phase }, { on := 9, ground := Ground.phase }, { on := 10, ground := Ground.phase }, { on := 11, ground := Ground.phase }, { on := 12, ground := Ground.phase }, { on := 13, ground := Ground.phase }, { on := 14, ground := Ground.phase }, { on := 15, ground := Ground.phase }], guard := none } ?_ (Kt.G.late (by kernel_rfl)) rfl (by kernel_rfl) (fun _ _ _ h => h) (by rfl) ?_ ?_
      rotate_left
      · intro w; go_simp; try with_reducible rfl
      try simp only [Act.put, List.setIfInBounds_toArray, List.set_cons_zero, List.set_cons_succ]
      refine Kt.G.done (by kernel_rfl) (NoPanic.normal ?_) _
      go_wp2_with fail
      refine bodyPost_ret (v := .tuple #[.string (B2 ++ B5 ++ B12), .int .i64 0]) (by simp [results, Try.results40]) rfl ?_
      exact ⟨by rw [HE.out], hHeld.bel⟩
  -- END 42
end Go.Proofs.Ytafiedhjjnapoaa
