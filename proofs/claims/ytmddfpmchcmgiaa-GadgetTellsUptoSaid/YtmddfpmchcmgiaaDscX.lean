/- Devices: ReadDevice walked. -/
import Derived.Test.YtmddfpmchcmgiaaDscU
import Derived.Test.YtmddfpmchcmgiaaDscZ
import Derived.Test.YtmddfpmchcmgiaaGen
namespace Go.Proofs.Ytmddfpmchcmgiaa
open Go.RowKit Go.Proofs.Ytmddfpmchcmgiaa.Dsc
theorem egAtd : ∀ args w, (callFunc 46 args).run Try.prog w = .ok (.enter 46 args) w := enters_of Try.func46 (by kernel_rfl) rfl
set_option maxRecDepth 100000 in
theorem atd_bytes (S : ByteArray) (i : Nat) (hi : i < S.size) (b : Nat) (w : World) (hc : w.cell? ⟨b, 0, none⟩ = some (.string S)) :
    Calls Try.prog 46 #[.int .i64 i, .pointer (some ⟨b, 0, none⟩)] w fun e w' => e = .returned (.int .i64 (S[i].toNat : Int)) ∧ w = w' := by
  have hS2 : (i : Int) < S.size := by omega
  have hb := UInt8.toNat_lt S[i]
  go_enter Try.func46, Try.ntmps46
  go_wp2_with fail
  go_ret
  exact ⟨rfl, rfl⟩
theorem atd_calls (d : List UInt8) (i : Nat) (hi : i < d.length) (b : Nat) (w : World) (hc : w.cell? ⟨b, 0, none⟩ = some (.string (bs' d))) :
    Calls Try.prog 46 #[.int .i64 i, .pointer (some ⟨b, 0, none⟩)] w fun e w' => e = .returned (.int .i64 (at' d i)) ∧ w = w' := by
  have h := atd_bytes (bs' d) i (by rw [bs_size]; exact hi) b w hc
  rw [get_at] at h
  exact h
set_option maxRecDepth 100000 in
theorem wordAt_bytes2 (S : ByteArray) (i : Nat) (hi : i + 1 < S.size) (hz : i ≤ 1000) (w : World) :
    Calls Try.prog 47 #[.string S, .int .i64 i] w fun e w' => e = .returned (.int .i64 (((S[i]'(by omega)).toNat : Int) + 256 * (S[i + 1].toNat : Int))) ∧ Below w.heap.size w w' := by
  have hi2 : ((i : Int) + 1) < S.size := by omega
  have ho := or_bytes64 (S[i]'(by omega)).toNat (S[i + 1]'hi).toNat (UInt8.toNat_lt _) (UInt8.toNat_lt _)
  have h1 := UInt8.toNat_lt (S[i]'(by omega))
  have h2 := UInt8.toNat_lt (S[i + 1]'hi)
  go_enter Try.func47, Try.ntmps47
  go_wp2
  have hb1 : (0 : Int) ≤ i := by omega
  have hb2 : (i : Int) < S.size := by omega
  have hb3 : (0 : Int) ≤ (i : Int) + 1 := by omega
  have hw : IntKind.i64.wrap ((i : Int) + 1) = (i : Int) + 1 := IntWalk.i64_in _ (by omega)
  have ht : ((i : Int) + 1).toNat = i + 1 := by omega
  have ht2 : ((i : Int)).toNat = i := by omega
  go_quiet (fail)
  go_wp2
  go_ret
  have h := Below.refl w.heap.size w
  exact ⟨rfl, h.os, h.tape, h.output, h.size, h.block⟩
theorem wordAt_calls2 (d : List UInt8) (i : Nat) (hi : i + 1 < d.length) (hz : i ≤ 1000) (w : World) :
    Calls Try.prog 47 #[.string (bs' d), .int .i64 i] w fun e w' => e = .returned (.int .i64 (at' d i + 256 * at' d (i + 1))) ∧ Below w.heap.size w w' := by
  have h := wordAt_bytes2 (bs' d) i (by rw [bs_size]; exact hi) hz w
  rw [get_at, get_at] at h
  exact h
def zD : List Value := [.int .i64 0, .int .i64 0, .int .i64 0, .int .i64 0, .int .i64 0, .int .i64 0, .int .i64 0, .int .i64 0, .int .i64 0, .int .i64 0, .int .i64 0, .int .i64 0]
set_option maxRecDepth 100000 in
set_option maxHeartbeats 1600000 in
theorem rdev_short (s : List UInt8) (h : s.length < 18) (w : World) : Calls Try.prog 22 #[.string (bs' s)] w fun e w' => e = .returned (.tuple #[dV (rDev s).1, .int .i64 (rDev s).2]) ∧ Below w.heap.size w w' := by
  have HRD : Hid (rDev s = (zeroD, 3)) := Lib.hid (if_pos h)
  have hz := bs_size s
  have hlt : ((bs' s).size : Int) < 18 := by omega
  obtain ⟨r1, r2, b2⟩ := box2s w #[.string (bs' s)] #[.int .i64 0, .int .i64 0, .int .i64 0, .int .i64 0, .int .i64 0, .int .i64 0, .int .i64 0, .int .i64 0, .int .i64 0, .int .i64 0, .int .i64 0, .int .i64 0] 9 46
  generalize bs' s = S at *
  have HB := Lib.hid b2
  have HR := Lib.hid r2
  have q1 := fun i => cell_of_row _ _ i _ _ _ r1
  have q2 := fun i => cell_of_row _ _ i _ _ _ r2
  have f2 := fun i => frozen_of_row _ _ i _ _ r2
  clear r1 r2 b2 hz h
  go_enter Try.func22, Try.ntmps22
  go_wp2_with fail
  obtain ⟨w2, hw2⟩ : ∃ W, (w.alloc (.cells #[.string S] 9)).alloc (.cells #[.int .i64 0, .int .i64 0, .int .i64 0, .int .i64 0, .int .i64 0, .int .i64 0, .int .i64 0, .int .i64 0, .int .i64 0, .int .i64 0, .int .i64 0, .int .i64 0] 46) = W := ⟨_, rfl⟩
  simp only [hw2] at HR HB ⊢
  have hbel := HB.out
  have hrow := HR.out
  have hq := fun i => cell_of_row _ _ i _ _ _ hrow
  exact bodyPost_ret (v := .tuple #[.agg #[.int .i64 0, .int .i64 0, .int .i64 0, .int .i64 0, .int .i64 0, .int .i64 0, .int .i64 0, .int .i64 0, .int .i64 0, .int .i64 0, .int .i64 0, .int .i64 0], .int .i64 3]) (by simp [results, Try.results22, go_sem, hq]) rfl ⟨by rw [HRD.out]; rfl, hbel⟩
set_option maxRecDepth 100000 in
set_option maxHeartbeats 40000000 in
theorem rdev_calls (hwd : WDev) (s : List UInt8) (w : World) : Calls Try.prog 22 #[.string (bs' s)] w fun e w' => e = .returned (.tuple #[dV (rDev s).1, .int .i64 (rDev s).2]) ∧ Below w.heap.size w w' := by
  by_cases h : s.length < 18
  · exact rdev_short s h w
  · have HRD : Hid (rDev s = if wDev (devOf s) = (s, 0) then (devOf s, 0) else (zeroD, 4)) := Lib.hid (if_neg h)
    have hz := bs_size s
    have hlt : ¬ ((bs' s).size : Int) < 18 := by omega
    obtain ⟨r1, r2, b2⟩ := box2s w #[.string (bs' s)] #[.int .i64 0, .int .i64 0, .int .i64 0, .int .i64 0, .int .i64 0, .int .i64 0, .int .i64 0, .int .i64 0, .int .i64 0, .int .i64 0, .int .i64 0, .int .i64 0] 9 46
    have HAT := Lib.hid (fun (i : Nat) (hi : i < 18) (W : World) (hW : W.heap[w.heap.size]? = some (.cells #[.string (bs' s)] 9 (0, 0))) => atd_calls s i (by omega) w.heap.size W (cell_of_row _ _ 0 _ _ _ hW))
    have HWD := Lib.hid (fun (i : Nat) (hi : i + 1 < 18) => wordAt_calls2 s i (by omega) (by omega))
    have HWC := Lib.hid (hwd (devOf s))
    have HDV : Hid (dV (devOf s) = .agg #[.int .i64 (at' s 2 + 256 * at' s 3), .int .i64 (at' s 4), .int .i64 (at' s 5), .int .i64 (at' s 6), .int .i64 (at' s 7), .int .i64 (at' s 8 + 256 * at' s 9), .int .i64 (at' s 10 + 256 * at' s 11), .int .i64 (at' s 12 + 256 * at' s 13), .int .i64 (at' s 14), .int .i64 (at' s 15), .int .i64 (at' s 16), .int .i64 (at' s 17)]) := Lib.hid rfl
    have HW2 := Lib.hid (show ∀ W, Calls Try.prog 47 #[.string (bs' s), .int .i64 2] W _ from HWD.out 2 (by decide))
    have HW8 := Lib.hid (show ∀ W, Calls Try.prog 47 #[.string (bs' s), .int .i64 8] W _ from HWD.out 8 (by decide))
    have HW10 := Lib.hid (show ∀ W, Calls Try.prog 47 #[.string (bs' s), .int .i64 10] W _ from HWD.out 10 (by decide))
    have HW12 := Lib.hid (show ∀ W, Calls Try.prog 47 #[.string (bs' s), .int .i64 12] W _ from HWD.out 12 (by decide))
    clear HWD
    generalize hSd : bs' s = S at *
    have HB := Lib.hid b2
    have HR1 := Lib.hid r1
    have HR := Lib.hid r2
    have q1 := fun i => cell_of_row _ _ i _ _ _ r1
    clear r1 r2 b2 hz h
    obtain ⟨z1, hz1⟩ : ∃ z, at' s 2 + 256 * at' s 3 = z := ⟨_, rfl⟩
    rw [hz1] at HDV
    rw [show at' s 2 + 256 * at' s (2 + 1) = z1 from hz1] at HW2
    obtain ⟨z6, hz6⟩ : ∃ z, at' s 8 + 256 * at' s 9 = z := ⟨_, rfl⟩
    rw [hz6] at HDV
    rw [show at' s 8 + 256 * at' s (8 + 1) = z6 from hz6] at HW8
    obtain ⟨z7, hz7⟩ : ∃ z, at' s 10 + 256 * at' s 11 = z := ⟨_, rfl⟩
    rw [hz7] at HDV
    rw [show at' s 10 + 256 * at' s (10 + 1) = z7 from hz7] at HW10
    obtain ⟨z8, hz8⟩ : ∃ z, at' s 12 + 256 * at' s 13 = z := ⟨_, rfl⟩
    rw [hz8] at HDV
    rw [show at' s 12 + 256 * at' s (12 + 1) = z8 from hz8] at HW12
    obtain ⟨z2, hz2⟩ : ∃ z, at' s 4 = z := ⟨_, rfl⟩
    rw [hz2] at HDV
    obtain ⟨z3, hz3⟩ : ∃ z, at' s 5 = z := ⟨_, rfl⟩
    rw [hz3] at HDV
    obtain ⟨z4, hz4⟩ : ∃ z, at' s 6 = z := ⟨_, rfl⟩
    rw [hz4] at HDV
    obtain ⟨z5, hz5⟩ : ∃ z, at' s 7 = z := ⟨_, rfl⟩
    rw [hz5] at HDV
    obtain ⟨z9, hz9⟩ : ∃ z, at' s 14 = z := ⟨_, rfl⟩
    rw [hz9] at HDV
    obtain ⟨z10, hz10⟩ : ∃ z, at' s 15 = z := ⟨_, rfl⟩
    rw [hz10] at HDV
    obtain ⟨z11, hz11⟩ : ∃ z, at' s 16 = z := ⟨_, rfl⟩
    rw [hz11] at HDV
    obtain ⟨z12, hz12⟩ : ∃ z, at' s 17 = z := ⟨_, rfl⟩
    rw [hz12] at HDV
    rw [HDV.out] at HWC
    have HA4 := Lib.hid (fun W hW => HAT.out 4 (by decide) W hW)
    rw [hz2] at HA4
    have HA5 := Lib.hid (fun W hW => HAT.out 5 (by decide) W hW)
    rw [hz3] at HA5
    have HA6 := Lib.hid (fun W hW => HAT.out 6 (by decide) W hW)
    rw [hz4] at HA6
    have HA7 := Lib.hid (fun W hW => HAT.out 7 (by decide) W hW)
    rw [hz5] at HA7
    have HA14 := Lib.hid (fun W hW => HAT.out 14 (by decide) W hW)
    rw [hz9] at HA14
    have HA15 := Lib.hid (fun W hW => HAT.out 15 (by decide) W hW)
    rw [hz10] at HA15
    have HA16 := Lib.hid (fun W hW => HAT.out 16 (by decide) W hW)
    rw [hz11] at HA16
    have HA17 := Lib.hid (fun W hW => HAT.out 17 (by decide) W hW)
    rw [hz12] at HA17
    clear HAT
    go_enter Try.func22, Try.ntmps22
    go_upto_region 4 with (fail)
    obtain ⟨w2, hw2⟩ : ∃ W, (w.alloc (.cells #[.string S] 9)).alloc (.cells #[.int .i64 0, .int .i64 0, .int .i64 0, .int .i64 0, .int .i64 0, .int .i64 0, .int .i64 0, .int .i64 0, .int .i64 0, .int .i64 0, .int .i64 0, .int .i64 0] 46) = W := ⟨_, rfl⟩
    simp only [hw2] at *
    clear hw2 q1
    go_cut [5] from 13 to 38 (fun p wx => ∃ kK, p = .pointer (some ⟨kK, 0, none⟩) ∧ Hid (wx.heap[kK]? = some (.cells #[.int .i64 z1, .int .i64 z2, .int .i64 z3, .int .i64 z4, .int .i64 z5, .int .i64 z6, .int .i64 z7, .int .i64 z8, .int .i64 z9, .int .i64 z10, .int .i64 z11, .int .i64 z12] 46 (0, 0)) ∧ Below w2.heap.size w2 wx))
    case first =>
      refine Kt.G.start 26 (Kt.Fb w2 [(w.heap.size, #[.string S], 9)]) (by kernel_rfl) ((Kt.Fb.nil w2 (Below.refl _ w2)).add HR1.out).drew (fun hHeld => ?_)
      generalize w2.drew = xx at *
      refine Kt.G.take 0 { dst := some 13, op := Op.load 9 (Operand.tmp 1), type := 9, pos := "desc.go:70", after := #[], guard := none } ?_ hHeld rfl (by kernel_rfl) (fun _ _ _ h => h) (by rfl) ?_ ?_
      rotate_left
      · intro wq hSw; have r0 := hSw.row (w.heap.size, #[.string S], 9) (by simp); have c0 := fun i => cell_of_row _ _ i _ _ _ r0; dsimp only at *; go_simp; try with_reducible rfl
      try simp only [Act.put, List.setIfInBounds_toArray, List.set_cons_zero, List.set_cons_succ]
      refine Kt.G.takeP 2 { dst := some 15, op := Op.move (Operand.tmp 4), type := 95, pos := "desc.go:70", after := #[], guard := none } ?_ (fun _ => hHeld) rfl (by kernel_rfl) (fun _ _ _ h => h) (by rfl) ?_ ?_
      rotate_left
      · intro wq; go_simp; try with_reducible rfl
      try simp only [Act.put, List.setIfInBounds_toArray, List.set_cons_zero, List.set_cons_succ]
      refine Kt.G.takeP 4 { dst := some 17, op := Op.move (Operand.tmp 4), type := 95, pos := "desc.go:70", after := #[], guard := none } ?_ (fun _ => hHeld) rfl (by kernel_rfl) (fun _ _ _ h => h) (by rfl) ?_ ?_
      rotate_left
      · intro wq; go_simp; try with_reducible rfl
      try simp only [Act.put, List.setIfInBounds_toArray, List.set_cons_zero, List.set_cons_succ]
      refine Kt.G.takeP 6 { dst := some 19, op := Op.move (Operand.tmp 4), type := 95, pos := "desc.go:70", after := #[], guard := none } ?_ (fun _ => hHeld) rfl (by kernel_rfl) (fun _ _ _ h => h) (by rfl) ?_ ?_
      rotate_left
      · intro wq; go_simp; try with_reducible rfl
      try simp only [Act.put, List.setIfInBounds_toArray, List.set_cons_zero, List.set_cons_succ]
      refine Kt.G.takeP 8 { dst := some 21, op := Op.move (Operand.tmp 4), type := 95, pos := "desc.go:70", after := #[], guard := none } ?_ (fun _ => hHeld) rfl (by kernel_rfl) (fun _ _ _ h => h) (by rfl) ?_ ?_
      rotate_left
      · intro wq; go_simp; try with_reducible rfl
      try simp only [Act.put, List.setIfInBounds_toArray, List.set_cons_zero, List.set_cons_succ]
      refine Kt.G.take 10 { dst := some 23, op := Op.load 9 (Operand.tmp 1), type := 9, pos := "desc.go:70", after := #[], guard := none } ?_ hHeld rfl (by kernel_rfl) (fun _ _ _ h => h) (by rfl) ?_ ?_
      rotate_left
      · intro wq hSw; have r0 := hSw.row (w.heap.size, #[.string S], 9) (by simp); have c0 := fun i => cell_of_row _ _ i _ _ _ r0; dsimp only at *; go_simp; try with_reducible rfl
      try simp only [Act.put, List.setIfInBounds_toArray, List.set_cons_zero, List.set_cons_succ]
      refine Kt.G.take 12 { dst := some 25, op := Op.load 9 (Operand.tmp 1), type := 9, pos := "desc.go:70", after := #[], guard := none } ?_ hHeld rfl (by kernel_rfl) (fun _ _ _ h => h) (by rfl) ?_ ?_
      rotate_left
      · intro wq hSw; have r0 := hSw.row (w.heap.size, #[.string S], 9) (by simp); have c0 := fun i => cell_of_row _ _ i _ _ _ r0; dsimp only at *; go_simp; try with_reducible rfl
      try simp only [Act.put, List.setIfInBounds_toArray, List.set_cons_zero, List.set_cons_succ]
      refine Kt.G.take 14 { dst := some 27, op := Op.load 9 (Operand.tmp 1), type := 9, pos := "desc.go:70", after := #[], guard := none } ?_ hHeld rfl (by kernel_rfl) (fun _ _ _ h => h) (by rfl) ?_ ?_
      rotate_left
      · intro wq hSw; have r0 := hSw.row (w.heap.size, #[.string S], 9) (by simp); have c0 := fun i => cell_of_row _ _ i _ _ _ r0; dsimp only at *; go_simp; try with_reducible rfl
      try simp only [Act.put, List.setIfInBounds_toArray, List.set_cons_zero, List.set_cons_succ]
      refine Kt.G.takeP 16 { dst := some 29, op := Op.move (Operand.tmp 4), type := 95, pos := "desc.go:70", after := #[], guard := none } ?_ (fun _ => hHeld) rfl (by kernel_rfl) (fun _ _ _ h => h) (by rfl) ?_ ?_
      rotate_left
      · intro wq; go_simp; try with_reducible rfl
      try simp only [Act.put, List.setIfInBounds_toArray, List.set_cons_zero, List.set_cons_succ]
      refine Kt.G.takeP 18 { dst := some 31, op := Op.move (Operand.tmp 4), type := 95, pos := "desc.go:70", after := #[], guard := none } ?_ (fun _ => hHeld) rfl (by kernel_rfl) (fun _ _ _ h => h) (by rfl) ?_ ?_
      rotate_left
      · intro wq; go_simp; try with_reducible rfl
      try simp only [Act.put, List.setIfInBounds_toArray, List.set_cons_zero, List.set_cons_succ]
      refine Kt.G.takeP 20 { dst := some 33, op := Op.move (Operand.tmp 4), type := 95, pos := "desc.go:70", after := #[], guard := none } ?_ (fun _ => hHeld) rfl (by kernel_rfl) (fun _ _ _ h => h) (by rfl) ?_ ?_
      rotate_left
      · intro wq; go_simp; try with_reducible rfl
      try simp only [Act.put, List.setIfInBounds_toArray, List.set_cons_zero, List.set_cons_succ]
      refine Kt.G.takeP 22 { dst := some 35, op := Op.move (Operand.tmp 4), type := 95, pos := "desc.go:70", after := #[], guard := none } ?_ (fun _ => hHeld) rfl (by kernel_rfl) (fun _ _ _ h => h) (by rfl) ?_ ?_
      rotate_left
      · intro wq; go_simp; try with_reducible rfl
      try simp only [Act.put, List.setIfInBounds_toArray, List.set_cons_zero, List.set_cons_succ]
      refine Kt.G.two 1 25 { dst := some 14, op := Op.call { callee := Callee.value (Operand.func 47), args := #[Operand.tmp 13, Operand.const (Value.int IntKind.i64 2)], argTypes := #[9, 3] }, type := 3, pos := "desc.go:71", after := #[{ on := 0, ground := Ground.data }], guard := none } { dst := some 5, op := Op.alloc 46, type := 0, pos := "desc.go:70", after := #[], guard := none } rfl rfl (by kernel_rfl) (by rfl) (by rfl) (fun K hK => ?g1) (fun K hK => ?g2)
      case' g1 =>
        go_simp
        refine (HW2.out _).mono ?_; rintro en xx ⟨rfl, hb⟩
        refine hK.out _ _ (fun _ => hHeld.on hb) (fun hHeld => ?_)
        have hHeld := hHeld rfl
        clear hK K
        try simp only [Act.put, List.setIfInBounds_toArray, List.set_cons_zero, List.set_cons_succ]
        clear hb
        refine Kt.G.two 3 25 { dst := some 16, op := Op.call { callee := Callee.value (Operand.tmp 15), args := #[Operand.const (Value.int IntKind.i64 4)], argTypes := #[3] }, type := 3, pos := "desc.go:71", after := #[{ on := 2, ground := Ground.data }, { on := 1, ground := Ground.chain }], guard := none } { dst := some 5, op := Op.alloc 46, type := 0, pos := "desc.go:70", after := #[], guard := none } rfl rfl (by kernel_rfl) (by rfl) (by rfl) (fun K hK => ?g3) (fun K hK => ?g4)
        case' g3 =>
          refine Kt.wp_fv _ _ _ _ _ [.int .i64 4, .pointer (some ⟨w.heap.size, 0, none⟩)] rfl rfl rfl egAtd ?_
          refine (HA4.out _ (hHeld.row (w.heap.size, #[.string S], 9) (List.Mem.head _))).mono ?_; rintro en xw ⟨rfl, rfl⟩
          refine hK.out _ _ (fun _ => hHeld) (fun hHeld => ?_)
          have hHeld := hHeld rfl
          clear hK K
          try simp only [Act.put, List.setIfInBounds_toArray, List.set_cons_zero, List.set_cons_succ]
          refine Kt.G.two 5 25 { dst := some 18, op := Op.call { callee := Callee.value (Operand.tmp 17), args := #[Operand.const (Value.int IntKind.i64 5)], argTypes := #[3] }, type := 3, pos := "desc.go:71", after := #[{ on := 4, ground := Ground.data }, { on := 3, ground := Ground.chain }], guard := none } { dst := some 5, op := Op.alloc 46, type := 0, pos := "desc.go:70", after := #[], guard := none } rfl rfl (by kernel_rfl) (by rfl) (by rfl) (fun K hK => ?g5) (fun K hK => ?g6)
          case' g5 =>
            refine Kt.wp_fv _ _ _ _ _ [.int .i64 5, .pointer (some ⟨w.heap.size, 0, none⟩)] rfl rfl rfl egAtd ?_
            refine (HA5.out _ (hHeld.row (w.heap.size, #[.string S], 9) (List.Mem.head _))).mono ?_; rintro en xw ⟨rfl, rfl⟩
            refine hK.out _ _ (fun _ => hHeld) (fun hHeld => ?_)
            have hHeld := hHeld rfl
            clear hK K
            try simp only [Act.put, List.setIfInBounds_toArray, List.set_cons_zero, List.set_cons_succ]
          case' g6 =>
            have hkz := hHeld.bel.size
            go_simp
            refine hK.out _ _ (fun _ => hHeld.alloc _) (fun hHeld => ?_)
            have hHeld := hHeld rfl
            clear hK K
            try simp only [Act.put, List.setIfInBounds_toArray, List.set_cons_zero, List.set_cons_succ]
            have rK := heap_alloc_new xx (.cells #[.int .i64 0, .int .i64 0, .int .i64 0, .int .i64 0, .int .i64 0, .int .i64 0, .int .i64 0, .int .i64 0, .int .i64 0, .int .i64 0, .int .i64 0, .int .i64 0] 46)
            generalize hkK : xx.heap.size = kK at *
            clear hkK
            generalize xx.alloc (.cells #[.int .i64 0, .int .i64 0, .int .i64 0, .int .i64 0, .int .i64 0, .int .i64 0, .int .i64 0, .int .i64 0, .int .i64 0, .int .i64 0, .int .i64 0, .int .i64 0] 46) = xx at *
            refine Kt.G.one 5 { dst := some 18, op := Op.call { callee := Callee.value (Operand.tmp 17), args := #[Operand.const (Value.int IntKind.i64 5)], argTypes := #[3] }, type := 3, pos := "desc.go:71", after := #[{ on := 4, ground := Ground.data }, { on := 3, ground := Ground.chain }], guard := none } rfl (by kernel_rfl) (by rfl) (fun K hK => ?_)
            refine Kt.wp_fv _ _ _ _ _ [.int .i64 5, .pointer (some ⟨w.heap.size, 0, none⟩)] rfl rfl rfl egAtd ?_
            refine (HA5.out _ (hHeld.row (w.heap.size, #[.string S], 9) (List.Mem.head _))).mono ?_; rintro en xw ⟨rfl, rfl⟩
            refine hK.out _ _ (fun _ => hHeld) (fun hHeld => ?_)
            have hHeld := hHeld rfl
            clear hK K
            try simp only [Act.put, List.setIfInBounds_toArray, List.set_cons_zero, List.set_cons_succ]
        case' g4 =>
          have hkz := hHeld.bel.size
          go_simp
          refine hK.out _ _ (fun _ => hHeld.alloc _) (fun hHeld => ?_)
          have hHeld := hHeld rfl
          clear hK K
          try simp only [Act.put, List.setIfInBounds_toArray, List.set_cons_zero, List.set_cons_succ]
          have rK := heap_alloc_new xx (.cells #[.int .i64 0, .int .i64 0, .int .i64 0, .int .i64 0, .int .i64 0, .int .i64 0, .int .i64 0, .int .i64 0, .int .i64 0, .int .i64 0, .int .i64 0, .int .i64 0] 46)
          generalize hkK : xx.heap.size = kK at *
          clear hkK
          generalize xx.alloc (.cells #[.int .i64 0, .int .i64 0, .int .i64 0, .int .i64 0, .int .i64 0, .int .i64 0, .int .i64 0, .int .i64 0, .int .i64 0, .int .i64 0, .int .i64 0, .int .i64 0] 46) = xx at *
          refine Kt.G.one 3 { dst := some 16, op := Op.call { callee := Callee.value (Operand.tmp 15), args := #[Operand.const (Value.int IntKind.i64 4)], argTypes := #[3] }, type := 3, pos := "desc.go:71", after := #[{ on := 2, ground := Ground.data }, { on := 1, ground := Ground.chain }], guard := none } rfl (by kernel_rfl) (by rfl) (fun K hK => ?_)
          refine Kt.wp_fv _ _ _ _ _ [.int .i64 4, .pointer (some ⟨w.heap.size, 0, none⟩)] rfl rfl rfl egAtd ?_
          refine (HA4.out _ (hHeld.row (w.heap.size, #[.string S], 9) (List.Mem.head _))).mono ?_; rintro en xw ⟨rfl, rfl⟩
          refine hK.out _ _ (fun _ => hHeld) (fun hHeld => ?_)
          have hHeld := hHeld rfl
          clear hK K
          try simp only [Act.put, List.setIfInBounds_toArray, List.set_cons_zero, List.set_cons_succ]
          refine Kt.G.one 5 { dst := some 18, op := Op.call { callee := Callee.value (Operand.tmp 17), args := #[Operand.const (Value.int IntKind.i64 5)], argTypes := #[3] }, type := 3, pos := "desc.go:71", after := #[{ on := 4, ground := Ground.data }, { on := 3, ground := Ground.chain }], guard := none } rfl (by kernel_rfl) (by rfl) (fun K hK => ?_)
          refine Kt.wp_fv _ _ _ _ _ [.int .i64 5, .pointer (some ⟨w.heap.size, 0, none⟩)] rfl rfl rfl egAtd ?_
          refine (HA5.out _ (hHeld.row (w.heap.size, #[.string S], 9) (List.Mem.head _))).mono ?_; rintro en xw ⟨rfl, rfl⟩
          refine hK.out _ _ (fun _ => hHeld) (fun hHeld => ?_)
          have hHeld := hHeld rfl
          clear hK K
          try simp only [Act.put, List.setIfInBounds_toArray, List.set_cons_zero, List.set_cons_succ]
      case' g2 =>
        have hkz := hHeld.bel.size
        go_simp
        refine hK.out _ _ (fun _ => hHeld.alloc _) (fun hHeld => ?_)
        have hHeld := hHeld rfl
        clear hK K
        try simp only [Act.put, List.setIfInBounds_toArray, List.set_cons_zero, List.set_cons_succ]
        have rK := heap_alloc_new xx (.cells #[.int .i64 0, .int .i64 0, .int .i64 0, .int .i64 0, .int .i64 0, .int .i64 0, .int .i64 0, .int .i64 0, .int .i64 0, .int .i64 0, .int .i64 0, .int .i64 0] 46)
        generalize hkK : xx.heap.size = kK at *
        clear hkK
        generalize xx.alloc (.cells #[.int .i64 0, .int .i64 0, .int .i64 0, .int .i64 0, .int .i64 0, .int .i64 0, .int .i64 0, .int .i64 0, .int .i64 0, .int .i64 0, .int .i64 0, .int .i64 0] 46) = xx at *
        refine Kt.G.one 1 { dst := some 14, op := Op.call { callee := Callee.value (Operand.func 47), args := #[Operand.tmp 13, Operand.const (Value.int IntKind.i64 2)], argTypes := #[9, 3] }, type := 3, pos := "desc.go:71", after := #[{ on := 0, ground := Ground.data }], guard := none } rfl (by kernel_rfl) (by rfl) (fun K hK => ?_)
        go_simp
        refine (HW2.out _).mono ?_; rintro en xx ⟨rfl, hb⟩
        refine hK.out _ _ (fun _ => hHeld.on hb) (fun hHeld => ?_)
        have hHeld := hHeld rfl
        clear hK K
        try simp only [Act.put, List.setIfInBounds_toArray, List.set_cons_zero, List.set_cons_succ]
        replace rK := Kt.row_on hb rK
        clear hb
        refine Kt.G.one 3 { dst := some 16, op := Op.call { callee := Callee.value (Operand.tmp 15), args := #[Operand.const (Value.int IntKind.i64 4)], argTypes := #[3] }, type := 3, pos := "desc.go:71", after := #[{ on := 2, ground := Ground.data }, { on := 1, ground := Ground.chain }], guard := none } rfl (by kernel_rfl) (by rfl) (fun K hK => ?_)
        refine Kt.wp_fv _ _ _ _ _ [.int .i64 4, .pointer (some ⟨w.heap.size, 0, none⟩)] rfl rfl rfl egAtd ?_
        refine (HA4.out _ (hHeld.row (w.heap.size, #[.string S], 9) (List.Mem.head _))).mono ?_; rintro en xw ⟨rfl, rfl⟩
        refine hK.out _ _ (fun _ => hHeld) (fun hHeld => ?_)
        have hHeld := hHeld rfl
        clear hK K
        try simp only [Act.put, List.setIfInBounds_toArray, List.set_cons_zero, List.set_cons_succ]
        refine Kt.G.one 5 { dst := some 18, op := Op.call { callee := Callee.value (Operand.tmp 17), args := #[Operand.const (Value.int IntKind.i64 5)], argTypes := #[3] }, type := 3, pos := "desc.go:71", after := #[{ on := 4, ground := Ground.data }, { on := 3, ground := Ground.chain }], guard := none } rfl (by kernel_rfl) (by rfl) (fun K hK => ?_)
        refine Kt.wp_fv _ _ _ _ _ [.int .i64 5, .pointer (some ⟨w.heap.size, 0, none⟩)] rfl rfl rfl egAtd ?_
        refine (HA5.out _ (hHeld.row (w.heap.size, #[.string S], 9) (List.Mem.head _))).mono ?_; rintro en xw ⟨rfl, rfl⟩
        refine hK.out _ _ (fun _ => hHeld) (fun hHeld => ?_)
        have hHeld := hHeld rfl
        clear hK K
        try simp only [Act.put, List.setIfInBounds_toArray, List.set_cons_zero, List.set_cons_succ]
      all_goals
        first
          | (have hdn := rK
             clear hdn
             refine Kt.G.one 7 { dst := some 20, op := Op.call { callee := Callee.value (Operand.tmp 19), args := #[Operand.const (Value.int IntKind.i64 6)], argTypes := #[3] }, type := 3, pos := "desc.go:71", after := #[{ on := 6, ground := Ground.data }, { on := 5, ground := Ground.chain }], guard := none } rfl (by kernel_rfl) (by rfl) (fun K hK => ?_)
             refine Kt.wp_fv _ _ _ _ _ [.int .i64 6, .pointer (some ⟨w.heap.size, 0, none⟩)] rfl rfl rfl egAtd ?_
             refine (HA6.out _ (hHeld.row (w.heap.size, #[.string S], 9) (List.Mem.head _))).mono ?_; rintro en xw ⟨rfl, rfl⟩
             refine hK.out _ _ (fun _ => hHeld) (fun hHeld => ?_)
             have hHeld := hHeld rfl
             clear hK K
             try simp only [Act.put, List.setIfInBounds_toArray, List.set_cons_zero, List.set_cons_succ]
             refine Kt.G.one 9 { dst := some 22, op := Op.call { callee := Callee.value (Operand.tmp 21), args := #[Operand.const (Value.int IntKind.i64 7)], argTypes := #[3] }, type := 3, pos := "desc.go:71", after := #[{ on := 8, ground := Ground.data }, { on := 7, ground := Ground.chain }], guard := none } rfl (by kernel_rfl) (by rfl) (fun K hK => ?_)
             refine Kt.wp_fv _ _ _ _ _ [.int .i64 7, .pointer (some ⟨w.heap.size, 0, none⟩)] rfl rfl rfl egAtd ?_
             refine (HA7.out _ (hHeld.row (w.heap.size, #[.string S], 9) (List.Mem.head _))).mono ?_; rintro en xw ⟨rfl, rfl⟩
             refine hK.out _ _ (fun _ => hHeld) (fun hHeld => ?_)
             have hHeld := hHeld rfl
             clear hK K
             try simp only [Act.put, List.setIfInBounds_toArray, List.set_cons_zero, List.set_cons_succ]
             refine Kt.G.one 11 { dst := some 24, op := Op.call { callee := Callee.value (Operand.func 47), args := #[Operand.tmp 23, Operand.const (Value.int IntKind.i64 8)], argTypes := #[9, 3] }, type := 3, pos := "desc.go:72", after := #[{ on := 10, ground := Ground.data }, { on := 9, ground := Ground.chain }], guard := none } rfl (by kernel_rfl) (by rfl) (fun K hK => ?_)
             go_simp
             refine (HW8.out _).mono ?_; rintro en xx ⟨rfl, hb⟩
             refine hK.out _ _ (fun _ => hHeld.on hb) (fun hHeld => ?_)
             have hHeld := hHeld rfl
             clear hK K
             try simp only [Act.put, List.setIfInBounds_toArray, List.set_cons_zero, List.set_cons_succ]
             try (replace rK := Kt.row_on hb rK)
             clear hb)
          | (refine Kt.G.two 7 25 { dst := some 20, op := Op.call { callee := Callee.value (Operand.tmp 19), args := #[Operand.const (Value.int IntKind.i64 6)], argTypes := #[3] }, type := 3, pos := "desc.go:71", after := #[{ on := 6, ground := Ground.data }, { on := 5, ground := Ground.chain }], guard := none } { dst := some 5, op := Op.alloc 46, type := 0, pos := "desc.go:70", after := #[], guard := none } rfl rfl (by kernel_rfl) (by rfl) (by rfl) (fun K hK => ?g7) (fun K hK => ?g8)
             case' g7 =>
               refine Kt.wp_fv _ _ _ _ _ [.int .i64 6, .pointer (some ⟨w.heap.size, 0, none⟩)] rfl rfl rfl egAtd ?_
               refine (HA6.out _ (hHeld.row (w.heap.size, #[.string S], 9) (List.Mem.head _))).mono ?_; rintro en xw ⟨rfl, rfl⟩
               refine hK.out _ _ (fun _ => hHeld) (fun hHeld => ?_)
               have hHeld := hHeld rfl
               clear hK K
               try simp only [Act.put, List.setIfInBounds_toArray, List.set_cons_zero, List.set_cons_succ]
               refine Kt.G.two 9 25 { dst := some 22, op := Op.call { callee := Callee.value (Operand.tmp 21), args := #[Operand.const (Value.int IntKind.i64 7)], argTypes := #[3] }, type := 3, pos := "desc.go:71", after := #[{ on := 8, ground := Ground.data }, { on := 7, ground := Ground.chain }], guard := none } { dst := some 5, op := Op.alloc 46, type := 0, pos := "desc.go:70", after := #[], guard := none } rfl rfl (by kernel_rfl) (by rfl) (by rfl) (fun K hK => ?g9) (fun K hK => ?g10)
               case' g9 =>
                 refine Kt.wp_fv _ _ _ _ _ [.int .i64 7, .pointer (some ⟨w.heap.size, 0, none⟩)] rfl rfl rfl egAtd ?_
                 refine (HA7.out _ (hHeld.row (w.heap.size, #[.string S], 9) (List.Mem.head _))).mono ?_; rintro en xw ⟨rfl, rfl⟩
                 refine hK.out _ _ (fun _ => hHeld) (fun hHeld => ?_)
                 have hHeld := hHeld rfl
                 clear hK K
                 try simp only [Act.put, List.setIfInBounds_toArray, List.set_cons_zero, List.set_cons_succ]
                 refine Kt.G.two 11 25 { dst := some 24, op := Op.call { callee := Callee.value (Operand.func 47), args := #[Operand.tmp 23, Operand.const (Value.int IntKind.i64 8)], argTypes := #[9, 3] }, type := 3, pos := "desc.go:72", after := #[{ on := 10, ground := Ground.data }, { on := 9, ground := Ground.chain }], guard := none } { dst := some 5, op := Op.alloc 46, type := 0, pos := "desc.go:70", after := #[], guard := none } rfl rfl (by kernel_rfl) (by rfl) (by rfl) (fun K hK => ?g11) (fun K hK => ?g12)
                 case' g11 =>
                   go_simp
                   refine (HW8.out _).mono ?_; rintro en xx ⟨rfl, hb⟩
                   refine hK.out _ _ (fun _ => hHeld.on hb) (fun hHeld => ?_)
                   have hHeld := hHeld rfl
                   clear hK K
                   try simp only [Act.put, List.setIfInBounds_toArray, List.set_cons_zero, List.set_cons_succ]
                   try (replace rK := Kt.row_on hb rK)
                   clear hb
                 case' g12 =>
                   have hkz := hHeld.bel.size
                   go_simp
                   refine hK.out _ _ (fun _ => hHeld.alloc _) (fun hHeld => ?_)
                   have hHeld := hHeld rfl
                   clear hK K
                   try simp only [Act.put, List.setIfInBounds_toArray, List.set_cons_zero, List.set_cons_succ]
                   have rK := heap_alloc_new xx (.cells #[.int .i64 0, .int .i64 0, .int .i64 0, .int .i64 0, .int .i64 0, .int .i64 0, .int .i64 0, .int .i64 0, .int .i64 0, .int .i64 0, .int .i64 0, .int .i64 0] 46)
                   generalize hkK : xx.heap.size = kK at *
                   clear hkK
                   generalize xx.alloc (.cells #[.int .i64 0, .int .i64 0, .int .i64 0, .int .i64 0, .int .i64 0, .int .i64 0, .int .i64 0, .int .i64 0, .int .i64 0, .int .i64 0, .int .i64 0, .int .i64 0] 46) = xx at *
                   refine Kt.G.one 11 { dst := some 24, op := Op.call { callee := Callee.value (Operand.func 47), args := #[Operand.tmp 23, Operand.const (Value.int IntKind.i64 8)], argTypes := #[9, 3] }, type := 3, pos := "desc.go:72", after := #[{ on := 10, ground := Ground.data }, { on := 9, ground := Ground.chain }], guard := none } rfl (by kernel_rfl) (by rfl) (fun K hK => ?_)
                   go_simp
                   refine (HW8.out _).mono ?_; rintro en xx ⟨rfl, hb⟩
                   refine hK.out _ _ (fun _ => hHeld.on hb) (fun hHeld => ?_)
                   have hHeld := hHeld rfl
                   clear hK K
                   try simp only [Act.put, List.setIfInBounds_toArray, List.set_cons_zero, List.set_cons_succ]
                   try (replace rK := Kt.row_on hb rK)
                   clear hb
               case' g10 =>
                 have hkz := hHeld.bel.size
                 go_simp
                 refine hK.out _ _ (fun _ => hHeld.alloc _) (fun hHeld => ?_)
                 have hHeld := hHeld rfl
                 clear hK K
                 try simp only [Act.put, List.setIfInBounds_toArray, List.set_cons_zero, List.set_cons_succ]
                 have rK := heap_alloc_new xx (.cells #[.int .i64 0, .int .i64 0, .int .i64 0, .int .i64 0, .int .i64 0, .int .i64 0, .int .i64 0, .int .i64 0, .int .i64 0, .int .i64 0, .int .i64 0, .int .i64 0] 46)
                 generalize hkK : xx.heap.size = kK at *
                 clear hkK
                 generalize xx.alloc (.cells #[.int .i64 0, .int .i64 0, .int .i64 0, .int .i64 0, .int .i64 0, .int .i64 0, .int .i64 0, .int .i64 0, .int .i64 0, .int .i64 0, .int .i64 0, .int .i64 0] 46) = xx at *
                 refine Kt.G.one 9 { dst := some 22, op := Op.call { callee := Callee.value (Operand.tmp 21), args := #[Operand.const (Value.int IntKind.i64 7)], argTypes := #[3] }, type := 3, pos := "desc.go:71", after := #[{ on := 8, ground := Ground.data }, { on := 7, ground := Ground.chain }], guard := none } rfl (by kernel_rfl) (by rfl) (fun K hK => ?_)
                 refine Kt.wp_fv _ _ _ _ _ [.int .i64 7, .pointer (some ⟨w.heap.size, 0, none⟩)] rfl rfl rfl egAtd ?_
                 refine (HA7.out _ (hHeld.row (w.heap.size, #[.string S], 9) (List.Mem.head _))).mono ?_; rintro en xw ⟨rfl, rfl⟩
                 refine hK.out _ _ (fun _ => hHeld) (fun hHeld => ?_)
                 have hHeld := hHeld rfl
                 clear hK K
                 try simp only [Act.put, List.setIfInBounds_toArray, List.set_cons_zero, List.set_cons_succ]
                 refine Kt.G.one 11 { dst := some 24, op := Op.call { callee := Callee.value (Operand.func 47), args := #[Operand.tmp 23, Operand.const (Value.int IntKind.i64 8)], argTypes := #[9, 3] }, type := 3, pos := "desc.go:72", after := #[{ on := 10, ground := Ground.data }, { on := 9, ground := Ground.chain }], guard := none } rfl (by kernel_rfl) (by rfl) (fun K hK => ?_)
                 go_simp
                 refine (HW8.out _).mono ?_; rintro en xx ⟨rfl, hb⟩
                 refine hK.out _ _ (fun _ => hHeld.on hb) (fun hHeld => ?_)
                 have hHeld := hHeld rfl
                 clear hK K
                 try simp only [Act.put, List.setIfInBounds_toArray, List.set_cons_zero, List.set_cons_succ]
                 try (replace rK := Kt.row_on hb rK)
                 clear hb
             case' g8 =>
               have hkz := hHeld.bel.size
               go_simp
               refine hK.out _ _ (fun _ => hHeld.alloc _) (fun hHeld => ?_)
               have hHeld := hHeld rfl
               clear hK K
               try simp only [Act.put, List.setIfInBounds_toArray, List.set_cons_zero, List.set_cons_succ]
               have rK := heap_alloc_new xx (.cells #[.int .i64 0, .int .i64 0, .int .i64 0, .int .i64 0, .int .i64 0, .int .i64 0, .int .i64 0, .int .i64 0, .int .i64 0, .int .i64 0, .int .i64 0, .int .i64 0] 46)
               generalize hkK : xx.heap.size = kK at *
               clear hkK
               generalize xx.alloc (.cells #[.int .i64 0, .int .i64 0, .int .i64 0, .int .i64 0, .int .i64 0, .int .i64 0, .int .i64 0, .int .i64 0, .int .i64 0, .int .i64 0, .int .i64 0, .int .i64 0] 46) = xx at *
               refine Kt.G.one 7 { dst := some 20, op := Op.call { callee := Callee.value (Operand.tmp 19), args := #[Operand.const (Value.int IntKind.i64 6)], argTypes := #[3] }, type := 3, pos := "desc.go:71", after := #[{ on := 6, ground := Ground.data }, { on := 5, ground := Ground.chain }], guard := none } rfl (by kernel_rfl) (by rfl) (fun K hK => ?_)
               refine Kt.wp_fv _ _ _ _ _ [.int .i64 6, .pointer (some ⟨w.heap.size, 0, none⟩)] rfl rfl rfl egAtd ?_
               refine (HA6.out _ (hHeld.row (w.heap.size, #[.string S], 9) (List.Mem.head _))).mono ?_; rintro en xw ⟨rfl, rfl⟩
               refine hK.out _ _ (fun _ => hHeld) (fun hHeld => ?_)
               have hHeld := hHeld rfl
               clear hK K
               try simp only [Act.put, List.setIfInBounds_toArray, List.set_cons_zero, List.set_cons_succ]
               refine Kt.G.one 9 { dst := some 22, op := Op.call { callee := Callee.value (Operand.tmp 21), args := #[Operand.const (Value.int IntKind.i64 7)], argTypes := #[3] }, type := 3, pos := "desc.go:71", after := #[{ on := 8, ground := Ground.data }, { on := 7, ground := Ground.chain }], guard := none } rfl (by kernel_rfl) (by rfl) (fun K hK => ?_)
               refine Kt.wp_fv _ _ _ _ _ [.int .i64 7, .pointer (some ⟨w.heap.size, 0, none⟩)] rfl rfl rfl egAtd ?_
               refine (HA7.out _ (hHeld.row (w.heap.size, #[.string S], 9) (List.Mem.head _))).mono ?_; rintro en xw ⟨rfl, rfl⟩
               refine hK.out _ _ (fun _ => hHeld) (fun hHeld => ?_)
               have hHeld := hHeld rfl
               clear hK K
               try simp only [Act.put, List.setIfInBounds_toArray, List.set_cons_zero, List.set_cons_succ]
               refine Kt.G.one 11 { dst := some 24, op := Op.call { callee := Callee.value (Operand.func 47), args := #[Operand.tmp 23, Operand.const (Value.int IntKind.i64 8)], argTypes := #[9, 3] }, type := 3, pos := "desc.go:72", after := #[{ on := 10, ground := Ground.data }, { on := 9, ground := Ground.chain }], guard := none } rfl (by kernel_rfl) (by rfl) (fun K hK => ?_)
               go_simp
               refine (HW8.out _).mono ?_; rintro en xx ⟨rfl, hb⟩
               refine hK.out _ _ (fun _ => hHeld.on hb) (fun hHeld => ?_)
               have hHeld := hHeld rfl
               clear hK K
               try simp only [Act.put, List.setIfInBounds_toArray, List.set_cons_zero, List.set_cons_succ]
               try (replace rK := Kt.row_on hb rK)
               clear hb)
      all_goals
        first
          | (have hdn := rK
             clear hdn
             refine Kt.G.one 13 { dst := some 26, op := Op.call { callee := Callee.value (Operand.func 47), args := #[Operand.tmp 25, Operand.const (Value.int IntKind.i64 10)], argTypes := #[9, 3] }, type := 3, pos := "desc.go:72", after := #[{ on := 12, ground := Ground.data }, { on := 11, ground := Ground.chain }], guard := none } rfl (by kernel_rfl) (by rfl) (fun K hK => ?_)
             go_simp
             refine (HW10.out _).mono ?_; rintro en xx ⟨rfl, hb⟩
             refine hK.out _ _ (fun _ => hHeld.on hb) (fun hHeld => ?_)
             have hHeld := hHeld rfl
             clear hK K
             try simp only [Act.put, List.setIfInBounds_toArray, List.set_cons_zero, List.set_cons_succ]
             try (replace rK := Kt.row_on hb rK)
             clear hb
             refine Kt.G.one 15 { dst := some 28, op := Op.call { callee := Callee.value (Operand.func 47), args := #[Operand.tmp 27, Operand.const (Value.int IntKind.i64 12)], argTypes := #[9, 3] }, type := 3, pos := "desc.go:72", after := #[{ on := 14, ground := Ground.data }, { on := 13, ground := Ground.chain }], guard := none } rfl (by kernel_rfl) (by rfl) (fun K hK => ?_)
             go_simp
             refine (HW12.out _).mono ?_; rintro en xx ⟨rfl, hb⟩
             refine hK.out _ _ (fun _ => hHeld.on hb) (fun hHeld => ?_)
             have hHeld := hHeld rfl
             clear hK K
             try simp only [Act.put, List.setIfInBounds_toArray, List.set_cons_zero, List.set_cons_succ]
             try (replace rK := Kt.row_on hb rK)
             clear hb
             refine Kt.G.one 17 { dst := some 30, op := Op.call { callee := Callee.value (Operand.tmp 29), args := #[Operand.const (Value.int IntKind.i64 14)], argTypes := #[3] }, type := 3, pos := "desc.go:73", after := #[{ on := 16, ground := Ground.data }, { on := 15, ground := Ground.chain }], guard := none } rfl (by kernel_rfl) (by rfl) (fun K hK => ?_)
             refine Kt.wp_fv _ _ _ _ _ [.int .i64 14, .pointer (some ⟨w.heap.size, 0, none⟩)] rfl rfl rfl egAtd ?_
             refine (HA14.out _ (hHeld.row (w.heap.size, #[.string S], 9) (List.Mem.head _))).mono ?_; rintro en xw ⟨rfl, rfl⟩
             refine hK.out _ _ (fun _ => hHeld) (fun hHeld => ?_)
             have hHeld := hHeld rfl
             clear hK K
             try simp only [Act.put, List.setIfInBounds_toArray, List.set_cons_zero, List.set_cons_succ])
          | (refine Kt.G.two 13 25 { dst := some 26, op := Op.call { callee := Callee.value (Operand.func 47), args := #[Operand.tmp 25, Operand.const (Value.int IntKind.i64 10)], argTypes := #[9, 3] }, type := 3, pos := "desc.go:72", after := #[{ on := 12, ground := Ground.data }, { on := 11, ground := Ground.chain }], guard := none } { dst := some 5, op := Op.alloc 46, type := 0, pos := "desc.go:70", after := #[], guard := none } rfl rfl (by kernel_rfl) (by rfl) (by rfl) (fun K hK => ?g13) (fun K hK => ?g14)
             case' g13 =>
               go_simp
               refine (HW10.out _).mono ?_; rintro en xx ⟨rfl, hb⟩
               refine hK.out _ _ (fun _ => hHeld.on hb) (fun hHeld => ?_)
               have hHeld := hHeld rfl
               clear hK K
               try simp only [Act.put, List.setIfInBounds_toArray, List.set_cons_zero, List.set_cons_succ]
               try (replace rK := Kt.row_on hb rK)
               clear hb
               refine Kt.G.two 15 25 { dst := some 28, op := Op.call { callee := Callee.value (Operand.func 47), args := #[Operand.tmp 27, Operand.const (Value.int IntKind.i64 12)], argTypes := #[9, 3] }, type := 3, pos := "desc.go:72", after := #[{ on := 14, ground := Ground.data }, { on := 13, ground := Ground.chain }], guard := none } { dst := some 5, op := Op.alloc 46, type := 0, pos := "desc.go:70", after := #[], guard := none } rfl rfl (by kernel_rfl) (by rfl) (by rfl) (fun K hK => ?g15) (fun K hK => ?g16)
               case' g15 =>
                 go_simp
                 refine (HW12.out _).mono ?_; rintro en xx ⟨rfl, hb⟩
                 refine hK.out _ _ (fun _ => hHeld.on hb) (fun hHeld => ?_)
                 have hHeld := hHeld rfl
                 clear hK K
                 try simp only [Act.put, List.setIfInBounds_toArray, List.set_cons_zero, List.set_cons_succ]
                 try (replace rK := Kt.row_on hb rK)
                 clear hb
                 refine Kt.G.two 17 25 { dst := some 30, op := Op.call { callee := Callee.value (Operand.tmp 29), args := #[Operand.const (Value.int IntKind.i64 14)], argTypes := #[3] }, type := 3, pos := "desc.go:73", after := #[{ on := 16, ground := Ground.data }, { on := 15, ground := Ground.chain }], guard := none } { dst := some 5, op := Op.alloc 46, type := 0, pos := "desc.go:70", after := #[], guard := none } rfl rfl (by kernel_rfl) (by rfl) (by rfl) (fun K hK => ?g17) (fun K hK => ?g18)
                 case' g17 =>
                   refine Kt.wp_fv _ _ _ _ _ [.int .i64 14, .pointer (some ⟨w.heap.size, 0, none⟩)] rfl rfl rfl egAtd ?_
                   refine (HA14.out _ (hHeld.row (w.heap.size, #[.string S], 9) (List.Mem.head _))).mono ?_; rintro en xw ⟨rfl, rfl⟩
                   refine hK.out _ _ (fun _ => hHeld) (fun hHeld => ?_)
                   have hHeld := hHeld rfl
                   clear hK K
                   try simp only [Act.put, List.setIfInBounds_toArray, List.set_cons_zero, List.set_cons_succ]
                 case' g18 =>
                   have hkz := hHeld.bel.size
                   go_simp
                   refine hK.out _ _ (fun _ => hHeld.alloc _) (fun hHeld => ?_)
                   have hHeld := hHeld rfl
                   clear hK K
                   try simp only [Act.put, List.setIfInBounds_toArray, List.set_cons_zero, List.set_cons_succ]
                   have rK := heap_alloc_new xx (.cells #[.int .i64 0, .int .i64 0, .int .i64 0, .int .i64 0, .int .i64 0, .int .i64 0, .int .i64 0, .int .i64 0, .int .i64 0, .int .i64 0, .int .i64 0, .int .i64 0] 46)
                   generalize hkK : xx.heap.size = kK at *
                   clear hkK
                   generalize xx.alloc (.cells #[.int .i64 0, .int .i64 0, .int .i64 0, .int .i64 0, .int .i64 0, .int .i64 0, .int .i64 0, .int .i64 0, .int .i64 0, .int .i64 0, .int .i64 0, .int .i64 0] 46) = xx at *
                   refine Kt.G.one 17 { dst := some 30, op := Op.call { callee := Callee.value (Operand.tmp 29), args := #[Operand.const (Value.int IntKind.i64 14)], argTypes := #[3] }, type := 3, pos := "desc.go:73", after := #[{ on := 16, ground := Ground.data }, { on := 15, ground := Ground.chain }], guard := none } rfl (by kernel_rfl) (by rfl) (fun K hK => ?_)
                   refine Kt.wp_fv _ _ _ _ _ [.int .i64 14, .pointer (some ⟨w.heap.size, 0, none⟩)] rfl rfl rfl egAtd ?_
                   refine (HA14.out _ (hHeld.row (w.heap.size, #[.string S], 9) (List.Mem.head _))).mono ?_; rintro en xw ⟨rfl, rfl⟩
                   refine hK.out _ _ (fun _ => hHeld) (fun hHeld => ?_)
                   have hHeld := hHeld rfl
                   clear hK K
                   try simp only [Act.put, List.setIfInBounds_toArray, List.set_cons_zero, List.set_cons_succ]
               case' g16 =>
                 have hkz := hHeld.bel.size
                 go_simp
                 refine hK.out _ _ (fun _ => hHeld.alloc _) (fun hHeld => ?_)
                 have hHeld := hHeld rfl
                 clear hK K
                 try simp only [Act.put, List.setIfInBounds_toArray, List.set_cons_zero, List.set_cons_succ]
                 have rK := heap_alloc_new xx (.cells #[.int .i64 0, .int .i64 0, .int .i64 0, .int .i64 0, .int .i64 0, .int .i64 0, .int .i64 0, .int .i64 0, .int .i64 0, .int .i64 0, .int .i64 0, .int .i64 0] 46)
                 generalize hkK : xx.heap.size = kK at *
                 clear hkK
                 generalize xx.alloc (.cells #[.int .i64 0, .int .i64 0, .int .i64 0, .int .i64 0, .int .i64 0, .int .i64 0, .int .i64 0, .int .i64 0, .int .i64 0, .int .i64 0, .int .i64 0, .int .i64 0] 46) = xx at *
                 refine Kt.G.one 15 { dst := some 28, op := Op.call { callee := Callee.value (Operand.func 47), args := #[Operand.tmp 27, Operand.const (Value.int IntKind.i64 12)], argTypes := #[9, 3] }, type := 3, pos := "desc.go:72", after := #[{ on := 14, ground := Ground.data }, { on := 13, ground := Ground.chain }], guard := none } rfl (by kernel_rfl) (by rfl) (fun K hK => ?_)
                 go_simp
                 refine (HW12.out _).mono ?_; rintro en xx ⟨rfl, hb⟩
                 refine hK.out _ _ (fun _ => hHeld.on hb) (fun hHeld => ?_)
                 have hHeld := hHeld rfl
                 clear hK K
                 try simp only [Act.put, List.setIfInBounds_toArray, List.set_cons_zero, List.set_cons_succ]
                 try (replace rK := Kt.row_on hb rK)
                 clear hb
                 refine Kt.G.one 17 { dst := some 30, op := Op.call { callee := Callee.value (Operand.tmp 29), args := #[Operand.const (Value.int IntKind.i64 14)], argTypes := #[3] }, type := 3, pos := "desc.go:73", after := #[{ on := 16, ground := Ground.data }, { on := 15, ground := Ground.chain }], guard := none } rfl (by kernel_rfl) (by rfl) (fun K hK => ?_)
                 refine Kt.wp_fv _ _ _ _ _ [.int .i64 14, .pointer (some ⟨w.heap.size, 0, none⟩)] rfl rfl rfl egAtd ?_
                 refine (HA14.out _ (hHeld.row (w.heap.size, #[.string S], 9) (List.Mem.head _))).mono ?_; rintro en xw ⟨rfl, rfl⟩
                 refine hK.out _ _ (fun _ => hHeld) (fun hHeld => ?_)
                 have hHeld := hHeld rfl
                 clear hK K
                 try simp only [Act.put, List.setIfInBounds_toArray, List.set_cons_zero, List.set_cons_succ]
             case' g14 =>
               have hkz := hHeld.bel.size
               go_simp
               refine hK.out _ _ (fun _ => hHeld.alloc _) (fun hHeld => ?_)
               have hHeld := hHeld rfl
               clear hK K
               try simp only [Act.put, List.setIfInBounds_toArray, List.set_cons_zero, List.set_cons_succ]
               have rK := heap_alloc_new xx (.cells #[.int .i64 0, .int .i64 0, .int .i64 0, .int .i64 0, .int .i64 0, .int .i64 0, .int .i64 0, .int .i64 0, .int .i64 0, .int .i64 0, .int .i64 0, .int .i64 0] 46)
               generalize hkK : xx.heap.size = kK at *
               clear hkK
               generalize xx.alloc (.cells #[.int .i64 0, .int .i64 0, .int .i64 0, .int .i64 0, .int .i64 0, .int .i64 0, .int .i64 0, .int .i64 0, .int .i64 0, .int .i64 0, .int .i64 0, .int .i64 0] 46) = xx at *
               refine Kt.G.one 13 { dst := some 26, op := Op.call { callee := Callee.value (Operand.func 47), args := #[Operand.tmp 25, Operand.const (Value.int IntKind.i64 10)], argTypes := #[9, 3] }, type := 3, pos := "desc.go:72", after := #[{ on := 12, ground := Ground.data }, { on := 11, ground := Ground.chain }], guard := none } rfl (by kernel_rfl) (by rfl) (fun K hK => ?_)
               go_simp
               refine (HW10.out _).mono ?_; rintro en xx ⟨rfl, hb⟩
               refine hK.out _ _ (fun _ => hHeld.on hb) (fun hHeld => ?_)
               have hHeld := hHeld rfl
               clear hK K
               try simp only [Act.put, List.setIfInBounds_toArray, List.set_cons_zero, List.set_cons_succ]
               try (replace rK := Kt.row_on hb rK)
               clear hb
               refine Kt.G.one 15 { dst := some 28, op := Op.call { callee := Callee.value (Operand.func 47), args := #[Operand.tmp 27, Operand.const (Value.int IntKind.i64 12)], argTypes := #[9, 3] }, type := 3, pos := "desc.go:72", after := #[{ on := 14, ground := Ground.data }, { on := 13, ground := Ground.chain }], guard := none } rfl (by kernel_rfl) (by rfl) (fun K hK => ?_)
               go_simp
               refine (HW12.out _).mono ?_; rintro en xx ⟨rfl, hb⟩
               refine hK.out _ _ (fun _ => hHeld.on hb) (fun hHeld => ?_)
               have hHeld := hHeld rfl
               clear hK K
               try simp only [Act.put, List.setIfInBounds_toArray, List.set_cons_zero, List.set_cons_succ]
               try (replace rK := Kt.row_on hb rK)
               clear hb
               refine Kt.G.one 17 { dst := some 30, op := Op.call { callee := Callee.value (Operand.tmp 29), args := #[Operand.const (Value.int IntKind.i64 14)], argTypes := #[3] }, type := 3, pos := "desc.go:73", after := #[{ on := 16, ground := Ground.data }, { on := 15, ground := Ground.chain }], guard := none } rfl (by kernel_rfl) (by rfl) (fun K hK => ?_)
               refine Kt.wp_fv _ _ _ _ _ [.int .i64 14, .pointer (some ⟨w.heap.size, 0, none⟩)] rfl rfl rfl egAtd ?_
               refine (HA14.out _ (hHeld.row (w.heap.size, #[.string S], 9) (List.Mem.head _))).mono ?_; rintro en xw ⟨rfl, rfl⟩
               refine hK.out _ _ (fun _ => hHeld) (fun hHeld => ?_)
               have hHeld := hHeld rfl
               clear hK K
               try simp only [Act.put, List.setIfInBounds_toArray, List.set_cons_zero, List.set_cons_succ])
      all_goals
        first
          | (have hdn := rK
             clear hdn
             refine Kt.G.one 19 { dst := some 32, op := Op.call { callee := Callee.value (Operand.tmp 31), args := #[Operand.const (Value.int IntKind.i64 15)], argTypes := #[3] }, type := 3, pos := "desc.go:73", after := #[{ on := 18, ground := Ground.data }, { on := 17, ground := Ground.chain }], guard := none } rfl (by kernel_rfl) (by rfl) (fun K hK => ?_)
             refine Kt.wp_fv _ _ _ _ _ [.int .i64 15, .pointer (some ⟨w.heap.size, 0, none⟩)] rfl rfl rfl egAtd ?_
             refine (HA15.out _ (hHeld.row (w.heap.size, #[.string S], 9) (List.Mem.head _))).mono ?_; rintro en xw ⟨rfl, rfl⟩
             refine hK.out _ _ (fun _ => hHeld) (fun hHeld => ?_)
             have hHeld := hHeld rfl
             clear hK K
             try simp only [Act.put, List.setIfInBounds_toArray, List.set_cons_zero, List.set_cons_succ]
             refine Kt.G.one 21 { dst := some 34, op := Op.call { callee := Callee.value (Operand.tmp 33), args := #[Operand.const (Value.int IntKind.i64 16)], argTypes := #[3] }, type := 3, pos := "desc.go:73", after := #[{ on := 20, ground := Ground.data }, { on := 19, ground := Ground.chain }], guard := none } rfl (by kernel_rfl) (by rfl) (fun K hK => ?_)
             refine Kt.wp_fv _ _ _ _ _ [.int .i64 16, .pointer (some ⟨w.heap.size, 0, none⟩)] rfl rfl rfl egAtd ?_
             refine (HA16.out _ (hHeld.row (w.heap.size, #[.string S], 9) (List.Mem.head _))).mono ?_; rintro en xw ⟨rfl, rfl⟩
             refine hK.out _ _ (fun _ => hHeld) (fun hHeld => ?_)
             have hHeld := hHeld rfl
             clear hK K
             try simp only [Act.put, List.setIfInBounds_toArray, List.set_cons_zero, List.set_cons_succ]
             refine Kt.G.one 23 { dst := some 36, op := Op.call { callee := Callee.value (Operand.tmp 35), args := #[Operand.const (Value.int IntKind.i64 17)], argTypes := #[3] }, type := 3, pos := "desc.go:73", after := #[{ on := 22, ground := Ground.data }, { on := 21, ground := Ground.chain }], guard := none } rfl (by kernel_rfl) (by rfl) (fun K hK => ?_)
             refine Kt.wp_fv _ _ _ _ _ [.int .i64 17, .pointer (some ⟨w.heap.size, 0, none⟩)] rfl rfl rfl egAtd ?_
             refine (HA17.out _ (hHeld.row (w.heap.size, #[.string S], 9) (List.Mem.head _))).mono ?_; rintro en xw ⟨rfl, rfl⟩
             refine hK.out _ _ (fun _ => hHeld) (fun hHeld => ?_)
             have hHeld := hHeld rfl
             clear hK K
             try simp only [Act.put, List.setIfInBounds_toArray, List.set_cons_zero, List.set_cons_succ]
             refine Kt.G.takeP 24 { dst := some 37, op := Op.build 46 #[(0, Operand.tmp 14), (1, Operand.tmp 16), (2, Operand.tmp 18), (3, Operand.tmp 20), (4, Operand.tmp 22), (5, Operand.tmp 24), (6, Operand.tmp 26), (7, Operand.tmp 28), (8, Operand.tmp 30), (9, Operand.tmp 32), (10, Operand.tmp 34), (11, Operand.tmp 36)], type := 46, pos := "desc.go:70", after := #[{ on := 1, ground := Ground.data }, { on := 3, ground := Ground.data }, { on := 5, ground := Ground.data }, { on := 7, ground := Ground.data }, { on := 9, ground := Ground.data }, { on := 11, ground := Ground.data }, { on := 13, ground := Ground.data }, { on := 15, ground := Ground.data }, { on := 17, ground := Ground.data }, { on := 19, ground := Ground.data }, { on := 21, ground := Ground.data }, { on := 23, ground := Ground.data }], guard := none } (.agg #[.int .i64 z1, .int .i64 z2, .int .i64 z3, .int .i64 z4, .int .i64 z5, .int .i64 z6, .int .i64 z7, .int .i64 z8, .int .i64 z9, .int .i64 z10, .int .i64 z11, .int .i64 z12]) (fun _ => hHeld) rfl (by kernel_rfl) (fun _ _ _ h => h) (by rfl) (by intro wq; kernel_rfl) ?_
             try simp only [Act.put, List.setIfInBounds_toArray, List.set_cons_zero, List.set_cons_succ])
          | (refine Kt.G.two 19 25 { dst := some 32, op := Op.call { callee := Callee.value (Operand.tmp 31), args := #[Operand.const (Value.int IntKind.i64 15)], argTypes := #[3] }, type := 3, pos := "desc.go:73", after := #[{ on := 18, ground := Ground.data }, { on := 17, ground := Ground.chain }], guard := none } { dst := some 5, op := Op.alloc 46, type := 0, pos := "desc.go:70", after := #[], guard := none } rfl rfl (by kernel_rfl) (by rfl) (by rfl) (fun K hK => ?g19) (fun K hK => ?g20)
             case' g19 =>
               refine Kt.wp_fv _ _ _ _ _ [.int .i64 15, .pointer (some ⟨w.heap.size, 0, none⟩)] rfl rfl rfl egAtd ?_
               refine (HA15.out _ (hHeld.row (w.heap.size, #[.string S], 9) (List.Mem.head _))).mono ?_; rintro en xw ⟨rfl, rfl⟩
               refine hK.out _ _ (fun _ => hHeld) (fun hHeld => ?_)
               have hHeld := hHeld rfl
               clear hK K
               try simp only [Act.put, List.setIfInBounds_toArray, List.set_cons_zero, List.set_cons_succ]
               refine Kt.G.two 21 25 { dst := some 34, op := Op.call { callee := Callee.value (Operand.tmp 33), args := #[Operand.const (Value.int IntKind.i64 16)], argTypes := #[3] }, type := 3, pos := "desc.go:73", after := #[{ on := 20, ground := Ground.data }, { on := 19, ground := Ground.chain }], guard := none } { dst := some 5, op := Op.alloc 46, type := 0, pos := "desc.go:70", after := #[], guard := none } rfl rfl (by kernel_rfl) (by rfl) (by rfl) (fun K hK => ?g21) (fun K hK => ?g22)
               case' g21 =>
                 refine Kt.wp_fv _ _ _ _ _ [.int .i64 16, .pointer (some ⟨w.heap.size, 0, none⟩)] rfl rfl rfl egAtd ?_
                 refine (HA16.out _ (hHeld.row (w.heap.size, #[.string S], 9) (List.Mem.head _))).mono ?_; rintro en xw ⟨rfl, rfl⟩
                 refine hK.out _ _ (fun _ => hHeld) (fun hHeld => ?_)
                 have hHeld := hHeld rfl
                 clear hK K
                 try simp only [Act.put, List.setIfInBounds_toArray, List.set_cons_zero, List.set_cons_succ]
                 refine Kt.G.two 23 25 { dst := some 36, op := Op.call { callee := Callee.value (Operand.tmp 35), args := #[Operand.const (Value.int IntKind.i64 17)], argTypes := #[3] }, type := 3, pos := "desc.go:73", after := #[{ on := 22, ground := Ground.data }, { on := 21, ground := Ground.chain }], guard := none } { dst := some 5, op := Op.alloc 46, type := 0, pos := "desc.go:70", after := #[], guard := none } rfl rfl (by kernel_rfl) (by rfl) (by rfl) (fun K hK => ?g23) (fun K hK => ?g24)
                 case' g23 =>
                   refine Kt.wp_fv _ _ _ _ _ [.int .i64 17, .pointer (some ⟨w.heap.size, 0, none⟩)] rfl rfl rfl egAtd ?_
                   refine (HA17.out _ (hHeld.row (w.heap.size, #[.string S], 9) (List.Mem.head _))).mono ?_; rintro en xw ⟨rfl, rfl⟩
                   refine hK.out _ _ (fun _ => hHeld) (fun hHeld => ?_)
                   have hHeld := hHeld rfl
                   clear hK K
                   try simp only [Act.put, List.setIfInBounds_toArray, List.set_cons_zero, List.set_cons_succ]
                   refine Kt.G.takeP 24 { dst := some 37, op := Op.build 46 #[(0, Operand.tmp 14), (1, Operand.tmp 16), (2, Operand.tmp 18), (3, Operand.tmp 20), (4, Operand.tmp 22), (5, Operand.tmp 24), (6, Operand.tmp 26), (7, Operand.tmp 28), (8, Operand.tmp 30), (9, Operand.tmp 32), (10, Operand.tmp 34), (11, Operand.tmp 36)], type := 46, pos := "desc.go:70", after := #[{ on := 1, ground := Ground.data }, { on := 3, ground := Ground.data }, { on := 5, ground := Ground.data }, { on := 7, ground := Ground.data }, { on := 9, ground := Ground.data }, { on := 11, ground := Ground.data }, { on := 13, ground := Ground.data }, { on := 15, ground := Ground.data }, { on := 17, ground := Ground.data }, { on := 19, ground := Ground.data }, { on := 21, ground := Ground.data }, { on := 23, ground := Ground.data }], guard := none } (.agg #[.int .i64 z1, .int .i64 z2, .int .i64 z3, .int .i64 z4, .int .i64 z5, .int .i64 z6, .int .i64 z7, .int .i64 z8, .int .i64 z9, .int .i64 z10, .int .i64 z11, .int .i64 z12]) (fun _ => hHeld) rfl (by kernel_rfl) (fun _ _ _ h => h) (by rfl) (by intro wq; kernel_rfl) ?_
                   try simp only [Act.put, List.setIfInBounds_toArray, List.set_cons_zero, List.set_cons_succ]
                   refine Kt.G.one 25 { dst := some 5, op := Op.alloc 46, type := 0, pos := "desc.go:70", after := #[], guard := none } rfl (by kernel_rfl) (by rfl) (fun K hK => ?_)
                   have hkz := hHeld.bel.size
                   go_simp
                   refine hK.out _ _ (fun _ => hHeld.alloc _) (fun hHeld => ?_)
                   have hHeld := hHeld rfl
                   clear hK K
                   try simp only [Act.put, List.setIfInBounds_toArray, List.set_cons_zero, List.set_cons_succ]
                   have rK := heap_alloc_new xx (.cells #[.int .i64 0, .int .i64 0, .int .i64 0, .int .i64 0, .int .i64 0, .int .i64 0, .int .i64 0, .int .i64 0, .int .i64 0, .int .i64 0, .int .i64 0, .int .i64 0] 46)
                   generalize hkK : xx.heap.size = kK at *
                   clear hkK
                   generalize xx.alloc (.cells #[.int .i64 0, .int .i64 0, .int .i64 0, .int .i64 0, .int .i64 0, .int .i64 0, .int .i64 0, .int .i64 0, .int .i64 0, .int .i64 0, .int .i64 0, .int .i64 0] 46) = xx at *
                 case' g24 =>
                   have hkz := hHeld.bel.size
                   go_simp
                   refine hK.out _ _ (fun _ => hHeld.alloc _) (fun hHeld => ?_)
                   have hHeld := hHeld rfl
                   clear hK K
                   try simp only [Act.put, List.setIfInBounds_toArray, List.set_cons_zero, List.set_cons_succ]
                   have rK := heap_alloc_new xx (.cells #[.int .i64 0, .int .i64 0, .int .i64 0, .int .i64 0, .int .i64 0, .int .i64 0, .int .i64 0, .int .i64 0, .int .i64 0, .int .i64 0, .int .i64 0, .int .i64 0] 46)
                   generalize hkK : xx.heap.size = kK at *
                   clear hkK
                   generalize xx.alloc (.cells #[.int .i64 0, .int .i64 0, .int .i64 0, .int .i64 0, .int .i64 0, .int .i64 0, .int .i64 0, .int .i64 0, .int .i64 0, .int .i64 0, .int .i64 0, .int .i64 0] 46) = xx at *
                   refine Kt.G.one 23 { dst := some 36, op := Op.call { callee := Callee.value (Operand.tmp 35), args := #[Operand.const (Value.int IntKind.i64 17)], argTypes := #[3] }, type := 3, pos := "desc.go:73", after := #[{ on := 22, ground := Ground.data }, { on := 21, ground := Ground.chain }], guard := none } rfl (by kernel_rfl) (by rfl) (fun K hK => ?_)
                   refine Kt.wp_fv _ _ _ _ _ [.int .i64 17, .pointer (some ⟨w.heap.size, 0, none⟩)] rfl rfl rfl egAtd ?_
                   refine (HA17.out _ (hHeld.row (w.heap.size, #[.string S], 9) (List.Mem.head _))).mono ?_; rintro en xw ⟨rfl, rfl⟩
                   refine hK.out _ _ (fun _ => hHeld) (fun hHeld => ?_)
                   have hHeld := hHeld rfl
                   clear hK K
                   try simp only [Act.put, List.setIfInBounds_toArray, List.set_cons_zero, List.set_cons_succ]
                   refine Kt.G.takeP 24 { dst := some 37, op := Op.build 46 #[(0, Operand.tmp 14), (1, Operand.tmp 16), (2, Operand.tmp 18), (3, Operand.tmp 20), (4, Operand.tmp 22), (5, Operand.tmp 24), (6, Operand.tmp 26), (7, Operand.tmp 28), (8, Operand.tmp 30), (9, Operand.tmp 32), (10, Operand.tmp 34), (11, Operand.tmp 36)], type := 46, pos := "desc.go:70", after := #[{ on := 1, ground := Ground.data }, { on := 3, ground := Ground.data }, { on := 5, ground := Ground.data }, { on := 7, ground := Ground.data }, { on := 9, ground := Ground.data }, { on := 11, ground := Ground.data }, { on := 13, ground := Ground.data }, { on := 15, ground := Ground.data }, { on := 17, ground := Ground.data }, { on := 19, ground := Ground.data }, { on := 21, ground := Ground.data }, { on := 23, ground := Ground.data }], guard := none } (.agg #[.int .i64 z1, .int .i64 z2, .int .i64 z3, .int .i64 z4, .int .i64 z5, .int .i64 z6, .int .i64 z7, .int .i64 z8, .int .i64 z9, .int .i64 z10, .int .i64 z11, .int .i64 z12]) (fun _ => hHeld) rfl (by kernel_rfl) (fun _ _ _ h => h) (by rfl) (by intro wq; kernel_rfl) ?_
                   try simp only [Act.put, List.setIfInBounds_toArray, List.set_cons_zero, List.set_cons_succ]
               case' g22 =>
                 have hkz := hHeld.bel.size
                 go_simp
                 refine hK.out _ _ (fun _ => hHeld.alloc _) (fun hHeld => ?_)
                 have hHeld := hHeld rfl
                 clear hK K
                 try simp only [Act.put, List.setIfInBounds_toArray, List.set_cons_zero, List.set_cons_succ]
                 have rK := heap_alloc_new xx (.cells #[.int .i64 0, .int .i64 0, .int .i64 0, .int .i64 0, .int .i64 0, .int .i64 0, .int .i64 0, .int .i64 0, .int .i64 0, .int .i64 0, .int .i64 0, .int .i64 0] 46)
                 generalize hkK : xx.heap.size = kK at *
                 clear hkK
                 generalize xx.alloc (.cells #[.int .i64 0, .int .i64 0, .int .i64 0, .int .i64 0, .int .i64 0, .int .i64 0, .int .i64 0, .int .i64 0, .int .i64 0, .int .i64 0, .int .i64 0, .int .i64 0] 46) = xx at *
                 refine Kt.G.one 21 { dst := some 34, op := Op.call { callee := Callee.value (Operand.tmp 33), args := #[Operand.const (Value.int IntKind.i64 16)], argTypes := #[3] }, type := 3, pos := "desc.go:73", after := #[{ on := 20, ground := Ground.data }, { on := 19, ground := Ground.chain }], guard := none } rfl (by kernel_rfl) (by rfl) (fun K hK => ?_)
                 refine Kt.wp_fv _ _ _ _ _ [.int .i64 16, .pointer (some ⟨w.heap.size, 0, none⟩)] rfl rfl rfl egAtd ?_
                 refine (HA16.out _ (hHeld.row (w.heap.size, #[.string S], 9) (List.Mem.head _))).mono ?_; rintro en xw ⟨rfl, rfl⟩
                 refine hK.out _ _ (fun _ => hHeld) (fun hHeld => ?_)
                 have hHeld := hHeld rfl
                 clear hK K
                 try simp only [Act.put, List.setIfInBounds_toArray, List.set_cons_zero, List.set_cons_succ]
                 refine Kt.G.one 23 { dst := some 36, op := Op.call { callee := Callee.value (Operand.tmp 35), args := #[Operand.const (Value.int IntKind.i64 17)], argTypes := #[3] }, type := 3, pos := "desc.go:73", after := #[{ on := 22, ground := Ground.data }, { on := 21, ground := Ground.chain }], guard := none } rfl (by kernel_rfl) (by rfl) (fun K hK => ?_)
                 refine Kt.wp_fv _ _ _ _ _ [.int .i64 17, .pointer (some ⟨w.heap.size, 0, none⟩)] rfl rfl rfl egAtd ?_
                 refine (HA17.out _ (hHeld.row (w.heap.size, #[.string S], 9) (List.Mem.head _))).mono ?_; rintro en xw ⟨rfl, rfl⟩
                 refine hK.out _ _ (fun _ => hHeld) (fun hHeld => ?_)
                 have hHeld := hHeld rfl
                 clear hK K
                 try simp only [Act.put, List.setIfInBounds_toArray, List.set_cons_zero, List.set_cons_succ]
                 refine Kt.G.takeP 24 { dst := some 37, op := Op.build 46 #[(0, Operand.tmp 14), (1, Operand.tmp 16), (2, Operand.tmp 18), (3, Operand.tmp 20), (4, Operand.tmp 22), (5, Operand.tmp 24), (6, Operand.tmp 26), (7, Operand.tmp 28), (8, Operand.tmp 30), (9, Operand.tmp 32), (10, Operand.tmp 34), (11, Operand.tmp 36)], type := 46, pos := "desc.go:70", after := #[{ on := 1, ground := Ground.data }, { on := 3, ground := Ground.data }, { on := 5, ground := Ground.data }, { on := 7, ground := Ground.data }, { on := 9, ground := Ground.data }, { on := 11, ground := Ground.data }, { on := 13, ground := Ground.data }, { on := 15, ground := Ground.data }, { on := 17, ground := Ground.data }, { on := 19, ground := Ground.data }, { on := 21, ground := Ground.data }, { on := 23, ground := Ground.data }], guard := none } (.agg #[.int .i64 z1, .int .i64 z2, .int .i64 z3, .int .i64 z4, .int .i64 z5, .int .i64 z6, .int .i64 z7, .int .i64 z8, .int .i64 z9, .int .i64 z10, .int .i64 z11, .int .i64 z12]) (fun _ => hHeld) rfl (by kernel_rfl) (fun _ _ _ h => h) (by rfl) (by intro wq; kernel_rfl) ?_
                 try simp only [Act.put, List.setIfInBounds_toArray, List.set_cons_zero, List.set_cons_succ]
             case' g20 =>
               have hkz := hHeld.bel.size
               go_simp
               refine hK.out _ _ (fun _ => hHeld.alloc _) (fun hHeld => ?_)
               have hHeld := hHeld rfl
               clear hK K
               try simp only [Act.put, List.setIfInBounds_toArray, List.set_cons_zero, List.set_cons_succ]
               have rK := heap_alloc_new xx (.cells #[.int .i64 0, .int .i64 0, .int .i64 0, .int .i64 0, .int .i64 0, .int .i64 0, .int .i64 0, .int .i64 0, .int .i64 0, .int .i64 0, .int .i64 0, .int .i64 0] 46)
               generalize hkK : xx.heap.size = kK at *
               clear hkK
               generalize xx.alloc (.cells #[.int .i64 0, .int .i64 0, .int .i64 0, .int .i64 0, .int .i64 0, .int .i64 0, .int .i64 0, .int .i64 0, .int .i64 0, .int .i64 0, .int .i64 0, .int .i64 0] 46) = xx at *
               refine Kt.G.one 19 { dst := some 32, op := Op.call { callee := Callee.value (Operand.tmp 31), args := #[Operand.const (Value.int IntKind.i64 15)], argTypes := #[3] }, type := 3, pos := "desc.go:73", after := #[{ on := 18, ground := Ground.data }, { on := 17, ground := Ground.chain }], guard := none } rfl (by kernel_rfl) (by rfl) (fun K hK => ?_)
               refine Kt.wp_fv _ _ _ _ _ [.int .i64 15, .pointer (some ⟨w.heap.size, 0, none⟩)] rfl rfl rfl egAtd ?_
               refine (HA15.out _ (hHeld.row (w.heap.size, #[.string S], 9) (List.Mem.head _))).mono ?_; rintro en xw ⟨rfl, rfl⟩
               refine hK.out _ _ (fun _ => hHeld) (fun hHeld => ?_)
               have hHeld := hHeld rfl
               clear hK K
               try simp only [Act.put, List.setIfInBounds_toArray, List.set_cons_zero, List.set_cons_succ]
               refine Kt.G.one 21 { dst := some 34, op := Op.call { callee := Callee.value (Operand.tmp 33), args := #[Operand.const (Value.int IntKind.i64 16)], argTypes := #[3] }, type := 3, pos := "desc.go:73", after := #[{ on := 20, ground := Ground.data }, { on := 19, ground := Ground.chain }], guard := none } rfl (by kernel_rfl) (by rfl) (fun K hK => ?_)
               refine Kt.wp_fv _ _ _ _ _ [.int .i64 16, .pointer (some ⟨w.heap.size, 0, none⟩)] rfl rfl rfl egAtd ?_
               refine (HA16.out _ (hHeld.row (w.heap.size, #[.string S], 9) (List.Mem.head _))).mono ?_; rintro en xw ⟨rfl, rfl⟩
               refine hK.out _ _ (fun _ => hHeld) (fun hHeld => ?_)
               have hHeld := hHeld rfl
               clear hK K
               try simp only [Act.put, List.setIfInBounds_toArray, List.set_cons_zero, List.set_cons_succ]
               refine Kt.G.one 23 { dst := some 36, op := Op.call { callee := Callee.value (Operand.tmp 35), args := #[Operand.const (Value.int IntKind.i64 17)], argTypes := #[3] }, type := 3, pos := "desc.go:73", after := #[{ on := 22, ground := Ground.data }, { on := 21, ground := Ground.chain }], guard := none } rfl (by kernel_rfl) (by rfl) (fun K hK => ?_)
               refine Kt.wp_fv _ _ _ _ _ [.int .i64 17, .pointer (some ⟨w.heap.size, 0, none⟩)] rfl rfl rfl egAtd ?_
               refine (HA17.out _ (hHeld.row (w.heap.size, #[.string S], 9) (List.Mem.head _))).mono ?_; rintro en xw ⟨rfl, rfl⟩
               refine hK.out _ _ (fun _ => hHeld) (fun hHeld => ?_)
               have hHeld := hHeld rfl
               clear hK K
               try simp only [Act.put, List.setIfInBounds_toArray, List.set_cons_zero, List.set_cons_succ]
               refine Kt.G.takeP 24 { dst := some 37, op := Op.build 46 #[(0, Operand.tmp 14), (1, Operand.tmp 16), (2, Operand.tmp 18), (3, Operand.tmp 20), (4, Operand.tmp 22), (5, Operand.tmp 24), (6, Operand.tmp 26), (7, Operand.tmp 28), (8, Operand.tmp 30), (9, Operand.tmp 32), (10, Operand.tmp 34), (11, Operand.tmp 36)], type := 46, pos := "desc.go:70", after := #[{ on := 1, ground := Ground.data }, { on := 3, ground := Ground.data }, { on := 5, ground := Ground.data }, { on := 7, ground := Ground.data }, { on := 9, ground := Ground.data }, { on := 11, ground := Ground.data }, { on := 13, ground := Ground.data }, { on := 15, ground := Ground.data }, { on := 17, ground := Ground.data }, { on := 19, ground := Ground.data }, { on := 21, ground := Ground.data }, { on := 23, ground := Ground.data }], guard := none } (.agg #[.int .i64 z1, .int .i64 z2, .int .i64 z3, .int .i64 z4, .int .i64 z5, .int .i64 z6, .int .i64 z7, .int .i64 z8, .int .i64 z9, .int .i64 z10, .int .i64 z11, .int .i64 z12]) (fun _ => hHeld) rfl (by kernel_rfl) (fun _ _ _ h => h) (by rfl) (by intro wq; kernel_rfl) ?_
               try simp only [Act.put, List.setIfInBounds_toArray, List.set_cons_zero, List.set_cons_succ])
      all_goals
        have hdn := rK
        clear hdn
        refine Kt.G.one 26 { dst := none, op := Op.store 46 (Operand.tmp 5) (Operand.tmp 37), type := 0, pos := "desc.go:70", after := #[{ on := 25, ground := Ground.data }, { on := 24, ground := Ground.data }, { on := 23, ground := Ground.chain }, { on := 0, ground := Ground.phase }, { on := 1, ground := Ground.phase }, { on := 2, ground := Ground.phase }, { on := 3, ground := Ground.phase }, { on := 4, ground := Ground.phase }, { on := 5, ground := Ground.phase }, { on := 6, ground := Ground.phase }, { on := 7, ground := Ground.phase }, { on := 8, ground := Ground.phase }, { on := 9, ground := Ground.phase }, { on := 10, ground := Ground.phase }, { on := 11, ground := Ground.phase }, { on := 12, ground := Ground.phase }, { on := 13, ground := Ground.phase }, { on := 14, ground := Ground.phase }, { on := 15, ground := Ground.phase }, { on := 16, ground := Ground.phase }, { on := 17, ground := Ground.phase }, { on := 18, ground := Ground.phase }, { on := 19, ground := Ground.phase }, { on := 20, ground := Ground.phase }, { on := 21, ground := Ground.phase }, { on := 22, ground := Ground.phase }, { on := 23, ground := Ground.phase }, { on := 24, ground := Ground.phase }, { on := 25, ground := Ground.phase }], guard := none } rfl (by kernel_rfl) (by rfl) (fun K hK => ?_)
        have cK := fun i => cell_of_row _ _ i _ _ _ rK; have fK := fun i => frozen_of_row _ _ i _ _ rK
        go_simp
        refine hK.out _ _ (Kt.G.late (by kernel_rfl)) (fun _ => ?_)
        clear hK K
        try simp only [Act.put, List.setIfInBounds_toArray, List.set_cons_zero, List.set_cons_succ]
        refine Kt.G.done (by kernel_rfl) (NoPanic.normal ?_) _
        have HBX := Lib.hid hHeld.bel
        clear cK fK hHeld
        go_wp2_with fail
        go_meet
        case rel => exact ⟨kK, rfl, Lib.hid ⟨Kt.fill [.int .i64 z1, .int .i64 z2, .int .i64 z3, .int .i64 z4, .int .i64 z5, .int .i64 z6, .int .i64 z7, .int .i64 z8, .int .i64 z9, .int .i64 z10, .int .i64 z11, .int .i64 z12] rK rfl, Kt.below_setCells [.int .i64 z1, .int .i64 z2, .int .i64 z3, .int .i64 z4, .int .i64 z5, .int .i64 z6, .int .i64 z7, .int .i64 z8, .int .i64 z9, .int .i64 z10, .int .i64 z11, .int .i64 z12] kK 0 _ _ hkz HBX.out⟩⟩
    case rest =>
      obtain ⟨kK, rfl, HW0⟩ := hcut
      clear HA4 HA5 HA6 HA7 HA14 HA15 HA16 HA17 HW2 HW8 HW10 HW12
      have HZ2 : Hid (w.heap.size < w2.heap.size ∧ w.heap.size + 1 < w2.heap.size) := Lib.hid ⟨(Array.getElem?_eq_some_iff.1 HR1.out).1, (Array.getElem?_eq_some_iff.1 HR.out).1⟩
      have qK := fun i => cell_of_row _ _ i _ _ _ HW0.out.1
      obtain ⟨t, code, hw⟩ : ∃ t code, wDev (devOf s) = (t, code) := ⟨_, _, rfl⟩
      rw [hw] at HWC HRD
      have HT := Lib.hid hw
      dsimp only at HWC
      clear hw
      go_wp2_with fail
      refine (HWC.out _).mono ?_
      rintro e w3 ⟨rfl, hb3⟩
      have HB3 := Lib.hid (Kt.bthen HW0.out.2 hb3)
      have HK3 := Lib.hid (Kt.row_on hb3 HW0.out.1)
      have HS3 := Lib.hid ((HB3.out.block _ HZ2.out.1).trans HR1.out)
      have HR3 := Lib.hid ((HB3.out.block _ HZ2.out.2).trans HR.out)
      have HB4 := Lib.hid (Kt.bthen HB.out HB3.out)
      clear HWC hb3 qK
      have qK := fun i => cell_of_row _ _ i _ _ _ HK3.out
      have qS := fun i => cell_of_row _ _ i _ _ _ HS3.out
      have qR := fun i => cell_of_row _ _ i _ _ _ HR3.out
      have qf := fun i => frozen_of_row _ _ i _ _ HR3.out
      by_cases hc : code = 0
      · subst hc
        by_cases ht : t = s
        · have hst : ((bs' t).toList == S.toList) = true := by rw [ht, hSd]; simp
          have HRD2 : Hid (rDev s = (devOf s, 0)) := Lib.hid (by rw [HRD.out, ht, if_pos rfl])
          have hn00 : ((0 : Int) != 0) = false := rfl
          clear ht
          go_wp2_with fail
          change bodyPost _ _ _ _ _ (w3.setCells (w.heap.size + 1) 0 [.int .i64 z1, .int .i64 z2, .int .i64 z3, .int .i64 z4, .int .i64 z5, .int .i64 z6, .int .i64 z7, .int .i64 z8, .int .i64 z9, .int .i64 z10, .int .i64 z11, .int .i64 z12])
          have hrow := Kt.fill [.int .i64 z1, .int .i64 z2, .int .i64 z3, .int .i64 z4, .int .i64 z5, .int .i64 z6, .int .i64 z7, .int .i64 z8, .int .i64 z9, .int .i64 z10, .int .i64 z11, .int .i64 z12] HR3.out rfl
          have hbel := Kt.below_setCells [.int .i64 z1, .int .i64 z2, .int .i64 z3, .int .i64 z4, .int .i64 z5, .int .i64 z6, .int .i64 z7, .int .i64 z8, .int .i64 z9, .int .i64 z10, .int .i64 z11, .int .i64 z12] (w.heap.size + 1) 0 _ _ (Nat.le_succ _) HB4.out
          generalize w3.setCells (w.heap.size + 1) 0 [.int .i64 z1, .int .i64 z2, .int .i64 z3, .int .i64 z4, .int .i64 z5, .int .i64 z6, .int .i64 z7, .int .i64 z8, .int .i64 z9, .int .i64 z10, .int .i64 z11, .int .i64 z12] = W' at *
          have hq := fun i => cell_of_row _ _ i _ _ _ hrow
          exact bodyPost_ret (v := .tuple #[.agg #[.int .i64 z1, .int .i64 z2, .int .i64 z3, .int .i64 z4, .int .i64 z5, .int .i64 z6, .int .i64 z7, .int .i64 z8, .int .i64 z9, .int .i64 z10, .int .i64 z11, .int .i64 z12], .int .i64 0]) (by simp [results, Try.results22, go_sem, hq]) rfl ⟨by rw [HRD2.out]; exact congrArg (fun v => Ending.returned (.tuple #[v, .int .i64 0])) HDV.out.symm, hbel⟩
        · have hst : ((bs' t).toList == S.toList) = false := by
            rw [beq_eq_false_iff_ne, ← hSd]
            intro e
            rw [ByteArray.toList_eq, ByteArray.toList_eq, bs_list, bs_list] at e
            exact ht e
          have HRD2 : Hid (rDev s = (zeroD, 4)) := Lib.hid (by rw [HRD.out]; exact if_neg fun e => ht (congrArg Prod.fst e))
          have hn00 : ((0 : Int) != 0) = false := rfl
          clear ht
          go_wp2_with fail
          change bodyPost _ _ _ _ _ (w3.setCells (w.heap.size + 1) 0 [.int .i64 0, .int .i64 0, .int .i64 0, .int .i64 0, .int .i64 0, .int .i64 0, .int .i64 0, .int .i64 0, .int .i64 0, .int .i64 0, .int .i64 0, .int .i64 0])
          have hrow := Kt.fill [.int .i64 0, .int .i64 0, .int .i64 0, .int .i64 0, .int .i64 0, .int .i64 0, .int .i64 0, .int .i64 0, .int .i64 0, .int .i64 0, .int .i64 0, .int .i64 0] HR3.out rfl
          have hbel := Kt.below_setCells [.int .i64 0, .int .i64 0, .int .i64 0, .int .i64 0, .int .i64 0, .int .i64 0, .int .i64 0, .int .i64 0, .int .i64 0, .int .i64 0, .int .i64 0, .int .i64 0] (w.heap.size + 1) 0 _ _ (Nat.le_succ _) HB4.out
          generalize w3.setCells (w.heap.size + 1) 0 [.int .i64 0, .int .i64 0, .int .i64 0, .int .i64 0, .int .i64 0, .int .i64 0, .int .i64 0, .int .i64 0, .int .i64 0, .int .i64 0, .int .i64 0, .int .i64 0] = W' at *
          have hq := fun i => cell_of_row _ _ i _ _ _ hrow
          exact bodyPost_ret (v := .tuple #[.agg #[.int .i64 0, .int .i64 0, .int .i64 0, .int .i64 0, .int .i64 0, .int .i64 0, .int .i64 0, .int .i64 0, .int .i64 0, .int .i64 0, .int .i64 0, .int .i64 0], .int .i64 4]) (by simp [results, Try.results22, go_sem, hq]) rfl ⟨by rw [HRD2.out]; rfl, hbel⟩
      · have hne2 : (code != 0) = true := by rw [bne_iff_ne]; exact hc
        have HRD2 : Hid (rDev s = (zeroD, 4)) := Lib.hid (by rw [HRD.out]; exact if_neg fun e => hc (congrArg Prod.snd e))
        clear hc
        go_wp2_with fail
        change bodyPost _ _ _ _ _ (w3.setCells (w.heap.size + 1) 0 [.int .i64 0, .int .i64 0, .int .i64 0, .int .i64 0, .int .i64 0, .int .i64 0, .int .i64 0, .int .i64 0, .int .i64 0, .int .i64 0, .int .i64 0, .int .i64 0])
        have hrow := Kt.fill [.int .i64 0, .int .i64 0, .int .i64 0, .int .i64 0, .int .i64 0, .int .i64 0, .int .i64 0, .int .i64 0, .int .i64 0, .int .i64 0, .int .i64 0, .int .i64 0] HR3.out rfl
        have hbel := Kt.below_setCells [.int .i64 0, .int .i64 0, .int .i64 0, .int .i64 0, .int .i64 0, .int .i64 0, .int .i64 0, .int .i64 0, .int .i64 0, .int .i64 0, .int .i64 0, .int .i64 0] (w.heap.size + 1) 0 _ _ (Nat.le_succ _) HB4.out
        generalize w3.setCells (w.heap.size + 1) 0 [.int .i64 0, .int .i64 0, .int .i64 0, .int .i64 0, .int .i64 0, .int .i64 0, .int .i64 0, .int .i64 0, .int .i64 0, .int .i64 0, .int .i64 0, .int .i64 0] = W' at *
        have hq := fun i => cell_of_row _ _ i _ _ _ hrow
        exact bodyPost_ret (v := .tuple #[.agg #[.int .i64 0, .int .i64 0, .int .i64 0, .int .i64 0, .int .i64 0, .int .i64 0, .int .i64 0, .int .i64 0, .int .i64 0, .int .i64 0, .int .i64 0, .int .i64 0], .int .i64 4]) (by simp [results, Try.results22, go_sem, hq]) rfl ⟨by rw [HRD2.out]; rfl, hbel⟩
end Go.Proofs.Ytmddfpmchcmgiaa
