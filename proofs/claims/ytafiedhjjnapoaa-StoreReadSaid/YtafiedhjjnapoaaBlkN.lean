/- bulk: what a disk means by a command: walked. -/
import Derived.Test.YtafiedhjjnapoaaBlkI
import Derived.Test.YtafiedhjjnapoaaScsV
import Derived.BigQuiet
import Derived.Deep.CutBlock
import Derived.Deep.CutRange
namespace Go.Proofs.Ytafiedhjjnapoaa
open Go.RowKit Go.Proofs.Ytafiedhjjnapoaa.Scs Go.Proofs.Ytafiedhjjnapoaa.Blk
theorem ld_mv {W : World} {g : Nat} {x y : Value} (h : W.heap[g]? = some (.cells #[x, y] 128 (0, 0))) : (loadVar 128 ⟨g, 0, none⟩).run Try.prog W = .ok (.agg #[x, y]) W :=
  run_loadVar_row W g 128 128 #[x, y] (0, 0) _ h Try.underlying128 rfl (by kernel_rfl)
theorem rept_calls (n : Nat) (hn : n ≤ 140737488355328) (w : World) : Calls Try.prog 27 #[.string ⟨#[0]⟩, .int .i64 (n : Int)] w fun e w' => e = .returned (.string (zeros n)) ∧ Below w.heap.size w w' := by
  have := Try.strings_Repeat ⟨#[0]⟩ n w (by omega) (by rw [show (⟨#[0]⟩ : ByteArray).size = 1 from rfl, Nat.one_mul]; omega)
  rw [rep0] at this
  exact this
theorem means_w {bs : List ByteArray} {s : Int} {c : ByteArray} (h : c.size = 10 ∧ bt c 0 = 42) : means bs s c = if (did bs s c (zeros (cnt c * 16))).2.2.2 = 0 ∧ 0 < cnt c then (2, ((cnt c * 16 : Nat) : Int))
    else if (did bs s c ByteArray.empty).2.2.2 = 0 ∧ (did bs s c ByteArray.empty).2.2.1.size ≠ 0 then (1, ((did bs s c ByteArray.empty).2.2.1.size : Int)) else (0, 0) := by
  unfold means
  by_cases q : (did bs s c (zeros (cnt c * 16))).2.2.2 = 0 ∧ 0 < cnt c
  · rw [if_pos ⟨h.1, h.2, q.1, q.2⟩, if_pos q]
  · rw [if_neg (fun e => q ⟨e.2.2.1, e.2.2.2⟩), if_neg q]
theorem means_n {bs : List ByteArray} {s : Int} {c : ByteArray} (h : ¬ (c.size = 10 ∧ bt c 0 = 42)) : means bs s c =
    if (did bs s c ByteArray.empty).2.2.2 = 0 ∧ (did bs s c ByteArray.empty).2.2.1.size ≠ 0 then (1, ((did bs s c ByteArray.empty).2.2.1.size : Int)) else (0, 0) := by
  unfold means
  rw [if_neg (fun e => h ⟨e.1, e.2.1⟩)]
set_option maxRecDepth 100000 in
set_option maxHeartbeats 3200000 in
theorem intends_calls (bs : List ByteArray) (s : Int) (c : ByteArray) (A : Option Addr) (cap : Nat) (w0 : World) (h : DkA w0 A cap bs) (hn : bs.length ≤ 8796093022208) :
    Calls Try.prog 75 #[dkV A cap bs s, .string c] w0 fun e w' => e = .returned (.agg #[.int .i64 (means bs s c).1, .int .i64 (means bs s c).2]) ∧ Below w0.heap.size w0 w' := by
  have HA := Lib.hid h
  have HN := Lib.hid hn
  clear h hn
  unfold dkV
  by_cases hw : c.size = 10 ∧ bt c 0 = 42
  · have HMW := Lib.hid (means_w (bs := bs) (s := s) hw)
    obtain ⟨hc, h42⟩ := hw
    have hc10 : (c.size : Int) = 10 := by omega
    have b0 := bt_get c 0 (by omega)
    have f42 : (((c[0]'(by omega)).toNat : Int) == 42) = true := by rw [beq_iff_eq, ← b0]; omega
    have hcn := cnt_lt c
    have HR := Lib.hid (fun W => rept_calls (cnt c * 16) (by omega) W)
    have i7 : (7 : Int) < c.size := by omega
    have i8 : (8 : Int) < c.size := by omega
    have hv : IntKind.i64.wrap (bits .or .i64 (IntKind.i64.wrap (IntKind.i64.wrap ((c[7]'(by omega)).toNat : Int) * 256)) (IntKind.i64.wrap ((c[8]'(by omega)).toNat : Int)) * 16) = ((cnt c * 16 : Nat) : Int) := by
      have b7 := bt_get c 7 (by omega); have b8 := bt_get c 8 (by omega)
      rw [← b7, ← b8, cnt_eq _ _ (bt_lt _ _) (bt_lt _ _)]
      rw [show ((bt c 7 * 256 + bt c 8 : Nat) : Int) * 16 = ((cnt c * 16 : Nat) : Int) by unfold cnt; push_cast; rfl, wr_in _ (by omega)]
    have HV := Lib.hid hv
    clear hv b0 h42
    go_enter Try.func75, Try.ntmps75
    go_upto_region 2 with (fail)
    go_cut [5] from 20 to 28 (fun v wx => v = .int .i64 ((cnt c * 16 : Nat) : Int) ∧ ∃ q, wx = ((w0.alloc (.cells #[.slice A bs.length cap, .int .i64 s] 24)).alloc (.cells #[.int .i64 0, .int .i64 0] 128)).drewN q)
    case first =>
      go_quiet (fail)
      go_wp2_with fail
      go_meet
      exact ⟨by rw [← HV.out]; simp only [IntWalk.i64_left], _, rfl⟩
    case rest =>
      obtain ⟨rfl, q0, hwc⟩ := hcut
      have hB0 : Below w0.heap.size w0 wc := by rw [hwc]; exact bdrewN (Kt.balloc (Kt.balloc (Below.refl _ w0) _) _) _
      have hr1 : wc.heap[w0.heap.size]? = some (.cells #[.slice A bs.length cap, .int .i64 s] 24 (0, 0)) := by rw [hwc]; exact heap_alloc2_old w0 _ _
      have hr2 : wc.heap[w0.heap.size + 1]? = some (.cells #[.int .i64 0, .int .i64 0] 128 (0, 0)) := by rw [hwc]; exact heap_alloc2_new w0 _ _
      have HR1 := Lib.hid hr1
      have HR2 := Lib.hid hr2
      clear hr1 hr2 hwc f42 HV i7 i8
      generalize wc = W0 at *
      obtain ⟨P, sP, oP, g, hd1⟩ : ∃ b t o g, did bs s c (zeros (cnt c * 16)) = (b, t, o, g) := ⟨_, _, _, _, rfl⟩
      have HD1 := Lib.hid hd1
      go_upto_region 3 with (fail)
      go_cut [6, 7, 8] from 29 to 37 (fun _ _ e wx => e = .int .i64 g ∧ wx.heap[w0.heap.size]? = some (.cells #[.slice A bs.length cap, .int .i64 s] 24 (0, 0)) ∧ wx.heap[w0.heap.size + 1]? = some (.cells #[.int .i64 0, .int .i64 0] 128 (0, 0)) ∧ Below w0.heap.size w0 wx)
      case first =>
        have HF := ((Kt.Fb.nil w0 hB0).add HR2.out).add HR1.out
        refine Kt.G.start 10 (Kt.Fb w0 [(w0.heap.size, #[.slice A bs.length cap, .int .i64 s], 24), (w0.heap.size + 1, #[.int .i64 0, .int .i64 0], 128)]) (by kernel_rfl) HF.drew (fun hHeld => ?_)
        clear HF
        generalize W0.drew = x0 at *
        refine Kt.G.take 0 { dst := some 30, op := Op.load 24 (Operand.tmp 2), type := 24, pos := "bulk.go:114", after := #[], guard := none } ?_ hHeld rfl (by kernel_rfl) (fun _ _ _ h => h) (by rfl) ?_ ?_
        rotate_left
        · intro w hSw; have r0 := hSw.row (w0.heap.size, #[.slice A bs.length cap, .int .i64 s], 24) (by simp); have c0 := fun i => cell_of_row _ _ i _ _ _ r0; have r1 := hSw.row (w0.heap.size + 1, #[.int .i64 0, .int .i64 0], 128) (by simp); have c1 := fun i => cell_of_row _ _ i _ _ _ r1; dsimp only at *; go_simp; try with_reducible rfl
        try simp only [Act.put, List.setIfInBounds_toArray, List.set_cons_zero, List.set_cons_succ]
        refine Kt.G.takeP 1 { dst := some 31, op := Op.move (Operand.tmp 1), type := 9, pos := "bulk.go:114", after := #[], guard := none } ?_ (fun _ => hHeld) rfl (by kernel_rfl) (fun _ _ _ h => h) (by rfl) ?_ ?_
        rotate_left
        · intro w; go_simp; try with_reducible rfl
        try simp only [Act.put, List.setIfInBounds_toArray, List.set_cons_zero, List.set_cons_succ]
        refine Kt.G.takeP 2 { dst := some 32, op := Op.move (Operand.tmp 5), type := 3, pos := "bulk.go:114", after := #[], guard := none } ?_ (fun _ => hHeld) rfl (by kernel_rfl) (fun _ _ _ h => h) (by rfl) ?_ ?_
        rotate_left
        · intro w; go_simp; try with_reducible rfl
        try simp only [Act.put, List.setIfInBounds_toArray, List.set_cons_zero, List.set_cons_succ]
        refine Kt.G.two 3 9 { dst := some 33, op := Op.call { callee := Callee.value (Operand.func 27), args := #[Operand.const (Value.string { data := #[0] }), Operand.tmp 32], argTypes := #[9, 3] }, type := 9, pos := "bulk.go:114", after := #[{ on := 2, ground := Ground.data }], guard := none } { dst := some 6, op := Op.alloc 24, type := 0, pos := "bulk.go:114", after := #[], guard := none } rfl rfl (by kernel_rfl) (by rfl) (by rfl) (fun K hK => ?_) (fun K hK => ?_)
        · go_simp
          refine (HR.out _).mono ?_; rintro en x3 ⟨rfl, hb3⟩
          refine hK.out _ _ (fun _ => hHeld.on hb3) (fun hHeld => ?_)
          have hHeld := hHeld rfl
          clear hK K
          try simp only [Act.put, List.setIfInBounds_toArray, List.set_cons_zero, List.set_cons_succ]
          try (replace rK := Kt.row_on hb3 rK)
          clear hb3
          refine Kt.G.two 4 9 { dst := some 34, op := Op.call { callee := Callee.value (Operand.func 76), args := #[Operand.tmp 30, Operand.tmp 31, Operand.tmp 33], argTypes := #[24, 9, 9] }, type := 134, pos := "bulk.go:114", after := #[{ on := 0, ground := Ground.data }, { on := 1, ground := Ground.data }, { on := 3, ground := Ground.data }, { on := 3, ground := Ground.chain }], guard := none } { dst := some 6, op := Op.alloc 24, type := 0, pos := "bulk.go:114", after := #[], guard := none } rfl rfl (by kernel_rfl) (by rfl) (by rfl) (fun K hK => ?_) (fun K hK => ?_)
          · go_simp
            have hdo := Do_calls bs s c (zeros (cnt c * 16)) A cap _ (HA.out.on hHeld.bel) HN.out
            refine hdo.mono ?_; rintro en x4 hdo
            obtain ⟨A4, cap4, rfl, hda, hb4⟩ := hdo.open2 HD1.out
            unfold dkV
            refine hK.out _ _ (fun _ => hHeld.on hb4) (fun hHeld => ?_)
            have hHeld := hHeld rfl
            clear hK K
            try simp only [Act.put, List.setIfInBounds_toArray, List.set_cons_zero, List.set_cons_succ]
            try (replace rK := Kt.row_on hb4 rK)
            clear hb4 hdo hda
            refine Kt.G.takeP 5 { dst := some 29, op := Op.move (Operand.tmp 34), type := 134, pos := "bulk.go:114", after := #[{ on := 4, ground := Ground.data }], guard := none } ?_ (fun _ => hHeld) rfl (by kernel_rfl) (fun _ _ _ h => h) (by rfl) ?_ ?_
            rotate_left
            · intro w; go_simp; try with_reducible rfl
            try simp only [Act.put, List.setIfInBounds_toArray, List.set_cons_zero, List.set_cons_succ]
            refine Kt.G.takeP 6 { dst := some 35, op := Op.extract (Operand.tmp 29) 0, type := 24, pos := "bulk.go:114", after := #[{ on := 5, ground := Ground.data }], guard := none } ?_ (fun _ => hHeld) rfl (by kernel_rfl) (fun _ _ _ h => h) (by rfl) ?_ ?_
            rotate_left
            · intro w; go_simp; try with_reducible rfl
            try simp only [Act.put, List.setIfInBounds_toArray, List.set_cons_zero, List.set_cons_succ]
            refine Kt.G.takeP 7 { dst := some 36, op := Op.extract (Operand.tmp 29) 1, type := 9, pos := "bulk.go:114", after := #[{ on := 5, ground := Ground.data }, { on := 10, ground := Ground.gcOnly Departure.lateStores }], guard := none } ?_ (fun _ => hHeld) rfl (by kernel_rfl) (fun _ _ _ h => h) (by rfl) ?_ ?_
            rotate_left
            · intro w; go_simp; try with_reducible rfl
            try simp only [Act.put, List.setIfInBounds_toArray, List.set_cons_zero, List.set_cons_succ]
            refine Kt.G.takeP 8 { dst := some 37, op := Op.extract (Operand.tmp 29) 2, type := 28, pos := "bulk.go:114", after := #[{ on := 5, ground := Ground.data }, { on := 11, ground := Ground.gcOnly Departure.lateStores }], guard := none } ?_ (fun _ => hHeld) rfl (by kernel_rfl) (fun _ _ _ h => h) (by rfl) ?_ ?_
            rotate_left
            · intro w; go_simp; try with_reducible rfl
            try simp only [Act.put, List.setIfInBounds_toArray, List.set_cons_zero, List.set_cons_succ]
            refine Kt.G.one 9 { dst := some 6, op := Op.alloc 24, type := 0, pos := "bulk.go:114", after := #[], guard := none } rfl (by kernel_rfl) (by rfl) (fun K hK => ?_)
            have hHeld0 := hHeld
            go_simp
            refine hK.out _ _ (fun _ => hHeld.alloc _) (fun hHeld => ?_)
            have hHeld := hHeld rfl
            clear hK K
            try simp only [Act.put, List.setIfInBounds_toArray, List.set_cons_zero, List.set_cons_succ]
            have rK := heap_alloc_new x4 (.cells #[.slice none 0 0, .int .i64 0] 24)
            have hk0 : w0.heap.size + 1 < x4.heap.size := hHeld0.lt (r := (w0.heap.size + 1, #[.int .i64 0, .int .i64 0], 128)) (by simp)
            clear hHeld0
            generalize hkB : x4.heap.size = kB at *
            clear hkB
            generalize x4.alloc (.cells #[.slice none 0 0, .int .i64 0] 24) = xk at *
            refine Kt.G.one 10 { dst := none, op := Op.store 24 (Operand.tmp 6) (Operand.tmp 35), type := 0, pos := "bulk.go:114", after := #[{ on := 9, ground := Ground.data }, { on := 6, ground := Ground.data }, { on := 4, ground := Ground.chain }, { on := 0, ground := Ground.phase }, { on := 1, ground := Ground.phase }, { on := 2, ground := Ground.phase }, { on := 3, ground := Ground.phase }, { on := 4, ground := Ground.phase }, { on := 5, ground := Ground.phase }, { on := 6, ground := Ground.phase }, { on := 7, ground := Ground.textOnly Departure.lateStores }, { on := 8, ground := Ground.textOnly Departure.lateStores }, { on := 9, ground := Ground.phase }], guard := none } rfl (by kernel_rfl) (by rfl) (fun K hK => ?_)
            have cK := fun i => cell_of_row _ _ i _ _ _ rK; have fK := fun i => frozen_of_row _ _ i _ _ rK
            go_simp
            refine hK.out _ _ (Kt.G.late (by kernel_rfl)) (fun _ => ?_)
            clear hK K
            try simp only [Act.put, List.setIfInBounds_toArray, List.set_cons_zero, List.set_cons_succ]
            refine Kt.G.takeP 11 { dst := some 7, op := Op.assign (Operand.tmp 36), type := 9, pos := "bulk.go:114", after := #[{ on := 7, ground := Ground.data }, { on := 10, ground := Ground.chain }, { on := 0, ground := Ground.phase }, { on := 1, ground := Ground.phase }, { on := 2, ground := Ground.phase }, { on := 3, ground := Ground.phase }, { on := 4, ground := Ground.phase }, { on := 5, ground := Ground.phase }, { on := 6, ground := Ground.phase }, { on := 7, ground := Ground.phase }, { on := 8, ground := Ground.textOnly Departure.lateStores }, { on := 9, ground := Ground.phase }, { on := 10, ground := Ground.phase }], guard := none } ?_ (Kt.G.late (by kernel_rfl)) rfl (by kernel_rfl) (fun _ _ _ h => h) (by rfl) ?_ ?_
            rotate_left
            · intro w; go_simp; try with_reducible rfl
            try simp only [Act.put, List.setIfInBounds_toArray, List.set_cons_zero, List.set_cons_succ]
            refine Kt.G.takeP 12 { dst := some 8, op := Op.assign (Operand.tmp 37), type := 28, pos := "bulk.go:114", after := #[{ on := 8, ground := Ground.data }, { on := 11, ground := Ground.chain }, { on := 0, ground := Ground.phase }, { on := 1, ground := Ground.phase }, { on := 2, ground := Ground.phase }, { on := 3, ground := Ground.phase }, { on := 4, ground := Ground.phase }, { on := 5, ground := Ground.phase }, { on := 6, ground := Ground.phase }, { on := 7, ground := Ground.phase }, { on := 8, ground := Ground.phase }, { on := 9, ground := Ground.phase }, { on := 10, ground := Ground.phase }, { on := 11, ground := Ground.phase }], guard := none } ?_ (Kt.G.late (by kernel_rfl)) rfl (by kernel_rfl) (fun _ _ _ h => h) (by rfl) ?_ ?_
            rotate_left
            · intro w; go_simp; try with_reducible rfl
            try simp only [Act.put, List.setIfInBounds_toArray, List.set_cons_zero, List.set_cons_succ]
            refine Kt.G.done (by kernel_rfl) (NoPanic.normal ?_) _
            go_wp2_with fail
            go_meet
            case rel =>
              exact ⟨rfl, (Kt.setCells_other [.slice A4 P.length cap4, .int .i64 sP] kB 0 _ _ (Nat.ne_of_lt (Nat.lt_of_succ_lt hk0))).trans (hHeld.row (w0.heap.size, #[.slice A bs.length cap, .int .i64 s], 24) (by simp)), (Kt.setCells_other [.slice A4 P.length cap4, .int .i64 sP] kB 0 _ _ (Nat.ne_of_lt hk0)).trans (hHeld.row (w0.heap.size + 1, #[.int .i64 0, .int .i64 0], 128) (by simp)), Kt.below_setCells [.slice A4 P.length cap4, .int .i64 sP] kB 0 _ _ (Nat.le_of_lt (Nat.lt_of_succ_lt hk0)) hHeld.bel⟩
          · have hHeld0 := hHeld
            go_simp
            refine hK.out _ _ (fun _ => hHeld.alloc _) (fun hHeld => ?_)
            have hHeld := hHeld rfl
            clear hK K
            try simp only [Act.put, List.setIfInBounds_toArray, List.set_cons_zero, List.set_cons_succ]
            have rK := heap_alloc_new x3 (.cells #[.slice none 0 0, .int .i64 0] 24)
            have hk0 : w0.heap.size + 1 < x3.heap.size := hHeld0.lt (r := (w0.heap.size + 1, #[.int .i64 0, .int .i64 0], 128)) (by simp)
            clear hHeld0
            generalize hkB : x3.heap.size = kB at *
            clear hkB
            generalize x3.alloc (.cells #[.slice none 0 0, .int .i64 0] 24) = xk at *
            refine Kt.G.one 4 { dst := some 34, op := Op.call { callee := Callee.value (Operand.func 76), args := #[Operand.tmp 30, Operand.tmp 31, Operand.tmp 33], argTypes := #[24, 9, 9] }, type := 134, pos := "bulk.go:114", after := #[{ on := 0, ground := Ground.data }, { on := 1, ground := Ground.data }, { on := 3, ground := Ground.data }, { on := 3, ground := Ground.chain }], guard := none } rfl (by kernel_rfl) (by rfl) (fun K hK => ?_)
            go_simp
            have hdo := Do_calls bs s c (zeros (cnt c * 16)) A cap _ (HA.out.on hHeld.bel) HN.out
            refine hdo.mono ?_; rintro en x4 hdo
            obtain ⟨A4, cap4, rfl, hda, hb4⟩ := hdo.open2 HD1.out
            unfold dkV
            refine hK.out _ _ (fun _ => hHeld.on hb4) (fun hHeld => ?_)
            have hHeld := hHeld rfl
            clear hK K
            try simp only [Act.put, List.setIfInBounds_toArray, List.set_cons_zero, List.set_cons_succ]
            try (replace rK := Kt.row_on hb4 rK)
            clear hb4 hdo hda
            refine Kt.G.takeP 5 { dst := some 29, op := Op.move (Operand.tmp 34), type := 134, pos := "bulk.go:114", after := #[{ on := 4, ground := Ground.data }], guard := none } ?_ (fun _ => hHeld) rfl (by kernel_rfl) (fun _ _ _ h => h) (by rfl) ?_ ?_
            rotate_left
            · intro w; go_simp; try with_reducible rfl
            try simp only [Act.put, List.setIfInBounds_toArray, List.set_cons_zero, List.set_cons_succ]
            refine Kt.G.takeP 6 { dst := some 35, op := Op.extract (Operand.tmp 29) 0, type := 24, pos := "bulk.go:114", after := #[{ on := 5, ground := Ground.data }], guard := none } ?_ (fun _ => hHeld) rfl (by kernel_rfl) (fun _ _ _ h => h) (by rfl) ?_ ?_
            rotate_left
            · intro w; go_simp; try with_reducible rfl
            try simp only [Act.put, List.setIfInBounds_toArray, List.set_cons_zero, List.set_cons_succ]
            refine Kt.G.takeP 7 { dst := some 36, op := Op.extract (Operand.tmp 29) 1, type := 9, pos := "bulk.go:114", after := #[{ on := 5, ground := Ground.data }, { on := 10, ground := Ground.gcOnly Departure.lateStores }], guard := none } ?_ (fun _ => hHeld) rfl (by kernel_rfl) (fun _ _ _ h => h) (by rfl) ?_ ?_
            rotate_left
            · intro w; go_simp; try with_reducible rfl
            try simp only [Act.put, List.setIfInBounds_toArray, List.set_cons_zero, List.set_cons_succ]
            refine Kt.G.takeP 8 { dst := some 37, op := Op.extract (Operand.tmp 29) 2, type := 28, pos := "bulk.go:114", after := #[{ on := 5, ground := Ground.data }, { on := 11, ground := Ground.gcOnly Departure.lateStores }], guard := none } ?_ (fun _ => hHeld) rfl (by kernel_rfl) (fun _ _ _ h => h) (by rfl) ?_ ?_
            rotate_left
            · intro w; go_simp; try with_reducible rfl
            try simp only [Act.put, List.setIfInBounds_toArray, List.set_cons_zero, List.set_cons_succ]
            refine Kt.G.one 10 { dst := none, op := Op.store 24 (Operand.tmp 6) (Operand.tmp 35), type := 0, pos := "bulk.go:114", after := #[{ on := 9, ground := Ground.data }, { on := 6, ground := Ground.data }, { on := 4, ground := Ground.chain }, { on := 0, ground := Ground.phase }, { on := 1, ground := Ground.phase }, { on := 2, ground := Ground.phase }, { on := 3, ground := Ground.phase }, { on := 4, ground := Ground.phase }, { on := 5, ground := Ground.phase }, { on := 6, ground := Ground.phase }, { on := 7, ground := Ground.textOnly Departure.lateStores }, { on := 8, ground := Ground.textOnly Departure.lateStores }, { on := 9, ground := Ground.phase }], guard := none } rfl (by kernel_rfl) (by rfl) (fun K hK => ?_)
            have cK := fun i => cell_of_row _ _ i _ _ _ rK; have fK := fun i => frozen_of_row _ _ i _ _ rK
            go_simp
            refine hK.out _ _ (Kt.G.late (by kernel_rfl)) (fun _ => ?_)
            clear hK K
            try simp only [Act.put, List.setIfInBounds_toArray, List.set_cons_zero, List.set_cons_succ]
            refine Kt.G.takeP 11 { dst := some 7, op := Op.assign (Operand.tmp 36), type := 9, pos := "bulk.go:114", after := #[{ on := 7, ground := Ground.data }, { on := 10, ground := Ground.chain }, { on := 0, ground := Ground.phase }, { on := 1, ground := Ground.phase }, { on := 2, ground := Ground.phase }, { on := 3, ground := Ground.phase }, { on := 4, ground := Ground.phase }, { on := 5, ground := Ground.phase }, { on := 6, ground := Ground.phase }, { on := 7, ground := Ground.phase }, { on := 8, ground := Ground.textOnly Departure.lateStores }, { on := 9, ground := Ground.phase }, { on := 10, ground := Ground.phase }], guard := none } ?_ (Kt.G.late (by kernel_rfl)) rfl (by kernel_rfl) (fun _ _ _ h => h) (by rfl) ?_ ?_
            rotate_left
            · intro w; go_simp; try with_reducible rfl
            try simp only [Act.put, List.setIfInBounds_toArray, List.set_cons_zero, List.set_cons_succ]
            refine Kt.G.takeP 12 { dst := some 8, op := Op.assign (Operand.tmp 37), type := 28, pos := "bulk.go:114", after := #[{ on := 8, ground := Ground.data }, { on := 11, ground := Ground.chain }, { on := 0, ground := Ground.phase }, { on := 1, ground := Ground.phase }, { on := 2, ground := Ground.phase }, { on := 3, ground := Ground.phase }, { on := 4, ground := Ground.phase }, { on := 5, ground := Ground.phase }, { on := 6, ground := Ground.phase }, { on := 7, ground := Ground.phase }, { on := 8, ground := Ground.phase }, { on := 9, ground := Ground.phase }, { on := 10, ground := Ground.phase }, { on := 11, ground := Ground.phase }], guard := none } ?_ (Kt.G.late (by kernel_rfl)) rfl (by kernel_rfl) (fun _ _ _ h => h) (by rfl) ?_ ?_
            rotate_left
            · intro w; go_simp; try with_reducible rfl
            try simp only [Act.put, List.setIfInBounds_toArray, List.set_cons_zero, List.set_cons_succ]
            refine Kt.G.done (by kernel_rfl) (NoPanic.normal ?_) _
            go_wp2_with fail
            go_meet
            case rel =>
              exact ⟨rfl, (Kt.setCells_other [.slice A4 P.length cap4, .int .i64 sP] kB 0 _ _ (Nat.ne_of_lt (Nat.lt_of_succ_lt hk0))).trans (hHeld.row (w0.heap.size, #[.slice A bs.length cap, .int .i64 s], 24) (by simp)), (Kt.setCells_other [.slice A4 P.length cap4, .int .i64 sP] kB 0 _ _ (Nat.ne_of_lt hk0)).trans (hHeld.row (w0.heap.size + 1, #[.int .i64 0, .int .i64 0], 128) (by simp)), Kt.below_setCells [.slice A4 P.length cap4, .int .i64 sP] kB 0 _ _ (Nat.le_of_lt (Nat.lt_of_succ_lt hk0)) hHeld.bel⟩
        · have hHeld0 := hHeld
          go_simp
          refine hK.out _ _ (fun _ => hHeld.alloc _) (fun hHeld => ?_)
          have hHeld := hHeld rfl
          clear hK K
          try simp only [Act.put, List.setIfInBounds_toArray, List.set_cons_zero, List.set_cons_succ]
          have rK := heap_alloc_new x0 (.cells #[.slice none 0 0, .int .i64 0] 24)
          have hk0 : w0.heap.size + 1 < x0.heap.size := hHeld0.lt (r := (w0.heap.size + 1, #[.int .i64 0, .int .i64 0], 128)) (by simp)
          clear hHeld0
          generalize hkB : x0.heap.size = kB at *
          clear hkB
          generalize x0.alloc (.cells #[.slice none 0 0, .int .i64 0] 24) = xk at *
          refine Kt.G.one 3 { dst := some 33, op := Op.call { callee := Callee.value (Operand.func 27), args := #[Operand.const (Value.string { data := #[0] }), Operand.tmp 32], argTypes := #[9, 3] }, type := 9, pos := "bulk.go:114", after := #[{ on := 2, ground := Ground.data }], guard := none } rfl (by kernel_rfl) (by rfl) (fun K hK => ?_)
          go_simp
          refine (HR.out _).mono ?_; rintro en x3 ⟨rfl, hb3⟩
          refine hK.out _ _ (fun _ => hHeld.on hb3) (fun hHeld => ?_)
          have hHeld := hHeld rfl
          clear hK K
          try simp only [Act.put, List.setIfInBounds_toArray, List.set_cons_zero, List.set_cons_succ]
          try (replace rK := Kt.row_on hb3 rK)
          clear hb3
          refine Kt.G.one 4 { dst := some 34, op := Op.call { callee := Callee.value (Operand.func 76), args := #[Operand.tmp 30, Operand.tmp 31, Operand.tmp 33], argTypes := #[24, 9, 9] }, type := 134, pos := "bulk.go:114", after := #[{ on := 0, ground := Ground.data }, { on := 1, ground := Ground.data }, { on := 3, ground := Ground.data }, { on := 3, ground := Ground.chain }], guard := none } rfl (by kernel_rfl) (by rfl) (fun K hK => ?_)
          go_simp
          have hdo := Do_calls bs s c (zeros (cnt c * 16)) A cap _ (HA.out.on hHeld.bel) HN.out
          refine hdo.mono ?_; rintro en x4 hdo
          obtain ⟨A4, cap4, rfl, hda, hb4⟩ := hdo.open2 HD1.out
          unfold dkV
          refine hK.out _ _ (fun _ => hHeld.on hb4) (fun hHeld => ?_)
          have hHeld := hHeld rfl
          clear hK K
          try simp only [Act.put, List.setIfInBounds_toArray, List.set_cons_zero, List.set_cons_succ]
          try (replace rK := Kt.row_on hb4 rK)
          clear hb4 hdo hda
          refine Kt.G.takeP 5 { dst := some 29, op := Op.move (Operand.tmp 34), type := 134, pos := "bulk.go:114", after := #[{ on := 4, ground := Ground.data }], guard := none } ?_ (fun _ => hHeld) rfl (by kernel_rfl) (fun _ _ _ h => h) (by rfl) ?_ ?_
          rotate_left
          · intro w; go_simp; try with_reducible rfl
          try simp only [Act.put, List.setIfInBounds_toArray, List.set_cons_zero, List.set_cons_succ]
          refine Kt.G.takeP 6 { dst := some 35, op := Op.extract (Operand.tmp 29) 0, type := 24, pos := "bulk.go:114", after := #[{ on := 5, ground := Ground.data }], guard := none } ?_ (fun _ => hHeld) rfl (by kernel_rfl) (fun _ _ _ h => h) (by rfl) ?_ ?_
          rotate_left
          · intro w; go_simp; try with_reducible rfl
          try simp only [Act.put, List.setIfInBounds_toArray, List.set_cons_zero, List.set_cons_succ]
          refine Kt.G.takeP 7 { dst := some 36, op := Op.extract (Operand.tmp 29) 1, type := 9, pos := "bulk.go:114", after := #[{ on := 5, ground := Ground.data }, { on := 10, ground := Ground.gcOnly Departure.lateStores }], guard := none } ?_ (fun _ => hHeld) rfl (by kernel_rfl) (fun _ _ _ h => h) (by rfl) ?_ ?_
          rotate_left
          · intro w; go_simp; try with_reducible rfl
          try simp only [Act.put, List.setIfInBounds_toArray, List.set_cons_zero, List.set_cons_succ]
          refine Kt.G.takeP 8 { dst := some 37, op := Op.extract (Operand.tmp 29) 2, type := 28, pos := "bulk.go:114", after := #[{ on := 5, ground := Ground.data }, { on := 11, ground := Ground.gcOnly Departure.lateStores }], guard := none } ?_ (fun _ => hHeld) rfl (by kernel_rfl) (fun _ _ _ h => h) (by rfl) ?_ ?_
          rotate_left
          · intro w; go_simp; try with_reducible rfl
          try simp only [Act.put, List.setIfInBounds_toArray, List.set_cons_zero, List.set_cons_succ]
          refine Kt.G.one 10 { dst := none, op := Op.store 24 (Operand.tmp 6) (Operand.tmp 35), type := 0, pos := "bulk.go:114", after := #[{ on := 9, ground := Ground.data }, { on := 6, ground := Ground.data }, { on := 4, ground := Ground.chain }, { on := 0, ground := Ground.phase }, { on := 1, ground := Ground.phase }, { on := 2, ground := Ground.phase }, { on := 3, ground := Ground.phase }, { on := 4, ground := Ground.phase }, { on := 5, ground := Ground.phase }, { on := 6, ground := Ground.phase }, { on := 7, ground := Ground.textOnly Departure.lateStores }, { on := 8, ground := Ground.textOnly Departure.lateStores }, { on := 9, ground := Ground.phase }], guard := none } rfl (by kernel_rfl) (by rfl) (fun K hK => ?_)
          have cK := fun i => cell_of_row _ _ i _ _ _ rK; have fK := fun i => frozen_of_row _ _ i _ _ rK
          go_simp
          refine hK.out _ _ (Kt.G.late (by kernel_rfl)) (fun _ => ?_)
          clear hK K
          try simp only [Act.put, List.setIfInBounds_toArray, List.set_cons_zero, List.set_cons_succ]
          refine Kt.G.takeP 11 { dst := some 7, op := Op.assign (Operand.tmp 36), type := 9, pos := "bulk.go:114", after := #[{ on := 7, ground := Ground.data }, { on := 10, ground := Ground.chain }, { on := 0, ground := Ground.phase }, { on := 1, ground := Ground.phase }, { on := 2, ground := Ground.phase }, { on := 3, ground := Ground.phase }, { on := 4, ground := Ground.phase }, { on := 5, ground := Ground.phase }, { on := 6, ground := Ground.phase }, { on := 7, ground := Ground.phase }, { on := 8, ground := Ground.textOnly Departure.lateStores }, { on := 9, ground := Ground.phase }, { on := 10, ground := Ground.phase }], guard := none } ?_ (Kt.G.late (by kernel_rfl)) rfl (by kernel_rfl) (fun _ _ _ h => h) (by rfl) ?_ ?_
          rotate_left
          · intro w; go_simp; try with_reducible rfl
          try simp only [Act.put, List.setIfInBounds_toArray, List.set_cons_zero, List.set_cons_succ]
          refine Kt.G.takeP 12 { dst := some 8, op := Op.assign (Operand.tmp 37), type := 28, pos := "bulk.go:114", after := #[{ on := 8, ground := Ground.data }, { on := 11, ground := Ground.chain }, { on := 0, ground := Ground.phase }, { on := 1, ground := Ground.phase }, { on := 2, ground := Ground.phase }, { on := 3, ground := Ground.phase }, { on := 4, ground := Ground.phase }, { on := 5, ground := Ground.phase }, { on := 6, ground := Ground.phase }, { on := 7, ground := Ground.phase }, { on := 8, ground := Ground.phase }, { on := 9, ground := Ground.phase }, { on := 10, ground := Ground.phase }, { on := 11, ground := Ground.phase }], guard := none } ?_ (Kt.G.late (by kernel_rfl)) rfl (by kernel_rfl) (fun _ _ _ h => h) (by rfl) ?_ ?_
          rotate_left
          · intro w; go_simp; try with_reducible rfl
          try simp only [Act.put, List.setIfInBounds_toArray, List.set_cons_zero, List.set_cons_succ]
          refine Kt.G.done (by kernel_rfl) (NoPanic.normal ?_) _
          go_wp2_with fail
          go_meet
          case rel =>
            exact ⟨rfl, (Kt.setCells_other [.slice A4 P.length cap4, .int .i64 sP] kB 0 _ _ (Nat.ne_of_lt (Nat.lt_of_succ_lt hk0))).trans (hHeld.row (w0.heap.size, #[.slice A bs.length cap, .int .i64 s], 24) (by simp)), (Kt.setCells_other [.slice A4 P.length cap4, .int .i64 sP] kB 0 _ _ (Nat.ne_of_lt hk0)).trans (hHeld.row (w0.heap.size + 1, #[.int .i64 0, .int .i64 0], 128) (by simp)), Kt.below_setCells [.slice A4 P.length cap4, .int .i64 sP] kB 0 _ _ (Nat.le_of_lt (Nat.lt_of_succ_lt hk0)) hHeld.bel⟩
      case rest =>
        obtain ⟨rfl, hr1, hr2, hbel⟩ := hcut
        rw [hd1] at HMW
        have HR1 := Lib.hid hr1
        have HR2 := Lib.hid hr2
        have HB := Lib.hid hbel
        have hcnt : ((cnt c * 16 : Nat) : Int) = ((cnt c * 16 : Nat) : Int) := rfl
        by_cases hgo : g = 0 ∧ 0 < cnt c
        · obtain ⟨rfl, hpos⟩ := hgo
          have HE : Hid (means bs s c = (2, ((cnt c * 16 : Nat) : Int))) := Lib.hid (by rw [HMW.out]; exact if_pos ⟨rfl, hpos⟩)
          have hp : (0 : Int) < ((cnt c * 16 : Nat) : Int) := by omega
          have qm := fun i => cell_of_row _ _ i _ _ _ hr2
          have fm := fun i => frozen_of_row _ _ i _ _ hr2
          clear hr1 hr2 hbel hd1 HD1 HMW hcnt hpos hcn
          generalize ((cnt c * 16 : Nat) : Int) = N at *
          go_wp2_with fail
          have hW := ld_mv (Kt.fill [.int .i64 2, .int .i64 N] HR2.out rfl)
          simp only [World.setCells, Nat.zero_add] at hW
          refine bodyPost_ret (v := .agg #[.int .i64 2, .int .i64 N]) (by simp [results, Try.results75, asAddr, hW]) rfl ?_
          exact ⟨by rw [HE.out], Kt.below_setCells [.int .i64 2, .int .i64 N] (w0.heap.size + 1) 0 _ w0 (Nat.le_succ _) HB.out⟩
        · have HM2 : Hid (means bs s c = if (did bs s c ByteArray.empty).2.2.2 = 0 ∧ (did bs s c ByteArray.empty).2.2.1.size ≠ 0 then (1, ((did bs s c ByteArray.empty).2.2.1.size : Int)) else (0, 0)) := Lib.hid (by rw [HMW.out]; exact if_neg hgo)
          have h3 : (g == 0) = false ∨ (g = 0 ∧ cnt c = 0) := by
            by_cases hg : g = 0
            · exact .inr ⟨hg, by omega⟩
            · exact .inl (by rw [beq_eq_false_iff_ne]; exact hg)
          have q := fun i => cell_of_row _ _ i _ _ _ hr1
          clear hr1 hr2 hbel hd1 HD1 HMW hcnt hgo HR hB0
          rcases h3 with h3 | ⟨rfl, h3⟩
          · generalize ((cnt c * 16 : Nat) : Int) = N at *
            go_wp2_with fail
            refine (Do_calls bs s c ByteArray.empty A cap _ (HA.out.on HB.out) HN.out).mono ?_
            rintro e w4 hdo
            obtain ⟨P2, sP2, o2, g2, hd2⟩ : ∃ b t o g, did bs s c ByteArray.empty = (b, t, o, g) := ⟨_, _, _, _, rfl⟩
            obtain ⟨A5, cap5, rfl, hda, hb⟩ := hdo.open2 hd2
            have HB4 := Lib.hid (Kt.bthen HB.out hb)
            have HRM := Lib.hid (Kt.row_on hb HR2.out)
            have hlt := ltRow HRM.out
            have qm := fun i => cell_of_row _ _ i _ _ _ HRM.out
            have fm := fun i => frozen_of_row _ _ i _ _ HRM.out
            rw [hd2] at HM2
            have HMM := HM2
            clear hdo hda hb hd2 HM2
            unfold dkV
            by_cases h2 : g2 = 0 ∧ o2.size ≠ 0
            · obtain ⟨rfl, ho⟩ := h2
              have hne := not_empty o2 (by omega)
              have HE : Hid (means bs s c = (1, (o2.size : Int))) := Lib.hid (by rw [HMM.out]; exact if_pos ⟨rfl, ho⟩)
              clear ho
              go_wp2_with fail
              have hW := ld_mv (Kt.fillA [.int .i64 1, .int .i64 (o2.size : Int)] HRM.out rfl (.cells #[.slice A5 P2.length cap5, .int .i64 sP2] 24))
              simp only [World.setCells, Nat.zero_add] at hW
              refine bodyPost_ret (v := .agg #[.int .i64 1, .int .i64 (o2.size : Int)]) (by simp [results, Try.results75, asAddr, hW]) rfl ?_
              exact ⟨by rw [HE.out], Kt.balloc (Kt.below_setCells [.int .i64 1, .int .i64 (o2.size : Int)] (w0.heap.size + 1) 0 w4 w0 (Nat.le_succ _) HB4.out) _⟩
            · have HE : Hid (means bs s c = (0, 0)) := Lib.hid (by rw [HMM.out]; exact if_neg h2)
              have h3 : (g2 == 0) = false ∨ (g2 = 0 ∧ o2 = ByteArray.empty) := by
                by_cases hg : g2 = 0
                · exact .inr ⟨hg, ByteArray.size_eq_zero_iff.1 (by omega)⟩
                · exact .inl (by rw [beq_eq_false_iff_ne]; exact hg)
              clear h2
              rcases h3 with h3 | ⟨rfl, rfl⟩
              all_goals
                go_wp2_with fail
                have hW := ld_mv (Kt.fillA [.int .i64 0, .int .i64 0] HRM.out rfl (.cells #[.slice A5 P2.length cap5, .int .i64 sP2] 24))
                simp only [World.setCells, Nat.zero_add] at hW
                refine bodyPost_ret (v := .agg #[.int .i64 0, .int .i64 0]) (by simp [results, Try.results75, asAddr, hW]) rfl ?_
                exact ⟨by rw [HE.out], Kt.balloc (Kt.below_setCells [.int .i64 0, .int .i64 0] (w0.heap.size + 1) 0 w4 w0 (Nat.le_succ _) HB4.out) _⟩
          · have h4 : ((cnt c * 16 : Nat) : Int) = 0 := by omega
            rw [h4]
            go_wp2_with fail
            refine (Do_calls bs s c ByteArray.empty A cap _ (HA.out.on HB.out) HN.out).mono ?_
            rintro e w4 hdo
            obtain ⟨P2, sP2, o2, g2, hd2⟩ : ∃ b t o g, did bs s c ByteArray.empty = (b, t, o, g) := ⟨_, _, _, _, rfl⟩
            obtain ⟨A5, cap5, rfl, hda, hb⟩ := hdo.open2 hd2
            have HB4 := Lib.hid (Kt.bthen HB.out hb)
            have HRM := Lib.hid (Kt.row_on hb HR2.out)
            have hlt := ltRow HRM.out
            have qm := fun i => cell_of_row _ _ i _ _ _ HRM.out
            have fm := fun i => frozen_of_row _ _ i _ _ HRM.out
            rw [hd2] at HM2
            have HMM := HM2
            clear hdo hda hb hd2 HM2
            unfold dkV
            by_cases h2 : g2 = 0 ∧ o2.size ≠ 0
            · obtain ⟨rfl, ho⟩ := h2
              have hne := not_empty o2 (by omega)
              have HE : Hid (means bs s c = (1, (o2.size : Int))) := Lib.hid (by rw [HMM.out]; exact if_pos ⟨rfl, ho⟩)
              clear ho
              go_wp2_with fail
              have hW := ld_mv (Kt.fillA [.int .i64 1, .int .i64 (o2.size : Int)] HRM.out rfl (.cells #[.slice A5 P2.length cap5, .int .i64 sP2] 24))
              simp only [World.setCells, Nat.zero_add] at hW
              refine bodyPost_ret (v := .agg #[.int .i64 1, .int .i64 (o2.size : Int)]) (by simp [results, Try.results75, asAddr, hW]) rfl ?_
              exact ⟨by rw [HE.out], Kt.balloc (Kt.below_setCells [.int .i64 1, .int .i64 (o2.size : Int)] (w0.heap.size + 1) 0 w4 w0 (Nat.le_succ _) HB4.out) _⟩
            · have HE : Hid (means bs s c = (0, 0)) := Lib.hid (by rw [HMM.out]; exact if_neg h2)
              have h3 : (g2 == 0) = false ∨ (g2 = 0 ∧ o2 = ByteArray.empty) := by
                by_cases hg : g2 = 0
                · exact .inr ⟨hg, ByteArray.size_eq_zero_iff.1 (by omega)⟩
                · exact .inl (by rw [beq_eq_false_iff_ne]; exact hg)
              clear h2
              rcases h3 with h3 | ⟨rfl, rfl⟩
              all_goals
                go_wp2_with fail
                have hW := ld_mv (Kt.fillA [.int .i64 0, .int .i64 0] HRM.out rfl (.cells #[.slice A5 P2.length cap5, .int .i64 sP2] 24))
                simp only [World.setCells, Nat.zero_add] at hW
                refine bodyPost_ret (v := .agg #[.int .i64 0, .int .i64 0]) (by simp [results, Try.results75, asAddr, hW]) rfl ?_
                exact ⟨by rw [HE.out], Kt.balloc (Kt.below_setCells [.int .i64 0, .int .i64 0] (w0.heap.size + 1) 0 w4 w0 (Nat.le_succ _) HB4.out) _⟩
  · have HM2 := Lib.hid (means_n (bs := bs) (s := s) hw)
    have h3 : ((c.size : Int) == 10) = false ∨ (((c.size : Int) == 10) = true ∧ ∃ h : 0 < c.size, (((c[0]'h).toNat : Int) == 42) = false) := by
      by_cases hc : c.size = 10
      · refine .inr ⟨by rw [beq_iff_eq]; omega, by omega, ?_⟩
        rw [beq_eq_false_iff_ne, ← bt_get]
        exact fun e => hw ⟨hc, by omega⟩
      · exact .inl (by rw [beq_eq_false_iff_ne]; omega)
    have HB : Hid (Below w0.heap.size w0 ((w0.alloc (.cells #[.slice A bs.length cap, .int .i64 s] 24)).alloc (.cells #[.int .i64 0, .int .i64 0] 128))) := Lib.hid (Kt.balloc (Kt.balloc (Below.refl _ w0) _) _)
    have HR2 := Lib.hid (heap_alloc2_new w0 (.cells #[.slice A bs.length cap, .int .i64 s] 24) (.cells #[.int .i64 0, .int .i64 0] 128))
    clear hw
    rcases h3 with h3 | ⟨h3, h4, h5⟩
    · go_enter Try.func75, Try.ntmps75
      go_wp2_with fail
      refine (Do_calls bs s c ByteArray.empty A cap _ (HA.out.on HB.out) HN.out).mono ?_
      rintro e w4 hdo
      obtain ⟨P2, sP2, o2, g2, hd2⟩ : ∃ b t o g, did bs s c ByteArray.empty = (b, t, o, g) := ⟨_, _, _, _, rfl⟩
      obtain ⟨A5, cap5, rfl, hda, hb⟩ := hdo.open2 hd2
      have HB4 := Lib.hid (Kt.bthen HB.out hb)
      have HRM := Lib.hid (Kt.row_on hb HR2.out)
      have hlt := ltRow HRM.out
      have qm := fun i => cell_of_row _ _ i _ _ _ HRM.out
      have fm := fun i => frozen_of_row _ _ i _ _ HRM.out
      rw [hd2] at HM2
      have HMM := HM2
      clear hdo hda hb hd2 HM2
      unfold dkV
      by_cases h2 : g2 = 0 ∧ o2.size ≠ 0
      · obtain ⟨rfl, ho⟩ := h2
        have hne := not_empty o2 (by omega)
        have HE : Hid (means bs s c = (1, (o2.size : Int))) := Lib.hid (by rw [HMM.out]; exact if_pos ⟨rfl, ho⟩)
        clear ho
        go_wp2_with fail
        have hW := ld_mv (Kt.fillA [.int .i64 1, .int .i64 (o2.size : Int)] HRM.out rfl (.cells #[.slice A5 P2.length cap5, .int .i64 sP2] 24))
        simp only [World.setCells, Nat.zero_add] at hW
        refine bodyPost_ret (v := .agg #[.int .i64 1, .int .i64 (o2.size : Int)]) (by simp [results, Try.results75, asAddr, hW]) rfl ?_
        exact ⟨by rw [HE.out], Kt.balloc (Kt.below_setCells [.int .i64 1, .int .i64 (o2.size : Int)] (w0.heap.size + 1) 0 w4 w0 (Nat.le_succ _) HB4.out) _⟩
      · have HE : Hid (means bs s c = (0, 0)) := Lib.hid (by rw [HMM.out]; exact if_neg h2)
        have h3 : (g2 == 0) = false ∨ (g2 = 0 ∧ o2 = ByteArray.empty) := by
          by_cases hg : g2 = 0
          · exact .inr ⟨hg, ByteArray.size_eq_zero_iff.1 (by omega)⟩
          · exact .inl (by rw [beq_eq_false_iff_ne]; exact hg)
        clear h2
        rcases h3 with h3 | ⟨rfl, rfl⟩
        all_goals
          go_wp2_with fail
          have hW := ld_mv (Kt.fillA [.int .i64 0, .int .i64 0] HRM.out rfl (.cells #[.slice A5 P2.length cap5, .int .i64 sP2] 24))
          simp only [World.setCells, Nat.zero_add] at hW
          refine bodyPost_ret (v := .agg #[.int .i64 0, .int .i64 0]) (by simp [results, Try.results75, asAddr, hW]) rfl ?_
          exact ⟨by rw [HE.out], Kt.balloc (Kt.below_setCells [.int .i64 0, .int .i64 0] (w0.heap.size + 1) 0 w4 w0 (Nat.le_succ _) HB4.out) _⟩
    · have i0 : (0 : Int) < c.size := by omega
      go_enter Try.func75, Try.ntmps75
      go_wp2_with fail
      refine (Do_calls bs s c ByteArray.empty A cap _ (HA.out.on HB.out) HN.out).mono ?_
      rintro e w4 hdo
      obtain ⟨P2, sP2, o2, g2, hd2⟩ : ∃ b t o g, did bs s c ByteArray.empty = (b, t, o, g) := ⟨_, _, _, _, rfl⟩
      obtain ⟨A5, cap5, rfl, hda, hb⟩ := hdo.open2 hd2
      have HB4 := Lib.hid (Kt.bthen HB.out hb)
      have HRM := Lib.hid (Kt.row_on hb HR2.out)
      have hlt := ltRow HRM.out
      have qm := fun i => cell_of_row _ _ i _ _ _ HRM.out
      have fm := fun i => frozen_of_row _ _ i _ _ HRM.out
      rw [hd2] at HM2
      have HMM := HM2
      clear hdo hda hb hd2 HM2
      unfold dkV
      by_cases h2 : g2 = 0 ∧ o2.size ≠ 0
      · obtain ⟨rfl, ho⟩ := h2
        have hne := not_empty o2 (by omega)
        have HE : Hid (means bs s c = (1, (o2.size : Int))) := Lib.hid (by rw [HMM.out]; exact if_pos ⟨rfl, ho⟩)
        clear ho
        go_wp2_with fail
        have hW := ld_mv (Kt.fillA [.int .i64 1, .int .i64 (o2.size : Int)] HRM.out rfl (.cells #[.slice A5 P2.length cap5, .int .i64 sP2] 24))
        simp only [World.setCells, Nat.zero_add] at hW
        refine bodyPost_ret (v := .agg #[.int .i64 1, .int .i64 (o2.size : Int)]) (by simp [results, Try.results75, asAddr, hW]) rfl ?_
        exact ⟨by rw [HE.out], Kt.balloc (Kt.below_setCells [.int .i64 1, .int .i64 (o2.size : Int)] (w0.heap.size + 1) 0 w4 w0 (Nat.le_succ _) HB4.out) _⟩
      · have HE : Hid (means bs s c = (0, 0)) := Lib.hid (by rw [HMM.out]; exact if_neg h2)
        have h3 : (g2 == 0) = false ∨ (g2 = 0 ∧ o2 = ByteArray.empty) := by
          by_cases hg : g2 = 0
          · exact .inr ⟨hg, ByteArray.size_eq_zero_iff.1 (by omega)⟩
          · exact .inl (by rw [beq_eq_false_iff_ne]; exact hg)
        clear h2
        rcases h3 with h3 | ⟨rfl, rfl⟩
        all_goals
          go_wp2_with fail
          have hW := ld_mv (Kt.fillA [.int .i64 0, .int .i64 0] HRM.out rfl (.cells #[.slice A5 P2.length cap5, .int .i64 sP2] 24))
          simp only [World.setCells, Nat.zero_add] at hW
          refine bodyPost_ret (v := .agg #[.int .i64 0, .int .i64 0]) (by simp [results, Try.results75, asAddr, hW]) rfl ?_
          exact ⟨by rw [HE.out], Kt.balloc (Kt.below_setCells [.int .i64 0, .int .i64 0] (w0.heap.size + 1) 0 w4 w0 (Nat.le_succ _) HB4.out) _⟩
end Go.Proofs.Ytafiedhjjnapoaa
