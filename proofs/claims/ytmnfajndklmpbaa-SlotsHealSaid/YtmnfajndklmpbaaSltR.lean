/- The walks of package plugref: Board, on right boards. -/
import Derived.Test.YtmnfajndklmpbaaSltD
namespace Go.Proofs.Ytmnfajndklmpbaa
open Go.RowKit Classical Go.Proofs.Ytmnfajndklmpbaa.Slt
theorem between_true (n lo hi : Int) (w : World) (h1 : lo ≤ n) (h2 : n ≤ hi) : Calls Try.prog 19 #[.int .i64 n, .int .i64 lo, .int .i64 hi] w fun e w' => e = .returned (.bool true) ∧ w = w' := by
  have f1 : decide (lo ≤ n) = true := decide_eq_true h1
  have f2 : decide (n ≤ hi) = true := decide_eq_true h2
  go_enter Try.func19, Try.ntmps19
  go_wp2_with fail
  go_ret
  exact ⟨rfl, rfl⟩
theorem more_two (s : List Int) : more s 2 = false := decide_eq_false fun ⟨j, h1, h2, _⟩ => by omega
theorem more_all {s : List Int} {k : Nat} (h1 : 2 ≤ k) (h2 : k < 32) (h : G s (2 + k) ≠ 0) : more s 32 = true := decide_eq_true ⟨k, h1, h2, h⟩
set_option maxHeartbeats 1600000 in
theorem endsIn_calls (s : List Int) (hl : s.length = 66) (w : World) : Calls Try.prog 20 #[.agg (Kt.ia .i64 s), .int .i64 2, .int .i64 31] w fun e w' => e = .returned (.bool (more s 32)) ∧ Below w.heap.size w w' := by
  have hb : Bx 24 w.heap.size s (w.alloc (.cells (Kt.ia .i64 s) 24)) := heap_alloc_new w _
  have HB := Lib.hid hb
  clear hb
  go_enter Try.func20, Try.ntmps20
  go_wp2_with fail
  go_loopw [7] (fun ii wr => ∃ k : Nat, Hid (2 ≤ k ∧ k ≤ 32) ∧ ii = .int .i64 k ∧ Hid (more s k = false) ∧ wr = w.alloc (.cells (Kt.ia .i64 s) 24)) (fun ii _ => 32 - (intOf ii).toNat)
  case atStart => exact ⟨2, Lib.hid ⟨by omega, by omega⟩, rfl, Lib.hid (more_two s), rfl⟩
  case round =>
    obtain ⟨k, HK, rfl, HM, rfl⟩ := hrel
    by_cases hk : k < 32
    · have hk' : (k : Int) ≤ 31 := by omega
      have hk2 : (k : Int) < 32 := by omega
      have c1 := HB.out.cell (2 + k) (by omega)
      by_cases h0 : G s (2 + k) = 0
      · have HN := Lib.hid (more_next HM.out (.inr (.inr h0)))
        have f1 : (G s (2 + k) != 0) = false := by rw [h0]; rfl
        clear h0
        have HK1 := Lib.hid HK.out.1
        go_wp2_with fail
        exact ⟨⟨k + 1, Lib.hid ⟨Nat.le_succ_of_le HK1.out, hk⟩, rfl, HN, trivial⟩, next_i hk⟩
      · have HN := Lib.hid (more_all HK.out.1 hk h0)
        have f1 : (G s (2 + k) != 0) = true := bne_iff_ne.2 h0
        clear h0
        go_wp2_with fail
        go_ret
        exact ⟨congrArg (fun x => Ending.returned (.bool x)) HN.out.symm, Kt.balloc (Below.refl _ _) _⟩
    · obtain rfl : k = 32 := by have := HK.out; omega
      go_wp2_with fail
      go_ret
      exact ⟨congrArg (fun x => Ending.returned (.bool x)) HM.out.symm, Kt.balloc (Below.refl _ _) _⟩
/-- the boxes of Board -/
structure RB (w : World) (l : List Int) (W : World) : Prop where
  b0 : Bx 27 w.heap.size l W
  b1 : Bx 24 (w.heap.size + 1) (0 :: zs) W
  bel : Below w.heap.size w W
theorem RB.on {w : World} {l : List Int} {W W' : World} (h : RB w l W) (hb : Below W.heap.size W W') : RB w l W' := ⟨h.b0.on hb, h.b1.on hb, Kt.bthen h.bel hb⟩
theorem RB.start (w : World) (l : List Int) : RB w l ((w.alloc (.cells (Kt.ia .i64 l) 27)).alloc (.cells (Kt.ia .i64 (0 :: zs)) 24)) := by
  have h1 : Bx 27 w.heap.size l (w.alloc (.cells (Kt.ia .i64 l) 27)) := heap_alloc_new w _
  have h2 : Bx 24 (w.alloc (.cells (Kt.ia .i64 l) 27)).heap.size (0 :: zs) ((w.alloc (.cells (Kt.ia .i64 l) 27)).alloc (.cells (Kt.ia .i64 (0 :: zs)) 24)) := heap_alloc_new _ _
  have e1 : (w.alloc (.cells (Kt.ia .i64 l) 27)).heap.size = w.heap.size + 1 := by simp
  rw [e1] at h2
  exact ⟨h1.on (Kt.balloc (Below.refl _ _) _), h2, Kt.balloc (Kt.balloc (Below.refl _ _) _) _⟩
section
variable {ops : Array Oper} {rest : List Oper} {o : Oper} {a : Act} {w : World} {Q : Exit → Act → World → Prop}
theorem load_bx_g (hgd : Region.wanted o (yielded ops a.tmps) = true) (t : TypeId) (x : Operand) (ho : o.op = .load t x) (g : Nat) (hx : a.eval x = .pointer (some ⟨g, 0, none⟩)) {t0 : TypeId} (l : List Int) (hb : Bx t0 g l w) {d : _} (hu : Try.prog.underlying t = some (.struct d)) (hs : (Try.prog.info? t).map (·.size) = some l.length)
    (h : wpList Try.prog ops Q rest (a.put o.dst (.agg (Kt.ia .i64 l))) w) : wpList Try.prog ops Q (o :: rest) a w := by
  refine BigFrame.wpList_want hgd fun K hK => ?_
  exact wp_load_row t x ho g hx t0 (Kt.ia .i64 l) (0, 0) _ hb hu rfl (by rw [Kt.ia_size]; exact hs) (hK _ _ h)
end
theorem zs_size : (Try.prog.info? 24).map (·.size) = some ((0 : Int) :: zs).length := by rw [List.length_cons, zs_len]; exact size_slot
theorem RB.upd {w : World} {l : List Int} {W W' : World} {g : Nat} (h : RB w l W) (hu : Upd g W W') (hg : w.heap.size + 1 < g) : RB w l W' :=
  ⟨hu.box h.b0 (by omega), hu.box h.b1 (by omega), hu.to h.bel (by omega)⟩
theorem Slt.Ok.low {l : List Int} (h : Ok l) (i : Nat) (hi : i < 9) (hlow : G (at_ l i) 0 ≤ 1) (hl : l.length = 594) : 0 ≤ G (at_ l i) 0 ∧ at_ l i = G (at_ l i) 0 :: zs := by
  by_cases e : i = 0
  · subst e
    have := (none_iff l hl).2 h.none
    rw [this]; exact ⟨by decide, rfl⟩
  · rcases h.slot i (by omega) hi with ⟨_, a, b⟩ | ⟨a, _⟩
    · exact ⟨a, (zero_iff _ (at_len l hl i hi)).2 b⟩
    · omega
theorem Slt.Ok.high {l : List Int} (h : Ok l) (i : Nat) (hi : i < 9) (hlow : ¬ G (at_ l i) 0 ≤ 1) (hl : l.length = 594) : 1 ≤ i ∧ Called (at_ l i) := by
  by_cases e : i = 0
  · subst e
    have := (none_iff l hl).2 h.none
    rw [this] at hlow; exact absurd (by decide) hlow
  · rcases h.slot i (by omega) hi with ⟨a, _, _⟩ | ⟨_, b⟩
    · exact absurd a hlow
    · exact ⟨by omega, b⟩
theorem Slt.Ok.apart {l : List Int} (h : Ok l) (i k : Nat) (hi : i < 9) (hk : k < i) (ha : 1 ≤ G (at_ l i) 1) : G (at_ l k) 1 ≠ G (at_ l i) 1 := by
  rw [G_at l i 1 (by omega)] at *
  rw [G_at l k 1 (by omega)]
  by_cases e : k = 0
  · subst e
    have := h.none (0 * 66 + 1) (by omega)
    rw [this]; omega
  · rcases h.two i k (by omega) hk hi with h | h
    · omega
    · exact fun e => h e.symm
theorem slots_len : Try.prog.arrayLen 25 = 9 := by kernel_rfl
theorem slots_elem : Try.prog.elem 25 = 24 := by kernel_rfl
theorem slot_sz (w : World) : (sizeOf 24).run Try.prog w = .ok 66 w := by kernel_rfl
theorem slots_slice (b i : Nat) (hi : i ≤ 9) (w : World) : (Instr.sliceAt 25 (.pointer (some ⟨b, 0, none⟩)) none (some (.int .i64 i)) none).run Try.prog w = .ok (.slice (some ⟨b, 0, none⟩) i 9) w := by
  rw [run_sliceAt_array_h w 25 ⟨b, 0, none⟩ (by rw [slots_len, slots_elem]; exact Try.underlying25) .i64 i (by omega) (by rw [slots_len]; omega), slots_len, slots_elem, slot_sz]
  simp [slicedAt, Result.andThen, Addr.add]
theorem Slt.Called.all {s : List Int} (h : Called s) (k : Nat) (hk : k < 32) : EndOk (G s (2 + k)) (G s (34 + k)) := by
  by_cases e : k = 0
  · subst e
    rw [show G s (2 + 0) = 0 from h.e0, show G s (34 + 0) = 0 from h.m0]
    exact ⟨by decide, by decide, by decide, by decide, fun _ => rfl⟩
  · exact h.ends k (by omega) hk
set_option maxRecDepth 100000 in
set_option maxHeartbeats 3200000 in
theorem board_ok (l : List Int) (hl : l.length = 594) (ho : Ok l) (w : World) : Calls Try.prog 11 #[.agg (Kt.ia .i64 l)] w fun e w' => e = .returned (.int .i64 0) ∧ Below w.heap.size w w' := by
  have HR := Lib.hid (RB.start w l)
  have HO := Lib.hid ho
  have Z0 := zero_slot
  have Z1 := ia_ne 0
  have EG := fun x y a b w => guard_slot .neq x y a b w
  clear ho
  go_enter Try.func11, Try.ntmps11
  have hr := HR.out.b0.slots hl
  have hs := slots_size l hl
  go_wp2_with (first
    | (refine store_new rfl 24 (.tmp 3) (.tmp 9) rfl (w.heap.size + 1) (by simp) rfl (0 :: zs) rfl _ (by rw [Kt.ia_size]) zs_size ?_)
    | (refine wpList_load_mid rfl 25 (.tmp 10) rfl w.heap.size 0 rfl _ _ hr Try.underlying25 rfl hs ?_))
  clear hr hs
  go_loopw [12] (fun ii wr => ∃ i : Nat, Hid (i ≤ 9) ∧ ii = .int .i64 i ∧ Hid (RB w l wr)) (fun ii _ => 9 - (intOf ii).toNat)
  case atStart => exact ⟨0, Lib.hid (by omega), rfl, HR⟩
  case round =>
    clear HR
    obtain ⟨i, HI, rfl, HR⟩ := hrel
    by_cases hi : i < 9
    · have hi' : (i : Int) < 9 := by omega
      have ix := fun W => slot_index l hl i hi W
      have hla := at_len l hl i hi
      have hsz : (Try.prog.info? 24).map (·.size) = some (at_ l i).length := by rw [hla]; exact size_slot
      go_upto_region 5 with (refine store_new rfl 24 (.tmp 5) (.tmp 15) rfl wr.heap.size rfl rfl (at_ l i) rfl _ (by rw [Kt.ia_size, hla]; rfl) hsz ?_)
      have hb5 : Bx 24 wr.heap.size (at_ l i) (wr.alloc (.cells (Kt.ia .i64 (at_ l i)) 24)) := heap_alloc_new _ _
      have HR1 := Lib.hid (HR.out.on (Kt.balloc (Below.refl _ _) (.cells (Kt.ia .i64 (at_ l i)) 24)))
      have HG := Lib.hid (HR.out.b1.lt)
      clear HR ix
      generalize wr.alloc (.cells (Kt.ia .i64 (at_ l i)) 24) = W at *
      generalize wr.heap.size = g at *
      have b1 := HR1.out.b1
      have c0 := hb5.cell 0 (by omega)
      have q0 := hb5.free 0
      by_cases hlow : G (at_ l i) 0 ≤ 1
      · have hsl := HO.out.low i hi hlow hl
        have HGV := Lib.hid hsl.1
        have e1 : at_ l i = G (at_ l i) 0 :: zs := hsl.2
        have hbt := fun W => between_true (G (at_ l i) 0) 0 3 W hsl.1 (by omega)
        have hset : (at_ l i).set 0 0 = 0 :: zs := by rw [e1]; rfl
        have hb6 := hb5.set 0 0
        rw [hset] at hb6
        have EQ := fun w => ((eq_slot (0 :: zs) (0 :: zs) rfl rfl).1 rfl w).2
        have hlow' : G (at_ l i) 0 < 2 := by omega
        have HU := Lib.hid ((Upd.refl g W).set 0 (.int .i64 0))
        have b1' := (HR1.out.upd HU.out HG.out).b1
        by_cases h0 : i = 0
        · subst h0
          have e2 : at_ l 0 = 0 :: zs := (none_iff l hl).2 HO.out.none
          clear hsl e1 hset hlow HGV hbt
          generalize at_ l 0 = s at *
          subst e2
          have hbt := fun W => between_true 0 0 3 W (by omega) (by omega)
          have hl0 : (0 : Int) < 2 := by omega
          clear hlow' hla hsz
          go_wp2_with (first
            | (refine load_bx_g rfl 24 (.tmp 5) rfl g rfl (0 :: zs) hb5 Try.underlying24 zs_size ?_)
            | (refine load_bx_g rfl 24 (.tmp 3) rfl (w.heap.size + 1) rfl (0 :: zs) b1 Try.underlying24 zs_size ?_))
          refine (hbt _).mono ?_
          rintro en W3 ⟨rfl, rfl⟩
          go_wp2_with (first
            | (refine load_bx rfl 24 (.tmp 5) rfl g rfl (0 :: zs) hb6 Try.underlying24 zs_size ?_)
            | (refine load_bx rfl 24 (.tmp 3) rfl (w.heap.size + 1) rfl (0 :: zs) b1' Try.underlying24 zs_size ?_))
          exact ⟨⟨1, Lib.hid (by omega), rfl, Lib.hid (HR1.out.upd HU.out HG.out)⟩, by decide⟩
        · have f0 : ((i : Int) == 0) = false := beq_eq_false_iff_ne.2 (by omega)
          clear hsl e1 hset hlow h0
          generalize at_ l i = s at *
          generalize G s 0 = v at *
          go_wp2_with fail
          refine (hbt _).mono ?_
          rintro en W3 ⟨rfl, rfl⟩
          go_wp2_with (first
            | (refine load_bx rfl 24 (.tmp 5) rfl g rfl (0 :: zs) hb6 Try.underlying24 zs_size ?_)
            | (refine load_bx rfl 24 (.tmp 3) rfl (w.heap.size + 1) rfl (0 :: zs) b1' Try.underlying24 zs_size ?_))
          exact ⟨⟨i + 1, Lib.hid (by omega), rfl, Lib.hid (HR1.out.upd HU.out HG.out)⟩, next_i hi⟩
      · have hC := HO.out.high i hi hlow hl
        have HC := Lib.hid hC.2
        have f0 : ((i : Int) == 0) = false := beq_eq_false_iff_ne.2 (by omega)
        have hbt := fun W => between_true (G (at_ l i) 0) 0 3 W (by omega) hC.2.st
        have hlow' : ¬ G (at_ l i) 0 < 2 := by omega
        have HI1 := Lib.hid hC.1
        clear hC hlow
        generalize hs : at_ l i = s at *
        have HS := Lib.hid hs
        clear hs
        have HE0 := Lib.hid HC.out.e0
        have HBT := Lib.hid (fun W => between_true (G s 1) 1 127 W HC.out.a1 HC.out.a2)
        have f3 : (G s 3 == 0) = false := beq_eq_false_iff_ne.2 HC.out.e1
        have hmore : more s 32 = (G s 0 == 3) := by
          rw [Bool.eq_iff_iff, beq_iff_eq, ← HC.out.more]
          unfold more; rw [decide_eq_true_iff]
        have hei := fun W => endsIn_calls s hla W
        rw [hmore] at hei
        clear hmore
        obtain ⟨b, f4⟩ : ∃ b, (G s 0 == 3) = b := ⟨_, rfl⟩
        rw [f4] at hei
        have HEI := Lib.hid hei
        clear hei
        go_upto_region 11 with (go_at_call 19; refine (hbt _).mono ?_; rintro en W3 ⟨rfl, rfl⟩)
        clear hbt c0 hlow'
        refine Kt.G.start 23 (fun x => RB w l x ∧ Bx 24 g s x) (by kernel_rfl) ⟨HR1.out.on (Below.refl _ _).drew, hb5.on (Below.refl _ _).drew⟩ (fun hHeld => ?_)
        refine Kt.G.takeP 0 { dst := some 36, op := Op.fieldAddr 24 (Operand.tmp 5) 1, type := 0, pos := "slots.go:33", after := #[], guard := none } ?_ (fun _ => hHeld) rfl (by kernel_rfl) (fun _ _ _ h => h) (by rfl) ?_ ?_
        rotate_left
        · intro w; go_simp; try with_reducible rfl
        try simp only [Act.put, List.setIfInBounds_toArray, List.set_cons_zero, List.set_cons_succ]
        refine Kt.G.take 1 { dst := some 37, op := Op.load 3 (Operand.tmp 36), type := 3, pos := "slots.go:33", after := #[{ on := 0, ground := Ground.data }], guard := none } ?_ hHeld rfl (by kernel_rfl) (fun _ _ _ h => h) (by rfl) ?_ ?_
        rotate_left
        · intro x hSx; have qc := hSx.2.cell 1 (by omega); go_simp; try with_reducible rfl
        try simp only [Act.put, List.setIfInBounds_toArray, List.set_cons_zero, List.set_cons_succ]
        refine Kt.G.one 2 { dst := some 38, op := Op.call { callee := Callee.value (Operand.func 19), args := #[Operand.tmp 37, Operand.const (Value.int IntKind.i64 1), Operand.const (Value.int IntKind.i64 127)], argTypes := #[3, 3, 3] }, type := 4, pos := "slots.go:33", after := #[{ on := 1, ground := Ground.data }], guard := none } rfl (by kernel_rfl) (by rfl) (fun K hK => ?_)
        go_simp
        refine (HBT.out _).mono ?_; rintro en W3 ⟨rfl, rfl⟩
        refine hK.out _ _ (fun _ => hHeld) (fun hHeld => ?_)
        have hHeld := hHeld rfl
        clear hK K
        try simp only [Act.put, List.setIfInBounds_toArray, List.set_cons_zero, List.set_cons_succ]
        refine Kt.G.takeP 3 { dst := some 39, op := Op.unOp UnOp.not 4 (Operand.tmp 38), type := 4, pos := "slots.go:33", after := #[{ on := 2, ground := Ground.data }], guard := none } ?_ (fun _ => hHeld) rfl (by kernel_rfl) (fun _ _ _ h => h) (by rfl) ?_ ?_
        rotate_left
        · intro w; go_simp; try with_reducible rfl
        try simp only [Act.put, List.setIfInBounds_toArray, List.set_cons_zero, List.set_cons_succ]
        refine Kt.G.takeP 4 { dst := some 40, op := Op.move (Operand.tmp 39), type := 4, pos := "slots.go:33", after := #[{ on := 3, ground := Ground.data }, { on := 2, ground := Ground.chain }], guard := none } ?_ (fun _ => hHeld) rfl (by kernel_rfl) (fun _ _ _ h => h) (by rfl) ?_ ?_
        rotate_left
        · intro w; go_simp; try with_reducible rfl
        try simp only [Act.put, List.setIfInBounds_toArray, List.set_cons_zero, List.set_cons_succ]
        refine Kt.G.takeP 5 { dst := some 41, op := Op.fieldAddr 24 (Operand.tmp 5) 2, type := 0, pos := "slots.go:33", after := #[{ on := 4, ground := Ground.guard }], guard := some (4, false) } ?_ (fun _ => hHeld) rfl (by kernel_rfl) (fun _ _ _ h => h) (by rfl) ?_ ?_
        rotate_left
        · intro w; go_simp; try with_reducible rfl
        try simp only [Act.put, List.setIfInBounds_toArray, List.set_cons_zero, List.set_cons_succ]
        refine Kt.G.takeP 6 { dst := some 42, op := Op.indexAddr 22 (Operand.tmp 41) (Operand.const (Value.int IntKind.i64 0)), type := 0, pos := "slots.go:33", after := #[{ on := 5, ground := Ground.data }, { on := 4, ground := Ground.guard }], guard := some (4, false) } ?_ (fun _ => hHeld) rfl (by kernel_rfl) (fun _ _ _ h => h) (by rfl) ?_ ?_
        rotate_left
        · intro w; go_simp; try with_reducible rfl
        try simp only [Act.put, List.setIfInBounds_toArray, List.set_cons_zero, List.set_cons_succ]
        refine Kt.G.take 7 { dst := some 43, op := Op.load 3 (Operand.tmp 42), type := 3, pos := "slots.go:33", after := #[{ on := 6, ground := Ground.data }, { on := 4, ground := Ground.guard }], guard := some (4, false) } ?_ hHeld rfl (by kernel_rfl) (fun _ _ _ h => h) (by rfl) ?_ ?_
        rotate_left
        · intro x hSx; have qc := hSx.2.cell 2 (by omega); rw [HE0.out] at qc; go_simp; try with_reducible rfl
        try simp only [Act.put, List.setIfInBounds_toArray, List.set_cons_zero, List.set_cons_succ]
        refine Kt.G.takeP 8 { dst := some 44, op := Op.binOp BinOp.neq 3 (Operand.tmp 43) (Operand.const (Value.int IntKind.i64 0)) 3, type := 4, pos := "slots.go:33", after := #[{ on := 7, ground := Ground.data }, { on := 4, ground := Ground.guard }], guard := some (4, false) } ?_ (fun _ => hHeld) rfl (by kernel_rfl) (fun _ _ _ h => h) (by rfl) ?_ ?_
        rotate_left
        · intro w; go_simp; try with_reducible rfl
        try simp only [Act.put, List.setIfInBounds_toArray, List.set_cons_zero, List.set_cons_succ]
        refine Kt.G.takeP 9 { dst := some 45, op := Op.pick (Operand.tmp 40) (Operand.const (Value.bool true)) (Operand.tmp 44), type := 4, pos := "slots.go:33", after := #[{ on := 4, ground := Ground.data }, { on := 8, ground := Ground.data }], guard := none } ?_ (fun _ => hHeld) rfl (by kernel_rfl) (fun _ _ _ h => h) (by rfl) ?_ ?_
        rotate_left
        · intro w; go_simp; try with_reducible rfl
        try simp only [Act.put, List.setIfInBounds_toArray, List.set_cons_zero, List.set_cons_succ]
        refine Kt.G.takeP 10 { dst := some 46, op := Op.move (Operand.tmp 45), type := 4, pos := "slots.go:33", after := #[{ on := 9, ground := Ground.data }, { on := 4, ground := Ground.chain }], guard := none } ?_ (fun _ => hHeld) rfl (by kernel_rfl) (fun _ _ _ h => h) (by rfl) ?_ ?_
        rotate_left
        · intro w; go_simp; try with_reducible rfl
        try simp only [Act.put, List.setIfInBounds_toArray, List.set_cons_zero, List.set_cons_succ]
        refine Kt.G.takeP 11 { dst := some 47, op := Op.fieldAddr 24 (Operand.tmp 5) 2, type := 0, pos := "slots.go:33", after := #[{ on := 10, ground := Ground.guard }], guard := some (10, false) } ?_ (fun _ => hHeld) rfl (by kernel_rfl) (fun _ _ _ h => h) (by rfl) ?_ ?_
        rotate_left
        · intro w; go_simp; try with_reducible rfl
        try simp only [Act.put, List.setIfInBounds_toArray, List.set_cons_zero, List.set_cons_succ]
        refine Kt.G.takeP 12 { dst := some 48, op := Op.indexAddr 22 (Operand.tmp 47) (Operand.const (Value.int IntKind.i64 1)), type := 0, pos := "slots.go:33", after := #[{ on := 11, ground := Ground.data }, { on := 10, ground := Ground.guard }], guard := some (10, false) } ?_ (fun _ => hHeld) rfl (by kernel_rfl) (fun _ _ _ h => h) (by rfl) ?_ ?_
        rotate_left
        · intro w; go_simp; try with_reducible rfl
        try simp only [Act.put, List.setIfInBounds_toArray, List.set_cons_zero, List.set_cons_succ]
        refine Kt.G.take 13 { dst := some 49, op := Op.load 3 (Operand.tmp 48), type := 3, pos := "slots.go:33", after := #[{ on := 12, ground := Ground.data }, { on := 10, ground := Ground.guard }], guard := some (10, false) } ?_ hHeld rfl (by kernel_rfl) (fun _ _ _ h => h) (by rfl) ?_ ?_
        rotate_left
        · intro x hSx; have qc := hSx.2.cell 3 (by omega); go_simp; try with_reducible rfl
        try simp only [Act.put, List.setIfInBounds_toArray, List.set_cons_zero, List.set_cons_succ]
        refine Kt.G.takeP 14 { dst := some 50, op := Op.binOp BinOp.eql 3 (Operand.tmp 49) (Operand.const (Value.int IntKind.i64 0)) 3, type := 4, pos := "slots.go:33", after := #[{ on := 13, ground := Ground.data }, { on := 10, ground := Ground.guard }], guard := some (10, false) } ?_ (fun _ => hHeld) rfl (by kernel_rfl) (fun _ _ _ h => h) (by rfl) ?_ ?_
        rotate_left
        · intro w; go_simp; try with_reducible rfl
        try simp only [Act.put, List.setIfInBounds_toArray, List.set_cons_zero, List.set_cons_succ]
        refine Kt.G.takeP 15 { dst := some 51, op := Op.pick (Operand.tmp 46) (Operand.const (Value.bool true)) (Operand.tmp 50), type := 4, pos := "slots.go:33", after := #[{ on := 10, ground := Ground.data }, { on := 14, ground := Ground.data }], guard := none } ?_ (fun _ => hHeld) rfl (by kernel_rfl) (fun _ _ _ h => h) (by rfl) ?_ ?_
        rotate_left
        · intro w; go_simp; try with_reducible rfl
        try simp only [Act.put, List.setIfInBounds_toArray, List.set_cons_zero, List.set_cons_succ]
        refine Kt.G.takeP 16 { dst := some 52, op := Op.move (Operand.tmp 51), type := 4, pos := "slots.go:33", after := #[{ on := 15, ground := Ground.data }, { on := 10, ground := Ground.chain }], guard := none } ?_ (fun _ => hHeld) rfl (by kernel_rfl) (fun _ _ _ h => h) (by rfl) ?_ ?_
        rotate_left
        · intro w; go_simp; try with_reducible rfl
        try simp only [Act.put, List.setIfInBounds_toArray, List.set_cons_zero, List.set_cons_succ]
        refine Kt.G.load_row 17 { dst := some 53, op := Op.load 24 (Operand.tmp 5), type := 24, pos := "slots.go:33", after := #[{ on := 16, ground := Ground.guard }], guard := some (16, false) } 24 (Operand.tmp 5) g 24 (Kt.ia .i64 s) _ hHeld rfl (by kernel_rfl) (fun _ _ _ h => h) (by rfl) rfl rfl (fun _ h => h.2) Try.underlying24 rfl (by rw [Kt.ia_size]; exact hsz) ?_
        try simp only [Act.put, List.setIfInBounds_toArray, List.set_cons_zero, List.set_cons_succ]
        refine Kt.G.takeP 19 { dst := some 55, op := Op.fieldAddr 24 (Operand.tmp 5) 0, type := 0, pos := "slots.go:33", after := #[{ on := 16, ground := Ground.guard }], guard := some (16, false) } ?_ (fun _ => hHeld) rfl (by kernel_rfl) (fun _ _ _ h => h) (by rfl) ?_ ?_
        rotate_left
        · intro w; go_simp; try with_reducible rfl
        try simp only [Act.put, List.setIfInBounds_toArray, List.set_cons_zero, List.set_cons_succ]
        refine Kt.G.take 20 { dst := some 56, op := Op.load 3 (Operand.tmp 55), type := 3, pos := "slots.go:33", after := #[{ on := 19, ground := Ground.data }, { on := 16, ground := Ground.guard }], guard := some (16, false) } ?_ hHeld rfl (by kernel_rfl) (fun _ _ _ h => h) (by rfl) ?_ ?_
        rotate_left
        · intro x hSx; have qc := hSx.2.cell 0 (by omega); go_simp; try with_reducible rfl
        try simp only [Act.put, List.setIfInBounds_toArray, List.set_cons_zero, List.set_cons_succ]
        refine Kt.G.takeP 21 { dst := some 57, op := Op.binOp BinOp.eql 3 (Operand.tmp 56) (Operand.const (Value.int IntKind.i64 3)) 3, type := 4, pos := "slots.go:33", after := #[{ on := 20, ground := Ground.data }, { on := 16, ground := Ground.guard }], guard := some (16, false) } ?_ (fun _ => hHeld) rfl (by kernel_rfl) (fun _ _ _ h => h) (by rfl) ?_ ?_
        rotate_left
        · intro w; go_simp; try with_reducible rfl
        try simp only [Act.put, List.setIfInBounds_toArray, List.set_cons_zero, List.set_cons_succ]
        refine Kt.G.one 18 { dst := some 54, op := Op.call { callee := Callee.value (Operand.func 20), args := #[Operand.tmp 53, Operand.const (Value.int IntKind.i64 2), Operand.const (Value.int IntKind.i64 31)], argTypes := #[24, 3, 3] }, type := 4, pos := "slots.go:33", after := #[{ on := 17, ground := Ground.data }, { on := 16, ground := Ground.chain }, { on := 16, ground := Ground.guard }], guard := some (16, false) } rfl (by kernel_rfl) (by rfl) (fun K hK => ?_)
        go_simp
        refine (HEI.out _).mono ?_; rintro en W3 ⟨rfl, hb⟩
        refine hK.out _ _ (fun _ => ⟨hHeld.1.on hb, hHeld.2.on hb⟩) (fun hHeld => ?_)
        have hHeld := hHeld rfl
        clear hK K
        try simp only [Act.put, List.setIfInBounds_toArray, List.set_cons_zero, List.set_cons_succ]
        refine Kt.G.takeP 22 { dst := some 58, op := Op.binOp BinOp.neq 4 (Operand.tmp 54) (Operand.tmp 57) 4, type := 4, pos := "slots.go:33", after := #[{ on := 18, ground := Ground.data }, { on := 21, ground := Ground.data }, { on := 16, ground := Ground.guard }], guard := some (16, false) } ?_ (fun _ => hHeld) rfl (by kernel_rfl) (fun _ _ _ h => h) (by rfl) ?_ ?_
        rotate_left
        · intro w; go_simp; try with_reducible rfl
        try simp only [Act.put, List.setIfInBounds_toArray, List.set_cons_zero, List.set_cons_succ]
        refine Kt.G.one 23 { dst := some 59, op := Op.pick (Operand.tmp 52) (Operand.const (Value.bool true)) (Operand.tmp 58), type := 4, pos := "slots.go:33", after := #[{ on := 16, ground := Ground.data }, { on := 22, ground := Ground.data }], guard := none } rfl (by kernel_rfl) (by rfl) (fun K hK => ?_)
        go_simp
        refine hK.out _ _ (Kt.G.late (by kernel_rfl)) (fun _ => ?_)
        clear hK K
        try simp only [Act.put, List.setIfInBounds_toArray, List.set_cons_zero, List.set_cons_succ]
        refine Kt.G.done (by kernel_rfl) (NoPanic.normal ?_) _
        have hRx := Lib.hid hHeld.1
        have hB5 := Lib.hid hHeld.2
        clear hHeld HBT HEI hb5 b1
        go_wp2_with fail
        go_loopw [60] (fun ii wr => ∃ k : Nat, Hid (k ≤ 32) ∧ ii = .int .i64 k ∧ wr = W3) (fun ii _ => 32 - (intOf ii).toNat)
        case atStart => exact ⟨0, Lib.hid (by omega), rfl, rfl⟩
        case round =>
          obtain ⟨k, HK, rfl, rfl⟩ := hrel
          by_cases hk : k < 32
          · have hk' : (k : Int) < 32 := by omega
            have hE := HC.out.all k hk
            have HB1 := Lib.hid (fun W => between_true (G s (2 + k)) 0 3 W hE.1 hE.2.1)
            have HB2 := Lib.hid (fun W => between_true (G s (34 + k)) 0 65535 W hE.2.2.1 hE.2.2.2.1)
            have H5 := Lib.hid hE.2.2.2.2
            have c1 := hB5.out.cell (2 + k) (by omega)
            have c2 := hB5.out.cell (34 + k) (by omega)
            clear hE
            generalize G s (2 + k) = e at *
            generalize G s (34 + k) = m at *
            by_cases h0 : e = 0
            · have hm := H5.out h0
              subst h0 hm
              go_wp2_with fail
              refine (HB1.out _).mono ?_
              rintro en W4 ⟨rfl, rfl⟩
              go_wp2_with fail
              refine (HB2.out _).mono ?_
              rintro en W4 ⟨rfl, rfl⟩
              go_wp2_with fail
              exact ⟨⟨k + 1, Lib.hid (by omega), rfl, trivial⟩, next_i hk⟩
            · have f5 : (e == 0) = false := beq_eq_false_iff_ne.2 h0
              clear h0
              go_wp2_with fail
              refine (HB1.out _).mono ?_
              rintro en W4 ⟨rfl, rfl⟩
              go_wp2_with fail
              refine (HB2.out _).mono ?_
              rintro en W4 ⟨rfl, rfl⟩
              go_wp2_with fail
              exact ⟨⟨k + 1, Lib.hid (by omega), rfl, trivial⟩, next_i hk⟩
          · have hk' : ¬ (k : Int) < 32 := by omega
            have hsl := fun W => slots_slice w.heap.size i (by omega) W
            go_wp2_with fail
            have HS1 := Lib.hid HC.out.a1
            clear hsl f3 f4
            go_loopw [96] (fun ii wr => ∃ k : Nat, Hid (k ≤ i) ∧ ii = .int .i64 k ∧ Hid (RB w l wr) ∧ Hid (Bx 24 g s wr)) (fun ii _ => i - (intOf ii).toNat)
            case atStart => exact ⟨0, Lib.hid (by omega), rfl, hRx, hB5⟩
            case round =>
              clear hRx hB5 HK hk hk'
              obtain ⟨k, HK, rfl, hRx, hB5⟩ := hrel
              by_cases hk : k < i
              · have hk' : (k : Int) < i := by omega
                have hr := hRx.out.b0.slot k
                have hsk := at_size l hl k (by omega)
                have hlk := at_len l hl k (by omega)
                have hsz2 : (Try.prog.info? 24).map (·.size) = some (at_ l k).length := by rw [hlk]; exact size_slot
                have hb8 : Bx 24 wr.heap.size (at_ l k) (wr.alloc (.cells (Kt.ia .i64 (at_ l k)) 24)) := heap_alloc_new _ _
                have HR2 := Lib.hid (hRx.out.on (Kt.balloc (Below.refl _ _) (.cells (Kt.ia .i64 (at_ l k)) 24)))
                have HB6 := Lib.hid (hB5.out.on (Kt.balloc (Below.refl _ _) (.cells (Kt.ia .i64 (at_ l k)) 24)))
                have c1 := hb8.cell 1 (by omega)
                have c2 := HB6.out.cell 1 (by omega)
                have f1 : (G (at_ l k) 1 == G s 1) = false := by
                  rw [beq_eq_false_iff_ne, ← HS.out]
                  exact HO.out.apart i k hi hk (by rw [HS.out]; exact HS1.out)
                clear hb8
                generalize at_ l k = sk at *
                generalize G sk 1 = x at *
                go_wp2_with (first
                  | (refine store_new rfl 24 (.tmp 8) (.tmp 99) rfl wr.heap.size rfl rfl sk rfl _ (by rw [Kt.ia_size, hlk]; rfl) hsz2 ?_)
                  | (refine wpList_load_mid rfl 24 (.tmp 98) rfl w.heap.size (k * 66) rfl _ _ hr Try.underlying24 rfl hsk ?_))
                exact ⟨⟨k + 1, Lib.hid (by omega), rfl, HR2, HB6⟩, next_i hk⟩
              · obtain rfl : k = i := by have := HK.out; omega
                go_wp2_with fail
                exact ⟨⟨k + 1, Lib.hid (by omega), rfl, hRx⟩, next_i hi⟩
    · obtain rfl : i = 9 := by have := HI.out; omega
      go_wp2_with fail
      go_ret
      exact ⟨rfl, HR.out.bel⟩
end Go.Proofs.Ytmnfajndklmpbaa
