/- typist: keys.Apply with one key walked. -/
import Derived.Test.YtndkaehbmdiofaaDoorTypD
namespace Go.Proofs.YtndkaehbmdiofaaDoor
open Go.RowKit Go.Proofs.YtndkaehbmdiofaaDoor.Typ
theorem lt_of_row0 {w : World} {b : Nat} {o : Obj} (h : w.heap[b]? = some o) : b < w.heap.size := (Array.getElem?_eq_some_iff.1 h).1
theorem hd0_vs : Hd0.v = .agg #[.int .u64 0, .int .u64 0, .int .u64 0, .int .u64 0] := rfl
theorem set4 {w wr : World} {n B : Nat} (h : Below n w wr) (hB : n ≤ B) (a b c d : Value) : Below n w ((((wr.setCell ⟨B, 0, none⟩ a).setCell ⟨B, 1, none⟩ b).setCell ⟨B, 2, none⟩ c).setCell ⟨B, 3, none⟩ d) :=
  (((h.setCell (p := ⟨B, 0, none⟩) hB a).setCell (p := ⟨B, 1, none⟩) hB b).setCell (p := ⟨B, 2, none⟩) hB c).setCell (p := ⟨B, 3, none⟩) hB d
structure Ap (w0 : World) (h : Hd) (c : Int) (d : Bool) (W : World) : Prop where
  r0 : W.heap[w0.heap.size]? = some (.cells h.vs 35 (0, 0))
  r1 : W.heap[w0.heap.size + 1]? = some (.cells #[.int .u64 0, .int .u64 0, .int .u64 0, .int .u64 0] 35 (0, 0))
  r2 : W.heap[w0.heap.size + 1 + 1]? = some (.cells #[.int .i64 c, .bool d] 29 (0, 0))
  bel : Below w0.heap.size w0 W
theorem Ap.on {w0 : World} {h : Hd} {c : Int} {d : Bool} {W W' : World} (a : Ap w0 h c d W) (hb : Below W.heap.size W W') : Ap w0 h c d W' := ⟨Kt.row_on hb a.r0, Kt.row_on hb a.r1, Kt.row_on hb a.r2, Kt.bthen a.bel hb⟩
theorem Ap.start (w0 : World) (h : Hd) (c : Int) (d : Bool) : Ap w0 h c d (((w0.alloc (.cells h.vs 35)).alloc (.cells #[.int .u64 0, .int .u64 0, .int .u64 0, .int .u64 0] 35)).alloc (.cells #[.int .i64 c, .bool d] 29)) := by
  have e1 : ((w0.alloc (.cells h.vs 35)).alloc (.cells #[.int .u64 0, .int .u64 0, .int .u64 0, .int .u64 0] 35)).heap.size = w0.heap.size + 2 := by simp
  have h2 := heap_alloc_new ((w0.alloc (.cells h.vs 35)).alloc (.cells #[.int .u64 0, .int .u64 0, .int .u64 0, .int .u64 0] 35)) (.cells #[.int .i64 c, .bool d] 29)
  rw [e1] at h2
  refine ⟨?_, ?_, h2, Kt.balloc (Kt.balloc (Kt.balloc (Below.refl _ _) _) _) _⟩
  · exact (Below.heap_alloc _ _ _ (by rw [e1]; omega)).trans ((Below.heap_alloc _ _ _ (by simp)).trans (heap_alloc_new w0 _))
  · refine (Below.heap_alloc _ _ _ (by rw [e1]; omega)).trans ?_
    have := heap_alloc_new (w0.alloc (.cells h.vs 35)) (.cells #[.int .u64 0, .int .u64 0, .int .u64 0, .int .u64 0] 35)
    rwa [World.size_alloc] at this
set_option maxRecDepth 100000 in
set_option maxHeartbeats 3200000 in
theorem apply1_calls (h : Hd) (c : Int) (d : Bool) (K : Nat) (w0 : World) (hrow : w0.heap[K]? = some (.cells #[.int .i64 c, .bool d] 29 (0, 0))) :
    Calls Tryd.prog 28 #[h.v, .slice (some ⟨K, 0, none⟩) 1 1] w0 fun e w' => e = .returned (.tuple #[(app1 h c d).1.v, .int .i64 (app1 h c d).2]) ∧ Below w0.heap.size w0 w' := by
  obtain ⟨R1, R2, hR⟩ : ∃ a b, app1 h c d = (a, b) := ⟨_, _, rfl⟩
  have HR := Lib.hid hR
  rw [hR]
  have HS := Lib.hid (Ap.start w0 h c d)
  have hK := lt_of_row0 hrow
  have qk := fun i => cell_of_row _ _ i _ _ _ hrow
  clear hR hrow
  unfold Hd.v Hd.vs at *
  go_enter Tryd.func28, Tryd.ntmps28
  go_wp2_with fail
  refine wp_loop_rounds 2 ?_
  rw [rounds_succ]
  go_upto_region 4 with (fail)
  refine Kt.fold (fun X => Hid (Ap w0 h c d X)) HS (fun W1 HA => ?_)
  clear HS qk
  have p0 := HA.out.r0
  unfold Hd.vs at p0
  have q0 := fun i => cell_of_row _ _ i _ _ _ p0
  have q1 := fun i => cell_of_row _ _ i _ _ _ HA.out.r1
  have f1 := fun i => frozen_of_row _ _ i _ _ HA.out.r1
  have q2 := fun i => cell_of_row _ _ i _ _ _ HA.out.r2
  clear p0
  have hcs : c < 4 ∨ (4 ≤ c ∧ 255 < c) ∨ (4 ≤ c ∧ c ≤ 255) := by omega
  rcases hcs with h4 | ⟨h4, h5⟩ | ⟨h4, h5⟩
  · have hr : app1 h c d = (Hd0, 1) := by unfold app1; rw [if_pos (.inl h4)]
    rw [HR.out] at hr
    cases hr
    clear HR q0
    go_wp2_with fail
    exact bodyPost_ret (v := .tuple #[.agg #[.int .u64 0, .int .u64 0, .int .u64 0, .int .u64 0], .int .i64 1]) (by simp [q1, results, Tryd.results28, go_sem]) rfl ⟨rfl, set4 HA.out.bel (Nat.le_succ _) _ _ _ _⟩
  · have hr : app1 h c d = (Hd0, 1) := by unfold app1; rw [if_pos (.inr h5)]
    rw [HR.out] at hr
    cases hr
    clear HR q0
    go_wp2_with fail
    exact bodyPost_ret (v := .tuple #[.agg #[.int .u64 0, .int .u64 0, .int .u64 0, .int .u64 0], .int .i64 1]) (by simp [q1, results, Tryd.results28, go_sem]) rfl ⟨rfl, set4 HA.out.bel (Nat.le_succ _) _ _ _ _⟩
  · obtain ⟨n, hn⟩ : ∃ n : Nat, c.toNat = n := ⟨_, rfl⟩
    have hcn : c = n := by omega
    have HC := Lib.hid (fun W => has_calls h n (by omega) W)
    have HFL := Lib.hid (fun G W => flip_calls h n G (by omega) W)
    rw [← hcn] at HC HFL
    obtain ⟨b, hb⟩ : ∃ b, h.has n = b := ⟨_, rfl⟩
    rw [hb] at HC
    have hr : app1 h c d = if b = d then (Hd0, 13) else (h.flip n, 0) := by unfold app1; rw [if_neg (by omega), hn, hb]
    rw [HR.out] at hr
    have HR2 := Lib.hid hr
    clear hr HR hb hcn hn
    unfold Hd.v Hd.vs at HC
    go_upto_region 6 with (fail)
    go_cut [24] from 25 to 31 (fun v wx => v = .bool (b == d) ∧ Below W1.heap.size W1 wx)
    case first =>
      -- REGION 6
      have HF := ((Kt.Fb.nil W1 (Below.refl _ _)).add HA.out.r2).add HA.out.r0
      refine Kt.G.start 7 (Kt.Fb W1 [(w0.heap.size, #[.int .u64 (h.a.toNat : Int), .int .u64 (h.b.toNat : Int), .int .u64 (h.c.toNat : Int), .int .u64 (h.d.toNat : Int)], 35), (w0.heap.size + 1 + 1, #[.int .i64 c, .bool d], 29)]) (by kernel_rfl) HF.drew (fun hHeld => ?_)
      clear HF
      generalize W1.drew = x0 at *
      refine Kt.G.take 0 { dst := some 25, op := Op.load 35 (Operand.tmp 2), type := 35, pos := "keys.go:104", after := #[], guard := none } ?_ hHeld rfl (by kernel_rfl) (fun _ _ _ h => h) (by rfl) ?_ ?_
      rotate_left
      · intro w hSw; have r0 := hSw.row (w0.heap.size, #[.int .u64 (h.a.toNat : Int), .int .u64 (h.b.toNat : Int), .int .u64 (h.c.toNat : Int), .int .u64 (h.d.toNat : Int)], 35) (by simp); have c0 := fun i => cell_of_row _ _ i _ _ _ r0; have r1 := hSw.row (w0.heap.size + 1 + 1, #[.int .i64 c, .bool d], 29) (by simp); have c1 := fun i => cell_of_row _ _ i _ _ _ r1; dsimp only at *; go_simp; try with_reducible rfl
      try simp only [Act.put, List.setIfInBounds_toArray, List.set_cons_zero, List.set_cons_succ]
      refine Kt.G.takeP 1 { dst := some 26, op := Op.fieldAddr 29 (Operand.tmp 7) 0, type := 0, pos := "keys.go:104", after := #[], guard := none } ?_ (fun _ => hHeld) rfl (by kernel_rfl) (fun _ _ _ h => h) (by rfl) ?_ ?_
      rotate_left
      · intro w; go_simp; try with_reducible rfl
      try simp only [Act.put, List.setIfInBounds_toArray, List.set_cons_zero, List.set_cons_succ]
      refine Kt.G.take 2 { dst := some 27, op := Op.load 3 (Operand.tmp 26), type := 3, pos := "keys.go:104", after := #[{ on := 1, ground := Ground.data }], guard := none } ?_ hHeld rfl (by kernel_rfl) (fun _ _ _ h => h) (by rfl) ?_ ?_
      rotate_left
      · intro w hSw; have r0 := hSw.row (w0.heap.size, #[.int .u64 (h.a.toNat : Int), .int .u64 (h.b.toNat : Int), .int .u64 (h.c.toNat : Int), .int .u64 (h.d.toNat : Int)], 35) (by simp); have c0 := fun i => cell_of_row _ _ i _ _ _ r0; have r1 := hSw.row (w0.heap.size + 1 + 1, #[.int .i64 c, .bool d], 29) (by simp); have c1 := fun i => cell_of_row _ _ i _ _ _ r1; dsimp only at *; go_simp; try with_reducible rfl
      try simp only [Act.put, List.setIfInBounds_toArray, List.set_cons_zero, List.set_cons_succ]
      refine Kt.G.takeP 4 { dst := some 29, op := Op.fieldAddr 29 (Operand.tmp 7) 1, type := 0, pos := "keys.go:104", after := #[], guard := none } ?_ (fun _ => hHeld) rfl (by kernel_rfl) (fun _ _ _ h => h) (by rfl) ?_ ?_
      rotate_left
      · intro w; go_simp; try with_reducible rfl
      try simp only [Act.put, List.setIfInBounds_toArray, List.set_cons_zero, List.set_cons_succ]
      refine Kt.G.take 5 { dst := some 30, op := Op.load 4 (Operand.tmp 29), type := 4, pos := "keys.go:104", after := #[{ on := 4, ground := Ground.data }], guard := none } ?_ hHeld rfl (by kernel_rfl) (fun _ _ _ h => h) (by rfl) ?_ ?_
      rotate_left
      · intro w hSw; have r0 := hSw.row (w0.heap.size, #[.int .u64 (h.a.toNat : Int), .int .u64 (h.b.toNat : Int), .int .u64 (h.c.toNat : Int), .int .u64 (h.d.toNat : Int)], 35) (by simp); have c0 := fun i => cell_of_row _ _ i _ _ _ r0; have r1 := hSw.row (w0.heap.size + 1 + 1, #[.int .i64 c, .bool d], 29) (by simp); have c1 := fun i => cell_of_row _ _ i _ _ _ r1; dsimp only at *; go_simp; try with_reducible rfl
      try simp only [Act.put, List.setIfInBounds_toArray, List.set_cons_zero, List.set_cons_succ]
      refine Kt.G.one 3 { dst := some 28, op := Op.call { callee := Callee.value (Operand.func 33), args := #[Operand.tmp 25, Operand.tmp 27], argTypes := #[35, 3] }, type := 4, pos := "keys.go:104", after := #[{ on := 0, ground := Ground.data }, { on := 2, ground := Ground.data }], guard := none } rfl (by kernel_rfl) (by rfl) (fun K hK => ?_)
      go_simp
      refine (HC.out _).mono ?_; rintro en x3 ⟨rfl, hx3⟩
      have hb3 : Below x0.heap.size x0 x3 := by rw [hx3]; exact Kt.balloc (Below.refl _ _) _
      refine hK.out _ _ (fun _ => hHeld.on hb3) (fun hHeld => ?_)
      have hHeld := hHeld rfl
      clear hK K
      try simp only [Act.put, List.setIfInBounds_toArray, List.set_cons_zero, List.set_cons_succ]
      clear hx3 hb3
      refine Kt.G.takeP 6 { dst := some 31, op := Op.binOp BinOp.eql 4 (Operand.tmp 28) (Operand.tmp 30) 4, type := 4, pos := "keys.go:104", after := #[{ on := 3, ground := Ground.data }, { on := 5, ground := Ground.data }], guard := none } ?_ (fun _ => hHeld) rfl (by kernel_rfl) (fun _ _ _ h => h) (by rfl) ?_ ?_
      rotate_left
      · intro w; go_simp; try with_reducible rfl
      try simp only [Act.put, List.setIfInBounds_toArray, List.set_cons_zero, List.set_cons_succ]
      refine Kt.G.one 7 { dst := some 24, op := Op.assign (Operand.tmp 31), type := 4, pos := "keys.go:104", after := #[{ on := 6, ground := Ground.data }, { on := 3, ground := Ground.chain }], guard := none } rfl (by kernel_rfl) (by rfl) (fun K hK => ?_)
      go_simp
      have hBE := hHeld.bel
      refine hK.out _ _ (Kt.G.late (by kernel_rfl)) (fun _ => ?_)
      clear hK K
      try simp only [Act.put, List.setIfInBounds_toArray, List.set_cons_zero, List.set_cons_succ]
      refine Kt.G.done (by kernel_rfl) (NoPanic.normal ?_) _
      go_wp2_with fail
      go_meet
      case rel =>
        exact ⟨rfl, hBE⟩
      -- END 6
    case rest =>
      obtain ⟨rfl, hbw⟩ := hcut
      have HA2 := Lib.hid (HA.out.on hbw)
      clear hbw HA q0 q1 f1 q2 HC
      by_cases hbd : b = d
      · have hb' : (b == d) = true := by rw [beq_iff_eq]; exact hbd
        rw [hb']
        have hr := HR2.out
        rw [if_pos hbd] at hr
        cases hr
        have q1 := fun i => cell_of_row _ _ i _ _ _ HA2.out.r1
        have f1 := fun i => frozen_of_row _ _ i _ _ HA2.out.r1
        clear hb' hbd HR2 HFL
        go_wp2_with fail
        exact bodyPost_ret (v := .tuple #[.agg #[.int .u64 0, .int .u64 0, .int .u64 0, .int .u64 0], .int .i64 13]) (by simp [q1, results, Tryd.results28, go_sem]) rfl ⟨rfl, set4 HA2.out.bel (Nat.le_succ _) _ _ _ _⟩
      · have hb' : (b == d) = false := by rw [beq_eq_false_iff_ne]; exact hbd
        rw [hb']
        have hr := HR2.out
        rw [if_neg hbd] at hr
        cases hr
        have q2 := fun i => cell_of_row _ _ i _ _ _ HA2.out.r2
        clear hb' hbd HR2
        go_wp2_with fail
        refine (HFL.out _ _ HA2.out.r0).mono ?_
        rintro e w3 ⟨rfl, hrow, hb, hoth⟩
        have hr1 := (hoth (w0.heap.size + 1) (by omega)).trans HA2.out.r1
        have hbb := HA2.out.bel.trans hb
        unfold Hd.vs at hrow
        have q0 := fun i => cell_of_row _ _ i _ _ _ hrow
        have q1 := fun i => cell_of_row _ _ i _ _ _ hr1
        have f1 := fun i => frozen_of_row _ _ i _ _ hr1
        have HBB := Lib.hid hbb
        clear hrow hb hoth hr1 hbb q2 HA2 HFL
        go_wp2_with fail
        rw [rounds_succ]
        go_wp2_with fail
        exact bodyPost_ret (v := .tuple #[(h.flip n).v, .int .i64 0]) (by simp [Hd.v, Hd.vs, q1, results, Tryd.results28, go_sem]) rfl ⟨rfl, set4 HBB.out (Nat.le_succ _) _ _ _ _⟩
end Go.Proofs.YtndkaehbmdiofaaDoor
