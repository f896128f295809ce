/- The walks of package pipe: Step, where it goes well. -/
import Derived.Test.YtafiedhjjnapoaaPipW
namespace Go.Proofs.Ytafiedhjjnapoaa
open Go.RowKit
set_option maxRecDepth 100000 in
set_option maxHeartbeats 1600000 in
theorem step_still (V : Value) (p : St) (f : Int) (w : World) (hp : PA w V p) (h1 : p.s = 0 ∨ p.s = 1) (h2 : p.t = 0 ∨ p.t = 1) (h3 : 1 ≤ f ∧ f ≤ 5) (h4 : p.ls.length ≤ 200) (h5 : p.gs.length ≤ 200) (hc0 : ((p.ls.length : Int) == 0) = true ∨ (((p.ls.length : Int) == 0) = false ∧ (f != 1) = true ∧ (f != 3) = true)) :
    Calls Try.prog 72 #[V, .int .i64 f] w (Gives w p) := by
  obtain ⟨L, G, rfl, hL, hG⟩ := hp
  have hLA := hL
  obtain ⟨LA, lc, rfl, _, _⟩ := hL.form
  obtain ⟨GA, gc, rfl, _, _⟩ := hG.form
  have h4i : (p.ls.length : Int) ≤ 200 := by omega
  have h5i : (p.gs.length : Int) ≤ 200 := by omega
  have hs0 : 0 ≤ p.s := by rcases h1 with h | h <;> rw [h] <;> decide
  have hs1 : p.s ≤ 1 := by rcases h1 with h | h <;> rw [h] <;> decide
  have ht0 : 0 ≤ p.t := by rcases h2 with h | h <;> rw [h] <;> decide
  have ht1 : p.t ≤ 1 := by rcases h2 with h | h <;> rw [h] <;> decide
  go_enter Try.func72, Try.ntmps72
  go_wp2_with (first | (go_at_call 78; (with_reducible refine (bit_true p.s h1 _).mono ?_); rintro en w' ⟨rfl, rfl⟩) | (go_at_call 78; (with_reducible refine (bit_true p.t h2 _).mono ?_); rintro en w' ⟨rfl, rfl⟩) | (go_at_call 79; (with_reducible refine (known_true f h3 _).mono ?_); rintro en w' ⟨rfl, rfl⟩))
  have hrow0 := heap_alloc2_old w (.cells #[.int .i64 p.s, .int .i64 p.t, .slice LA p.ls.length lc, .slice GA p.gs.length gc] 121) (.cells #[.int .i64 0, .int .i64 0, .slice none 0 0, .slice none 0 0] 121)
  have hrow1 := heap_alloc2_new w (.cells #[.int .i64 p.s, .int .i64 p.t, .slice LA p.ls.length lc, .slice GA p.gs.length gc] 121) (.cells #[.int .i64 0, .int .i64 0, .slice none 0 0, .slice none 0 0] 121)
  have hB0 := Kt.balloc (Kt.balloc (Below.refl _ w) (.cells #[.int .i64 p.s, .int .i64 p.t, .slice LA p.ls.length lc, .slice GA p.gs.length gc] 121)) (.cells #[.int .i64 0, .int .i64 0, .slice none 0 0, .slice none 0 0] 121)
  generalize ((w.alloc (.cells #[.int .i64 p.s, .int .i64 p.t, .slice LA p.ls.length lc, .slice GA p.gs.length gc] 121)).alloc (.cells #[.int .i64 0, .int .i64 0, .slice none 0 0, .slice none 0 0] 121)) = W0 at *
  have HF := (((Kt.Fb.nil w hB0).add hrow1).add hrow0).drew
  refine Kt.G.start 7 (Kt.Fb w [(w.heap.size, #[.int .i64 p.s, .int .i64 p.t, .slice LA p.ls.length lc, .slice GA p.gs.length gc], 121), (w.heap.size + 1, #[.int .i64 0, .int .i64 0, .slice none 0 0, .slice none 0 0], 121)]) (by kernel_rfl) HF (fun hHeld => ?_)
  refine Kt.G.takeP 0 { dst := some 38, op := Op.fieldAddr 121 (Operand.tmp 2) 2, type := 0, pos := "pipe.go:29", after := #[], guard := none } ?_ (fun _ => hHeld) rfl (by kernel_rfl) (fun _ _ _ h => h) (by rfl) ?_ ?_
  rotate_left
  · intro w; go_simp; try with_reducible rfl
  try simp only [Act.put, List.setIfInBounds_toArray, List.set_cons_zero, List.set_cons_succ]
  refine Kt.G.take 1 { dst := some 39, op := Op.load 22 (Operand.tmp 38), type := 22, pos := "pipe.go:29", after := #[{ on := 0, ground := Ground.data }], guard := none } ?_ hHeld rfl (by kernel_rfl) (fun _ _ _ h => h) (by rfl) ?_ ?_
  rotate_left
  · intro w hSw; have r0 := hSw.row _ (List.Mem.head _); have c0 := fun i => cell_of_row _ _ i _ _ _ r0; have r1 := hSw.row _ (List.Mem.tail _ (List.Mem.head _)); have c1 := fun i => cell_of_row _ _ i _ _ _ r1; dsimp only at *; go_simp; try with_reducible rfl
  try simp only [Act.put, List.setIfInBounds_toArray, List.set_cons_zero, List.set_cons_succ]
  refine Kt.G.takeP 3 { dst := some 41, op := Op.fieldAddr 121 (Operand.tmp 2) 3, type := 0, pos := "pipe.go:29", after := #[], guard := none } ?_ (fun _ => hHeld) rfl (by kernel_rfl) (fun _ _ _ h => h) (by rfl) ?_ ?_
  rotate_left
  · intro w; go_simp; try with_reducible rfl
  try simp only [Act.put, List.setIfInBounds_toArray, List.set_cons_zero, List.set_cons_succ]
  refine Kt.G.take 4 { dst := some 42, op := Op.load 22 (Operand.tmp 41), type := 22, pos := "pipe.go:29", after := #[{ on := 3, ground := Ground.data }], guard := none } ?_ hHeld rfl (by kernel_rfl) (fun _ _ _ h => h) (by rfl) ?_ ?_
  rotate_left
  · intro w hSw; have r0 := hSw.row _ (List.Mem.head _); have c0 := fun i => cell_of_row _ _ i _ _ _ r0; have r1 := hSw.row _ (List.Mem.tail _ (List.Mem.head _)); have c1 := fun i => cell_of_row _ _ i _ _ _ r1; dsimp only at *; go_simp; try with_reducible rfl
  try simp only [Act.put, List.setIfInBounds_toArray, List.set_cons_zero, List.set_cons_succ]
  refine Kt.G.one 2 { dst := some 40, op := Op.call { callee := Callee.value (Operand.func 20), args := #[Operand.tmp 39], argTypes := #[22] }, type := 22, pos := "pipe.go:29", after := #[{ on := 1, ground := Ground.data }], guard := none } rfl (by kernel_rfl) (by rfl) (fun K hK => ?_)
  go_simp
  refine (clone_calls _ _ _ _ (hL.on hHeld.bel) (sts_one _) (by omega)).mono ?_; rintro en x2 ⟨MA, Mc, rfl, hsM, hb2⟩
  have hz2 := hHeld.lt (List.Mem.tail _ (List.Mem.head _)); dsimp only at hz2
  have hsM0 := hsM
  refine hK.out _ _ (fun _ => hHeld.on hb2) (fun hHeld => ?_)
  have hHeld := hHeld rfl
  clear hK K
  try simp only [Act.put, List.setIfInBounds_toArray, List.set_cons_zero, List.set_cons_succ]
  refine Kt.G.takeP 6 { dst := some 44, op := Op.fieldAddr 121 (Operand.tmp 2) 2, type := 0, pos := "pipe.go:29", after := #[{ on := 0, ground := Ground.phase }, { on := 1, ground := Ground.phase }, { on := 2, ground := Ground.phase }, { on := 3, ground := Ground.phase }, { on := 4, ground := Ground.phase }, { on := 5, ground := Ground.textOnly Departure.lateStoresUnsure }], guard := none } ?_ (fun _ => hHeld) rfl (by kernel_rfl) (fun _ _ _ h => h) (by rfl) ?_ ?_
  rotate_left
  · intro w; go_simp; try with_reducible rfl
  try simp only [Act.put, List.setIfInBounds_toArray, List.set_cons_zero, List.set_cons_succ]
  refine Kt.G.one 5 { dst := some 43, op := Op.call { callee := Callee.value (Operand.func 20), args := #[Operand.tmp 42], argTypes := #[22] }, type := 22, pos := "pipe.go:29", after := #[{ on := 4, ground := Ground.data }, { on := 2, ground := Ground.chain }], guard := none } rfl (by kernel_rfl) (by rfl) (fun K hK => ?_)
  go_simp
  refine (clone_calls _ _ _ _ (hG.on hHeld.bel) (sts_one _) (by omega)).mono ?_; rintro en x5 ⟨NA, Nc, rfl, hsN, hb5⟩
  have hz5 := hHeld.lt (List.Mem.tail _ (List.Mem.head _)); dsimp only at hz5
  have hsM := hsM.on hb5
  refine hK.out _ _ (fun _ => hHeld.on hb5) (fun hHeld => ?_)
  have hHeld := hHeld rfl
  clear hK K
  try simp only [Act.put, List.setIfInBounds_toArray, List.set_cons_zero, List.set_cons_succ]
  refine Kt.G.one 7 { dst := none, op := Op.store 22 (Operand.tmp 44) (Operand.tmp 40), type := 0, pos := "pipe.go:29", after := #[{ on := 6, ground := Ground.data }, { on := 2, ground := Ground.data }, { on := 5, ground := Ground.chain }, { on := 0, ground := Ground.phase }, { on := 1, ground := Ground.phase }, { on := 2, ground := Ground.phase }, { on := 3, ground := Ground.phase }, { on := 4, ground := Ground.phase }, { on := 5, ground := Ground.textOnly Departure.lateStoresUnsure }], guard := none } rfl (by kernel_rfl) (by rfl) (fun K hK => ?_)
  have r0 := hHeld.row _ (List.Mem.head _); have c0 := fun i => cell_of_row _ _ i _ _ _ r0; have f0 := fun i => frozen_of_row _ _ i _ _ r0
  dsimp only at r0 c0 f0
  go_simp
  refine hK.out _ _ (Kt.G.late (by kernel_rfl)) (fun _ => ?_)
  clear hK K
  try simp only [Act.put, List.setIfInBounds_toArray, List.set_cons_zero, List.set_cons_succ]
  have q1 := heap_setCell_same x5 w.heap.size 2 _ _ (.slice MA p.ls.length Mc) r0
  have bq1 := Kt.bset (hHeld.bel) (p := ⟨w.heap.size, 2, none⟩) (Nat.le_refl _) (.slice MA p.ls.length Mc)
  clear r0 c0 f0
  refine Kt.G.takeP 8 { dst := some 45, op := Op.fieldAddr 121 (Operand.tmp 2) 3, type := 0, pos := "pipe.go:29", after := #[{ on := 0, ground := Ground.phase }, { on := 1, ground := Ground.phase }, { on := 2, ground := Ground.phase }, { on := 3, ground := Ground.phase }, { on := 4, ground := Ground.phase }, { on := 5, ground := Ground.phase }, { on := 6, ground := Ground.phase }, { on := 7, ground := Ground.phase }], guard := none } ?_ (Kt.G.late (by kernel_rfl)) rfl (by kernel_rfl) (fun _ _ _ h => h) (by rfl) ?_ ?_
  rotate_left
  · intro w; go_simp; try with_reducible rfl
  try simp only [Act.put, List.setIfInBounds_toArray, List.set_cons_zero, List.set_cons_succ]
  refine Kt.G.one 9 { dst := none, op := Op.store 22 (Operand.tmp 45) (Operand.tmp 43), type := 0, pos := "pipe.go:29", after := #[{ on := 8, ground := Ground.data }, { on := 5, ground := Ground.data }, { on := 7, ground := Ground.chain }, { on := 0, ground := Ground.phase }, { on := 1, ground := Ground.phase }, { on := 2, ground := Ground.phase }, { on := 3, ground := Ground.phase }, { on := 4, ground := Ground.phase }, { on := 5, ground := Ground.phase }, { on := 6, ground := Ground.phase }, { on := 7, ground := Ground.phase }], guard := none } rfl (by kernel_rfl) (by rfl) (fun K hK => ?_)
  have c1 := fun i => cell_of_row _ _ i _ _ _ q1; have f1 := fun i => frozen_of_row _ _ i _ _ q1
  try dsimp only at q1 c1 f1
  go_simp
  refine hK.out _ _ (Kt.G.late (by kernel_rfl)) (fun _ => ?_)
  clear hK K
  try simp only [Act.put, List.setIfInBounds_toArray, List.set_cons_zero, List.set_cons_succ]
  have q2 := heap_setCell_same _ w.heap.size 3 _ _ (.slice NA p.gs.length Nc) q1
  have bq2 := Kt.bset bq1 (p := ⟨w.heap.size, 3, none⟩) (Nat.le_refl _) (.slice NA p.gs.length Nc)
  clear c1 f1 q1 bq1
  refine Kt.G.done (by kernel_rfl) (NoPanic.normal ?_) _
  have hrow : ((x5.setCell ⟨w.heap.size, 2, none⟩ (.slice MA p.ls.length Mc)).setCell ⟨w.heap.size, 3, none⟩ (.slice NA p.gs.length Nc)).heap[w.heap.size]? = some (.cells #[.int .i64 p.s, .int .i64 p.t, .slice MA p.ls.length Mc, .slice NA p.gs.length Nc] 121 (0, 0)) := q2
  have hrowz : ((x5.setCell ⟨w.heap.size, 2, none⟩ (.slice MA p.ls.length Mc)).setCell ⟨w.heap.size, 3, none⟩ (.slice NA p.gs.length Nc)).heap[w.heap.size + 1]? = _ := (heap_setCell_other _ _ _ _ (by simp)).trans ((heap_setCell_other _ _ _ _ (by simp)).trans (hHeld.row _ (List.Mem.tail _ (List.Mem.head _))))
  have hMn : ∀ k, (Value.slice MA p.ls.length Mc).ownBlock = some k → w.heap.size + 1 < k ∧ k < x2.heap.size := fun k hk => by have := (hsM0.lt k hk); omega
  have hNn : ∀ k, (Value.slice NA p.gs.length Nc).ownBlock = some k → x2.heap.size ≤ k ∧ k < x5.heap.size := fun k hk => hsN.lt k hk
  have slM : Kt.Sl ((x5.setCell ⟨w.heap.size, 2, none⟩ (.slice MA p.ls.length Mc)).setCell ⟨w.heap.size, 3, none⟩ (.slice NA p.gs.length Nc)) w.heap.size 9 1 _ _ _ := (hsM.mono (by omega)).keep fun k hk => (heap_setCell_other _ _ _ _ (by have := (hMn k hk).1; simp; omega)).trans (heap_setCell_other _ _ _ _ (by have := (hMn k hk).1; simp; omega))
  have slN : Kt.Sl ((x5.setCell ⟨w.heap.size, 2, none⟩ (.slice MA p.ls.length Mc)).setCell ⟨w.heap.size, 3, none⟩ (.slice NA p.gs.length Nc)) x2.heap.size 9 1 _ _ _ := hsN.keep fun k hk => (heap_setCell_other _ _ _ _ (by have := (hNn k hk).1; simp; omega)).trans (heap_setCell_other _ _ _ _ (by have := (hNn k hk).1; simp; omega))
  have hnb : w.heap.size + 1 < x2.heap.size := hz5
  have hns : x2.heap.size ≤ ((x5.setCell ⟨w.heap.size, 2, none⟩ (.slice MA p.ls.length Mc)).setCell ⟨w.heap.size, 3, none⟩ (.slice NA p.gs.length Nc)).heap.size := by have := hb5.size; simpa [World.setCell] using this
  generalize ((x5.setCell ⟨w.heap.size, 2, none⟩ (.slice MA p.ls.length Mc)).setCell ⟨w.heap.size, 3, none⟩ (.slice NA p.gs.length Nc)) = W9 at *
  clear q2 hHeld hb5 hb2 hz5 hz2 hsM hsN hsM0 HF hrow0 hrow1 hB0 hL hG hLA hNn
  generalize x2.heap.size = nb at *
  have hc := fun i => cell_of_row _ _ i _ _ _ hrow
  have hf := fun i => frozen_of_row _ _ i _ _ hrow
  have hcz := fun i => cell_of_row _ _ i _ _ _ hrowz
  have hfz := fun i => frozen_of_row _ _ i _ _ hrowz
  dsimp only at hcz hfz
  rcases hc0 with e0 | ⟨e0, e1, e2⟩
  all_goals
    go_wp2_with fail
    refine bodyPost_ret (v := .tuple #[.agg #[.int .i64 p.s, .int .i64 p.t, .slice MA p.ls.length Mc, .slice NA p.gs.length Nc], .int .i64 0]) (by simp [results, Try.results72, go_sem, hcz]) rfl ⟨_, rfl, ⟨_, _, rfl, ?_, ?_⟩, ?_⟩
    · repeat (first | with_reducible exact slM | refine Kt.Sl.set ?_ (fun k hk => by have := hMn k hk; simp; omega) _)
    · repeat (first | with_reducible exact slN.mono (by omega) | refine Kt.Sl.set ?_ (fun k hk => by have := (slN.lt k hk).1; simp; omega) _)
    · repeat (first | with_reducible exact bq2 | refine Kt.bset ?_ (by simp) _)
set_option maxRecDepth 100000 in
set_option maxHeartbeats 1600000 in
theorem step_deaf_skip (V : Value) (p : St) (f : Int) (w : World) (hp : PA w V p) (h1 : p.s = 0 ∨ p.s = 1) (h2 : p.t = 0 ∨ p.t = 1) (h3 : 1 ≤ f ∧ f ≤ 5) (h4 : p.ls.length ≤ 200) (h5 : p.gs.length ≤ 200) (HC : Hid (((p.ls.length : Int) == 0) = false ∧ f = 3 ∧ (p.s == p.t) = false)) :
    Calls Try.prog 72 #[V, .int .i64 f] w (Gives w p) := by
  obtain ⟨L, G, rfl, hL, hG⟩ := hp
  have hLA := hL
  obtain ⟨LA, lc, rfl, _, _⟩ := hL.form
  obtain ⟨GA, gc, rfl, _, _⟩ := hG.form
  have h4i : (p.ls.length : Int) ≤ 200 := by omega
  have h5i : (p.gs.length : Int) ≤ 200 := by omega
  have hs0 : 0 ≤ p.s := by rcases h1 with h | h <;> rw [h] <;> decide
  have hs1 : p.s ≤ 1 := by rcases h1 with h | h <;> rw [h] <;> decide
  have ht0 : 0 ≤ p.t := by rcases h2 with h | h <;> rw [h] <;> decide
  have ht1 : p.t ≤ 1 := by rcases h2 with h | h <;> rw [h] <;> decide
  go_enter Try.func72, Try.ntmps72
  go_wp2_with (first | (go_at_call 78; (with_reducible refine (bit_true p.s h1 _).mono ?_); rintro en w' ⟨rfl, rfl⟩) | (go_at_call 78; (with_reducible refine (bit_true p.t h2 _).mono ?_); rintro en w' ⟨rfl, rfl⟩) | (go_at_call 79; (with_reducible refine (known_true f h3 _).mono ?_); rintro en w' ⟨rfl, rfl⟩))
  have hrow0 := heap_alloc2_old w (.cells #[.int .i64 p.s, .int .i64 p.t, .slice LA p.ls.length lc, .slice GA p.gs.length gc] 121) (.cells #[.int .i64 0, .int .i64 0, .slice none 0 0, .slice none 0 0] 121)
  have hrow1 := heap_alloc2_new w (.cells #[.int .i64 p.s, .int .i64 p.t, .slice LA p.ls.length lc, .slice GA p.gs.length gc] 121) (.cells #[.int .i64 0, .int .i64 0, .slice none 0 0, .slice none 0 0] 121)
  have hB0 := Kt.balloc (Kt.balloc (Below.refl _ w) (.cells #[.int .i64 p.s, .int .i64 p.t, .slice LA p.ls.length lc, .slice GA p.gs.length gc] 121)) (.cells #[.int .i64 0, .int .i64 0, .slice none 0 0, .slice none 0 0] 121)
  generalize ((w.alloc (.cells #[.int .i64 p.s, .int .i64 p.t, .slice LA p.ls.length lc, .slice GA p.gs.length gc] 121)).alloc (.cells #[.int .i64 0, .int .i64 0, .slice none 0 0, .slice none 0 0] 121)) = W0 at *
  have HF := (((Kt.Fb.nil w hB0).add hrow1).add hrow0).drew
  refine Kt.G.start 7 (Kt.Fb w [(w.heap.size, #[.int .i64 p.s, .int .i64 p.t, .slice LA p.ls.length lc, .slice GA p.gs.length gc], 121), (w.heap.size + 1, #[.int .i64 0, .int .i64 0, .slice none 0 0, .slice none 0 0], 121)]) (by kernel_rfl) HF (fun hHeld => ?_)
  refine Kt.G.takeP 0 { dst := some 38, op := Op.fieldAddr 121 (Operand.tmp 2) 2, type := 0, pos := "pipe.go:29", after := #[], guard := none } ?_ (fun _ => hHeld) rfl (by kernel_rfl) (fun _ _ _ h => h) (by rfl) ?_ ?_
  rotate_left
  · intro w; go_simp; try with_reducible rfl
  try simp only [Act.put, List.setIfInBounds_toArray, List.set_cons_zero, List.set_cons_succ]
  refine Kt.G.take 1 { dst := some 39, op := Op.load 22 (Operand.tmp 38), type := 22, pos := "pipe.go:29", after := #[{ on := 0, ground := Ground.data }], guard := none } ?_ hHeld rfl (by kernel_rfl) (fun _ _ _ h => h) (by rfl) ?_ ?_
  rotate_left
  · intro w hSw; have r0 := hSw.row _ (List.Mem.head _); have c0 := fun i => cell_of_row _ _ i _ _ _ r0; have r1 := hSw.row _ (List.Mem.tail _ (List.Mem.head _)); have c1 := fun i => cell_of_row _ _ i _ _ _ r1; dsimp only at *; go_simp; try with_reducible rfl
  try simp only [Act.put, List.setIfInBounds_toArray, List.set_cons_zero, List.set_cons_succ]
  refine Kt.G.takeP 3 { dst := some 41, op := Op.fieldAddr 121 (Operand.tmp 2) 3, type := 0, pos := "pipe.go:29", after := #[], guard := none } ?_ (fun _ => hHeld) rfl (by kernel_rfl) (fun _ _ _ h => h) (by rfl) ?_ ?_
  rotate_left
  · intro w; go_simp; try with_reducible rfl
  try simp only [Act.put, List.setIfInBounds_toArray, List.set_cons_zero, List.set_cons_succ]
  refine Kt.G.take 4 { dst := some 42, op := Op.load 22 (Operand.tmp 41), type := 22, pos := "pipe.go:29", after := #[{ on := 3, ground := Ground.data }], guard := none } ?_ hHeld rfl (by kernel_rfl) (fun _ _ _ h => h) (by rfl) ?_ ?_
  rotate_left
  · intro w hSw; have r0 := hSw.row _ (List.Mem.head _); have c0 := fun i => cell_of_row _ _ i _ _ _ r0; have r1 := hSw.row _ (List.Mem.tail _ (List.Mem.head _)); have c1 := fun i => cell_of_row _ _ i _ _ _ r1; dsimp only at *; go_simp; try with_reducible rfl
  try simp only [Act.put, List.setIfInBounds_toArray, List.set_cons_zero, List.set_cons_succ]
  refine Kt.G.one 2 { dst := some 40, op := Op.call { callee := Callee.value (Operand.func 20), args := #[Operand.tmp 39], argTypes := #[22] }, type := 22, pos := "pipe.go:29", after := #[{ on := 1, ground := Ground.data }], guard := none } rfl (by kernel_rfl) (by rfl) (fun K hK => ?_)
  go_simp
  refine (clone_calls _ _ _ _ (hL.on hHeld.bel) (sts_one _) (by omega)).mono ?_; rintro en x2 ⟨MA, Mc, rfl, hsM, hb2⟩
  have hz2 := hHeld.lt (List.Mem.tail _ (List.Mem.head _)); dsimp only at hz2
  have hsM0 := hsM
  refine hK.out _ _ (fun _ => hHeld.on hb2) (fun hHeld => ?_)
  have hHeld := hHeld rfl
  clear hK K
  try simp only [Act.put, List.setIfInBounds_toArray, List.set_cons_zero, List.set_cons_succ]
  refine Kt.G.takeP 6 { dst := some 44, op := Op.fieldAddr 121 (Operand.tmp 2) 2, type := 0, pos := "pipe.go:29", after := #[{ on := 0, ground := Ground.phase }, { on := 1, ground := Ground.phase }, { on := 2, ground := Ground.phase }, { on := 3, ground := Ground.phase }, { on := 4, ground := Ground.phase }, { on := 5, ground := Ground.textOnly Departure.lateStoresUnsure }], guard := none } ?_ (fun _ => hHeld) rfl (by kernel_rfl) (fun _ _ _ h => h) (by rfl) ?_ ?_
  rotate_left
  · intro w; go_simp; try with_reducible rfl
  try simp only [Act.put, List.setIfInBounds_toArray, List.set_cons_zero, List.set_cons_succ]
  refine Kt.G.one 5 { dst := some 43, op := Op.call { callee := Callee.value (Operand.func 20), args := #[Operand.tmp 42], argTypes := #[22] }, type := 22, pos := "pipe.go:29", after := #[{ on := 4, ground := Ground.data }, { on := 2, ground := Ground.chain }], guard := none } rfl (by kernel_rfl) (by rfl) (fun K hK => ?_)
  go_simp
  refine (clone_calls _ _ _ _ (hG.on hHeld.bel) (sts_one _) (by omega)).mono ?_; rintro en x5 ⟨NA, Nc, rfl, hsN, hb5⟩
  have hz5 := hHeld.lt (List.Mem.tail _ (List.Mem.head _)); dsimp only at hz5
  have hsM := hsM.on hb5
  refine hK.out _ _ (fun _ => hHeld.on hb5) (fun hHeld => ?_)
  have hHeld := hHeld rfl
  clear hK K
  try simp only [Act.put, List.setIfInBounds_toArray, List.set_cons_zero, List.set_cons_succ]
  refine Kt.G.one 7 { dst := none, op := Op.store 22 (Operand.tmp 44) (Operand.tmp 40), type := 0, pos := "pipe.go:29", after := #[{ on := 6, ground := Ground.data }, { on := 2, ground := Ground.data }, { on := 5, ground := Ground.chain }, { on := 0, ground := Ground.phase }, { on := 1, ground := Ground.phase }, { on := 2, ground := Ground.phase }, { on := 3, ground := Ground.phase }, { on := 4, ground := Ground.phase }, { on := 5, ground := Ground.textOnly Departure.lateStoresUnsure }], guard := none } rfl (by kernel_rfl) (by rfl) (fun K hK => ?_)
  have r0 := hHeld.row _ (List.Mem.head _); have c0 := fun i => cell_of_row _ _ i _ _ _ r0; have f0 := fun i => frozen_of_row _ _ i _ _ r0
  dsimp only at r0 c0 f0
  go_simp
  refine hK.out _ _ (Kt.G.late (by kernel_rfl)) (fun _ => ?_)
  clear hK K
  try simp only [Act.put, List.setIfInBounds_toArray, List.set_cons_zero, List.set_cons_succ]
  have q1 := heap_setCell_same x5 w.heap.size 2 _ _ (.slice MA p.ls.length Mc) r0
  have bq1 := Kt.bset (hHeld.bel) (p := ⟨w.heap.size, 2, none⟩) (Nat.le_refl _) (.slice MA p.ls.length Mc)
  clear r0 c0 f0
  refine Kt.G.takeP 8 { dst := some 45, op := Op.fieldAddr 121 (Operand.tmp 2) 3, type := 0, pos := "pipe.go:29", after := #[{ on := 0, ground := Ground.phase }, { on := 1, ground := Ground.phase }, { on := 2, ground := Ground.phase }, { on := 3, ground := Ground.phase }, { on := 4, ground := Ground.phase }, { on := 5, ground := Ground.phase }, { on := 6, ground := Ground.phase }, { on := 7, ground := Ground.phase }], guard := none } ?_ (Kt.G.late (by kernel_rfl)) rfl (by kernel_rfl) (fun _ _ _ h => h) (by rfl) ?_ ?_
  rotate_left
  · intro w; go_simp; try with_reducible rfl
  try simp only [Act.put, List.setIfInBounds_toArray, List.set_cons_zero, List.set_cons_succ]
  refine Kt.G.one 9 { dst := none, op := Op.store 22 (Operand.tmp 45) (Operand.tmp 43), type := 0, pos := "pipe.go:29", after := #[{ on := 8, ground := Ground.data }, { on := 5, ground := Ground.data }, { on := 7, ground := Ground.chain }, { on := 0, ground := Ground.phase }, { on := 1, ground := Ground.phase }, { on := 2, ground := Ground.phase }, { on := 3, ground := Ground.phase }, { on := 4, ground := Ground.phase }, { on := 5, ground := Ground.phase }, { on := 6, ground := Ground.phase }, { on := 7, ground := Ground.phase }], guard := none } rfl (by kernel_rfl) (by rfl) (fun K hK => ?_)
  have c1 := fun i => cell_of_row _ _ i _ _ _ q1; have f1 := fun i => frozen_of_row _ _ i _ _ q1
  try dsimp only at q1 c1 f1
  go_simp
  refine hK.out _ _ (Kt.G.late (by kernel_rfl)) (fun _ => ?_)
  clear hK K
  try simp only [Act.put, List.setIfInBounds_toArray, List.set_cons_zero, List.set_cons_succ]
  have q2 := heap_setCell_same _ w.heap.size 3 _ _ (.slice NA p.gs.length Nc) q1
  have bq2 := Kt.bset bq1 (p := ⟨w.heap.size, 3, none⟩) (Nat.le_refl _) (.slice NA p.gs.length Nc)
  clear c1 f1 q1 bq1
  refine Kt.G.done (by kernel_rfl) (NoPanic.normal ?_) _
  have hrow : ((x5.setCell ⟨w.heap.size, 2, none⟩ (.slice MA p.ls.length Mc)).setCell ⟨w.heap.size, 3, none⟩ (.slice NA p.gs.length Nc)).heap[w.heap.size]? = some (.cells #[.int .i64 p.s, .int .i64 p.t, .slice MA p.ls.length Mc, .slice NA p.gs.length Nc] 121 (0, 0)) := q2
  have hrowz : ((x5.setCell ⟨w.heap.size, 2, none⟩ (.slice MA p.ls.length Mc)).setCell ⟨w.heap.size, 3, none⟩ (.slice NA p.gs.length Nc)).heap[w.heap.size + 1]? = _ := (heap_setCell_other _ _ _ _ (by simp)).trans ((heap_setCell_other _ _ _ _ (by simp)).trans (hHeld.row _ (List.Mem.tail _ (List.Mem.head _))))
  have hMn : ∀ k, (Value.slice MA p.ls.length Mc).ownBlock = some k → w.heap.size + 1 < k ∧ k < x2.heap.size := fun k hk => by have := (hsM0.lt k hk); omega
  have hNn : ∀ k, (Value.slice NA p.gs.length Nc).ownBlock = some k → x2.heap.size ≤ k ∧ k < x5.heap.size := fun k hk => hsN.lt k hk
  have slM : Kt.Sl ((x5.setCell ⟨w.heap.size, 2, none⟩ (.slice MA p.ls.length Mc)).setCell ⟨w.heap.size, 3, none⟩ (.slice NA p.gs.length Nc)) w.heap.size 9 1 _ _ _ := (hsM.mono (by omega)).keep fun k hk => (heap_setCell_other _ _ _ _ (by have := (hMn k hk).1; simp; omega)).trans (heap_setCell_other _ _ _ _ (by have := (hMn k hk).1; simp; omega))
  have slN : Kt.Sl ((x5.setCell ⟨w.heap.size, 2, none⟩ (.slice MA p.ls.length Mc)).setCell ⟨w.heap.size, 3, none⟩ (.slice NA p.gs.length Nc)) x2.heap.size 9 1 _ _ _ := hsN.keep fun k hk => (heap_setCell_other _ _ _ _ (by have := (hNn k hk).1; simp; omega)).trans (heap_setCell_other _ _ _ _ (by have := (hNn k hk).1; simp; omega))
  have hnb : w.heap.size + 1 < x2.heap.size := hz5
  have hns : x2.heap.size ≤ ((x5.setCell ⟨w.heap.size, 2, none⟩ (.slice MA p.ls.length Mc)).setCell ⟨w.heap.size, 3, none⟩ (.slice NA p.gs.length Nc)).heap.size := by have := hb5.size; simpa [World.setCell] using this
  generalize ((x5.setCell ⟨w.heap.size, 2, none⟩ (.slice MA p.ls.length Mc)).setCell ⟨w.heap.size, 3, none⟩ (.slice NA p.gs.length Nc)) = W9 at *
  clear q2 hHeld hb5 hb2 hz5 hz2 hsM hsN hsM0 HF hrow0 hrow1 hB0 hL hG hLA hNn
  generalize x2.heap.size = nb at *
  have hc := fun i => cell_of_row _ _ i _ _ _ hrow
  have hf := fun i => frozen_of_row _ _ i _ _ hrow
  have hcz := fun i => cell_of_row _ _ i _ _ _ hrowz
  have hfz := fun i => frozen_of_row _ _ i _ _ hrowz
  dsimp only at hcz hfz
  obtain ⟨e0, rfl, e2⟩ := HC.out
  go_wp2_with fail
  · refine bodyPost_ret (v := .tuple #[.agg #[.int .i64 p.s, .int .i64 p.t, .slice MA p.ls.length Mc, .slice NA p.gs.length Nc], .int .i64 0]) (by simp [results, Try.results72, go_sem, hcz]) rfl ⟨_, rfl, ⟨_, _, rfl, ?_, ?_⟩, ?_⟩
    · repeat (first | with_reducible exact slM | refine Kt.Sl.set ?_ (fun k hk => by have := hMn k hk; simp; omega) _)
    · repeat (first | with_reducible exact slN.mono (by omega) | refine Kt.Sl.set ?_ (fun k hk => by have := (slN.lt k hk).1; simp; omega) _)
    · repeat (first | with_reducible exact bq2 | refine Kt.bset ?_ (by simp) _)
set_option maxRecDepth 100000 in
set_option maxHeartbeats 1600000 in
theorem step_good_skip (V : Value) (p : St) (f : Int) (w : World) (hp : PA w V p) (h1 : p.s = 0 ∨ p.s = 1) (h2 : p.t = 0 ∨ p.t = 1) (h3 : 1 ≤ f ∧ f ≤ 5) (h4 : p.ls.length ≤ 200) (h5 : p.gs.length ≤ 200) (x : ByteArray) (r : List ByteArray) (HC : Hid (p.ls = x :: r ∧ f = 1 ∧ (p.s == p.t) = false)) :
    Calls Try.prog 72 #[V, .int .i64 f] w (Gives w ⟨1 - p.s, p.t, r, p.gs⟩) := by
  obtain ⟨L, G, rfl, hL, hG⟩ := hp
  have hLA := hL
  obtain ⟨LA, lc, rfl, _, _⟩ := hL.form
  obtain ⟨GA, gc, rfl, _, _⟩ := hG.form
  have h4i : (p.ls.length : Int) ≤ 200 := by omega
  have h5i : (p.gs.length : Int) ≤ 200 := by omega
  have hs0 : 0 ≤ p.s := by rcases h1 with h | h <;> rw [h] <;> decide
  have hs1 : p.s ≤ 1 := by rcases h1 with h | h <;> rw [h] <;> decide
  have ht0 : 0 ≤ p.t := by rcases h2 with h | h <;> rw [h] <;> decide
  have ht1 : p.t ≤ 1 := by rcases h2 with h | h <;> rw [h] <;> decide
  go_enter Try.func72, Try.ntmps72
  go_wp2_with (first | (go_at_call 78; (with_reducible refine (bit_true p.s h1 _).mono ?_); rintro en w' ⟨rfl, rfl⟩) | (go_at_call 78; (with_reducible refine (bit_true p.t h2 _).mono ?_); rintro en w' ⟨rfl, rfl⟩) | (go_at_call 79; (with_reducible refine (known_true f h3 _).mono ?_); rintro en w' ⟨rfl, rfl⟩))
  have hrow0 := heap_alloc2_old w (.cells #[.int .i64 p.s, .int .i64 p.t, .slice LA p.ls.length lc, .slice GA p.gs.length gc] 121) (.cells #[.int .i64 0, .int .i64 0, .slice none 0 0, .slice none 0 0] 121)
  have hrow1 := heap_alloc2_new w (.cells #[.int .i64 p.s, .int .i64 p.t, .slice LA p.ls.length lc, .slice GA p.gs.length gc] 121) (.cells #[.int .i64 0, .int .i64 0, .slice none 0 0, .slice none 0 0] 121)
  have hB0 := Kt.balloc (Kt.balloc (Below.refl _ w) (.cells #[.int .i64 p.s, .int .i64 p.t, .slice LA p.ls.length lc, .slice GA p.gs.length gc] 121)) (.cells #[.int .i64 0, .int .i64 0, .slice none 0 0, .slice none 0 0] 121)
  generalize ((w.alloc (.cells #[.int .i64 p.s, .int .i64 p.t, .slice LA p.ls.length lc, .slice GA p.gs.length gc] 121)).alloc (.cells #[.int .i64 0, .int .i64 0, .slice none 0 0, .slice none 0 0] 121)) = W0 at *
  have HF := (((Kt.Fb.nil w hB0).add hrow1).add hrow0).drew
  refine Kt.G.start 7 (Kt.Fb w [(w.heap.size, #[.int .i64 p.s, .int .i64 p.t, .slice LA p.ls.length lc, .slice GA p.gs.length gc], 121), (w.heap.size + 1, #[.int .i64 0, .int .i64 0, .slice none 0 0, .slice none 0 0], 121)]) (by kernel_rfl) HF (fun hHeld => ?_)
  refine Kt.G.takeP 0 { dst := some 38, op := Op.fieldAddr 121 (Operand.tmp 2) 2, type := 0, pos := "pipe.go:29", after := #[], guard := none } ?_ (fun _ => hHeld) rfl (by kernel_rfl) (fun _ _ _ h => h) (by rfl) ?_ ?_
  rotate_left
  · intro w; go_simp; try with_reducible rfl
  try simp only [Act.put, List.setIfInBounds_toArray, List.set_cons_zero, List.set_cons_succ]
  refine Kt.G.take 1 { dst := some 39, op := Op.load 22 (Operand.tmp 38), type := 22, pos := "pipe.go:29", after := #[{ on := 0, ground := Ground.data }], guard := none } ?_ hHeld rfl (by kernel_rfl) (fun _ _ _ h => h) (by rfl) ?_ ?_
  rotate_left
  · intro w hSw; have r0 := hSw.row _ (List.Mem.head _); have c0 := fun i => cell_of_row _ _ i _ _ _ r0; have r1 := hSw.row _ (List.Mem.tail _ (List.Mem.head _)); have c1 := fun i => cell_of_row _ _ i _ _ _ r1; dsimp only at *; go_simp; try with_reducible rfl
  try simp only [Act.put, List.setIfInBounds_toArray, List.set_cons_zero, List.set_cons_succ]
  refine Kt.G.takeP 3 { dst := some 41, op := Op.fieldAddr 121 (Operand.tmp 2) 3, type := 0, pos := "pipe.go:29", after := #[], guard := none } ?_ (fun _ => hHeld) rfl (by kernel_rfl) (fun _ _ _ h => h) (by rfl) ?_ ?_
  rotate_left
  · intro w; go_simp; try with_reducible rfl
  try simp only [Act.put, List.setIfInBounds_toArray, List.set_cons_zero, List.set_cons_succ]
  refine Kt.G.take 4 { dst := some 42, op := Op.load 22 (Operand.tmp 41), type := 22, pos := "pipe.go:29", after := #[{ on := 3, ground := Ground.data }], guard := none } ?_ hHeld rfl (by kernel_rfl) (fun _ _ _ h => h) (by rfl) ?_ ?_
  rotate_left
  · intro w hSw; have r0 := hSw.row _ (List.Mem.head _); have c0 := fun i => cell_of_row _ _ i _ _ _ r0; have r1 := hSw.row _ (List.Mem.tail _ (List.Mem.head _)); have c1 := fun i => cell_of_row _ _ i _ _ _ r1; dsimp only at *; go_simp; try with_reducible rfl
  try simp only [Act.put, List.setIfInBounds_toArray, List.set_cons_zero, List.set_cons_succ]
  refine Kt.G.one 2 { dst := some 40, op := Op.call { callee := Callee.value (Operand.func 20), args := #[Operand.tmp 39], argTypes := #[22] }, type := 22, pos := "pipe.go:29", after := #[{ on := 1, ground := Ground.data }], guard := none } rfl (by kernel_rfl) (by rfl) (fun K hK => ?_)
  go_simp
  refine (clone_calls _ _ _ _ (hL.on hHeld.bel) (sts_one _) (by omega)).mono ?_; rintro en x2 ⟨MA, Mc, rfl, hsM, hb2⟩
  have hz2 := hHeld.lt (List.Mem.tail _ (List.Mem.head _)); dsimp only at hz2
  have hsM0 := hsM
  refine hK.out _ _ (fun _ => hHeld.on hb2) (fun hHeld => ?_)
  have hHeld := hHeld rfl
  clear hK K
  try simp only [Act.put, List.setIfInBounds_toArray, List.set_cons_zero, List.set_cons_succ]
  refine Kt.G.takeP 6 { dst := some 44, op := Op.fieldAddr 121 (Operand.tmp 2) 2, type := 0, pos := "pipe.go:29", after := #[{ on := 0, ground := Ground.phase }, { on := 1, ground := Ground.phase }, { on := 2, ground := Ground.phase }, { on := 3, ground := Ground.phase }, { on := 4, ground := Ground.phase }, { on := 5, ground := Ground.textOnly Departure.lateStoresUnsure }], guard := none } ?_ (fun _ => hHeld) rfl (by kernel_rfl) (fun _ _ _ h => h) (by rfl) ?_ ?_
  rotate_left
  · intro w; go_simp; try with_reducible rfl
  try simp only [Act.put, List.setIfInBounds_toArray, List.set_cons_zero, List.set_cons_succ]
  refine Kt.G.one 5 { dst := some 43, op := Op.call { callee := Callee.value (Operand.func 20), args := #[Operand.tmp 42], argTypes := #[22] }, type := 22, pos := "pipe.go:29", after := #[{ on := 4, ground := Ground.data }, { on := 2, ground := Ground.chain }], guard := none } rfl (by kernel_rfl) (by rfl) (fun K hK => ?_)
  go_simp
  refine (clone_calls _ _ _ _ (hG.on hHeld.bel) (sts_one _) (by omega)).mono ?_; rintro en x5 ⟨NA, Nc, rfl, hsN, hb5⟩
  have hz5 := hHeld.lt (List.Mem.tail _ (List.Mem.head _)); dsimp only at hz5
  have hsM := hsM.on hb5
  refine hK.out _ _ (fun _ => hHeld.on hb5) (fun hHeld => ?_)
  have hHeld := hHeld rfl
  clear hK K
  try simp only [Act.put, List.setIfInBounds_toArray, List.set_cons_zero, List.set_cons_succ]
  refine Kt.G.one 7 { dst := none, op := Op.store 22 (Operand.tmp 44) (Operand.tmp 40), type := 0, pos := "pipe.go:29", after := #[{ on := 6, ground := Ground.data }, { on := 2, ground := Ground.data }, { on := 5, ground := Ground.chain }, { on := 0, ground := Ground.phase }, { on := 1, ground := Ground.phase }, { on := 2, ground := Ground.phase }, { on := 3, ground := Ground.phase }, { on := 4, ground := Ground.phase }, { on := 5, ground := Ground.textOnly Departure.lateStoresUnsure }], guard := none } rfl (by kernel_rfl) (by rfl) (fun K hK => ?_)
  have r0 := hHeld.row _ (List.Mem.head _); have c0 := fun i => cell_of_row _ _ i _ _ _ r0; have f0 := fun i => frozen_of_row _ _ i _ _ r0
  dsimp only at r0 c0 f0
  go_simp
  refine hK.out _ _ (Kt.G.late (by kernel_rfl)) (fun _ => ?_)
  clear hK K
  try simp only [Act.put, List.setIfInBounds_toArray, List.set_cons_zero, List.set_cons_succ]
  have q1 := heap_setCell_same x5 w.heap.size 2 _ _ (.slice MA p.ls.length Mc) r0
  have bq1 := Kt.bset (hHeld.bel) (p := ⟨w.heap.size, 2, none⟩) (Nat.le_refl _) (.slice MA p.ls.length Mc)
  clear r0 c0 f0
  refine Kt.G.takeP 8 { dst := some 45, op := Op.fieldAddr 121 (Operand.tmp 2) 3, type := 0, pos := "pipe.go:29", after := #[{ on := 0, ground := Ground.phase }, { on := 1, ground := Ground.phase }, { on := 2, ground := Ground.phase }, { on := 3, ground := Ground.phase }, { on := 4, ground := Ground.phase }, { on := 5, ground := Ground.phase }, { on := 6, ground := Ground.phase }, { on := 7, ground := Ground.phase }], guard := none } ?_ (Kt.G.late (by kernel_rfl)) rfl (by kernel_rfl) (fun _ _ _ h => h) (by rfl) ?_ ?_
  rotate_left
  · intro w; go_simp; try with_reducible rfl
  try simp only [Act.put, List.setIfInBounds_toArray, List.set_cons_zero, List.set_cons_succ]
  refine Kt.G.one 9 { dst := none, op := Op.store 22 (Operand.tmp 45) (Operand.tmp 43), type := 0, pos := "pipe.go:29", after := #[{ on := 8, ground := Ground.data }, { on := 5, ground := Ground.data }, { on := 7, ground := Ground.chain }, { on := 0, ground := Ground.phase }, { on := 1, ground := Ground.phase }, { on := 2, ground := Ground.phase }, { on := 3, ground := Ground.phase }, { on := 4, ground := Ground.phase }, { on := 5, ground := Ground.phase }, { on := 6, ground := Ground.phase }, { on := 7, ground := Ground.phase }], guard := none } rfl (by kernel_rfl) (by rfl) (fun K hK => ?_)
  have c1 := fun i => cell_of_row _ _ i _ _ _ q1; have f1 := fun i => frozen_of_row _ _ i _ _ q1
  try dsimp only at q1 c1 f1
  go_simp
  refine hK.out _ _ (Kt.G.late (by kernel_rfl)) (fun _ => ?_)
  clear hK K
  try simp only [Act.put, List.setIfInBounds_toArray, List.set_cons_zero, List.set_cons_succ]
  have q2 := heap_setCell_same _ w.heap.size 3 _ _ (.slice NA p.gs.length Nc) q1
  have bq2 := Kt.bset bq1 (p := ⟨w.heap.size, 3, none⟩) (Nat.le_refl _) (.slice NA p.gs.length Nc)
  clear c1 f1 q1 bq1
  refine Kt.G.done (by kernel_rfl) (NoPanic.normal ?_) _
  have hrow : ((x5.setCell ⟨w.heap.size, 2, none⟩ (.slice MA p.ls.length Mc)).setCell ⟨w.heap.size, 3, none⟩ (.slice NA p.gs.length Nc)).heap[w.heap.size]? = some (.cells #[.int .i64 p.s, .int .i64 p.t, .slice MA p.ls.length Mc, .slice NA p.gs.length Nc] 121 (0, 0)) := q2
  have hrowz : ((x5.setCell ⟨w.heap.size, 2, none⟩ (.slice MA p.ls.length Mc)).setCell ⟨w.heap.size, 3, none⟩ (.slice NA p.gs.length Nc)).heap[w.heap.size + 1]? = _ := (heap_setCell_other _ _ _ _ (by simp)).trans ((heap_setCell_other _ _ _ _ (by simp)).trans (hHeld.row _ (List.Mem.tail _ (List.Mem.head _))))
  have hMn : ∀ k, (Value.slice MA p.ls.length Mc).ownBlock = some k → w.heap.size + 1 < k ∧ k < x2.heap.size := fun k hk => by have := (hsM0.lt k hk); omega
  have hNn : ∀ k, (Value.slice NA p.gs.length Nc).ownBlock = some k → x2.heap.size ≤ k ∧ k < x5.heap.size := fun k hk => hsN.lt k hk
  have slM : Kt.Sl ((x5.setCell ⟨w.heap.size, 2, none⟩ (.slice MA p.ls.length Mc)).setCell ⟨w.heap.size, 3, none⟩ (.slice NA p.gs.length Nc)) w.heap.size 9 1 _ _ _ := (hsM.mono (by omega)).keep fun k hk => (heap_setCell_other _ _ _ _ (by have := (hMn k hk).1; simp; omega)).trans (heap_setCell_other _ _ _ _ (by have := (hMn k hk).1; simp; omega))
  have slN : Kt.Sl ((x5.setCell ⟨w.heap.size, 2, none⟩ (.slice MA p.ls.length Mc)).setCell ⟨w.heap.size, 3, none⟩ (.slice NA p.gs.length Nc)) x2.heap.size 9 1 _ _ _ := hsN.keep fun k hk => (heap_setCell_other _ _ _ _ (by have := (hNn k hk).1; simp; omega)).trans (heap_setCell_other _ _ _ _ (by have := (hNn k hk).1; simp; omega))
  have hnb : w.heap.size + 1 < x2.heap.size := hz5
  have hns : x2.heap.size ≤ ((x5.setCell ⟨w.heap.size, 2, none⟩ (.slice MA p.ls.length Mc)).setCell ⟨w.heap.size, 3, none⟩ (.slice NA p.gs.length Nc)).heap.size := by have := hb5.size; simpa [World.setCell] using this
  generalize ((x5.setCell ⟨w.heap.size, 2, none⟩ (.slice MA p.ls.length Mc)).setCell ⟨w.heap.size, 3, none⟩ (.slice NA p.gs.length Nc)) = W9 at *
  clear q2 hHeld hb5 hb2 hz5 hz2 hsM hsN hsM0 HF hrow0 hrow1 hB0 hL hG hLA hNn
  generalize x2.heap.size = nb at *
  have hc := fun i => cell_of_row _ _ i _ _ _ hrow
  have hf := fun i => frozen_of_row _ _ i _ _ hrow
  have hcz := fun i => cell_of_row _ _ i _ _ _ hrowz
  have hfz := fun i => frozen_of_row _ _ i _ _ hrowz
  dsimp only at hcz hfz
  obtain ⟨e0, rfl, e2⟩ := HC.out
  have e3 : ((p.ls.length : Int) == 0) = false := by rw [beq_eq_false_iff_ne, e0]; simp; omega
  have e4 : (1 : Int) ≤ p.ls.length := by rw [e0]; simp; omega
  have HE := Lib.hid e0; clear e0
  obtain ⟨g, o, cap, hv, hg0, hgs, hnc, hcm, hcc, hgf⟩ := slM.cells (by omega)
  cases hv
  have hmn := hMn g rfl
  have sl0 := slM.tail (by omega)
  have sl1 : Mc = 1 → Kt.Ar W9 (.slice (some ⟨g, o, none⟩) (p.ls.length - 1) 0) 1 (p.ls.length - 1) (sts r) := fun e => by subst e; rw [HE.out] at sl0 ⊢; exact Kt.Ar.of_sl (by simpa [sts] using sl0)
  have sl2 : ¬ Mc = 1 → Kt.Ar W9 (.slice (some ⟨g, o + 1, none⟩) (p.ls.length - 1) (Mc - 1)) 1 (p.ls.length - 1) (sts r) := fun e => by rw [HE.out] at sl0 ⊢; exact Kt.Ar.of_sl (by simpa [sts, e, Addr.add] using sl0)
  have SL1 := Lib.hid sl1
  have SL2 := Lib.hid sl2
  clear sl0 sl1 sl2 hcc hgf slM hMn
  go_wp2_with fail
  all_goals
    refine (clone_calls _ (p.ls.length - 1) (sts r) _ (by first | exact SL1.out (by omega) | exact SL2.out (by omega)) (sts_one _) (by omega)).mono ?_
    rintro en x9 ⟨QA, Qc, rfl, hsQ, hb9⟩
    have row9 := (hb9.block _ (by omega)).trans hrow
    have rowz9 := (hb9.block _ (by omega)).trans hrowz
    have bel9 := Kt.bthen bq2 hb9
    have slN9 := slN.on hb9
    have hz9 := hb9.size
    clear hc hf hcz hfz
    have hc := fun i => cell_of_row _ _ i _ _ _ row9
    have hf := fun i => frozen_of_row _ _ i _ _ row9
    have hcz := fun i => cell_of_row _ _ i _ _ _ rowz9
    have hfz := fun i => frozen_of_row _ _ i _ _ rowz9
    go_wp2_with fail
    refine bodyPost_ret (v := .tuple #[.agg #[.int .i64 (1 - p.s), .int .i64 p.t, .slice QA (p.ls.length - 1) Qc, .slice NA p.gs.length Nc], .int .i64 0]) (by simp [results, Try.results72, go_sem, hcz]) rfl ⟨_, rfl, ⟨_, _, rfl, ?_, ?_⟩, ?_⟩
    · have hr : p.ls.length - 1 = r.length := by rw [HE.out]; simp
      show Kt.Sl _ _ _ 1 (.slice QA (p.ls.length - 1) Qc) r.length (sts r)
      rw [← hr]
      have hsQ := hsQ.mono (B' := w.heap.size + 2) (by first | omega | (simp; omega))
      have hsQ2 := hsQ.mono (B' := w.heap.size) (by omega)
      repeat (first | with_reducible exact hsQ2 | refine Kt.Sl.set ?_ (fun k hk => by have := (hsQ.lt k hk).1; simp; omega) _)
    · repeat (first | with_reducible exact slN9.mono (by omega) | refine Kt.Sl.set ?_ (fun k hk => by have := (slN.lt k hk).1; simp; omega) _)
    · repeat (first | with_reducible exact bel9 | refine Kt.bset ?_ (by simp) _)
end Go.Proofs.Ytafiedhjjnapoaa
