/- ArenaOwn walked. -/
import Derived.Test.YtdckakjfplhanaaArnQ
import Derived.Test.YtdckakjfplhanaaAny
import Derived.Test.YtdckakjfplhanaaSlm
import Derived.Deep.CutBlock
import Derived.Deep.CutRange
namespace Go.Proofs.Ytdckakjfplhanaa
open Go.RowKit Go.Proofs.Ytdckakjfplhanaa.Arn
theorem bytes_span : Try.prog.bytesOf 30 = 16 := by kernel_rfl
/-- what the first region leaves -/
def Copied (w : World) (size : Int) (A0 : Option Addr) (n c0 : Nat) (l : List (Int × Int)) (u : Value) (wx : World) : Prop :=
  ∃ (k : Nat) (M : Option Addr) (c : Nat), u = .pointer (some ⟨k, 0, none⟩) ∧ w.heap.size < k ∧ wx.heap[k]? = some (.cells #[.int .i64 size, .slice M n c] 24 (0, 0)) ∧
    wx.heap[w.heap.size]? = some (.cells #[.int .i64 size, .slice A0 n c0] 24 (0, 0)) ∧ Kt.Ar wx (.slice M n c) 2 n (spv l) ∧ Below w.heap.size w wx
/-- a slice of spans that may be written, whole, in a block from B on (or none) -/
def Sp (W : World) (B : Nat) (v : Value) : Prop := v = .slice none 0 0 ∨ ∃ g o n cap cur, v = .slice (some ⟨g, o, none⟩) n cap ∧ B ≤ g ∧ n ≤ cap ∧ cap ≤ maxLen ∧ W.heap[g]? = some (.cells cur 30 (0, 0)) ∧ o + cap * 2 ≤ cur.size
theorem Sp.of_sl {W : World} {B n : Nat} {v : Value} {xs : List Value} (h : Kt.Sl W B 30 2 v n xs) : Sp W B v := by
  rcases h.2 with ⟨h, _⟩ | ⟨g, o, cap, cur, rfl, h1, h2, h3, h4, h5, _⟩
  · exact .inl h
  · exact .inr ⟨g, o, n, cap, cur, rfl, h1, h3, h4, h2, h5⟩
theorem Sp.on {W W' : World} {B : Nat} {v : Value} (h : Sp W B v) (hb : Below W.heap.size W W') : Sp W' B v := by
  rcases h with h | ⟨g, o, n, cap, cur, rfl, h1, h2, h3, h4, h5⟩
  · exact .inl h
  · exact .inr ⟨g, o, n, cap, cur, rfl, h1, h2, h3, Kt.row_on hb h4, h5⟩
theorem Sp.mono {W : World} {B B' : Nat} {v : Value} (h : Sp W B v) (hb : B' ≤ B) : Sp W B' v := by
  rcases h with h | ⟨g, o, n, cap, cur, rfl, h1, h2, h3, h4, h5⟩
  · exact .inl h
  · exact .inr ⟨g, o, n, cap, cur, rfl, by omega, h2, h3, h4, h5⟩
theorem Sp.set {W : World} {B : Nat} {v : Value} (h : Sp W B v) (k i : Nat) (x : Value) : Sp (W.setCell ⟨k, i, none⟩ x) B v := by
  rcases h with h | ⟨g, o, n, cap, cur, rfl, h1, h2, h3, h4, h5⟩
  · exact .inl h
  · by_cases e : g = k
    · subst e
      exact .inr ⟨g, o, n, cap, _, rfl, h1, h2, h3, heap_setCell_same W g i _ _ x h4, by simpa using h5⟩
    · exact .inr ⟨g, o, n, cap, cur, rfl, h1, h2, h3, (heap_setCell_other _ _ _ _ e).trans h4, h5⟩
/-- the same, below block N -/
def Sq (W : World) (B N : Nat) (v : Value) : Prop := v = .slice none 0 0 ∨ ∃ g o n cap cur, v = .slice (some ⟨g, o, none⟩) n cap ∧ B ≤ g ∧ g < N ∧ n ≤ cap ∧ cap ≤ maxLen ∧ W.heap[g]? = some (.cells cur 30 (0, 0)) ∧ o + cap * 2 ≤ cur.size
theorem Sp.sq {W : World} {B : Nat} {v : Value} (h : Sp W B v) : Sq W B W.heap.size v := by
  rcases h with h | ⟨g, o, n, cap, cur, rfl, h1, h2, h3, h4, h5⟩
  · exact .inl h
  · exact .inr ⟨g, o, n, cap, cur, rfl, h1, (Array.getElem?_eq_some_iff.1 h4).1, h2, h3, h4, h5⟩
theorem Sq.on {W W' : World} {B N : Nat} {v : Value} (h : Sq W B N v) (hb : Below W.heap.size W W') : Sq W' B N v := by
  rcases h with h | ⟨g, o, n, cap, cur, rfl, h1, h6, h2, h3, h4, h5⟩
  · exact .inl h
  · exact .inr ⟨g, o, n, cap, cur, rfl, h1, h6, h2, h3, Kt.row_on hb h4, h5⟩
theorem Sq.set {W : World} {B N : Nat} {v : Value} (h : Sq W B N v) (k i : Nat) (x : Value) : Sq (W.setCell ⟨k, i, none⟩ x) B N v := by
  rcases h with h | ⟨g, o, n, cap, cur, rfl, h1, h6, h2, h3, h4, h5⟩
  · exact .inl h
  · by_cases e : g = k
    · subst e
      exact .inr ⟨g, o, n, cap, _, rfl, h1, h6, h2, h3, heap_setCell_same W g i _ _ x h4, by simpa using h5⟩
    · exact .inr ⟨g, o, n, cap, cur, rfl, h1, h6, h2, h3, (heap_setCell_other _ _ _ _ e).trans h4, h5⟩
/-- what holds while the slices are written over -/
structure Spoil (wc : World) (N : Nat) (v1 v2 : Value) (W : World) : Prop where
  bel : Below wc.heap.size wc W
  ls : W.heap[N]? = some (.cells #[v1, v2] 22 (0, 0))
  s1 : Sq W wc.heap.size N v1
  s2 : Sq W wc.heap.size N v2
theorem Spoil.set {wc W : World} {N : Nat} {v1 v2 : Value} (h : Spoil wc N v1 v2 W) (k i : Nat) (x : Value) (h1 : wc.heap.size ≤ k) (h2 : k < N) : Spoil wc N v1 v2 (W.setCell ⟨k, i, none⟩ x) :=
  ⟨h.bel.setCell h1 x, (heap_setCell_other _ _ _ _ (by show N ≠ k; omega)).trans h.ls, h.s1.set k i x, h.s2.set k i x⟩
theorem Spoil.at_ {wc W : World} {N : Nat} {v1 v2 : Value} (h : Spoil wc N v1 v2 W) (j : Nat) (hj : j < 2) : ∃ v, (v = v1 ∨ v = v2) ∧ W.cell? ⟨N, j, none⟩ = some v ∧ Sq W wc.heap.size N v := by
  match j, hj with
  | 0, _ => exact ⟨v1, .inl rfl, cell_of_row _ _ 0 _ _ _ h.ls, h.s1⟩
  | 1, _ => exact ⟨v2, .inr rfl, cell_of_row _ _ 1 _ _ _ h.ls, h.s2⟩
theorem Sq.cells {W : World} {B N g o n cap : Nat} (h : Sq W B N (.slice (some ⟨g, o, none⟩) n cap)) (k : Nat) (hk : k < cap) : B ≤ g ∧ g < N ∧ (∃ x, W.cell? ⟨g, o + k * 2, none⟩ = some x) ∧ (∃ x, W.cell? ⟨g, o + k * 2 + 1, none⟩ = some x) ∧ W.frozen? ⟨g, o + k * 2, none⟩ = false ∧ W.frozen? ⟨g, o + k * 2 + 1, none⟩ = false := by
  rcases h with h | ⟨g', o', n', cap', cur, h, h1, h6, h2, h3, h4, h5⟩
  · cases h
  · cases h
    exact ⟨h1, h6, ⟨_, (cell_of_row _ _ _ _ _ _ h4).trans (Array.getElem?_eq_getElem (by omega))⟩, ⟨_, (cell_of_row _ _ _ _ _ _ h4).trans (Array.getElem?_eq_getElem (by omega))⟩, frozen_of_row _ _ _ _ _ h4, frozen_of_row _ _ _ _ _ h4⟩
theorem sq_of {wc W : World} {N : Nat} {v v1 v2 : Value} (h : v = v1 ∨ v = v2) (hs : Spoil wc N v1 v2 W) : Sq W wc.heap.size N v := by
  rcases h with h | h
  · rw [h]; exact hs.s1
  · rw [h]; exact hs.s2
theorem wrap_c {k n : Nat} (h : k < n) (hn : n ≤ 2 ^ 63 - 1) : wrap64 ((k : Int) + 1) = ((k + 1 : Nat) : Int) := by unfold wrap64; omega
theorem next_c {k n : Nat} (h : k < n) (hn : n ≤ 2 ^ 63 - 1) : (n - (intOf (.int .i64 (wrap64 ((k : Int) + 1)))).toNat : Nat) < n - (intOf (.int .i64 (k : Int))).toNat := by
  rw [wrap_c h hn]
  simp only [intOf]
  omega
theorem take_sp {B : Nat} {size : Int} {l : List (Int × Int)} {z al : Int} {e : Ending} {w' : World} (h : TakeIs B size l z al e w') :
    ∃ (b : Int) (A : Option Addr) (m c : Nat) (k n : Int), e = .returned (.tuple #[.agg #[.int .i64 b, .slice A m c], .int .i64 k, .int .i64 n]) ∧ Sp w' B (.slice A m c) := by
  rcases h with ⟨n, _, rfl, _⟩ | ⟨_, _, _, a, A, c, _, _, _, _, _, rfl, h⟩
  · exact ⟨0, none, 0, 0, 0, n, rfl, .inl rfl⟩
  · exact ⟨size, A, _, c, a, 0, rfl, .of_sl h⟩
theorem give_sp {B : Nat} {size : Int} {l : List (Int × Int)} {a : Int} {e : Ending} {w' : World} (h : GiveIs B size l a e w') :
    ∃ (b : Int) (A : Option Addr) (m c : Nat) (n : Int), e = .returned (.tuple #[.agg #[.int .i64 b, .slice A m c], .int .i64 n]) ∧ Sp w' B (.slice A m c) := by
  rcases h with ⟨n, _, rfl, _⟩ | ⟨_, k, m, A, c, _, _, _, rfl, h⟩
  · exact ⟨0, none, 0, 0, n, rfl, .inl rfl⟩
  · exact ⟨size, A, m, c, 0, rfl, .of_sl h⟩
set_option maxRecDepth 100000 in
set_option maxHeartbeats 3200000 in
theorem own_main (size : Int) (l : List (Int × Int)) (A0 : Option Addr) (c0 : Nat) (z al p : Int) (w : World) (hv : Kt.Ar w (.slice A0 l.length c0) 2 l.length (spv l)) (hl : l.length ≤ 8796093022208) :
    Calls Try.prog 5 #[.agg #[.int .i64 size, .slice A0 l.length c0], .int .i64 z, .int .i64 al, .int .i64 p] w fun e w' => e = .returned (.bool true) ∧ Below w.heap.size w w' := by
  go_enter Try.func5, Try.ntmps5
  go_upto_region 1 with (fail)
  go_cut [9] from 19 to 24 (fun u wx => Copied w size A0 l.length c0 l u wx)
  case first =>
    have r0 := heap_alloc_new w (.cells #[.int .i64 size, .slice A0 l.length c0] 24)
    have HF := ((Kt.Fb.nil w (Kt.balloc (Below.refl _ w) _)).add r0).drew
    refine Kt.G.start 7 (Kt.Fb w [(w.heap.size, #[.int .i64 size, .slice A0 l.length c0], 24)]) (by kernel_rfl) HF (fun hHeld => ?_)
    clear r0 HF
    refine Kt.G.takeP 0 { dst := some 19, op := Op.fieldAddr 24 (Operand.tmp 4) 0, type := 0, pos := "arena.go:98", after := #[], guard := none } ?_ (fun _ => hHeld) rfl (by kernel_rfl) (fun _ _ _ h => h) (by rfl) ?_ ?_
    rotate_left
    · intro w; go_simp; try with_reducible rfl
    try simp only [Act.put, List.setIfInBounds_toArray, List.set_cons_zero, List.set_cons_succ]
    refine Kt.G.take 1 { dst := some 20, op := Op.load 3 (Operand.tmp 19), type := 3, pos := "arena.go:98", after := #[{ on := 0, ground := Ground.data }], guard := none } ?_ hHeld rfl (by kernel_rfl) (fun _ _ _ h => h) (by rfl) ?_ ?_
    rotate_left
    · intro w hSw; have r0 := hSw.row _ (List.Mem.head _); have c0 := fun i => cell_of_row _ _ i _ _ _ r0; dsimp only at *; go_simp; try with_reducible rfl
    try simp only [Act.put, List.setIfInBounds_toArray, List.set_cons_zero, List.set_cons_succ]
    refine Kt.G.takeP 2 { dst := some 21, op := Op.fieldAddr 24 (Operand.tmp 4) 1, type := 0, pos := "arena.go:98", after := #[], guard := none } ?_ (fun _ => hHeld) rfl (by kernel_rfl) (fun _ _ _ h => h) (by rfl) ?_ ?_
    rotate_left
    · intro w; go_simp; try with_reducible rfl
    try simp only [Act.put, List.setIfInBounds_toArray, List.set_cons_zero, List.set_cons_succ]
    refine Kt.G.take 3 { dst := some 22, op := Op.load 22 (Operand.tmp 21), type := 22, pos := "arena.go:98", after := #[{ on := 2, ground := Ground.data }], guard := none } ?_ hHeld rfl (by kernel_rfl) (fun _ _ _ h => h) (by rfl) ?_ ?_
    rotate_left
    · intro w hSw; have r0 := hSw.row _ (List.Mem.head _); have c0 := fun i => cell_of_row _ _ i _ _ _ r0; dsimp only at *; go_simp; try with_reducible rfl
    try simp only [Act.put, List.setIfInBounds_toArray, List.set_cons_zero, List.set_cons_succ]
    refine Kt.G.two 4 6 { dst := some 23, op := Op.call { callee := Callee.value (Operand.func 13), args := #[Operand.tmp 22], argTypes := #[22] }, type := 22, pos := "arena.go:98", after := #[{ on := 3, ground := Ground.data }], guard := none } { dst := some 9, op := Op.alloc 24, type := 0, pos := "arena.go:98", after := #[], guard := none } rfl rfl (by kernel_rfl) (by rfl) (by rfl) (fun K hK => ?_) (fun K hK => ?_)
    · go_simp
      refine (clones_calls _ _ _ _ (hv.on hHeld.bel) (spv_one _) hl).mono ?_; rintro en xa ⟨MA, Mc, rfl, hsM, hbxa⟩
      try (have hneM : ∀ k, (Value.slice MA l.length Mc).ownBlock = some k → k ≠ kB := fun k hk => by have h1 := (hsM.lt k hk).1; have h2 := (Array.getElem?_eq_some_iff.1 rK).1; first | omega | (have h3 : ((w.alloc (.cells #[.int .i64 size, .slice A0 l.length c0] 24)).alloc (.cells #[.int .i64 0, .slice none 0 0] 24)).heap.size ≤ k := h1; rw [World.size_alloc, World.size_alloc] at h3; omega))
      replace hsM := hsM.mono (B' := w.heap.size) hHeld.bel.size
      try (replace rK := Kt.row_on hbxa rK)
      refine hK.out _ _ (fun _ => hHeld.on hbxa) (fun hHeld => ?_)
      have hHeld := hHeld rfl
      clear hK K
      try simp only [Act.put, List.setIfInBounds_toArray, List.set_cons_zero, List.set_cons_succ]
      refine Kt.G.takeP 5 { dst := some 24, op := Op.build 24 #[(0, Operand.tmp 20), (1, Operand.tmp 23)], type := 24, pos := "arena.go:98", after := #[{ on := 1, ground := Ground.data }, { on := 4, ground := Ground.data }], guard := none } ?_ (fun _ => hHeld) rfl (by kernel_rfl) (fun _ _ _ h => h) (by rfl) ?_ ?_
      rotate_left
      · intro w; go_simp; try with_reducible rfl
      try simp only [Act.put, List.setIfInBounds_toArray, List.set_cons_zero, List.set_cons_succ]
      refine Kt.G.one 6 { dst := some 9, op := Op.alloc 24, type := 0, pos := "arena.go:98", after := #[], guard := none } rfl (by kernel_rfl) (by rfl) (fun K hK => ?_)
      have hHeld0 := hHeld
      go_simp
      refine hK.out _ _ (fun _ => hHeld.alloc _) (fun hHeld => ?_)
      have hHeld := hHeld rfl
      clear hK K
      try simp only [Act.put, List.setIfInBounds_toArray, List.set_cons_zero, List.set_cons_succ]
      obtain ⟨kB, hkB⟩ : ∃ k, k = (xa).heap.size := ⟨_, rfl⟩
      have rK := heap_alloc_new (xa) (.cells #[.int .i64 0, .slice none 0 0] 24); rw [← hkB] at rK
      have hk0 : w.heap.size < kB := by rw [hkB]; have h1 := hHeld.lt (List.Mem.head _); have h2 : ((xa).alloc (.cells #[.int .i64 0, .slice none 0 0] 24)).heap.size = (xa).heap.size + 1 := World.size_alloc _ _; have h3 := hHeld0.lt (List.Mem.head _); dsimp only at h1 h3; omega
      try (have hneM : ∀ k, (Value.slice MA l.length Mc).ownBlock = some k → k ≠ kB := fun k hk => by have h1 := (hsM.lt k hk).2; omega)
      (try (replace hkB : kB = w.heap.size + 1 := by rw [hkB]; exact World.size_alloc _ _))
      try (replace hsM := hsM.alloc (.cells #[.int .i64 0, .slice none 0 0] 24))
      generalize (xa).alloc (.cells #[.int .i64 0, .slice none 0 0] 24) = xk at *
      refine Kt.G.one 7 { dst := none, op := Op.store 24 (Operand.tmp 9) (Operand.tmp 24), type := 0, pos := "arena.go:98", after := #[{ on := 6, ground := Ground.data }, { on := 5, ground := Ground.data }, { on := 4, ground := Ground.chain }, { on := 0, ground := Ground.phase }, { on := 1, ground := Ground.phase }, { on := 2, ground := Ground.phase }, { on := 3, ground := Ground.phase }, { on := 4, ground := Ground.phase }, { on := 5, ground := Ground.phase }, { on := 6, ground := Ground.phase }], guard := none } rfl (by kernel_rfl) (by rfl) (fun K hK => ?_)
      have cK := fun i => cell_of_row _ _ i _ _ _ rK; have fK := fun i => frozen_of_row _ _ i _ _ rK
      rw [hkB] at cK fK
      go_simp
      refine hK.out _ _ (Kt.G.late (by kernel_rfl)) (fun _ => ?_)
      clear hK K
      try simp only [Act.put, List.setIfInBounds_toArray, List.set_cons_zero, List.set_cons_succ]
      rw [← hkB]
      refine Kt.G.done (by kernel_rfl) (NoPanic.normal ?_) _
      go_wp2_with fail
      go_meet
      case rel =>
        refine ⟨kB, MA, Mc, by rw [hkB], hk0, Kt.fill [.int .i64 size, .slice MA l.length Mc] rK rfl, (Kt.setCells_other [.int .i64 size, .slice MA l.length Mc] kB 0 _ _ (by omega)).trans (hHeld.row _ (List.Mem.head _)), Kt.Ar.of_sl (Kt.Sl.keep hsM fun k hk => Kt.setCells_other [.int .i64 size, .slice MA l.length Mc] kB 0 _ _ (hneM k hk)), Kt.below_setCells [.int .i64 size, .slice MA l.length Mc] kB 0 _ _ (by omega) hHeld.bel⟩
    · have hHeld0 := hHeld
      go_simp
      refine hK.out _ _ (fun _ => hHeld.alloc _) (fun hHeld => ?_)
      have hHeld := hHeld rfl
      clear hK K
      try simp only [Act.put, List.setIfInBounds_toArray, List.set_cons_zero, List.set_cons_succ]
      obtain ⟨kB, hkB⟩ : ∃ k, k = ((w.alloc (.cells #[.int .i64 size, .slice A0 l.length c0] 24)).drew).heap.size := ⟨_, rfl⟩
      have rK := heap_alloc_new ((w.alloc (.cells #[.int .i64 size, .slice A0 l.length c0] 24)).drew) (.cells #[.int .i64 0, .slice none 0 0] 24); rw [← hkB] at rK
      have hk0 : w.heap.size < kB := by rw [hkB]; have h1 := hHeld.lt (List.Mem.head _); have h2 : (((w.alloc (.cells #[.int .i64 size, .slice A0 l.length c0] 24)).drew).alloc (.cells #[.int .i64 0, .slice none 0 0] 24)).heap.size = ((w.alloc (.cells #[.int .i64 size, .slice A0 l.length c0] 24)).drew).heap.size + 1 := World.size_alloc _ _; have h3 := hHeld0.lt (List.Mem.head _); dsimp only at h1 h3; omega
      try (have hneM : ∀ k, (Value.slice MA l.length Mc).ownBlock = some k → k ≠ kB := fun k hk => by have h1 := (hsM.lt k hk).2; omega)
      (try (replace hkB : kB = w.heap.size + 1 := by rw [hkB]; exact World.size_alloc _ _))
      try (replace hsM := hsM.alloc (.cells #[.int .i64 0, .slice none 0 0] 24))
      refine Kt.G.one 4 { dst := some 23, op := Op.call { callee := Callee.value (Operand.func 13), args := #[Operand.tmp 22], argTypes := #[22] }, type := 22, pos := "arena.go:98", after := #[{ on := 3, ground := Ground.data }], guard := none } rfl (by kernel_rfl) (by rfl) (fun K hK => ?_)
      go_simp
      refine (clones_calls _ _ _ _ (hv.on hHeld.bel) (spv_one _) hl).mono ?_; rintro en xa ⟨MA, Mc, rfl, hsM, hbxa⟩
      try (have hneM : ∀ k, (Value.slice MA l.length Mc).ownBlock = some k → k ≠ kB := fun k hk => by have h1 := (hsM.lt k hk).1; have h2 := (Array.getElem?_eq_some_iff.1 rK).1; first | omega | (have h3 : ((w.alloc (.cells #[.int .i64 size, .slice A0 l.length c0] 24)).alloc (.cells #[.int .i64 0, .slice none 0 0] 24)).heap.size ≤ k := h1; rw [World.size_alloc, World.size_alloc] at h3; omega))
      replace hsM := hsM.mono (B' := w.heap.size) hHeld.bel.size
      try (replace rK := Kt.row_on hbxa rK)
      refine hK.out _ _ (fun _ => hHeld.on hbxa) (fun hHeld => ?_)
      have hHeld := hHeld rfl
      clear hK K
      try simp only [Act.put, List.setIfInBounds_toArray, List.set_cons_zero, List.set_cons_succ]
      refine Kt.G.takeP 5 { dst := some 24, op := Op.build 24 #[(0, Operand.tmp 20), (1, Operand.tmp 23)], type := 24, pos := "arena.go:98", after := #[{ on := 1, ground := Ground.data }, { on := 4, ground := Ground.data }], guard := none } ?_ (fun _ => hHeld) rfl (by kernel_rfl) (fun _ _ _ h => h) (by rfl) ?_ ?_
      rotate_left
      · intro w; go_simp; try with_reducible rfl
      try simp only [Act.put, List.setIfInBounds_toArray, List.set_cons_zero, List.set_cons_succ]
      refine Kt.G.one 7 { dst := none, op := Op.store 24 (Operand.tmp 9) (Operand.tmp 24), type := 0, pos := "arena.go:98", after := #[{ on := 6, ground := Ground.data }, { on := 5, ground := Ground.data }, { on := 4, ground := Ground.chain }, { on := 0, ground := Ground.phase }, { on := 1, ground := Ground.phase }, { on := 2, ground := Ground.phase }, { on := 3, ground := Ground.phase }, { on := 4, ground := Ground.phase }, { on := 5, ground := Ground.phase }, { on := 6, ground := Ground.phase }], guard := none } rfl (by kernel_rfl) (by rfl) (fun K hK => ?_)
      have cK := fun i => cell_of_row _ _ i _ _ _ rK; have fK := fun i => frozen_of_row _ _ i _ _ rK
      rw [hkB] at cK fK
      go_simp
      refine hK.out _ _ (Kt.G.late (by kernel_rfl)) (fun _ => ?_)
      clear hK K
      try simp only [Act.put, List.setIfInBounds_toArray, List.set_cons_zero, List.set_cons_succ]
      rw [← hkB]
      refine Kt.G.done (by kernel_rfl) (NoPanic.normal ?_) _
      go_wp2_with fail
      go_meet
      case rel =>
        refine ⟨kB, MA, Mc, by rw [hkB], hk0, Kt.fill [.int .i64 size, .slice MA l.length Mc] rK rfl, (Kt.setCells_other [.int .i64 size, .slice MA l.length Mc] kB 0 _ _ (by omega)).trans (hHeld.row _ (List.Mem.head _)), Kt.Ar.of_sl (Kt.Sl.keep hsM fun k hk => Kt.setCells_other [.int .i64 size, .slice MA l.length Mc] kB 0 _ _ (hneM k hk)), Kt.below_setCells [.int .i64 size, .slice MA l.length Mc] kB 0 _ _ (by omega) hHeld.bel⟩
  case rest =>
    obtain ⟨kB, MA, Mc, rfl, hk0, hrB, hrA, hM, hbel⟩ := hcut
    have HT := Lib.hid (take_calls size l _ z al wc (hv.on hbel) (by omega))
    have HK := Lib.hid (Array.getElem?_eq_some_iff.1 hrB).1
    have q := fun i => cell_of_row _ _ i _ _ _ hrA
    have H0 := Lib.hid (And.intro hrB (And.intro hrA (And.intro hM hbel)))
    have HV := Lib.hid hv
    have HLL := Lib.hid hl
    clear hv hl hrB hrA hM hbel
    go_wp2_with fail
    refine HT.out.mono ?_
    rintro e w1 ⟨ht, hb⟩
    obtain ⟨b1, A1, m1, c1, k1, n1, rfl, hs1⟩ := take_sp ht
    have HW1 := Lib.hid (hb.alloc hb.size (.cells #[.int .i64 b1, .slice A1 m1 c1] 24))
    have HS1 := Lib.hid (hs1.on (Kt.balloc (Below.refl _ _) (.cells #[.int .i64 b1, .slice A1 m1 c1] 24)))
    have H10 := Lib.hid (heap_alloc_new w1 (.cells #[.int .i64 b1, .slice A1 m1 c1] 24))
    have HG := Lib.hid (give_calls size l _ p _ (HV.out.on (Kt.bthen H0.out.2.2.2 HW1.out)) (by have := HLL.out; omega))
    have hrA := Kt.row_on HW1.out H0.out.2.1
    clear ht hb hs1 q
    have q := fun i => cell_of_row _ _ i _ _ _ hrA
    go_wp2_with fail
    refine HG.out.mono ?_
    rintro e w2 ⟨hg, hb⟩
    obtain ⟨b2, A2, m2, c2, n2, rfl, hs2⟩ := give_sp hg
    have hba := Kt.balloc (Below.refl _ w2) (.cells #[.int .i64 b2, .slice A2 m2 c2] 24)
    have hb3 := Kt.bthen hb hba
    have HW3 := Lib.hid (HW1.out.trans (hb3.mono HW1.out.size))
    have HS1b := Lib.hid (HS1.out.on hb3)
    have HS2 := Lib.hid ((hs2.on hba).mono HW1.out.size)
    have H10b := Lib.hid (Kt.row_on hb3 H10.out)
    have H13 := Lib.hid (heap_alloc_new w2 (.cells #[.int .i64 b2, .slice A2 m2 c2] 24))
    have hrA := Kt.row_on HW3.out H0.out.2.1
    have hrB := Kt.row_on HW3.out H0.out.1
    have HSM := Lib.hid (same_calls size size l l _ _ _ (HV.out.on (Kt.bthen H0.out.2.2.2 HW3.out)) (H0.out.2.2.1.on HW3.out) HLL.out)
    clear hg hb hs2 hba hb3 q HS1 H10 HG HT HW1
    have q := fun i => cell_of_row _ _ i _ _ _ hrA
    have q2 := fun i => cell_of_row _ _ i _ _ _ hrB
    go_wp2_with fail
    refine HSM.out.mono ?_
    rintro e w4 ⟨r, rfl, hr, hb⟩
    obtain rfl : r = true := hr.2 (by first | trivial | exact ⟨rfl, rfl⟩)
    have HW4 := Lib.hid (HW3.out.trans (hb.mono HW3.out.size))
    have HS1c := Lib.hid (HS1b.out.on hb)
    have HS2c := Lib.hid (HS2.out.on hb)
    have h10 := Kt.row_on hb H10b.out
    have h13 := Kt.row_on hb H13.out
    clear hr hb hrA hrB q q2 HSM HW3 HS1b HS2 H10b H13
    have q := fun i => cell_of_row _ _ i _ _ _ h10
    have q2 := fun i => cell_of_row _ _ i _ _ _ h13
    go_wp2_with fail
    have hls := heap_alloc_new w4 (.cells #[.slice A1 m1 c1, .slice A2 m2 c2] 22)
    have hba := Kt.balloc (Below.refl _ w4) (.cells #[.slice A1 m1 c1, .slice A2 m2 c2] 22)
    have HSP : Hid (Spoil wc w4.heap.size (.slice A1 m1 c1) (.slice A2 m2 c2) (w4.alloc (.cells #[.slice A1 m1 c1, .slice A2 m2 c2] 22))) :=
      Lib.hid ⟨HW4.out.trans (hba.mono HW4.out.size), hls, (HS1c.out.sq).on hba, (HS2c.out.sq).on hba⟩
    clear hls hba h10 h13 q q2 HS1c HS2c
    generalize w4.heap.size = N at *
    go_loopw [48] (fun ii wr => ∃ j : Nat, Hid (j ≤ 2) ∧ ii = .int .i64 j ∧ Hid (Spoil wc N (.slice A1 m1 c1) (.slice A2 m2 c2) wr)) (fun ii _ => 2 - (intOf ii).toNat)
    case atStart => exact ⟨0, Lib.hid (by omega), rfl, HSP⟩
    case round =>
      clear HSP
      obtain ⟨j, HJ, rfl, HSP⟩ := hrel
      by_cases hj : j < 2
      · have hj' : (j : Int) < 2 := by omega
        obtain ⟨v, hv, hc, hs⟩ := HSP.out.at_ j hj
        rcases hs with rfl | ⟨g, o, n, cap, cur, rfl, h1, h6, h2, h3, h4, h5⟩
        · clear hv
          go_wp2_with fail
          go_loopw [58] (fun ii wr' => ii = .int .i64 0 ∧ wr' = wr) (fun ii _ => 0)
          case atStart => exact ⟨rfl, rfl⟩
          case round =>
            obtain ⟨rfl, rfl⟩ := hrel
            go_wp2_with fail
            exact ⟨⟨j + 1, Lib.hid hj, rfl, HSP⟩, next_l hj⟩
        · have HG := Lib.hid (And.intro h1 h6)
          have HVV := Lib.hid hv
          unfold maxLen at h3
          have hcap : (cap : Int) ≤ 9223372036854775807 := by omega
          have HCP := Lib.hid h3
          clear h1 h6 h2 h3 h4 h5 hv
          go_wp2_with fail
          clear hc
          go_loopw [58] (fun ii wr' => ∃ k : Nat, Hid (k ≤ cap) ∧ ii = .int .i64 k ∧ Hid (Spoil wc N (.slice A1 m1 c1) (.slice A2 m2 c2) wr')) (fun ii _ => cap - (intOf ii).toNat)
          case atStart => exact ⟨0, Lib.hid (by omega), rfl, HSP⟩
          case round =>
            clear HSP
            obtain ⟨k, HK, rfl, HSP⟩ := hrel
            by_cases hk : k < cap
            · have hk' : (k : Int) < cap := by omega
              have hsq := sq_of HVV.out HSP.out
              obtain ⟨_, _, ⟨x1, x2⟩, ⟨x3, x4⟩, x5, x6⟩ := hsq.cells k hk
              have HN := Lib.hid ((HSP.out.set g (o + k * 2) (.int .i64 (-1)) HG.out.1 HG.out.2).set g (o + k * 2 + 1) (.int .i64 0) HG.out.1 HG.out.2)
              clear hsq
              go_wp2_with fail
              exact ⟨⟨k + 1, Lib.hid hk, rfl, HN⟩, next_l hk⟩
            · have hk' : ¬ (k : Int) < cap := by omega
              go_wp2_with fail
              exact ⟨⟨j + 1, Lib.hid hj, rfl, HSP⟩, next_l hj⟩
      · have hj' : ¬ (j : Int) < 2 := by omega
        go_wp2_with fail
        refine (lives_calls _).mono ?_
        rintro en w9 ⟨rfl, hb⟩
        have HB9 := Lib.hid (HSP.out.bel.trans (hb.mono HSP.out.bel.size))
        have hrA := Kt.row_on HB9.out H0.out.2.1
        have hrB := Kt.row_on HB9.out H0.out.1
        have HSM := Lib.hid (same_calls size size l l _ _ _ (HV.out.on (Kt.bthen H0.out.2.2.2 HB9.out)) (H0.out.2.2.1.on HB9.out) HLL.out)
        have q := fun i => cell_of_row _ _ i _ _ _ hrA
        have q2 := fun i => cell_of_row _ _ i _ _ _ hrB
        clear hb
        go_wp2_with fail
        refine HSM.out.mono ?_
        rintro e w10 ⟨r, rfl, hr, hb⟩
        obtain rfl : r = true := hr.2 (by first | trivial | exact ⟨rfl, rfl⟩)
        have HB10 := Lib.hid (Kt.bthen (Kt.bthen H0.out.2.2.2 HB9.out) hb)
        clear hr hb q q2
        go_wp2_with fail
        go_ret
        exact ⟨rfl, HB10.out⟩
theorem own_walk (v0 v1 v2 v3 : Value) (w : World) (r0 : Fr.RdV w reachBytes arTy v0) (r1 : Fr.RdV w reachBytes (.int .i64) v1) (r2 : Fr.RdV w reachBytes (.int .i64) v2) (r3 : Fr.RdV w reachBytes (.int .i64) v3)
    (hf : ∀ (cs : Array Value) a n c, v0 = .agg cs → (cs.toList.drop 1).take 1 = [.slice a n c] → n * Try.prog.bytesOf 30 ≤ reachBytes) :
    Calls Try.prog 5 #[v0, v1, v2, v3] w fun e w' => e = .returned (.bool true) ∧ Below w.heap.size w w' := by
  obtain ⟨size, l, A0, c0, rfl, hv, hl⟩ := ar_arena r0
  obtain ⟨z, e1, _⟩ := r1
  obtain ⟨al, e2, _⟩ := r2
  obtain ⟨p, e3, _⟩ := r3
  cases e1; cases e2; cases e3
  have h16 := hf _ A0 l.length c0 rfl rfl
  rw [bytes_span] at h16
  exact own_main size l A0 c0 z al p w hv (by have h2 : reachBytes ≤ 140737488355328 := by decide
                                              omega)
end Go.Proofs.Ytdckakjfplhanaa
