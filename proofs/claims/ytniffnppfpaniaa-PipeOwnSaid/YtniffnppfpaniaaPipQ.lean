/- PipeOwn, walked. -/
import Derived.Test.YtniffnppfpaniaaPipO
import Derived.Deep.CutBlock
import Derived.Deep.CutRange
namespace Go.Proofs.Ytniffnppfpaniaa
open Go.RowKit
theorem Kt.row_on {w w' : World} {b : Nat} {cs : Array Value} {t : TypeId} (hb : Below w.heap.size w w') (h : w.heap[b]? = some (.cells cs t (0, 0))) : w'.heap[b]? = some (.cells cs t (0, 0)) :=
  (hb.block b (Array.getElem?_eq_some_iff.1 h).1).trans h
/-- a block that is stored whole -/
theorem Kt.fill {w : World} {b : Nat} {cur : Array Value} {t : TypeId} (news : List Value) (h : w.heap[b]? = some (.cells cur t (0, 0))) (hl : news.length = cur.size) : (w.setCells b 0 news).heap[b]? = some (.cells news.toArray t (0, 0)) := by
  obtain ⟨cur', h1, h2, _, h4⟩ := Kt.setCells_row (e := t) news b 0 w cur h (by omega)
  rw [h1]
  have : cur' = news.toArray := by
    apply Array.ext_getElem?
    intro i
    by_cases hi : i < news.length
    · have := h4 i news[i] (List.getElem?_eq_getElem hi)
      rw [Nat.zero_add] at this
      simp [this, hi]
    · rw [Array.getElem?_eq_none (by omega), Array.getElem?_eq_none (by simp; omega)]
  rw [this]
theorem Kt.box1 {w w1 : World} {c : Array Value} {t : TypeId} (hb : Below (w.alloc (.cells c t)).heap.size (w.alloc (.cells c t)) w1) : w1.heap[w.heap.size]? = some (.cells c t (0, 0)) :=
  Kt.row_on hb (heap_alloc_new w _)
set_option maxHeartbeats 800000 in
theorem spoil_only (v : Value) (n B : Nat) (xs : List Value) (w : World) (h : Kt.Sl w B 9 1 v n xs) : Calls Try.prog 15 #[v] w fun e w' => e = .returned (.tuple #[]) ∧ Below B w w' ∧ Shape w w' ∧ ∀ k, v.ownBlock ≠ some k → w'.heap[k]? = w.heap[k]? := by
  rcases h.2 with ⟨rfl, rfl⟩ | ⟨g, o, cap, cur, rfl, hb, hg, hn, hc, hz, hx⟩
  · go_enter Try.func15, Try.ntmps15
    go_wp2_with fail
    refine wp_loop_rounds 1 ?_
    rw [rounds_succ]
    go_wp2
    go_end0
    exact ⟨rfl, Below.refl _ _, Shape.refl _, fun _ _ => rfl⟩
  · unfold maxLen at hc
    have hci : (cap : Int) ≤ 9223372036854775807 := by omega
    clear h hx hn hc
    go_enter Try.func15, Try.ntmps15
    go_wp2_with fail
    go_loopw [9] (fun i wr => ∃ k : Nat, k ≤ cap ∧ i = .int .i64 k ∧ Below B w wr ∧ Shape w wr ∧ ∀ k, k ≠ g → wr.heap[k]? = w.heap[k]?) (fun i _ => cap - (intOf i).toNat)
    case atStart => exact ⟨0, Nat.zero_le _, rfl, Below.refl _ _, Shape.refl _, fun _ _ => rfl⟩
    case round =>
      obtain ⟨k, hk, rfl, hbel, hsh, hon⟩ := hrel
      have HON := Lib.hid hon; clear hon
      by_cases hlt : k < cap
      · obtain ⟨cur', h1, h2⟩ := hsh.row g cur _ hg
        have hcell : wr.cell? ⟨g, o + k, none⟩ = some (cur'[o + k]'(by omega)) := (cell_of_row wr g (o + k) _ _ _ h1).trans (Array.getElem?_eq_getElem (by omega))
        have hfr : wr.frozen? ⟨g, o + k, none⟩ = false := frozen_of_row wr g _ _ _ h1
        generalize cur'[o + k]'(by omega) = y at *
        go_wp2_with fail
        go_roundw
        case rel => exact ⟨k + 1, by omega, by go_num, hbel.setCell hb _, hsh.set g _ _ h1, fun k hk => (heap_setCell_other _ _ _ _ hk).trans (HON.out k hk)⟩
        case measure => simp [intOf]; omega
      · obtain rfl : k = cap := by omega
        go_wp2
        go_end0
        exact ⟨rfl, hbel, hsh, fun k hk => HON.out k fun e => hk (by rw [e]; rfl)⟩
set_option maxHeartbeats 3200000 in
theorem own_main (V : Value) (p : St) (f : Int) (w : World) (h : PA w V p) (h1 : p.ls.length ≤ 8796093022208) (h2 : p.gs.length ≤ 8796093022208) :
    Calls Try.prog 7 #[V, .int .i64 f] w fun e w' => e = .returned (.bool true) ∧ Below w.heap.size w w' := by
  obtain ⟨L, G, rfl, hL, hG⟩ := h
  have gL := hL; have gG := hG
  obtain ⟨LA, Lc, rfl, _, _⟩ := hL.form
  obtain ⟨GA, Gc, rfl, _, _⟩ := hG.form
  clear hL hG
  go_enter Try.func7, Try.ntmps7
  go_upto_region 1 with (fail)
  go_cut [5] from 9 to 19 (fun v wx => ∃ kB MA Mc NA Nc, v = .pointer (some ⟨kB, 0, none⟩) ∧ w.heap.size < kB ∧ wx.heap[kB]? = some (.cells #[.int .i64 p.s, .int .i64 p.t, .slice MA p.ls.length Mc, .slice NA p.gs.length Nc] 25 (0, 0)) ∧ wx.heap[w.heap.size]? = some (.cells #[.int .i64 p.s, .int .i64 p.t, .slice LA p.ls.length Lc, .slice GA p.gs.length Gc] 25 (0, 0)) ∧ Kt.Ar wx (.slice MA p.ls.length Mc) 1 p.ls.length (sts p.ls) ∧ Kt.Ar wx (.slice NA p.gs.length Nc) 1 p.gs.length (sts p.gs) ∧ Below w.heap.size w wx)
  case first =>
    have r0 := heap_alloc_new w (.cells #[.int .i64 p.s, .int .i64 p.t, .slice LA p.ls.length Lc, .slice GA p.gs.length Gc] 25)
    have HF := ((Kt.Fb.nil w (Kt.balloc (Below.refl _ w) _)).add r0).drew
    refine Kt.G.start 12 (Kt.Fb w [(w.heap.size, #[.int .i64 p.s, .int .i64 p.t, .slice LA p.ls.length Lc, .slice GA p.gs.length Gc], 25)]) (by kernel_rfl) HF (fun hHeld => ?_)
    clear r0 HF
    refine Kt.G.takeP 0 { dst := some 9, op := Op.fieldAddr 25 (Operand.tmp 2) 0, type := 0, pos := "pipe.go:74", after := #[], guard := none } ?_ (fun _ => hHeld) rfl (by kernel_rfl) (fun _ _ _ h => h) (by rfl) ?_ ?_
    rotate_left
    · intro w; go_simp; try with_reducible rfl
    try simp only [Act.put, List.setIfInBounds_toArray, List.set_cons_zero, List.set_cons_succ]
    refine Kt.G.take 1 { dst := some 10, op := Op.load 3 (Operand.tmp 9), type := 3, pos := "pipe.go:74", after := #[{ on := 0, ground := Ground.data }], guard := none } ?_ hHeld rfl (by kernel_rfl) (fun _ _ _ h => h) (by rfl) ?_ ?_
    rotate_left
    · intro w hSw; have r0 := hSw.row _ (List.Mem.head _); have c0 := fun i => cell_of_row _ _ i _ _ _ r0; dsimp only at *; go_simp; try with_reducible rfl
    try simp only [Act.put, List.setIfInBounds_toArray, List.set_cons_zero, List.set_cons_succ]
    refine Kt.G.takeP 2 { dst := some 11, op := Op.fieldAddr 25 (Operand.tmp 2) 1, type := 0, pos := "pipe.go:74", after := #[], guard := none } ?_ (fun _ => hHeld) rfl (by kernel_rfl) (fun _ _ _ h => h) (by rfl) ?_ ?_
    rotate_left
    · intro w; go_simp; try with_reducible rfl
    try simp only [Act.put, List.setIfInBounds_toArray, List.set_cons_zero, List.set_cons_succ]
    refine Kt.G.take 3 { dst := some 12, op := Op.load 3 (Operand.tmp 11), type := 3, pos := "pipe.go:74", after := #[{ on := 2, ground := Ground.data }], guard := none } ?_ hHeld rfl (by kernel_rfl) (fun _ _ _ h => h) (by rfl) ?_ ?_
    rotate_left
    · intro w hSw; have r0 := hSw.row _ (List.Mem.head _); have c0 := fun i => cell_of_row _ _ i _ _ _ r0; dsimp only at *; go_simp; try with_reducible rfl
    try simp only [Act.put, List.setIfInBounds_toArray, List.set_cons_zero, List.set_cons_succ]
    refine Kt.G.takeP 4 { dst := some 13, op := Op.fieldAddr 25 (Operand.tmp 2) 2, type := 0, pos := "pipe.go:74", after := #[], guard := none } ?_ (fun _ => hHeld) rfl (by kernel_rfl) (fun _ _ _ h => h) (by rfl) ?_ ?_
    rotate_left
    · intro w; go_simp; try with_reducible rfl
    try simp only [Act.put, List.setIfInBounds_toArray, List.set_cons_zero, List.set_cons_succ]
    refine Kt.G.take 5 { dst := some 14, op := Op.load 22 (Operand.tmp 13), type := 22, pos := "pipe.go:74", after := #[{ on := 4, ground := Ground.data }], guard := none } ?_ hHeld rfl (by kernel_rfl) (fun _ _ _ h => h) (by rfl) ?_ ?_
    rotate_left
    · intro w hSw; have r0 := hSw.row _ (List.Mem.head _); have c0 := fun i => cell_of_row _ _ i _ _ _ r0; dsimp only at *; go_simp; try with_reducible rfl
    try simp only [Act.put, List.setIfInBounds_toArray, List.set_cons_zero, List.set_cons_succ]
    refine Kt.G.takeP 7 { dst := some 16, op := Op.fieldAddr 25 (Operand.tmp 2) 3, type := 0, pos := "pipe.go:74", after := #[], guard := none } ?_ (fun _ => hHeld) rfl (by kernel_rfl) (fun _ _ _ h => h) (by rfl) ?_ ?_
    rotate_left
    · intro w; go_simp; try with_reducible rfl
    try simp only [Act.put, List.setIfInBounds_toArray, List.set_cons_zero, List.set_cons_succ]
    refine Kt.G.take 8 { dst := some 17, op := Op.load 22 (Operand.tmp 16), type := 22, pos := "pipe.go:74", after := #[{ on := 7, ground := Ground.data }], guard := none } ?_ hHeld rfl (by kernel_rfl) (fun _ _ _ h => h) (by rfl) ?_ ?_
    rotate_left
    · intro w hSw; have r0 := hSw.row _ (List.Mem.head _); have c0 := fun i => cell_of_row _ _ i _ _ _ r0; dsimp only at *; go_simp; try with_reducible rfl
    try simp only [Act.put, List.setIfInBounds_toArray, List.set_cons_zero, List.set_cons_succ]
    refine Kt.G.two 6 11 { dst := some 15, op := Op.call { callee := Callee.value (Operand.func 14), args := #[Operand.tmp 14], argTypes := #[22] }, type := 22, pos := "pipe.go:74", after := #[{ on := 5, ground := Ground.data }], guard := none } { dst := some 5, op := Op.alloc 25, type := 0, pos := "pipe.go:74", after := #[], guard := none } rfl rfl (by kernel_rfl) (by rfl) (by rfl) (fun K hK => ?_) (fun K hK => ?_)
    · go_simp
      refine (clone_calls _ _ _ _ (gL.on hHeld.bel) (sts_one _) (by omega)).mono ?_; rintro en xa ⟨MA, Mc, rfl, hsM, hbxa⟩
      try (have hneM : ∀ k, (Value.slice MA p.ls.length Mc).ownBlock = some k → k ≠ kB := fun k hk => by have h1 := (hsM.lt k hk).1; have h2 := (Array.getElem?_eq_some_iff.1 rK).1; first | omega | (have h3 : ((w.alloc (.cells #[.int .i64 p.s, .int .i64 p.t, .slice LA p.ls.length Lc, .slice GA p.gs.length Gc] 25)).alloc (.cells #[.int .i64 0, .int .i64 0, .slice none 0 0, .slice none 0 0] 25)).heap.size ≤ k := h1; rw [World.size_alloc, World.size_alloc] at h3; omega))
      replace hsM := hsM.mono (B' := w.heap.size) hHeld.bel.size
      try (replace rK := Kt.row_on hbxa rK)
      refine hK.out _ _ (fun _ => hHeld.on hbxa) (fun hHeld => ?_)
      have hHeld := hHeld rfl
      clear hK K
      try simp only [Act.put, List.setIfInBounds_toArray, List.set_cons_zero, List.set_cons_succ]
      refine Kt.G.two 9 11 { dst := some 18, op := Op.call { callee := Callee.value (Operand.func 14), args := #[Operand.tmp 17], argTypes := #[22] }, type := 22, pos := "pipe.go:74", after := #[{ on := 8, ground := Ground.data }, { on := 6, ground := Ground.chain }], guard := none } { dst := some 5, op := Op.alloc 25, type := 0, pos := "pipe.go:74", after := #[], guard := none } rfl rfl (by kernel_rfl) (by rfl) (by rfl) (fun K hK => ?_) (fun K hK => ?_)
      · go_simp
        refine (clone_calls _ _ _ _ (gG.on hHeld.bel) (sts_one _) (by omega)).mono ?_; rintro en xb ⟨NA, Nc, rfl, hsN, hbxb⟩
        try (have hneN : ∀ k, (Value.slice NA p.gs.length Nc).ownBlock = some k → k ≠ kB := fun k hk => by have h1 := (hsN.lt k hk).1; have h2 := (Array.getElem?_eq_some_iff.1 rK).1; first | omega | (have h3 : ((w.alloc (.cells #[.int .i64 p.s, .int .i64 p.t, .slice LA p.ls.length Lc, .slice GA p.gs.length Gc] 25)).alloc (.cells #[.int .i64 0, .int .i64 0, .slice none 0 0, .slice none 0 0] 25)).heap.size ≤ k := h1; rw [World.size_alloc, World.size_alloc] at h3; omega))
        replace hsN := hsN.mono (B' := w.heap.size) hHeld.bel.size
        try (replace rK := Kt.row_on hbxb rK)
        replace hsM := hsM.on hbxb
        refine hK.out _ _ (fun _ => hHeld.on hbxb) (fun hHeld => ?_)
        have hHeld := hHeld rfl
        clear hK K
        try simp only [Act.put, List.setIfInBounds_toArray, List.set_cons_zero, List.set_cons_succ]
        refine Kt.G.takeP 10 { dst := some 19, op := Op.build 25 #[(0, Operand.tmp 10), (1, Operand.tmp 12), (2, Operand.tmp 15), (3, Operand.tmp 18)], type := 25, pos := "pipe.go:74", after := #[{ on := 1, ground := Ground.data }, { on := 3, ground := Ground.data }, { on := 6, ground := Ground.data }, { on := 9, ground := Ground.data }], guard := none } ?_ (fun _ => hHeld) rfl (by kernel_rfl) (fun _ _ _ h => h) (by rfl) ?_ ?_
        rotate_left
        · intro w; go_simp; try with_reducible rfl
        try simp only [Act.put, List.setIfInBounds_toArray, List.set_cons_zero, List.set_cons_succ]
        refine Kt.G.one 11 { dst := some 5, op := Op.alloc 25, type := 0, pos := "pipe.go:74", after := #[], guard := none } rfl (by kernel_rfl) (by rfl) (fun K hK => ?_)
        have hHeld0 := hHeld
        go_simp
        refine hK.out _ _ (fun _ => hHeld.alloc _) (fun hHeld => ?_)
        have hHeld := hHeld rfl
        clear hK K
        try simp only [Act.put, List.setIfInBounds_toArray, List.set_cons_zero, List.set_cons_succ]
        obtain ⟨kB, hkB⟩ : ∃ k, k = (xb).heap.size := ⟨_, rfl⟩
        have rK := heap_alloc_new (xb) (.cells #[.int .i64 0, .int .i64 0, .slice none 0 0, .slice none 0 0] 25); rw [← hkB] at rK
        have hk0 : w.heap.size < kB := by rw [hkB]; have h1 := hHeld.lt (List.Mem.head _); have h2 : ((xb).alloc (.cells #[.int .i64 0, .int .i64 0, .slice none 0 0, .slice none 0 0] 25)).heap.size = (xb).heap.size + 1 := World.size_alloc _ _; have h3 := hHeld0.lt (List.Mem.head _); dsimp only at h1 h3; omega
        try (have hneM : ∀ k, (Value.slice MA p.ls.length Mc).ownBlock = some k → k ≠ kB := fun k hk => by have h1 := (hsM.lt k hk).2; omega)
        (try (replace hkB : kB = w.heap.size + 1 := by rw [hkB]; exact World.size_alloc _ _))
        try (have hneN : ∀ k, (Value.slice NA p.gs.length Nc).ownBlock = some k → k ≠ kB := fun k hk => by have h1 := (hsN.lt k hk).2; omega)
        try (replace hsM := hsM.alloc (.cells #[.int .i64 0, .int .i64 0, .slice none 0 0, .slice none 0 0] 25))
        try (replace hsN := hsN.alloc (.cells #[.int .i64 0, .int .i64 0, .slice none 0 0, .slice none 0 0] 25))
        generalize xb.alloc (.cells #[.int .i64 0, .int .i64 0, .slice none 0 0, .slice none 0 0] 25) = xk at *
        refine Kt.G.one 12 { dst := none, op := Op.store 25 (Operand.tmp 5) (Operand.tmp 19), type := 0, pos := "pipe.go:74", after := #[{ on := 11, ground := Ground.data }, { on := 10, ground := Ground.data }, { on := 9, ground := Ground.chain }, { on := 0, ground := Ground.phase }, { on := 1, ground := Ground.phase }, { on := 2, ground := Ground.phase }, { on := 3, ground := Ground.phase }, { on := 4, ground := Ground.phase }, { on := 5, ground := Ground.phase }, { on := 6, ground := Ground.phase }, { on := 7, ground := Ground.phase }, { on := 8, ground := Ground.phase }, { on := 9, ground := Ground.phase }, { on := 10, ground := Ground.phase }, { on := 11, ground := Ground.phase }], guard := none } rfl (by kernel_rfl) (by rfl) (fun K hK => ?_)
        have cK := fun i => cell_of_row _ _ i _ _ _ rK; have fK := fun i => frozen_of_row _ _ i _ _ rK
        rw [hkB] at cK fK
        go_simp
        refine hK.out _ _ (Kt.G.late (by kernel_rfl)) (fun _ => ?_)
        clear hK K
        try simp only [Act.put, List.setIfInBounds_toArray, List.set_cons_zero, List.set_cons_succ]
        rw [← hkB]
        refine Kt.G.done (by kernel_rfl) (NoPanic.normal ?_) _
        go_wp2_with fail
        go_meet
        case rel =>
          refine ⟨kB, MA, Mc, NA, Nc, by rw [hkB], hk0, Kt.fill [.int .i64 p.s, .int .i64 p.t, .slice MA p.ls.length Mc, .slice NA p.gs.length Nc] rK rfl, (Kt.setCells_other [.int .i64 p.s, .int .i64 p.t, .slice MA p.ls.length Mc, .slice NA p.gs.length Nc] kB 0 _ _ (by omega)).trans (hHeld.row _ (List.Mem.head _)), Kt.Ar.of_sl (Kt.Sl.keep hsM fun k hk => Kt.setCells_other [.int .i64 p.s, .int .i64 p.t, .slice MA p.ls.length Mc, .slice NA p.gs.length Nc] kB 0 _ _ (hneM k hk)), Kt.Ar.of_sl (Kt.Sl.keep hsN fun k hk => Kt.setCells_other [.int .i64 p.s, .int .i64 p.t, .slice MA p.ls.length Mc, .slice NA p.gs.length Nc] kB 0 _ _ (hneN k hk)), Kt.below_setCells [.int .i64 p.s, .int .i64 p.t, .slice MA p.ls.length Mc, .slice NA p.gs.length Nc] kB 0 _ _ (by omega) hHeld.bel⟩
      · have hHeld0 := hHeld
        go_simp
        refine hK.out _ _ (fun _ => hHeld.alloc _) (fun hHeld => ?_)
        have hHeld := hHeld rfl
        clear hK K
        try simp only [Act.put, List.setIfInBounds_toArray, List.set_cons_zero, List.set_cons_succ]
        obtain ⟨kB, hkB⟩ : ∃ k, k = (xa).heap.size := ⟨_, rfl⟩
        have rK := heap_alloc_new (xa) (.cells #[.int .i64 0, .int .i64 0, .slice none 0 0, .slice none 0 0] 25); rw [← hkB] at rK
        have hk0 : w.heap.size < kB := by rw [hkB]; have h1 := hHeld.lt (List.Mem.head _); have h2 : ((xa).alloc (.cells #[.int .i64 0, .int .i64 0, .slice none 0 0, .slice none 0 0] 25)).heap.size = (xa).heap.size + 1 := World.size_alloc _ _; have h3 := hHeld0.lt (List.Mem.head _); dsimp only at h1 h3; omega
        try (have hneM : ∀ k, (Value.slice MA p.ls.length Mc).ownBlock = some k → k ≠ kB := fun k hk => by have h1 := (hsM.lt k hk).2; omega)
        (try (replace hkB : kB = w.heap.size + 1 := by rw [hkB]; exact World.size_alloc _ _))
        try (have hneN : ∀ k, (Value.slice NA p.gs.length Nc).ownBlock = some k → k ≠ kB := fun k hk => by have h1 := (hsN.lt k hk).2; omega)
        try (replace hsM := hsM.alloc (.cells #[.int .i64 0, .int .i64 0, .slice none 0 0, .slice none 0 0] 25))
        try (replace hsN := hsN.alloc (.cells #[.int .i64 0, .int .i64 0, .slice none 0 0, .slice none 0 0] 25))
        generalize xa.alloc (.cells #[.int .i64 0, .int .i64 0, .slice none 0 0, .slice none 0 0] 25) = xk at *
        refine Kt.G.one 9 { dst := some 18, op := Op.call { callee := Callee.value (Operand.func 14), args := #[Operand.tmp 17], argTypes := #[22] }, type := 22, pos := "pipe.go:74", after := #[{ on := 8, ground := Ground.data }, { on := 6, ground := Ground.chain }], guard := none } rfl (by kernel_rfl) (by rfl) (fun K hK => ?_)
        go_simp
        refine (clone_calls _ _ _ _ (gG.on hHeld.bel) (sts_one _) (by omega)).mono ?_; rintro en xb ⟨NA, Nc, rfl, hsN, hbxb⟩
        try (have hneN : ∀ k, (Value.slice NA p.gs.length Nc).ownBlock = some k → k ≠ kB := fun k hk => by have h1 := (hsN.lt k hk).1; have h2 := (Array.getElem?_eq_some_iff.1 rK).1; first | omega | (have h3 : ((w.alloc (.cells #[.int .i64 p.s, .int .i64 p.t, .slice LA p.ls.length Lc, .slice GA p.gs.length Gc] 25)).alloc (.cells #[.int .i64 0, .int .i64 0, .slice none 0 0, .slice none 0 0] 25)).heap.size ≤ k := h1; rw [World.size_alloc, World.size_alloc] at h3; omega))
        replace hsN := hsN.mono (B' := w.heap.size) hHeld.bel.size
        try (replace rK := Kt.row_on hbxb rK)
        replace hsM := hsM.on hbxb
        refine hK.out _ _ (fun _ => hHeld.on hbxb) (fun hHeld => ?_)
        have hHeld := hHeld rfl
        clear hK K
        try simp only [Act.put, List.setIfInBounds_toArray, List.set_cons_zero, List.set_cons_succ]
        refine Kt.G.takeP 10 { dst := some 19, op := Op.build 25 #[(0, Operand.tmp 10), (1, Operand.tmp 12), (2, Operand.tmp 15), (3, Operand.tmp 18)], type := 25, pos := "pipe.go:74", after := #[{ on := 1, ground := Ground.data }, { on := 3, ground := Ground.data }, { on := 6, ground := Ground.data }, { on := 9, ground := Ground.data }], guard := none } ?_ (fun _ => hHeld) rfl (by kernel_rfl) (fun _ _ _ h => h) (by rfl) ?_ ?_
        rotate_left
        · intro w; go_simp; try with_reducible rfl
        try simp only [Act.put, List.setIfInBounds_toArray, List.set_cons_zero, List.set_cons_succ]
        refine Kt.G.one 12 { dst := none, op := Op.store 25 (Operand.tmp 5) (Operand.tmp 19), type := 0, pos := "pipe.go:74", after := #[{ on := 11, ground := Ground.data }, { on := 10, ground := Ground.data }, { on := 9, ground := Ground.chain }, { on := 0, ground := Ground.phase }, { on := 1, ground := Ground.phase }, { on := 2, ground := Ground.phase }, { on := 3, ground := Ground.phase }, { on := 4, ground := Ground.phase }, { on := 5, ground := Ground.phase }, { on := 6, ground := Ground.phase }, { on := 7, ground := Ground.phase }, { on := 8, ground := Ground.phase }, { on := 9, ground := Ground.phase }, { on := 10, ground := Ground.phase }, { on := 11, ground := Ground.phase }], guard := none } rfl (by kernel_rfl) (by rfl) (fun K hK => ?_)
        have cK := fun i => cell_of_row _ _ i _ _ _ rK; have fK := fun i => frozen_of_row _ _ i _ _ rK
        rw [hkB] at cK fK
        go_simp
        refine hK.out _ _ (Kt.G.late (by kernel_rfl)) (fun _ => ?_)
        clear hK K
        try simp only [Act.put, List.setIfInBounds_toArray, List.set_cons_zero, List.set_cons_succ]
        rw [← hkB]
        refine Kt.G.done (by kernel_rfl) (NoPanic.normal ?_) _
        go_wp2_with fail
        go_meet
        case rel =>
          refine ⟨kB, MA, Mc, NA, Nc, by rw [hkB], hk0, Kt.fill [.int .i64 p.s, .int .i64 p.t, .slice MA p.ls.length Mc, .slice NA p.gs.length Nc] rK rfl, (Kt.setCells_other [.int .i64 p.s, .int .i64 p.t, .slice MA p.ls.length Mc, .slice NA p.gs.length Nc] kB 0 _ _ (by omega)).trans (hHeld.row _ (List.Mem.head _)), Kt.Ar.of_sl (Kt.Sl.keep hsM fun k hk => Kt.setCells_other [.int .i64 p.s, .int .i64 p.t, .slice MA p.ls.length Mc, .slice NA p.gs.length Nc] kB 0 _ _ (hneM k hk)), Kt.Ar.of_sl (Kt.Sl.keep hsN fun k hk => Kt.setCells_other [.int .i64 p.s, .int .i64 p.t, .slice MA p.ls.length Mc, .slice NA p.gs.length Nc] kB 0 _ _ (hneN k hk)), Kt.below_setCells [.int .i64 p.s, .int .i64 p.t, .slice MA p.ls.length Mc, .slice NA p.gs.length Nc] kB 0 _ _ (by omega) hHeld.bel⟩
    · have hHeld0 := hHeld
      go_simp
      refine hK.out _ _ (fun _ => hHeld.alloc _) (fun hHeld => ?_)
      have hHeld := hHeld rfl
      clear hK K
      try simp only [Act.put, List.setIfInBounds_toArray, List.set_cons_zero, List.set_cons_succ]
      obtain ⟨kB, hkB⟩ : ∃ k, k = ((w.alloc (.cells #[.int .i64 p.s, .int .i64 p.t, .slice LA p.ls.length Lc, .slice GA p.gs.length Gc] 25)).drew).heap.size := ⟨_, rfl⟩
      have rK := heap_alloc_new ((w.alloc (.cells #[.int .i64 p.s, .int .i64 p.t, .slice LA p.ls.length Lc, .slice GA p.gs.length Gc] 25)).drew) (.cells #[.int .i64 0, .int .i64 0, .slice none 0 0, .slice none 0 0] 25); rw [← hkB] at rK
      have hk0 : w.heap.size < kB := by rw [hkB]; have h1 := hHeld.lt (List.Mem.head _); have h2 : (((w.alloc (.cells #[.int .i64 p.s, .int .i64 p.t, .slice LA p.ls.length Lc, .slice GA p.gs.length Gc] 25)).drew).alloc (.cells #[.int .i64 0, .int .i64 0, .slice none 0 0, .slice none 0 0] 25)).heap.size = ((w.alloc (.cells #[.int .i64 p.s, .int .i64 p.t, .slice LA p.ls.length Lc, .slice GA p.gs.length Gc] 25)).drew).heap.size + 1 := World.size_alloc _ _; have h3 := hHeld0.lt (List.Mem.head _); dsimp only at h1 h3; omega
      try (have hneM : ∀ k, (Value.slice MA p.ls.length Mc).ownBlock = some k → k ≠ kB := fun k hk => by have h1 := (hsM.lt k hk).2; omega)
      (try (replace hkB : kB = w.heap.size + 1 := by rw [hkB]; exact World.size_alloc _ _))
      try (have hneN : ∀ k, (Value.slice NA p.gs.length Nc).ownBlock = some k → k ≠ kB := fun k hk => by have h1 := (hsN.lt k hk).2; omega)
      try (replace hsM := hsM.alloc (.cells #[.int .i64 0, .int .i64 0, .slice none 0 0, .slice none 0 0] 25))
      try (replace hsN := hsN.alloc (.cells #[.int .i64 0, .int .i64 0, .slice none 0 0, .slice none 0 0] 25))
      refine Kt.G.one 6 { dst := some 15, op := Op.call { callee := Callee.value (Operand.func 14), args := #[Operand.tmp 14], argTypes := #[22] }, type := 22, pos := "pipe.go:74", after := #[{ on := 5, ground := Ground.data }], guard := none } rfl (by kernel_rfl) (by rfl) (fun K hK => ?_)
      go_simp
      refine (clone_calls _ _ _ _ (gL.on hHeld.bel) (sts_one _) (by omega)).mono ?_; rintro en xa ⟨MA, Mc, rfl, hsM, hbxa⟩
      try (have hneM : ∀ k, (Value.slice MA p.ls.length Mc).ownBlock = some k → k ≠ kB := fun k hk => by have h1 := (hsM.lt k hk).1; have h2 := (Array.getElem?_eq_some_iff.1 rK).1; first | omega | (have h3 : ((w.alloc (.cells #[.int .i64 p.s, .int .i64 p.t, .slice LA p.ls.length Lc, .slice GA p.gs.length Gc] 25)).alloc (.cells #[.int .i64 0, .int .i64 0, .slice none 0 0, .slice none 0 0] 25)).heap.size ≤ k := h1; rw [World.size_alloc, World.size_alloc] at h3; omega))
      replace hsM := hsM.mono (B' := w.heap.size) hHeld.bel.size
      try (replace rK := Kt.row_on hbxa rK)
      refine hK.out _ _ (fun _ => hHeld.on hbxa) (fun hHeld => ?_)
      have hHeld := hHeld rfl
      clear hK K
      try simp only [Act.put, List.setIfInBounds_toArray, List.set_cons_zero, List.set_cons_succ]
      refine Kt.G.one 9 { dst := some 18, op := Op.call { callee := Callee.value (Operand.func 14), args := #[Operand.tmp 17], argTypes := #[22] }, type := 22, pos := "pipe.go:74", after := #[{ on := 8, ground := Ground.data }, { on := 6, ground := Ground.chain }], guard := none } rfl (by kernel_rfl) (by rfl) (fun K hK => ?_)
      go_simp
      refine (clone_calls _ _ _ _ (gG.on hHeld.bel) (sts_one _) (by omega)).mono ?_; rintro en xb ⟨NA, Nc, rfl, hsN, hbxb⟩
      try (have hneN : ∀ k, (Value.slice NA p.gs.length Nc).ownBlock = some k → k ≠ kB := fun k hk => by have h1 := (hsN.lt k hk).1; have h2 := (Array.getElem?_eq_some_iff.1 rK).1; first | omega | (have h3 : ((w.alloc (.cells #[.int .i64 p.s, .int .i64 p.t, .slice LA p.ls.length Lc, .slice GA p.gs.length Gc] 25)).alloc (.cells #[.int .i64 0, .int .i64 0, .slice none 0 0, .slice none 0 0] 25)).heap.size ≤ k := h1; rw [World.size_alloc, World.size_alloc] at h3; omega))
      replace hsN := hsN.mono (B' := w.heap.size) hHeld.bel.size
      try (replace rK := Kt.row_on hbxb rK)
      replace hsM := hsM.on hbxb
      refine hK.out _ _ (fun _ => hHeld.on hbxb) (fun hHeld => ?_)
      have hHeld := hHeld rfl
      clear hK K
      try simp only [Act.put, List.setIfInBounds_toArray, List.set_cons_zero, List.set_cons_succ]
      refine Kt.G.takeP 10 { dst := some 19, op := Op.build 25 #[(0, Operand.tmp 10), (1, Operand.tmp 12), (2, Operand.tmp 15), (3, Operand.tmp 18)], type := 25, pos := "pipe.go:74", after := #[{ on := 1, ground := Ground.data }, { on := 3, ground := Ground.data }, { on := 6, ground := Ground.data }, { on := 9, ground := Ground.data }], guard := none } ?_ (fun _ => hHeld) rfl (by kernel_rfl) (fun _ _ _ h => h) (by rfl) ?_ ?_
      rotate_left
      · intro w; go_simp; try with_reducible rfl
      try simp only [Act.put, List.setIfInBounds_toArray, List.set_cons_zero, List.set_cons_succ]
      refine Kt.G.one 12 { dst := none, op := Op.store 25 (Operand.tmp 5) (Operand.tmp 19), type := 0, pos := "pipe.go:74", after := #[{ on := 11, ground := Ground.data }, { on := 10, ground := Ground.data }, { on := 9, ground := Ground.chain }, { on := 0, ground := Ground.phase }, { on := 1, ground := Ground.phase }, { on := 2, ground := Ground.phase }, { on := 3, ground := Ground.phase }, { on := 4, ground := Ground.phase }, { on := 5, ground := Ground.phase }, { on := 6, ground := Ground.phase }, { on := 7, ground := Ground.phase }, { on := 8, ground := Ground.phase }, { on := 9, ground := Ground.phase }, { on := 10, ground := Ground.phase }, { on := 11, ground := Ground.phase }], guard := none } rfl (by kernel_rfl) (by rfl) (fun K hK => ?_)
      have cK := fun i => cell_of_row _ _ i _ _ _ rK; have fK := fun i => frozen_of_row _ _ i _ _ rK
      rw [hkB] at cK fK
      go_simp
      refine hK.out _ _ (Kt.G.late (by kernel_rfl)) (fun _ => ?_)
      clear hK K
      try simp only [Act.put, List.setIfInBounds_toArray, List.set_cons_zero, List.set_cons_succ]
      rw [← hkB]
      refine Kt.G.done (by kernel_rfl) (NoPanic.normal ?_) _
      go_wp2_with fail
      go_meet
      case rel =>
        refine ⟨kB, MA, Mc, NA, Nc, by rw [hkB], hk0, Kt.fill [.int .i64 p.s, .int .i64 p.t, .slice MA p.ls.length Mc, .slice NA p.gs.length Nc] rK rfl, (Kt.setCells_other [.int .i64 p.s, .int .i64 p.t, .slice MA p.ls.length Mc, .slice NA p.gs.length Nc] kB 0 _ _ (by omega)).trans (hHeld.row _ (List.Mem.head _)), Kt.Ar.of_sl (Kt.Sl.keep hsM fun k hk => Kt.setCells_other [.int .i64 p.s, .int .i64 p.t, .slice MA p.ls.length Mc, .slice NA p.gs.length Nc] kB 0 _ _ (hneM k hk)), Kt.Ar.of_sl (Kt.Sl.keep hsN fun k hk => Kt.setCells_other [.int .i64 p.s, .int .i64 p.t, .slice MA p.ls.length Mc, .slice NA p.gs.length Nc] kB 0 _ _ (hneN k hk)), Kt.below_setCells [.int .i64 p.s, .int .i64 p.t, .slice MA p.ls.length Mc, .slice NA p.gs.length Nc] kB 0 _ _ (by omega) hHeld.bel⟩
  case rest =>
    obtain ⟨kB, MA, Mc, NA, Nc, rfl, hk, rK, r2, hM, hN, hbel⟩ := hcut
    have hkz : kB < wc.heap.size := (Array.getElem?_eq_some_iff.1 rK).1
    have hwz : w.heap.size < wc.heap.size := by omega
    have hp : PA wc (.agg #[.int .i64 p.s, .int .i64 p.t, .slice LA p.ls.length Lc, .slice GA p.gs.length Gc]) p := ⟨_, _, rfl, gL.on hbel, gG.on hbel⟩
    have hd : PA wc (.agg #[.int .i64 p.s, .int .i64 p.t, .slice MA p.ls.length Mc, .slice NA p.gs.length Nc]) p := ⟨_, _, rfl, hM, hN⟩
    clear hM hN gL gG
    have q2 := fun i => cell_of_row _ _ i _ _ _ r2
    go_wp2_with fail
    have key : ∃ P : Ending → World → Prop, Calls Try.prog 13 #[.agg #[.int .i64 p.s, .int .i64 p.t, .slice LA p.ls.length Lc, .slice GA p.gs.length Gc], .int .i64 f] wc P ∧
        ∀ e w', P e w' → ∃ a b X n c Y m d l g k, e = .returned (.tuple #[.agg #[.int .i64 a, .int .i64 b, .slice X n c, .slice Y m d], .int .i64 k]) ∧ Kt.Sl w' wc.heap.size 9 1 (.slice X n c) n l ∧ Kt.Sl w' wc.heap.size 9 1 (.slice Y m d) m g ∧ Below wc.heap.size wc w' := by
      rcases step_total _ p f wc hp with ⟨_, _, h⟩ | ⟨n, _, h⟩
      · refine ⟨_, h, ?_⟩
        rintro e w' ⟨v, rfl, ⟨QL, QG, rfl, s1, s2⟩, hb⟩
        obtain ⟨X, c, rfl, _, _⟩ := s1.form
        obtain ⟨Y, d, rfl, _, _⟩ := s2.form
        exact ⟨_, _, _, _, _, _, _, _, _, _, _, rfl, s1, s2, hb⟩
      · refine ⟨_, h, ?_⟩
        rintro e w' ⟨rfl, hb⟩
        exact ⟨0, 0, none, 0, 0, none, 0, 0, [], [], n, rfl, Kt.Sl.nil _ _ _ _, Kt.Sl.nil _ _ _ _, hb⟩
    obtain ⟨P, hP, hP2⟩ := key
    refine hP.mono ?_
    intro en w1 hpe
    obtain ⟨a, b, X, n, c, Y, m, d, l, g, k, rfl, s1, s2, hb1⟩ := hP2 _ _ hpe
    have n1 : ∀ k, (Value.slice X n c).ownBlock = some k → k < w1.heap.size := fun k hk => (s1.lt k hk).2
    have n2 : ∀ k, (Value.slice Y m d).ownBlock = some k → k < w1.heap.size := fun k hk => (s2.lt k hk).2
    have N1 := Lib.hid n1; have N2 := Lib.hid n2
    clear hP hP2 hpe q2 n1 n2
    replace r2 := Kt.row_on hb1 r2
    replace rK := Kt.row_on hb1 rK
    have q2 := fun i => cell_of_row _ _ i _ _ _ r2
    have qK := fun i => cell_of_row _ _ i _ _ _ rK
    have hkz1 : kB < w1.heap.size := (Array.getElem?_eq_some_iff.1 rK).1
    have hwz1 : w.heap.size < w1.heap.size := (Array.getElem?_eq_some_iff.1 r2).1
    go_wp2_with fail
    refine (same_true _ _ p _ (hp.on (Kt.balloc hb1 _)) (hd.on (Kt.balloc hb1 _)) h1 h2).mono ?_
    rintro en w2 ⟨rfl, hb2⟩
    have r6 := Kt.box1 hb2
    have hwz6 : w1.heap.size < w2.heap.size := (Array.getElem?_eq_some_iff.1 r6).1
    have hb12 := Kt.bthen (Kt.balloc (Below.refl _ w1) (.cells #[.int .i64 a, .int .i64 b, .slice X n c, .slice Y m d] 25)) hb2
    replace s1 := s1.on hb12
    replace s2 := s2.on hb12
    replace r2 := Kt.row_on hb12 r2
    replace rK := Kt.row_on hb12 rK
    have hbW := Kt.bthen hb1 hb12
    clear q2 qK hb2 hb12 hb1
    have q6 := fun i => cell_of_row _ _ i _ _ _ r6
    go_wp2_with fail
    refine (spoil_only _ n wc.heap.size l _ s1).mono ?_
    rintro en w3 ⟨rfl, hb3, hsh3, hon3⟩
    replace r6 := (hon3 w1.heap.size (fun e => by have := N1.out _ e; omega)).trans r6
    obtain ⟨g', s2'⟩ := hsh3.sl s2
    replace r2 := (hb3.block _ hwz).trans r2
    replace rK := (hb3.block _ hkz).trans rK
    replace hbW := hbW.trans hb3
    clear hb3 hsh3 hon3 s1 s2 q6
    have q6 := fun i => cell_of_row _ _ i _ _ _ r6
    go_wp2_with fail
    refine (spoil_only _ m wc.heap.size g' _ s2').mono ?_
    rintro en w4 ⟨rfl, hb4, hsh4, hon4⟩
    replace r2 := (hb4.block _ hwz).trans r2
    replace rK := (hb4.block _ hkz).trans rK
    replace hbW := hbW.trans hb4
    clear hb4 hsh4 hon4 s2' q6 r6
    go_wp2_with fail
    refine (lives_calls _).mono ?_
    rintro en w5 ⟨rfl, hb5⟩
    replace r2 := Kt.row_on hb5 r2
    replace rK := Kt.row_on hb5 rK
    replace hbW := hbW.trans (hb5.mono (hbW.size))
    clear hb5
    have q2 := fun i => cell_of_row _ _ i _ _ _ r2
    have qK := fun i => cell_of_row _ _ i _ _ _ rK
    go_wp2_with fail
    refine (same_true _ _ p _ (hp.on hbW) (hd.on hbW) h1 h2).mono ?_
    rintro en w6 ⟨rfl, hb6⟩
    have hfin := Kt.bthen hbel (hbW.trans (hb6.mono (hbW.size)))
    clear hb6
    go_wp2_with fail
    go_ret
    exact ⟨rfl, hfin⟩
theorem own_walk (v0 v1 : Value) (w : World) (r0 : Fr.RdV w reachBytes (.cat 1 (.int .i64) (.cat 1 (.int .i64) (.cat 1 (.slice 1 .string) (.cat 1 (.slice 1 .string) .nil)))) v0) (r1 : Fr.RdV w reachBytes (.int .i64) v1)
    (m1 : ∀ (cs : Array Value) a l c, v0 = .agg cs → (cs.toList.drop 2).take 1 = [.slice a l c] → l * Try.prog.bytesOf 9 ≤ reachBytes)
    (m2 : ∀ (cs : Array Value) a l c, v0 = .agg cs → (cs.toList.drop 3).take 1 = [.slice a l c] → l * Try.prog.bytesOf 9 ≤ reachBytes) :
    Calls Try.prog 7 #[v0, v1] w fun e w' => e = .returned (.bool true) ∧ Below w.heap.size w w' := by
  obtain ⟨p, hp, _, _⟩ := pa_of r0
  obtain ⟨f, h, _⟩ := r1
  simp only [List.cons.injEq, and_true] at h
  subst h
  have hby : Try.prog.bytesOf 9 = 16 := by kernel_rfl
  have hR : reachBytes ≤ 140737488355328 := by unfold reachBytes; omega
  have hp0 := hp
  obtain ⟨L, G, rfl, hL, hG⟩ := hp
  obtain ⟨LA, Lc, rfl, _, _⟩ := hL.form
  obtain ⟨GA, Gc, rfl, _, _⟩ := hG.form
  have b1 := m1 _ LA p.ls.length Lc rfl rfl
  have b2 := m2 _ GA p.gs.length Gc rfl rfl
  rw [hby] at b1 b2
  exact own_main _ p f w hp0 (by omega) (by omega)
end Go.Proofs.Ytniffnppfpaniaa
