/- The walks of 'global' that push and pop. -/
import Derived.Test.YtinhnlfhgfmagaaRepG
import Derived.BigRegion
namespace Go.Proofs.Ytinhnlfhgfmagaa
open Go.RowKit Go.Proofs.Ytinhnlfhgfmagaa.Rep
theorem state_info : (Try.prog.info? 50).map (fun i => (i.zero, i.size, i.bytes)) = some (some (.agg #[.int .i64 0, .int .i64 0, .int .i64 0, .int .i64 0, .int .i64 0]), 5, 40) := by kernel_rfl
def RowAt (b : Nat) (s : RS) (vs vu vo : Value) (W : World) : Prop := W.heap[b]? = some (.cells (row s vs vu vo) 54 (0, 0))
theorem st_one (s : St5) : ∀ u ∈ s.cells, u.oneCell' = true := by simp [St5.cells, Value.oneCell']
theorem Sl_cutTo {w : World} {B : Nat} {e : TypeId} {sz n c : Nat} {A : Option Addr} {xs : List Value} (h : Kt.Sl w B e sz (.slice A n c) n xs) (m : Nat) (hm : m ≤ n) : Kt.Sl w B e sz (.slice A m c) m (xs.take (m * sz)) := by
  have hmul : m * sz ≤ n * sz := Nat.mul_le_mul_right _ hm
  refine ⟨by rw [List.length_take, h.1]; omega, ?_⟩
  rcases h.2 with ⟨hv, rfl⟩ | ⟨g, o, cap, cur, hv, hb, hg, hn, hc, hs, hx⟩
  · obtain rfl : m = 0 := by omega
    exact .inl ⟨hv, rfl⟩
  · injection hv with h1 h2 h3
    subst h1 h3
    refine .inr ⟨g, o, c, cur, rfl, hb, hg, by omega, hc, hs, fun j u hj => hx j u ?_⟩
    rw [List.getElem?_take] at hj
    split at hj
    · exact hj
    · cases hj
def put6 (W : World) (b : Nat) (x : St5) (v : Value) : World := (((((W.setCell ⟨b, 0, none⟩ (.int .i64 x.p)).setCell ⟨b, 1, none⟩ (.int .i64 x.mn)).setCell ⟨b, 2, none⟩ (.int .i64 x.mx)).setCell ⟨b, 3, none⟩ (.int .i64 x.sz)).setCell ⟨b, 4, none⟩ (.int .i64 x.ct)).setCell ⟨b, 5, none⟩ v
theorem RdB.pop {W : World} {B b : Nat} {s : RS} {A : Option Addr} {q m : Nat} {vu vo : Value} {l : List St5} {x : St5} (h : RdB W B b s (.slice A (m + 1) q) vu vo) (e : s.stk = l ++ [x]) (hm : l.length = m) (ok : ({ s with st := x, stk := l } : RS).Ok) : RdB (put6 W b x (.slice A m q)) B b { s with st := x, stk := l } (.slice A m q) vu vo := by
  have hl : s.stk.length = m + 1 := by rw [e, List.length_append, hm]; rfl
  have h1 := h.s1
  rw [hl] at h1
  have h2 := Sl_cutTo h1 m (by omega)
  have e2 : (s.stk.flatMap St5.cells).take (m * 5) = l.flatMap St5.cells := by
    rw [e, List.flatMap_append]
    have h3 : (l.flatMap St5.cells).length = m * 5 := by
      rw [← hm]
      clear e hm h h1 h2 hl ok
      induction l with
      | nil => rfl
      | cons y l ih => rw [List.flatMap_cons, List.length_append, ih]; simp [St5.cells]; omega
    rw [List.take_append_of_le_length (by omega), List.take_of_length_le (by omega)]
  rw [e2] at h2
  have eo : (Value.slice A m q).ownBlock = (Value.slice A (m + 1) q).ownBlock := by cases A <;> rfl
  have hn1 : ∀ k, (Value.slice A m q).ownBlock = some k → k ≠ b := fun k hk => h.n1 k (eo ▸ hk)
  refine ⟨h.bB, ?_, ?_, ?_, ?_, hn1, h.n2, h.n3, fun k hk => h.d12 k (eo ▸ hk), fun k hk => h.d13 k (eo ▸ hk), h.d23, ok⟩
  · exact (heap_setCell_same _ _ _ _ _ _ (heap_setCell_same _ _ _ _ _ _ (heap_setCell_same _ _ _ _ _ _ (heap_setCell_same _ _ _ _ _ _ (heap_setCell_same _ _ _ _ _ _ (heap_setCell_same _ _ _ _ _ _ h.row)))))).trans rfl
  · rw [show ({ s with st := x, stk := l } : RS).stk.length = m from hm]
    exact ((((((h2.set (fun k hk => hn1 k hk) _).set (fun k hk => hn1 k hk) _).set (fun k hk => hn1 k hk) _).set (fun k hk => hn1 k hk) _).set (fun k hk => hn1 k hk) _).set (fun k hk => hn1 k hk) _)
  · exact ((((((h.s2.set (fun k hk => h.n2 k hk) _).set (fun k hk => h.n2 k hk) _).set (fun k hk => h.n2 k hk) _).set (fun k hk => h.n2 k hk) _).set (fun k hk => h.n2 k hk) _).set (fun k hk => h.n2 k hk) _)
  · exact ((((((h.s3.set (fun k hk => h.n3 k hk) _).set (fun k hk => h.n3 k hk) _).set (fun k hk => h.n3 k hk) _).set (fun k hk => h.n3 k hk) _).set (fun k hk => h.n3 k hk) _).set (fun k hk => h.n3 k hk) _)
theorem put6_below {B : Nat} {w W : World} {b : Nat} (h : Below B w W) (hb : B ≤ b) (x : St5) (v : Value) : Below B w (put6 W b x v) :=
  (((((h.setCell (p := ⟨b, 0, none⟩) hb _).setCell (p := ⟨b, 1, none⟩) hb _).setCell (p := ⟨b, 2, none⟩) hb _).setCell (p := ⟨b, 3, none⟩) hb _).setCell (p := ⟨b, 4, none⟩) hb _).setCell (p := ⟨b, 5, none⟩) hb _
theorem state_sz : (Try.prog.info? 50).map (·.size) = some 5 := by kernel_rfl
theorem st_all (x : St5) : x.cells.toArray.all (·.oneCell') = true := by simp [St5.cells, Value.oneCell']
theorem there_row {b : Nat} {s : RS} {vs vu vo : Value} {W : World} (h : RowAt b s vs vu vo W) : W.there b 0 5 := fun j hj => by
  refine ⟨?_, frozen_of_row _ _ _ _ _ h⟩
  rw [cell_of_row _ _ _ _ _ _ h]
  have : (row s vs vu vo).size = 10 := rfl
  simp [this]; omega
theorem row_st {b : Nat} {s : RS} {vs vu vo : Value} {W : World} (x : St5) (h : RowAt b s vs vu vo W) : RowAt b { s with st := x } vs vu vo (W.setCells b 0 x.cells) :=
  (heap_setCell_same _ _ _ _ _ _ (heap_setCell_same _ _ _ _ _ _ (heap_setCell_same _ _ _ _ _ _ (heap_setCell_same _ _ _ _ _ _ (heap_setCell_same _ _ _ _ _ _ h))))).trans rfl
def TopAt (g o m : Nat) (x : St5) (W : World) : Prop := (W.cell? ⟨g, o + m * 5, none⟩ = some (.int .i64 x.p) ∧ W.cell? ⟨g, o + m * 5 + 1, none⟩ = some (.int .i64 x.mn) ∧ W.cell? ⟨g, o + m * 5 + 2, none⟩ = some (.int .i64 x.mx) ∧ W.cell? ⟨g, o + m * 5 + 3, none⟩ = some (.int .i64 x.sz) ∧ W.cell? ⟨g, o + m * 5 + 4, none⟩ = some (.int .i64 x.ct)) ∧ g < W.heap.size
theorem top_at {W : World} {B : Nat} {A : Option Addr} {q m : Nat} {l : List St5} {x : St5} (h : Kt.Sl W B 50 5 (.slice A (m + 1) q) (m + 1) ((l ++ [x]).flatMap St5.cells)) (hm : l.length = m) : ∃ g o, A = some ⟨g, o, none⟩ ∧ TopAt g o m x W := by
  obtain ⟨g, o, cap, hv, _, hg, _, _, hc, _⟩ := h.cells (by omega)
  injection hv with h1 _ _
  have h3 : (l.flatMap St5.cells).length = m * 5 := by
    rw [← hm]
    clear hm h hc
    induction l with
    | nil => rfl
    | cons y l ih => rw [List.flatMap_cons, List.length_append, ih]; simp [St5.cells]; omega
  have h4 : (l ++ [x]).flatMap St5.cells = l.flatMap St5.cells ++ x.cells := by simp
  have key : ∀ i (hi : i < 5), W.cell? ⟨g, o + (m * 5 + i), none⟩ = some (x.cells[i]'(by simp [St5.cells]; omega)) := fun i hi => by
    have hlt : m * 5 + i < ((l ++ [x]).flatMap St5.cells).length := by rw [h4, List.length_append, h3]; simp [St5.cells]; omega
    rw [hc _ hlt]
    congr 1
    simp only [h4]
    rw [List.getElem_append_right (by omega)]
    congr 1
    omega
  exact ⟨g, o, h1, ⟨key 0 (by omega), key 1 (by omega), key 2 (by omega), key 3 (by omega), key 4 (by omega)⟩, hg⟩
set_option maxRecDepth 100000 in
set_option maxHeartbeats 3200000 in
theorem glob_push (w : World) (B b : Nat) (s : RS) (v : Int) (h : Rdr w B b s) : Calls Try.prog 22 #[.pointer (some ⟨b, 0, none⟩), .agg #[.int .i64 41, .int .i64 v]] w (Left w B b (glob s 41 v)) := by
  obtain ⟨vs, vu, vo, h0⟩ := h
  have hlt := h0.lt
  have hBw : B ≤ w.heap.size := Nat.le_trans h0.bB (Nat.le_of_lt hlt)
  have HG := Lib.hid (glob_ok h0.ok 41 v)
  have HA := Lib.hid (h0.alloc (.cells #[.int .i64 41, .int .i64 v] 32))
  have HBE : Hid (Below B w (w.alloc (.cells #[.int .i64 41, .int .i64 v] 32))) := Lib.hid ((Below.refl B w).alloc hBw _)
  have hbB := h0.bB
  have c0 := fun i => cell_of_row _ _ i _ _ _ HA.out.row
  unfold row at c0
  obtain ⟨A0, q0, rfl, hq1, hq2⟩ := h0.s1.form
  have hk4 := h0.ok.k4
  clear h0
  by_cases h4 : s.stk.length = 4
  · have e : glob s 41 v = (s, 11) := by unfold glob; simp [h4]
    rw [e]
    have e4 : ((s.stk.length : Int) == 4) = true := by simp; omega
    clear e h4 HG
    go_enter Try.func22, Try.ntmps22
    go_wp2_with fail
    go_ret
    exact ⟨rfl, fun h => absurd h (show ¬ ((11 : Int) = 0) by decide), HBE.out⟩
  have e : glob s 41 v = ({ s with stk := s.stk ++ [s.st] }, 0) := by unfold glob; simp [h4]
  rw [e] at HG ⊢
  have e4 : ((s.stk.length : Int) == 4) = false := by simp; omega
  have hk3 : s.stk.length ≤ 3 := by omega
  clear e h4
  go_enter Try.func22, Try.ntmps22
  go_wp2_with fail
  have hW : b < (w.alloc (.cells #[.int .i64 41, .int .i64 v] 32)).heap.size := HA.out.lt
  have hBW : B ≤ (w.alloc (.cells #[.int .i64 41, .int .i64 v] 32)).heap.size := by rw [World.size_alloc]; omega
  clear c0
  generalize (w.alloc (.cells #[.int .i64 41, .int .i64 v] 32)) = W at *
  refine Kt.G.start 13 (RowAt b s (.slice A0 s.stk.length q0) vu vo) (by kernel_rfl) HA.out.row (fun hHeld => ?_)
  refine Kt.G.takeP 0 { dst := some 72, op := Op.move (Operand.tmp 0), type := 48, pos := "report.go:105", after := #[], guard := none } ?_ (fun _ => hHeld) rfl (by kernel_rfl) (fun _ _ _ h => h) (by rfl) ?_ ?_
  rotate_left
  · intro w; go_simp; try with_reducible rfl
  try simp only [Act.put, List.setIfInBounds_toArray, List.set_cons_zero, List.set_cons_succ]
  refine Kt.G.takeP 1 { dst := some 73, op := Op.move (Operand.tmp 0), type := 48, pos := "report.go:105", after := #[], guard := none } ?_ (fun _ => hHeld) rfl (by kernel_rfl) (fun _ _ _ h => h) (by rfl) ?_ ?_
  rotate_left
  · intro w; go_simp; try with_reducible rfl
  try simp only [Act.put, List.setIfInBounds_toArray, List.set_cons_zero, List.set_cons_succ]
  refine Kt.G.takeP 2 { dst := some 74, op := Op.nilCheck (Operand.tmp 73), type := 0, pos := "report.go:105", after := #[{ on := 1, ground := Ground.data }], guard := none } ?_ (fun _ => hHeld) rfl (by kernel_rfl) (fun _ _ _ h => h) (by rfl) ?_ ?_
  rotate_left
  · intro w; go_simp; try with_reducible rfl
  try simp only [Act.put, List.setIfInBounds_toArray, List.set_cons_zero, List.set_cons_succ]
  refine Kt.G.takeP 3 { dst := some 75, op := Op.fieldAddr 54 (Operand.tmp 74) 1, type := 0, pos := "report.go:105", after := #[{ on := 2, ground := Ground.data }], guard := none } ?_ (fun _ => hHeld) rfl (by kernel_rfl) (fun _ _ _ h => h) (by rfl) ?_ ?_
  rotate_left
  · intro w; go_simp; try with_reducible rfl
  try simp only [Act.put, List.setIfInBounds_toArray, List.set_cons_zero, List.set_cons_succ]
  refine Kt.G.take 4 { dst := some 76, op := Op.load 51 (Operand.tmp 75), type := 51, pos := "report.go:105", after := #[{ on := 3, ground := Ground.data }], guard := none } ?_ hHeld rfl (by kernel_rfl) (fun _ _ _ h => h) (by rfl) ?_ ?_
  rotate_left
  · intro w hSw; have c0 := fun i => cell_of_row _ _ i _ _ _ hSw; (try unfold row at c0); go_simp; try with_reducible rfl
  try simp only [Act.put, List.setIfInBounds_toArray, List.set_cons_zero, List.set_cons_succ]
  refine Kt.G.takeP 5 { dst := some 77, op := Op.move (Operand.tmp 0), type := 48, pos := "report.go:105", after := #[], guard := none } ?_ (fun _ => hHeld) rfl (by kernel_rfl) (fun _ _ _ h => h) (by rfl) ?_ ?_
  rotate_left
  · intro w; go_simp; try with_reducible rfl
  try simp only [Act.put, List.setIfInBounds_toArray, List.set_cons_zero, List.set_cons_succ]
  refine Kt.G.takeP 6 { dst := some 78, op := Op.nilCheck (Operand.tmp 77), type := 0, pos := "report.go:105", after := #[{ on := 5, ground := Ground.data }], guard := none } ?_ (fun _ => hHeld) rfl (by kernel_rfl) (fun _ _ _ h => h) (by rfl) ?_ ?_
  rotate_left
  · intro w; go_simp; try with_reducible rfl
  try simp only [Act.put, List.setIfInBounds_toArray, List.set_cons_zero, List.set_cons_succ]
  refine Kt.G.takeP 7 { dst := some 79, op := Op.fieldAddr 54 (Operand.tmp 78) 0, type := 0, pos := "report.go:105", after := #[{ on := 6, ground := Ground.data }], guard := none } ?_ (fun _ => hHeld) rfl (by kernel_rfl) (fun _ _ _ h => h) (by rfl) ?_ ?_
  rotate_left
  · intro w; go_simp; try with_reducible rfl
  try simp only [Act.put, List.setIfInBounds_toArray, List.set_cons_zero, List.set_cons_succ]
  refine Kt.G.take 8 { dst := some 80, op := Op.load 50 (Operand.tmp 79), type := 50, pos := "report.go:105", after := #[{ on := 7, ground := Ground.data }], guard := none } ?_ hHeld rfl (by kernel_rfl) (fun _ _ _ h => h) (by rfl) ?_ ?_
  rotate_left
  · intro w hSw; have c0 := fun i => cell_of_row _ _ i _ _ _ hSw; (try unfold row at c0); go_simp; try with_reducible rfl
  try simp only [Act.put, List.setIfInBounds_toArray, List.set_cons_zero, List.set_cons_succ]
  refine Kt.G.one 9 { dst := some 81, op := Op.buildSlice 51 1 #[(0, Operand.tmp 80)], type := 51, pos := "report.go:105", after := #[{ on := 8, ground := Ground.data }], guard := none } rfl (by kernel_rfl) (by rfl) (fun K hK => ?_)
  go_simp
  refine hK.out _ _ (fun _ => (Below.heap_alloc _ _ _ hW).trans hHeld) (fun hHeld => ?_)
  have hHeld := hHeld rfl
  clear hK K
  try simp only [Act.put, List.setIfInBounds_toArray, List.set_cons_zero, List.set_cons_succ]
  refine Kt.G.one 10 { dst := some 82, op := Op.call { callee := Callee.builtin Builtin.append, args := #[Operand.tmp 76, Operand.tmp 81], argTypes := #[51, 51] }, type := 51, pos := "report.go:105", after := #[{ on := 4, ground := Ground.data }, { on := 9, ground := Ground.data }], guard := none } rfl (by kernel_rfl) (by rfl) (fun K hK => ?_)
  refine Kt.wp_append_sl _ (.tmp 76) (.tmp 81) 51 rfl B 50 (.agg #[.int .i64 0, .int .i64 0, .int .i64 0, .int .i64 0, .int .i64 0]) 5 40 state_info Try.underlying51 rfl (by decide) _ _ _ rfl (HA.out.s1.alloc _).drew ⟨W.heap.size, 0, none⟩ 1 1 s.st.cells rfl rfl (Kt.new_cells W s.st.cells.toArray _) (st_one _) (by unfold maxLen; omega) (by omega) (by show B ≤ (W.alloc _).heap.size; rw [World.size_alloc]; exact Nat.le_succ_of_le hBW) ?_
  intro A1 c1 w1 hsl hb1 hz1 hk1 ho1
  have hrow : RowAt b s (.slice A0 s.stk.length q0) vu vo w1 := (hk1 b (by show b < (W.alloc _).heap.size; rw [World.size_alloc]; exact Nat.lt_succ_of_lt hW) (fun e => HA.out.n1 b e rfl)).trans hHeld
  refine hK.out _ _ (fun _ => hrow) (fun hHeld => ?_)
  have hHeld := hHeld rfl
  clear hK K
  try simp only [Act.put, List.setIfInBounds_toArray, List.set_cons_zero, List.set_cons_succ]
  refine Kt.G.takeP 11 { dst := some 83, op := Op.nilCheck (Operand.tmp 72), type := 0, pos := "report.go:105", after := #[{ on := 0, ground := Ground.data }, { on := 0, ground := Ground.phase }, { on := 1, ground := Ground.phase }, { on := 2, ground := Ground.phase }, { on := 3, ground := Ground.phase }, { on := 4, ground := Ground.phase }, { on := 5, ground := Ground.phase }, { on := 6, ground := Ground.phase }, { on := 7, ground := Ground.phase }, { on := 8, ground := Ground.phase }, { on := 9, ground := Ground.phase }, { on := 10, ground := Ground.phase }], guard := none } ?_ (fun _ => hHeld) rfl (by kernel_rfl) (fun _ _ _ h => h) (by rfl) ?_ ?_
  rotate_left
  · intro w; go_simp; try with_reducible rfl
  try simp only [Act.put, List.setIfInBounds_toArray, List.set_cons_zero, List.set_cons_succ]
  refine Kt.G.takeP 12 { dst := some 84, op := Op.fieldAddr 54 (Operand.tmp 83) 1, type := 0, pos := "report.go:105", after := #[{ on := 11, ground := Ground.data }, { on := 0, ground := Ground.phase }, { on := 1, ground := Ground.phase }, { on := 2, ground := Ground.phase }, { on := 3, ground := Ground.phase }, { on := 4, ground := Ground.phase }, { on := 5, ground := Ground.phase }, { on := 6, ground := Ground.phase }, { on := 7, ground := Ground.phase }, { on := 8, ground := Ground.phase }, { on := 9, ground := Ground.phase }, { on := 10, ground := Ground.phase }], guard := none } ?_ (fun _ => hHeld) rfl (by kernel_rfl) (fun _ _ _ h => h) (by rfl) ?_ ?_
  rotate_left
  · intro w; go_simp; try with_reducible rfl
  try simp only [Act.put, List.setIfInBounds_toArray, List.set_cons_zero, List.set_cons_succ]
  refine Kt.G.one 13 { dst := none, op := Op.store 51 (Operand.tmp 84) (Operand.tmp 82), type := 0, pos := "report.go:105", after := #[{ on := 12, ground := Ground.data }, { on := 10, ground := Ground.data }, { on := 10, ground := Ground.chain }, { on := 0, ground := Ground.phase }, { on := 1, ground := Ground.phase }, { on := 2, ground := Ground.phase }, { on := 3, ground := Ground.phase }, { on := 4, ground := Ground.phase }, { on := 5, ground := Ground.phase }, { on := 6, ground := Ground.phase }, { on := 7, ground := Ground.phase }, { on := 8, ground := Ground.phase }, { on := 9, ground := Ground.phase }, { on := 10, ground := Ground.phase }], guard := none } rfl (by kernel_rfl) (by rfl) (fun K hK => ?_)
  have c2 := fun i => cell_of_row _ _ i _ _ _ hrow
  have f2 := fun i => frozen_of_row _ _ i _ _ hrow
  (try unfold row at c2)
  have hbz : b < w1.heap.size := (Array.getElem?_eq_some_iff.1 hrow).1
  go_simp
  refine hK.out _ _ (Kt.G.late (by kernel_rfl)) (fun _ => ?_)
  clear hK K
  try simp only [Act.put, List.setIfInBounds_toArray, List.set_cons_zero, List.set_cons_succ]
  refine Kt.G.done (by kernel_rfl) (NoPanic.normal ?_) _
  go_wp2_with fail
  go_ret
  exact ⟨rfl, fun _ => ⟨_, _, _, HA.out.push1 s.st hsl hk1 ho1 HG.out⟩, (HBE.out.trans (((Below.refl B W).alloc hBW _).drew.trans hb1)).setCell (p := ⟨b, 5, none⟩) hbB _⟩
set_option maxRecDepth 100000 in
set_option maxHeartbeats 3200000 in
theorem glob_pop (w : World) (B b : Nat) (s : RS) (v : Int) (h : Rdr w B b s) : Calls Try.prog 22 #[.pointer (some ⟨b, 0, none⟩), .agg #[.int .i64 45, .int .i64 v]] w (Left w B b (glob s 45 v)) := by
  obtain ⟨vs, vu, vo, h0⟩ := h
  have hlt := h0.lt
  have hBw : B ≤ w.heap.size := Nat.le_trans h0.bB (Nat.le_of_lt hlt)
  have HG := Lib.hid (glob_ok h0.ok 45 v)
  have hbB := h0.bB
  obtain ⟨A0, q0, rfl, hq1, hq2⟩ := h0.s1.form
  have hk4 := h0.ok.k4
  have HBE : Hid (Below B w (w.alloc (.cells #[.int .i64 45, .int .i64 v] 32))) := Lib.hid ((Below.refl B w).alloc hBw _)
  by_cases h4 : s.stk = []
  · have e : glob s 45 v = (s, 12) := by unfold glob; simp [h4]
    rw [e]
    rw [h4] at h0 hq1 hk4
    have c0 := fun i => cell_of_row _ _ i _ _ _ (h0.alloc (.cells #[.int .i64 45, .int .i64 v] 32)).row
    unfold row at c0
    clear e h4 HG h0
    go_enter Try.func22, Try.ntmps22
    go_wp2_with fail
    go_ret
    exact ⟨rfl, fun h => absurd h (show ¬ ((12 : Int) = 0) by decide), HBE.out⟩
  obtain ⟨l, x, hlx⟩ : ∃ l x, s.stk = l ++ [x] := ⟨_, _, (List.dropLast_concat_getLast h4).symm⟩
  have e : glob s 45 v = ({ s with st := x, stk := l }, 0) := by unfold glob; simp [h4, hlx]
  rw [e] at HG ⊢
  obtain ⟨m, hm⟩ : ∃ m, l.length = m := ⟨_, rfl⟩
  have hn : s.stk.length = m + 1 := by rw [hlx, List.length_append, hm]; rfl
  rw [hn] at h0 hq1 hk4
  have hs1 := h0.s1
  rw [hn, hlx] at hs1
  obtain ⟨g, o, rfl, htop⟩ := top_at hs1 hm
  have HLX := Lib.hid hlx
  have HM := Lib.hid hm
  have HA := Lib.hid (h0.alloc (.cells #[.int .i64 45, .int .i64 v] 32))
  have HTOP : Hid (TopAt g o m x (w.alloc (.cells #[.int .i64 45, .int .i64 v] 32))) := Lib.hid (by
    have hc := (Kt.bcell (Kt.balloc (Below.refl _ w) (.cells #[.int .i64 45, .int .i64 v] 32))).1
    obtain ⟨⟨t0, t1, t2, t3, t4⟩, tg⟩ := htop
    exact ⟨⟨(hc _ _ tg).trans t0, (hc _ _ tg).trans t1, (hc _ _ tg).trans t2, (hc _ _ tg).trans t3, (hc _ _ tg).trans t4⟩, by rw [World.size_alloc]; omega⟩)
  have c0 := fun i => cell_of_row _ _ i _ _ _ HA.out.row
  unfold row at c0
  clear e h4 hlx hm hn hs1 htop h0
  go_enter Try.func22, Try.ntmps22
  go_wp2_with fail
  have hW : b < (w.alloc (.cells #[.int .i64 45, .int .i64 v] 32)).heap.size := HA.out.lt
  clear c0
  generalize (w.alloc (.cells #[.int .i64 45, .int .i64 v] 32)) = W at *
  have hwm : IntKind.i64.wrap (m : Int) = m := by rw [IntKind.wrap_i64]; omega
  have hmlt : (m : Int) < (m : Int) + 1 := by omega
  have hmq : m ≤ q0 := by omega
  refine Kt.G.start 19 (fun W => RowAt b s (.slice (some ⟨g, o, none⟩) (m + 1) q0) vu vo W ∧ TopAt g o m x W) (by kernel_rfl) ⟨HA.out.row, HTOP.out⟩ (fun hHeld => ?_)
  refine Kt.G.takeP 0 { dst := some 94, op := Op.move (Operand.tmp 0), type := 48, pos := "report.go:111", after := #[], guard := none } ?_ (fun _ => hHeld) rfl (by kernel_rfl) (fun _ _ _ h => h) (by rfl) ?_ ?_
  rotate_left
  · intro w; go_simp; try with_reducible rfl
  try simp only [Act.put, List.setIfInBounds_toArray, List.set_cons_zero, List.set_cons_succ]
  refine Kt.G.takeP 1 { dst := some 95, op := Op.move (Operand.tmp 0), type := 48, pos := "report.go:111", after := #[{ on := 19, ground := Ground.gcOnly Departure.lateStores }], guard := none } ?_ (fun _ => hHeld) rfl (by kernel_rfl) (fun _ _ _ h => h) (by rfl) ?_ ?_
  rotate_left
  · intro w; go_simp; try with_reducible rfl
  try simp only [Act.put, List.setIfInBounds_toArray, List.set_cons_zero, List.set_cons_succ]
  refine Kt.G.takeP 2 { dst := some 96, op := Op.move (Operand.tmp 0), type := 48, pos := "report.go:111", after := #[], guard := none } ?_ (fun _ => hHeld) rfl (by kernel_rfl) (fun _ _ _ h => h) (by rfl) ?_ ?_
  rotate_left
  · intro w; go_simp; try with_reducible rfl
  try simp only [Act.put, List.setIfInBounds_toArray, List.set_cons_zero, List.set_cons_succ]
  refine Kt.G.takeP 3 { dst := some 97, op := Op.nilCheck (Operand.tmp 96), type := 0, pos := "report.go:111", after := #[{ on := 2, ground := Ground.data }], guard := none } ?_ (fun _ => hHeld) rfl (by kernel_rfl) (fun _ _ _ h => h) (by rfl) ?_ ?_
  rotate_left
  · intro w; go_simp; try with_reducible rfl
  try simp only [Act.put, List.setIfInBounds_toArray, List.set_cons_zero, List.set_cons_succ]
  refine Kt.G.takeP 4 { dst := some 98, op := Op.fieldAddr 54 (Operand.tmp 97) 1, type := 0, pos := "report.go:111", after := #[{ on := 3, ground := Ground.data }], guard := none } ?_ (fun _ => hHeld) rfl (by kernel_rfl) (fun _ _ _ h => h) (by rfl) ?_ ?_
  rotate_left
  · intro w; go_simp; try with_reducible rfl
  try simp only [Act.put, List.setIfInBounds_toArray, List.set_cons_zero, List.set_cons_succ]
  refine Kt.G.take 5 { dst := some 99, op := Op.load 51 (Operand.tmp 98), type := 51, pos := "report.go:111", after := #[{ on := 4, ground := Ground.data }], guard := none } ?_ hHeld rfl (by kernel_rfl) (fun _ _ _ h => h) (by rfl) ?_ ?_
  rotate_left
  · intro w hSw; have c0 := fun i => cell_of_row _ _ i _ _ _ hSw.1; (try unfold row at c0); obtain ⟨⟨t0, t1, t2, t3, t4⟩, tg⟩ := hSw.2; go_simp; try with_reducible rfl
  try simp only [Act.put, List.setIfInBounds_toArray, List.set_cons_zero, List.set_cons_succ]
  refine Kt.G.takeP 6 { dst := some 100, op := Op.move (Operand.tmp 5), type := 3, pos := "report.go:111", after := #[], guard := none } ?_ (fun _ => hHeld) rfl (by kernel_rfl) (fun _ _ _ h => h) (by rfl) ?_ ?_
  rotate_left
  · intro w; go_simp; try with_reducible rfl
  try simp only [Act.put, List.setIfInBounds_toArray, List.set_cons_zero, List.set_cons_succ]
  refine Kt.G.takeP 7 { dst := some 101, op := Op.binOp BinOp.sub 3 (Operand.tmp 100) (Operand.const (Value.int IntKind.i64 1)) 3, type := 3, pos := "report.go:111", after := #[{ on := 6, ground := Ground.data }], guard := none } ?_ (fun _ => hHeld) rfl (by kernel_rfl) (fun _ _ _ h => h) (by rfl) ?_ ?_
  rotate_left
  · intro w; go_simp; try with_reducible rfl
  try simp only [Act.put, List.setIfInBounds_toArray, List.set_cons_zero, List.set_cons_succ]
  refine Kt.G.takeP 8 { dst := some 102, op := Op.indexAddr 51 (Operand.tmp 99) (Operand.tmp 101), type := 0, pos := "report.go:111", after := #[{ on := 5, ground := Ground.data }, { on := 7, ground := Ground.data }], guard := none } ?_ (fun _ => hHeld) rfl (by kernel_rfl) (fun _ _ _ h => h) (by rfl) ?_ ?_
  rotate_left
  · intro w; go_simp; try with_reducible rfl
  try simp only [Act.put, List.setIfInBounds_toArray, List.set_cons_zero, List.set_cons_succ]
  refine Kt.G.take 9 { dst := some 103, op := Op.load 50 (Operand.tmp 102), type := 50, pos := "report.go:111", after := #[{ on := 8, ground := Ground.data }], guard := none } ?_ hHeld rfl (by kernel_rfl) (fun _ _ _ h => h) (by rfl) ?_ ?_
  rotate_left
  · intro w hSw; have c0 := fun i => cell_of_row _ _ i _ _ _ hSw.1; (try unfold row at c0); obtain ⟨⟨t0, t1, t2, t3, t4⟩, tg⟩ := hSw.2; go_simp; try with_reducible rfl
  try simp only [Act.put, List.setIfInBounds_toArray, List.set_cons_zero, List.set_cons_succ]
  refine Kt.G.takeP 10 { dst := some 104, op := Op.move (Operand.tmp 0), type := 48, pos := "report.go:111", after := #[], guard := none } ?_ (fun _ => hHeld) rfl (by kernel_rfl) (fun _ _ _ h => h) (by rfl) ?_ ?_
  rotate_left
  · intro w; go_simp; try with_reducible rfl
  try simp only [Act.put, List.setIfInBounds_toArray, List.set_cons_zero, List.set_cons_succ]
  refine Kt.G.takeP 11 { dst := some 105, op := Op.nilCheck (Operand.tmp 104), type := 0, pos := "report.go:111", after := #[{ on := 10, ground := Ground.data }], guard := none } ?_ (fun _ => hHeld) rfl (by kernel_rfl) (fun _ _ _ h => h) (by rfl) ?_ ?_
  rotate_left
  · intro w; go_simp; try with_reducible rfl
  try simp only [Act.put, List.setIfInBounds_toArray, List.set_cons_zero, List.set_cons_succ]
  refine Kt.G.takeP 12 { dst := some 106, op := Op.fieldAddr 54 (Operand.tmp 105) 1, type := 0, pos := "report.go:111", after := #[{ on := 11, ground := Ground.data }], guard := none } ?_ (fun _ => hHeld) rfl (by kernel_rfl) (fun _ _ _ h => h) (by rfl) ?_ ?_
  rotate_left
  · intro w; go_simp; try with_reducible rfl
  try simp only [Act.put, List.setIfInBounds_toArray, List.set_cons_zero, List.set_cons_succ]
  refine Kt.G.take 13 { dst := some 107, op := Op.load 51 (Operand.tmp 106), type := 51, pos := "report.go:111", after := #[{ on := 12, ground := Ground.data }], guard := none } ?_ hHeld rfl (by kernel_rfl) (fun _ _ _ h => h) (by rfl) ?_ ?_
  rotate_left
  · intro w hSw; have c0 := fun i => cell_of_row _ _ i _ _ _ hSw.1; (try unfold row at c0); obtain ⟨⟨t0, t1, t2, t3, t4⟩, tg⟩ := hSw.2; go_simp; try with_reducible rfl
  try simp only [Act.put, List.setIfInBounds_toArray, List.set_cons_zero, List.set_cons_succ]
  refine Kt.G.takeP 14 { dst := some 108, op := Op.move (Operand.tmp 5), type := 3, pos := "report.go:111", after := #[], guard := none } ?_ (fun _ => hHeld) rfl (by kernel_rfl) (fun _ _ _ h => h) (by rfl) ?_ ?_
  rotate_left
  · intro w; go_simp; try with_reducible rfl
  try simp only [Act.put, List.setIfInBounds_toArray, List.set_cons_zero, List.set_cons_succ]
  refine Kt.G.takeP 15 { dst := some 109, op := Op.binOp BinOp.sub 3 (Operand.tmp 108) (Operand.const (Value.int IntKind.i64 1)) 3, type := 3, pos := "report.go:111", after := #[{ on := 14, ground := Ground.data }], guard := none } ?_ (fun _ => hHeld) rfl (by kernel_rfl) (fun _ _ _ h => h) (by rfl) ?_ ?_
  rotate_left
  · intro w; go_simp; try with_reducible rfl
  try simp only [Act.put, List.setIfInBounds_toArray, List.set_cons_zero, List.set_cons_succ]
  refine Kt.G.takeP 16 { dst := some 110, op := Op.slice 51 (Operand.tmp 107) none (some (Operand.tmp 109)) none, type := 51, pos := "report.go:111", after := #[{ on := 13, ground := Ground.data }, { on := 15, ground := Ground.data }], guard := none } ?_ (fun _ => hHeld) rfl (by kernel_rfl) (fun _ _ _ h => h) (by rfl) ?_ ?_
  rotate_left
  · intro w; go_simp; try with_reducible rfl
  try simp only [Act.put, List.setIfInBounds_toArray, List.set_cons_zero, List.set_cons_succ]
  refine Kt.G.takeP 17 { dst := some 111, op := Op.nilCheck (Operand.tmp 94), type := 0, pos := "report.go:111", after := #[{ on := 0, ground := Ground.data }, { on := 0, ground := Ground.phase }, { on := 1, ground := Ground.textOnly Departure.lateStores }, { on := 2, ground := Ground.phase }, { on := 3, ground := Ground.phase }, { on := 4, ground := Ground.phase }, { on := 5, ground := Ground.phase }, { on := 6, ground := Ground.phase }, { on := 7, ground := Ground.phase }, { on := 8, ground := Ground.phase }, { on := 9, ground := Ground.phase }, { on := 10, ground := Ground.textOnly Departure.lateStores }, { on := 11, ground := Ground.textOnly Departure.lateStoresUnsure }, { on := 12, ground := Ground.textOnly Departure.lateStoresUnsure }, { on := 13, ground := Ground.phase }, { on := 14, ground := Ground.textOnly Departure.lateStores }, { on := 15, ground := Ground.textOnly Departure.lateStores }, { on := 16, ground := Ground.textOnly Departure.lateStoresUnsure }], guard := none } ?_ (fun _ => hHeld) rfl (by kernel_rfl) (fun _ _ _ h => h) (by rfl) ?_ ?_
  rotate_left
  · intro w; go_simp; try with_reducible rfl
  try simp only [Act.put, List.setIfInBounds_toArray, List.set_cons_zero, List.set_cons_succ]
  refine Kt.G.takeP 18 { dst := some 112, op := Op.fieldAddr 54 (Operand.tmp 111) 0, type := 0, pos := "report.go:111", after := #[{ on := 17, ground := Ground.data }, { on := 0, ground := Ground.phase }, { on := 1, ground := Ground.textOnly Departure.lateStores }, { on := 2, ground := Ground.phase }, { on := 3, ground := Ground.phase }, { on := 4, ground := Ground.phase }, { on := 5, ground := Ground.phase }, { on := 6, ground := Ground.phase }, { on := 7, ground := Ground.phase }, { on := 8, ground := Ground.phase }, { on := 9, ground := Ground.phase }, { on := 10, ground := Ground.textOnly Departure.lateStores }, { on := 11, ground := Ground.textOnly Departure.lateStoresUnsure }, { on := 12, ground := Ground.textOnly Departure.lateStoresUnsure }, { on := 13, ground := Ground.phase }, { on := 14, ground := Ground.textOnly Departure.lateStores }, { on := 15, ground := Ground.textOnly Departure.lateStores }, { on := 16, ground := Ground.textOnly Departure.lateStoresUnsure }], guard := none } ?_ (fun _ => hHeld) rfl (by kernel_rfl) (fun _ _ _ h => h) (by rfl) ?_ ?_
  rotate_left
  · intro w; go_simp; try with_reducible rfl
  try simp only [Act.put, List.setIfInBounds_toArray, List.set_cons_zero, List.set_cons_succ]
  refine Kt.G.one 19 { dst := none, op := Op.store 50 (Operand.tmp 112) (Operand.tmp 103), type := 0, pos := "report.go:111", after := #[{ on := 18, ground := Ground.data }, { on := 9, ground := Ground.data }, { on := 0, ground := Ground.phase }, { on := 1, ground := Ground.textOnly Departure.lateStores }, { on := 2, ground := Ground.phase }, { on := 3, ground := Ground.phase }, { on := 4, ground := Ground.phase }, { on := 5, ground := Ground.phase }, { on := 6, ground := Ground.phase }, { on := 7, ground := Ground.phase }, { on := 8, ground := Ground.phase }, { on := 9, ground := Ground.phase }, { on := 10, ground := Ground.textOnly Departure.lateStores }, { on := 11, ground := Ground.textOnly Departure.lateStoresUnsure }, { on := 12, ground := Ground.textOnly Departure.lateStoresUnsure }, { on := 13, ground := Ground.phase }, { on := 14, ground := Ground.textOnly Departure.lateStores }, { on := 15, ground := Ground.textOnly Departure.lateStores }, { on := 16, ground := Ground.textOnly Departure.lateStoresUnsure }], guard := none } rfl (by kernel_rfl) (by rfl) (fun K hK => ?_)
  refine wp_store_mid 50 (.tmp 112) (.tmp 103) rfl b 0 x.cells.toArray rfl rfl (there_row hHeld.1) state_sz (st_all x) ?_
  have hrow5 := row_st x hHeld.1
  refine hK.out _ _ (Kt.G.late (by kernel_rfl)) (fun _ => ?_)
  clear hK K
  try simp only [Act.put, List.setIfInBounds_toArray, List.set_cons_zero, List.set_cons_succ]
  refine Kt.G.takeP 20 { dst := some 113, op := Op.nilCheck (Operand.tmp 95), type := 0, pos := "report.go:111", after := #[{ on := 1, ground := Ground.data }, { on := 0, ground := Ground.phase }, { on := 1, ground := Ground.phase }, { on := 2, ground := Ground.phase }, { on := 3, ground := Ground.phase }, { on := 4, ground := Ground.phase }, { on := 5, ground := Ground.phase }, { on := 6, ground := Ground.phase }, { on := 7, ground := Ground.phase }, { on := 8, ground := Ground.phase }, { on := 9, ground := Ground.phase }, { on := 10, ground := Ground.phase }, { on := 11, ground := Ground.phase }, { on := 12, ground := Ground.phase }, { on := 13, ground := Ground.phase }, { on := 14, ground := Ground.phase }, { on := 15, ground := Ground.phase }, { on := 16, ground := Ground.phase }, { on := 17, ground := Ground.phase }, { on := 18, ground := Ground.phase }, { on := 19, ground := Ground.phase }], guard := none } ?_ (Kt.G.late (by kernel_rfl)) rfl (by kernel_rfl) (fun _ _ _ h => h) (by rfl) ?_ ?_
  rotate_left
  · intro w; go_simp; try with_reducible rfl
  try simp only [Act.put, List.setIfInBounds_toArray, List.set_cons_zero, List.set_cons_succ]
  refine Kt.G.takeP 21 { dst := some 114, op := Op.fieldAddr 54 (Operand.tmp 113) 1, type := 0, pos := "report.go:111", after := #[{ on := 20, ground := Ground.data }, { on := 0, ground := Ground.phase }, { on := 1, ground := Ground.phase }, { on := 2, ground := Ground.phase }, { on := 3, ground := Ground.phase }, { on := 4, ground := Ground.phase }, { on := 5, ground := Ground.phase }, { on := 6, ground := Ground.phase }, { on := 7, ground := Ground.phase }, { on := 8, ground := Ground.phase }, { on := 9, ground := Ground.phase }, { on := 10, ground := Ground.phase }, { on := 11, ground := Ground.phase }, { on := 12, ground := Ground.phase }, { on := 13, ground := Ground.phase }, { on := 14, ground := Ground.phase }, { on := 15, ground := Ground.phase }, { on := 16, ground := Ground.phase }, { on := 17, ground := Ground.phase }, { on := 18, ground := Ground.phase }, { on := 19, ground := Ground.phase }], guard := none } ?_ (Kt.G.late (by kernel_rfl)) rfl (by kernel_rfl) (fun _ _ _ h => h) (by rfl) ?_ ?_
  rotate_left
  · intro w; go_simp; try with_reducible rfl
  try simp only [Act.put, List.setIfInBounds_toArray, List.set_cons_zero, List.set_cons_succ]
  refine Kt.G.one 22 { dst := none, op := Op.store 51 (Operand.tmp 114) (Operand.tmp 110), type := 0, pos := "report.go:111", after := #[{ on := 21, ground := Ground.data }, { on := 16, ground := Ground.data }, { on := 19, ground := Ground.chain }, { on := 0, ground := Ground.phase }, { on := 1, ground := Ground.phase }, { on := 2, ground := Ground.phase }, { on := 3, ground := Ground.phase }, { on := 4, ground := Ground.phase }, { on := 5, ground := Ground.phase }, { on := 6, ground := Ground.phase }, { on := 7, ground := Ground.phase }, { on := 8, ground := Ground.phase }, { on := 9, ground := Ground.phase }, { on := 10, ground := Ground.phase }, { on := 11, ground := Ground.phase }, { on := 12, ground := Ground.phase }, { on := 13, ground := Ground.phase }, { on := 14, ground := Ground.phase }, { on := 15, ground := Ground.phase }, { on := 16, ground := Ground.phase }, { on := 17, ground := Ground.phase }, { on := 18, ground := Ground.phase }, { on := 19, ground := Ground.phase }], guard := none } rfl (by kernel_rfl) (by rfl) (fun K hK => ?_)
  have c2 := fun i => cell_of_row _ _ i _ _ _ hrow5
  have f2 := fun i => frozen_of_row _ _ i _ _ hrow5
  (try unfold row at c2)
  go_simp
  refine hK.out _ _ (Kt.G.late (by kernel_rfl)) (fun _ => ?_)
  clear hK K
  try simp only [Act.put, List.setIfInBounds_toArray, List.set_cons_zero, List.set_cons_succ]
  refine Kt.G.done (by kernel_rfl) (NoPanic.normal ?_) _
  go_wp2_with fail
  go_ret
  exact ⟨rfl, fun _ => ⟨_, _, _, (HA.out.on (Below.refl _ W).drew).pop HLX.out HM.out HG.out⟩, put6_below HBE.out.drew hbB x _⟩
end Go.Proofs.Ytinhnlfhgfmagaa
