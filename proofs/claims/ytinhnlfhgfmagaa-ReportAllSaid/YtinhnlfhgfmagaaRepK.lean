/- The walks of 'item' and of report.Fields. -/
import Derived.Test.YtinhnlfhgfmagaaRepJ
namespace Go.Proofs.Ytinhnlfhgfmagaa
open Go.RowKit Go.Proofs.Ytinhnlfhgfmagaa.Rep
theorem int_info : (Try.prog.info? 3).map (fun i => (i.zero, i.size, i.bytes)) = some (some (.int .i64 0), 1, 8) := by kernel_rfl
theorem glob_calls (w : World) (B b : Nat) (s : RS) (k v : Int) (h : Rdr w B b s) : Calls Try.prog 22 #[.pointer (some ⟨b, 0, none⟩), .agg #[.int .i64 k, .int .i64 v]] w (Left w B b (glob s k v)) := by
  by_cases h1 : k = 41
  · subst h1; exact glob_push w B b s v h
  by_cases h2 : k = 45
  · subst h2; exact glob_pop w B b s v h
  exact glob_plain w B b s k v h ⟨h1, h2⟩
/-- the usages are gone where it went well -/
def tidy (r : RS × Int) : RS × Int := if r.2 = 0 then ({ r.1 with us := [] }, 0) else r
def itm (s : RS) (k v : Int) : RS × Int :=
  if k = 2 then (if s.us.length = 256 then (s, 2) else ({ s with us := s.us ++ [v] }, 0))
  else if k = 40 then (if s.dep = 8 then (s, 11) else ({ s with dep := s.dep + 1, us := [] }, 0))
  else if k = 48 then (if s.dep = 0 then (s, 12) else ({ s with dep := s.dep - 1, us := [] }, 0))
  else if k = 32 then tidy (inp s v)
  else glob s k v
theorem RS.Ok.noUs {s : RS} (h : s.Ok) : ({ s with us := [] } : RS).Ok := ⟨h.sz0, h.sz1, h.ct0, h.ct1, h.k4, h.ks, Nat.zero_le _, h.d0, h.d8, h.b0, h.b1, h.out⟩
theorem itm_ok {s : RS} (h : s.Ok) (k v : Int) : (itm s k v).1.Ok := by
  unfold itm
  split
  · split
    · exact h
    · rename_i hn
      exact ⟨h.sz0, h.sz1, h.ct0, h.ct1, h.k4, h.ks, by show (s.us ++ [v]).length ≤ 256; have := h.us; rw [List.length_append]; show s.us.length + 1 ≤ 256; omega, h.d0, h.d8, h.b0, h.b1, h.out⟩
  split
  · split
    · exact h
    · rename_i hn
      exact ⟨h.sz0, h.sz1, h.ct0, h.ct1, h.k4, h.ks, Nat.zero_le _, by show 0 ≤ s.dep + 1; have := h.d0; omega, by show s.dep + 1 ≤ 8; have := h.d8; omega, h.b0, h.b1, h.out⟩
  split
  · split
    · exact h
    · rename_i hn
      exact ⟨h.sz0, h.sz1, h.ct0, h.ct1, h.k4, h.ks, Nat.zero_le _, by show 0 ≤ s.dep - 1; have := h.d0; omega, by show s.dep - 1 ≤ 8; have := h.d8; omega, h.b0, h.b1, h.out⟩
  split
  · unfold tidy
    split
    · exact (inp_ok h v).noUs
    · exact inp_ok h v
  exact glob_ok h k v
theorem RdB.noUs {W : World} {B b : Nat} {s : RS} {vs vu vo : Value} (h : RdB W B b s vs vu vo) : RdB (W.setCell ⟨b, 6, none⟩ (.slice none 0 0)) B b { s with us := [] } vs (.slice none 0 0) vo :=
  ⟨h.bB, (heap_setCell_same _ _ _ _ _ _ h.row).trans rfl, h.s1.set (fun k hk => h.n1 k hk) _, Kt.Sl.nil _ _ _ _, h.s3.set (fun k hk => h.n3 k hk) _, h.n1, fun k hk => (by cases hk), h.n3, fun k _ e => (by cases e), h.d13, fun k hk => (by cases hk), h.ok.noUs⟩
set_option maxRecDepth 100000 in
set_option maxHeartbeats 3200000 in
theorem itm_calls (w : World) (B b : Nat) (s : RS) (k v : Int) (h : Rdr w B b s) : Calls Try.prog 18 #[.pointer (some ⟨b, 0, none⟩), .agg #[.int .i64 k, .int .i64 v]] w (Left w B b (itm s k v)) := by
  obtain ⟨vs, vu, vo, h0⟩ := h
  have hlt := h0.lt
  have hBw : B ≤ w.heap.size := Nat.le_trans h0.bB (Nat.le_of_lt hlt)
  have HG := Lib.hid (itm_ok h0.ok k v)
  have hbB := h0.bB
  have HA := Lib.hid (h0.alloc (.cells #[.int .i64 k, .int .i64 v] 32))
  have HIT : Hid ((w.alloc (.cells #[.int .i64 k, .int .i64 v] 32)).heap[w.heap.size]? = some (.cells #[.int .i64 k, .int .i64 v] 32 (0, 0))) := Lib.hid (heap_alloc_new w _)
  have HBE : Hid (Below B w (w.alloc (.cells #[.int .i64 k, .int .i64 v] 32))) := Lib.hid ((Below.refl B w).alloc hBw _)
  have c0 := fun i => cell_of_row _ _ i _ _ _ HA.out.row
  have f0 := fun i => frozen_of_row _ _ i _ _ HA.out.row
  unfold row at c0
  obtain ⟨A0, q0, rfl, hq1, hq2⟩ := h0.s2.form
  have us1 := h0.ok.us
  have HNB : Hid ((Value.slice A0 s.us.length q0).ownBlock ≠ some w.heap.size) := Lib.hid (fun e => by have := (h0.s2.lt _ e).2; omega)
  have d0 := h0.ok.d0
  have d8 := h0.ok.d8
  have HX := Lib.hid h0
  have cw := fun i => cell_of_row _ _ i _ _ _ h0.row
  have fw := fun i => frozen_of_row _ _ i _ _ h0.row
  unfold row at cw
  clear h0
  by_cases k2 : k = 2
  · subst k2
    by_cases hf : s.us.length = 256
    · have e : itm s 2 v = (s, 2) := by unfold itm; rw [if_pos rfl, if_pos hf]
      rw [e]
      have e4 : ((s.us.length : Int) == 256) = true := by simp; omega
      clear e hf HG
      go_enter Try.func18, Try.ntmps18
      go_wp2_with fail
      go_ret
      exact ⟨rfl, fun h => absurd h (show ¬ ((2 : Int) = 0) by decide), HBE.out⟩
    have e : itm s 2 v = ({ s with us := s.us ++ [v] }, 0) := by unfold itm; rw [if_pos rfl, if_neg hf]
    rw [e] at HG ⊢
    have e4 : ((s.us.length : Int) == 256) = false := by simp; omega
    have hk3 : s.us.length ≤ 255 := by omega
    clear e hf
    go_enter Try.func18, Try.ntmps18
    go_wp2_with fail
    have hW : b < (w.alloc (.cells #[.int .i64 2, .int .i64 v] 32)).heap.size := HA.out.lt
    have hW2 : w.heap.size < (w.alloc (.cells #[.int .i64 2, .int .i64 v] 32)).heap.size := by rw [World.size_alloc]; omega
    have hBW : B ≤ (w.alloc (.cells #[.int .i64 2, .int .i64 v] 32)).heap.size := by rw [World.size_alloc]; omega
    clear c0 f0 cw fw
    generalize (w.alloc (.cells #[.int .i64 2, .int .i64 v] 32)) = W at *
    refine Kt.G.start 11 (fun W => RowAt b s vs (.slice A0 s.us.length q0) vo W ∧ W.heap[w.heap.size]? = some (.cells #[.int .i64 2, .int .i64 v] 32 (0, 0))) (by kernel_rfl) ⟨HA.out.row, HIT.out⟩ (fun hHeld => ?_)
    refine Kt.G.takeP 0 { dst := some 19, op := Op.move (Operand.tmp 0), type := 48, pos := "report.go:123", after := #[], guard := none } ?_ (fun _ => hHeld) rfl (by kernel_rfl) (fun _ _ _ h => h) (by rfl) ?_ ?_
    rotate_left
    · intro w; go_simp; try with_reducible rfl
    try simp only [Act.put, List.setIfInBounds_toArray, List.set_cons_zero, List.set_cons_succ]
    refine Kt.G.takeP 1 { dst := some 20, op := Op.move (Operand.tmp 0), type := 48, pos := "report.go:123", after := #[], guard := none } ?_ (fun _ => hHeld) rfl (by kernel_rfl) (fun _ _ _ h => h) (by rfl) ?_ ?_
    rotate_left
    · intro w; go_simp; try with_reducible rfl
    try simp only [Act.put, List.setIfInBounds_toArray, List.set_cons_zero, List.set_cons_succ]
    refine Kt.G.takeP 2 { dst := some 21, op := Op.nilCheck (Operand.tmp 20), type := 0, pos := "report.go:123", after := #[{ on := 1, ground := Ground.data }], guard := none } ?_ (fun _ => hHeld) rfl (by kernel_rfl) (fun _ _ _ h => h) (by rfl) ?_ ?_
    rotate_left
    · intro w; go_simp; try with_reducible rfl
    try simp only [Act.put, List.setIfInBounds_toArray, List.set_cons_zero, List.set_cons_succ]
    refine Kt.G.takeP 3 { dst := some 22, op := Op.fieldAddr 54 (Operand.tmp 21) 2, type := 0, pos := "report.go:123", after := #[{ on := 2, ground := Ground.data }], guard := none } ?_ (fun _ => hHeld) rfl (by kernel_rfl) (fun _ _ _ h => h) (by rfl) ?_ ?_
    rotate_left
    · intro w; go_simp; try with_reducible rfl
    try simp only [Act.put, List.setIfInBounds_toArray, List.set_cons_zero, List.set_cons_succ]
    refine Kt.G.take 4 { dst := some 23, op := Op.load 52 (Operand.tmp 22), type := 52, pos := "report.go:123", after := #[{ on := 3, ground := Ground.data }], guard := none } ?_ hHeld rfl (by kernel_rfl) (fun _ _ _ h => h) (by rfl) ?_ ?_
    rotate_left
    · intro w hSw; have c0 := fun i => cell_of_row _ _ i _ _ _ hSw.1; have c4 := fun i => cell_of_row _ _ i _ _ _ hSw.2; (try unfold row at c0); go_simp; try with_reducible rfl
    try simp only [Act.put, List.setIfInBounds_toArray, List.set_cons_zero, List.set_cons_succ]
    refine Kt.G.takeP 5 { dst := some 24, op := Op.fieldAddr 32 (Operand.tmp 3) 1, type := 0, pos := "report.go:123", after := #[], guard := none } ?_ (fun _ => hHeld) rfl (by kernel_rfl) (fun _ _ _ h => h) (by rfl) ?_ ?_
    rotate_left
    · intro w; go_simp; try with_reducible rfl
    try simp only [Act.put, List.setIfInBounds_toArray, List.set_cons_zero, List.set_cons_succ]
    refine Kt.G.take 6 { dst := some 25, op := Op.load 3 (Operand.tmp 24), type := 3, pos := "report.go:123", after := #[{ on := 5, ground := Ground.data }], guard := none } ?_ hHeld rfl (by kernel_rfl) (fun _ _ _ h => h) (by rfl) ?_ ?_
    rotate_left
    · intro w hSw; have c0 := fun i => cell_of_row _ _ i _ _ _ hSw.1; have c4 := fun i => cell_of_row _ _ i _ _ _ hSw.2; (try unfold row at c0); go_simp; try with_reducible rfl
    try simp only [Act.put, List.setIfInBounds_toArray, List.set_cons_zero, List.set_cons_succ]
    refine Kt.G.one 7 { dst := some 26, op := Op.buildSlice 52 1 #[(0, Operand.tmp 25)], type := 52, pos := "report.go:123", after := #[{ on := 6, ground := Ground.data }], guard := none } rfl (by kernel_rfl) (by rfl) (fun K hK => ?_)
    go_simp
    refine hK.out _ _ (fun _ => ⟨(Below.heap_alloc _ _ _ hW).trans hHeld.1, (Below.heap_alloc _ _ _ hW2).trans hHeld.2⟩) (fun hHeld => ?_)
    have hHeld := hHeld rfl
    clear hK K
    try simp only [Act.put, List.setIfInBounds_toArray, List.set_cons_zero, List.set_cons_succ]
    refine Kt.G.one 8 { dst := some 27, op := Op.call { callee := Callee.builtin Builtin.append, args := #[Operand.tmp 23, Operand.tmp 26], argTypes := #[52, 52] }, type := 52, pos := "report.go:123", after := #[{ on := 4, ground := Ground.data }, { on := 7, ground := Ground.data }], guard := none } rfl (by kernel_rfl) (by rfl) (fun K hK => ?_)
    refine Kt.wp_append_sl _ (.tmp 23) (.tmp 26) 52 rfl B 3 (.int .i64 0) 1 8 int_info Try.underlying52 rfl (by decide) _ _ _ rfl (HA.out.s2.alloc _).drew ⟨W.heap.size, 0, none⟩ 1 1 [.int .i64 v] rfl rfl (Kt.new_cells W #[.int .i64 v] _) (by simp [Value.oneCell']) (by unfold maxLen; omega) (by omega) (by show B ≤ (W.alloc _).heap.size; rw [World.size_alloc]; exact Nat.le_succ_of_le hBW) ?_
    intro A1 c1 w1 hsl hb1 hz1 hk1 ho1
    have hrow : RowAt b s vs (.slice A0 s.us.length q0) vo w1 := (hk1 b (by show b < (W.alloc _).heap.size; rw [World.size_alloc]; exact Nat.lt_succ_of_lt hW) (fun e => HA.out.n2 b e rfl)).trans hHeld.1
    have hbox : w1.heap[w.heap.size]? = some (.cells #[.int .i64 2, .int .i64 v] 32 (0, 0)) := (hk1 w.heap.size (by show w.heap.size < (W.alloc _).heap.size; rw [World.size_alloc]; exact Nat.lt_succ_of_lt hW2) (fun e => HNB.out e)).trans hHeld.2
    refine hK.out _ _ (fun _ => ⟨hrow, hbox⟩) (fun hHeld => ?_)
    have hHeld := hHeld rfl
    clear hK K
    try simp only [Act.put, List.setIfInBounds_toArray, List.set_cons_zero, List.set_cons_succ]
    refine Kt.G.takeP 9 { dst := some 28, op := Op.nilCheck (Operand.tmp 19), type := 0, pos := "report.go:123", after := #[{ on := 0, ground := Ground.data }, { on := 0, ground := Ground.phase }, { on := 1, ground := Ground.phase }, { on := 2, ground := Ground.phase }, { on := 3, ground := Ground.phase }, { on := 4, ground := Ground.phase }, { on := 5, ground := Ground.phase }, { on := 6, ground := Ground.phase }, { on := 7, ground := Ground.phase }, { on := 8, ground := Ground.phase }], guard := none } ?_ (fun _ => hHeld) rfl (by kernel_rfl) (fun _ _ _ h => h) (by rfl) ?_ ?_
    rotate_left
    · intro w; go_simp; try with_reducible rfl
    try simp only [Act.put, List.setIfInBounds_toArray, List.set_cons_zero, List.set_cons_succ]
    refine Kt.G.takeP 10 { dst := some 29, op := Op.fieldAddr 54 (Operand.tmp 28) 2, type := 0, pos := "report.go:123", after := #[{ on := 9, ground := Ground.data }, { on := 0, ground := Ground.phase }, { on := 1, ground := Ground.phase }, { on := 2, ground := Ground.phase }, { on := 3, ground := Ground.phase }, { on := 4, ground := Ground.phase }, { on := 5, ground := Ground.phase }, { on := 6, ground := Ground.phase }, { on := 7, ground := Ground.phase }, { on := 8, ground := Ground.phase }], guard := none } ?_ (fun _ => hHeld) rfl (by kernel_rfl) (fun _ _ _ h => h) (by rfl) ?_ ?_
    rotate_left
    · intro w; go_simp; try with_reducible rfl
    try simp only [Act.put, List.setIfInBounds_toArray, List.set_cons_zero, List.set_cons_succ]
    refine Kt.G.one 11 { dst := none, op := Op.store 52 (Operand.tmp 29) (Operand.tmp 27), type := 0, pos := "report.go:123", after := #[{ on := 10, ground := Ground.data }, { on := 8, ground := Ground.data }, { on := 8, ground := Ground.chain }, { on := 0, ground := Ground.phase }, { on := 1, ground := Ground.phase }, { on := 2, ground := Ground.phase }, { on := 3, ground := Ground.phase }, { on := 4, ground := Ground.phase }, { on := 5, ground := Ground.phase }, { on := 6, ground := Ground.phase }, { on := 7, ground := Ground.phase }, { on := 8, ground := Ground.phase }], guard := none } rfl (by kernel_rfl) (by rfl) (fun K hK => ?_)
    have c2 := fun i => cell_of_row _ _ i _ _ _ hrow
    have f2 := fun i => frozen_of_row _ _ i _ _ hrow
    (try unfold row at c2)
    have hbz : b < w1.heap.size := (Array.getElem?_eq_some_iff.1 hrow).1
    go_simp
    refine hK.out _ _ (Kt.G.late (by kernel_rfl)) (fun _ => ?_)
    clear hK K
    try simp only [Act.put, List.setIfInBounds_toArray, List.set_cons_zero, List.set_cons_succ]
    clear c2 f2
    refine Kt.G.done (by kernel_rfl) (NoPanic.normal ?_) _
    go_wp2_with fail
    go_ret
    exact ⟨rfl, fun _ => ⟨_, _, _, HA.out.push2 v hsl hk1 ho1 HG.out⟩, (HBE.out.trans (((Below.refl B W).alloc hBW _).drew.trans hb1)).setCell (p := ⟨b, 6, none⟩) hbB _⟩
  have q2 : (k == 2) = false := beq_eq_false_iff_ne.2 k2
  by_cases k40 : k = 40
  · subst k40
    by_cases hf : s.dep = 8
    · have e : itm s 40 v = (s, 11) := by unfold itm; simp [hf]
      rw [e]
      have e4 : (s.dep == 8) = true := by simp [hf]
      clear e hf HG k2
      go_enter Try.func18, Try.ntmps18
      go_wp2_with fail
      go_ret
      exact ⟨rfl, fun h => absurd h (show ¬ ((11 : Int) = 0) by decide), HBE.out⟩
    have e : itm s 40 v = ({ s with dep := s.dep + 1, us := [] }, 0) := by unfold itm; simp [hf]
    rw [e] at HG ⊢
    have e4 : (s.dep == 8) = false := by simp [hf]
    have HOK : Hid (({ s with dep := s.dep + 1 } : RS).Ok) := Lib.hid (by have h := HA.out.ok; exact ⟨h.sz0, h.sz1, h.ct0, h.ct1, h.k4, h.ks, h.us, by show 0 ≤ s.dep + 1; omega, by show s.dep + 1 ≤ 8; omega, h.b0, h.b1, h.out⟩)
    clear e hf k2
    go_enter Try.func18, Try.ntmps18
    go_wp2_with fail
    go_ret
    exact ⟨rfl, fun _ => ⟨_, _, _, (HX.out.put 7 (.int .i64 (s.dep + 1)) { s with dep := s.dep + 1 } rfl rfl rfl rfl HOK.out).noUs.alloc _⟩, (((Below.refl B w).setCell (p := ⟨b, 7, none⟩) hbB _).setCell (p := ⟨b, 6, none⟩) hbB _).alloc (by simpa [World.setCell] using hBw) _⟩
  have q40 : (k == 40) = false := beq_eq_false_iff_ne.2 k40
  by_cases k48 : k = 48
  · subst k48
    by_cases hf : s.dep = 0
    · have e : itm s 48 v = (s, 12) := by unfold itm; simp [hf]
      rw [e]
      have e4 : (s.dep == 0) = true := by simp [hf]
      clear e hf HG k2
      go_enter Try.func18, Try.ntmps18
      go_wp2_with fail
      go_ret
      exact ⟨rfl, fun h => absurd h (show ¬ ((12 : Int) = 0) by decide), HBE.out⟩
    have e : itm s 48 v = ({ s with dep := s.dep - 1, us := [] }, 0) := by unfold itm; simp [hf]
    rw [e] at HG ⊢
    have e4 : (s.dep == 0) = false := by simp [hf]
    have HOK : Hid (({ s with dep := s.dep - 1 } : RS).Ok) := Lib.hid (by have h := HA.out.ok; exact ⟨h.sz0, h.sz1, h.ct0, h.ct1, h.k4, h.ks, h.us, by show 0 ≤ s.dep - 1; omega, by show s.dep - 1 ≤ 8; omega, h.b0, h.b1, h.out⟩)
    clear e hf k2
    go_enter Try.func18, Try.ntmps18
    go_wp2_with fail
    go_ret
    exact ⟨rfl, fun _ => ⟨_, _, _, (HX.out.put 7 (.int .i64 (s.dep - 1)) { s with dep := s.dep - 1 } rfl rfl rfl rfl HOK.out).noUs.alloc _⟩, (((Below.refl B w).setCell (p := ⟨b, 7, none⟩) hbB _).setCell (p := ⟨b, 6, none⟩) hbB _).alloc (by simpa [World.setCell] using hBw) _⟩
  have q48 : (k == 48) = false := beq_eq_false_iff_ne.2 k48
  by_cases k32 : k = 32
  · subst k32
    have e : itm s 32 v = tidy (inp s v) := rfl
    rw [e]
    have HI := Lib.hid (inp_calls _ B b s v ⟨_, _, _, HA.out⟩)
    obtain ⟨r, hr⟩ : ∃ r, inp s v = r := ⟨_, rfl⟩
    rw [hr] at HI ⊢
    clear e hr k2 k40 k48 HG
    go_enter Try.func18, Try.ntmps18
    go_wp2_with fail
    refine HI.out.mono ?_
    rintro en w1 ⟨rfl, hr1, hr2⟩
    have HR1 := Lib.hid hr1
    have HB1 := Lib.hid (HBE.out.trans hr2)
    obtain ⟨s1, n1⟩ := r
    dsimp only at *
    clear hr1 hr2
    by_cases hn : n1 = 0
    · subst hn
      obtain ⟨vs1, vu1, vo1, h1⟩ := HR1.out rfl
      have c1 := fun i => cell_of_row _ _ i _ _ _ h1.row
      have f1 := fun i => frozen_of_row _ _ i _ _ h1.row
      unfold row at c1
      have H1 := Lib.hid h1
      clear c0 f0 cw fw h1
      go_wp2_with fail
      go_ret
      rw [show tidy (s1, 0) = ({ s1 with us := [] }, 0) from rfl]
      exact ⟨rfl, fun _ => ⟨_, _, _, H1.out.noUs⟩, HB1.out.setCell (p := ⟨b, 6, none⟩) hbB _⟩
    · have e5 : (n1 != 0) = true := by rw [bne_iff_ne]; exact hn
      have HN := Lib.hid hn
      clear c0 f0 cw fw hn
      go_wp2_with fail
      go_ret
      rw [show tidy (s1, n1) = (s1, n1) from if_neg HN.out]
      exact ⟨rfl, fun h => absurd h HN.out, HB1.out⟩
  have q32 : (k == 32) = false := beq_eq_false_iff_ne.2 k32
  have e : itm s k v = glob s k v := by unfold itm; rw [if_neg k2, if_neg k40, if_neg k48, if_neg k32]
  rw [e]
  have HI := Lib.hid (glob_calls _ B b s k v ⟨_, _, _, HA.out⟩)
  have c4 := fun i => cell_of_row _ _ i _ _ _ HIT.out
  obtain ⟨r, hr⟩ : ∃ r, glob s k v = r := ⟨_, rfl⟩
  rw [hr] at HI ⊢
  clear e hr k2 k40 k48 k32 HG
  go_enter Try.func18, Try.ntmps18
  go_wp2_with fail
  refine HI.out.mono ?_
  rintro en w1 ⟨rfl, hr1, hr2⟩
  have HR1 := Lib.hid hr1
  have HB1 := Lib.hid (HBE.out.trans hr2)
  clear c0 f0 cw fw c4 hr1 hr2
  go_wp2_with fail
  go_ret
  exact ⟨rfl, HR1.out, HB1.out⟩
end Go.Proofs.Ytinhnlfhgfmagaa
