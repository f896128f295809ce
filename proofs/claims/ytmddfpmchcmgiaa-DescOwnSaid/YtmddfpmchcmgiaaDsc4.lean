/- DescOwn: the copy that is kept. -/
import Derived.Test.YtmddfpmchcmgiaaDscZ
import Derived.Test.YtmddfpmchcmgiaaAny
import Derived.Test.YtmddfpmchcmgiaaDsc5
namespace Go.Proofs.Ytmddfpmchcmgiaa
open Go.RowKit Go.Proofs.Ytmddfpmchcmgiaa.Dsc
/-- a face more, whose lists lie in blocks of their own -/
theorem Fo.faceX {w w' : World} {B : Nat} {V V' : Value} {l : List Fh} (h : Fo w B V l) (x : Fh) (hX : Kt.Sl w B 9 1 x.X x.f.ex.length (xcells x.f.ex)) (hE : Kt.Sl w B 43 5 x.E x.f.es.length (ecells x.f.es))
    (nX : ∀ y ∈ l, ∀ k, y.X.ownBlock = some k → x.X.ownBlock ≠ some k) (nE : ∀ y ∈ l, ∀ k, y.E.ownBlock = some k → x.E.ownBlock ≠ some k)
    (hs : Kt.Sl w' B 32 6 V' (l.length + 1) (l.flatMap Fh.cs ++ x.cs))
    (hk : ∀ k, k < w.heap.size → V.ownBlock ≠ some k → w'.heap[k]? = w.heap[k]?) : Fo w' B V' (l ++ [x]) := by
  have key : ∀ {t : TypeId} {k : Nat}, ownT w t k → t ≠ 32 → w'.heap[k]? = w.heap[k]? := fun ht hne => hk _ (old_of ht) fun e => ownT_ne ht (sl_own h.sl e).2 hne rfl
  refine ⟨by rw [List.length_append, List.flatMap_append, List.flatMap_singleton]; exact hs, fun y hy => ?_, fun y hy => ?_, ?_, ?_⟩
  · rcases List.mem_append.1 hy with hy | hy
    · exact (h.xs y hy).keep fun k e => key (sl_own (h.xs y hy) e).2 (by decide)
    · cases List.mem_singleton.1 hy
      exact hX.keep fun k e => key (sl_own hX e).2 (by decide)
  · rcases List.mem_append.1 hy with hy | hy
    · exact (h.es y hy).keep fun k e => key (sl_own (h.es y hy) e).2 (by decide)
    · cases List.mem_singleton.1 hy
      exact hE.keep fun k e => key (sl_own hE e).2 (by decide)
  · refine List.pairwise_append.2 ⟨h.ax, List.pairwise_singleton _ _, fun y hy z hz k e => ?_⟩
    cases List.mem_singleton.1 hz
    exact nX y hy k e
  · refine List.pairwise_append.2 ⟨h.ae, List.pairwise_singleton _ _, fun y hy z hz k e => ?_⟩
    cases List.mem_singleton.1 hz
    exact nE y hy k e
theorem kept_row {W W' : World} {V : Value} {b : Nat} {cs : Array Value} {t u : TypeId} (hk : ∀ k, k < W.heap.size → V.ownBlock ≠ some k → W'.heap[k]? = W.heap[k]?) (hr : W.heap[b]? = some (.cells cs t (0, 0))) (hv : ∀ k, V.ownBlock = some k → ownT W u k) (hne : t ≠ u) : W'.heap[b]? = some (.cells cs t (0, 0)) :=
  (hk b (Array.getElem?_eq_some_iff.1 hr).1 fun e => ownT_ne ⟨_, hr⟩ (hv b e) hne rfl).trans hr
theorem xc_one (l : List (List UInt8)) : ∀ u ∈ xcells l, u.oneCell' = true := by
  intro u hu
  obtain ⟨s, _, rfl⟩ := List.mem_map.1 hu
  rfl
theorem ec_one (l : List En) : ∀ u ∈ ecells l, u.oneCell' = true := by
  intro u hu
  obtain ⟨x, _, hx⟩ := List.mem_flatMap.1 hu
  simp only [ec1, List.mem_cons, List.not_mem_nil, or_false] at hx
  rcases hx with rfl | rfl | rfl | rfl | rfl <;> rfl
theorem next_own {k n : Nat} (h : k < n) (h2 : n * 80 ≤ 140737488355328) : wrap64 ((k : Int) + 1) = ((k + 1 : Nat) : Int) := by
  unfold wrap64
  omega
/-- the bounds on what came in -/
structure OwnB (c : Cf) : Prop where
  fs : c.fs.length * 80 ≤ 140737488355328
  ex : ∀ f ∈ c.fs, f.ex.length * 16 ≤ 140737488355328
  es : ∀ f ∈ c.fs, f.es.length * 40 ≤ 140737488355328
set_option maxRecDepth 100000 in
set_option maxHeartbeats 3200000 in
theorem own_calls (c : Cf) (v : Value) (w : World) (h : CRd w v c) (hb : OwnB c) : Calls Try.prog 5 #[v] w fun e w' => e = .returned (.bool true) ∧ Below w.heap.size w w' := by
  have HV := Lib.hid h
  have HOB := Lib.hid hb
  obtain ⟨F, css, rfl, hF, hcl, hcr⟩ := h
  have HF := Lib.hid hF
  have HCL := Lib.hid hcl
  have HCR := Lib.hid hcr
  obtain ⟨FA, fc, rfl, _, _⟩ := hF.form
  have HLV := Lib.hid lives_calls
  obtain ⟨r1, r2, b2⟩ := box2s w #[.int .i64 c.va, .int .i64 c.nm, .int .i64 c.at_, .int .i64 c.pw, .slice FA c.fs.length fc] #[.int .i64 c.va, .int .i64 c.nm, .int .i64 c.at_, .int .i64 c.pw, .slice none 0 0] 24 24
  have HR1 := Lib.hid r1
  have HR2 := Lib.hid r2
  have HB := Lib.hid b2
  have q1 := fun i => cell_of_row _ _ i _ _ _ r1
  clear hF hcl hcr hb r1 r2 b2
  go_enter Try.func5, Try.ntmps5
  go_wp2_with fail
  go_loopw [26] (fun vi wr => ∃ k : Nat, k ≤ c.fs.length ∧ vi = .int .i64 k ∧ Hid (∃ (l : List Fh) (V : Value), l.map Fh.f = c.fs.take k ∧ wr.heap[w.heap.size + 1]? = some (.cells #[.int .i64 c.va, .int .i64 c.nm, .int .i64 c.at_, .int .i64 c.pw, V] 24 (0, 0)) ∧ Fo wr w.heap.size V l ∧ wr.heap[w.heap.size]? = some (.cells #[.int .i64 c.va, .int .i64 c.nm, .int .i64 c.at_, .int .i64 c.pw, .slice FA c.fs.length fc] 24 (0, 0)) ∧ Below w.heap.size w wr)) (fun vi _ => c.fs.length - (intOf vi).toNat)
  case atStart => exact ⟨0, Nat.zero_le _, rfl, Lib.hid ⟨[], .slice none 0 0, rfl, HR2.out, Fo.nil _ _, HR1.out, HB.out⟩⟩
  case round =>
    obtain ⟨k, hk, rfl, HI⟩ := hrel
    by_cases hlt : k < c.fs.length
    · obtain ⟨f, hf⟩ : ∃ f, c.fs[k] = f := ⟨_, rfl⟩
      obtain ⟨X, E, hcs, hX, hE⟩ := HCR.out k hlt (by rw [HCL.out]; exact hlt)
      rw [hf] at hcs hX hE
      obtain ⟨_, _, hfe, _, hfx⟩ := HF.out.form
      injection hfe with hfe1 _ hfe2
      subst hfe1 hfe2
      obtain ⟨fb, fo, rfl, hfb, hfc⟩ := hfx (Nat.lt_of_le_of_lt (Nat.zero_le _) hlt)
      obtain ⟨l, V, i1, i2, i3, i4, i5⟩ := HI.out
      have hcell : ∀ j u, [Value.int .i64 f.cl, .int .i64 f.su, .int .i64 f.pr, .int .i64 f.nm, X, E][j]? = some u → wr.cell? ⟨fb, fo + k * 6 + j, none⟩ = some u := fun j u hj => by
        have hl6 : ∀ x ∈ css, x.length = 6 := fun x hx => by
          obtain ⟨i, hi, rfl⟩ := List.getElem_of_mem hx
          obtain ⟨_, _, he, _, _⟩ := HCR.out i (by rw [← HCL.out]; exact hi) hi
          rw [he]; rfl
        have hj6 : j < 6 := (List.getElem?_eq_some_iff.1 hj).1
        have h1 := flat_get css hl6 k (by rw [HCL.out]; exact hlt) j hj6
        rw [hcs, hj] at h1
        obtain ⟨h2, h3⟩ := List.getElem?_eq_some_iff.1 h1
        rw [Nat.add_assoc]
        exact (i5.cell (p := ⟨fb, fo + (k * 6 + j), none⟩) hfb).trans ((hfc _ h2).trans (by rw [h3]))
      have k0 : wr.cell? ⟨fb, fo + k * 6, none⟩ = some (.int .i64 f.cl) := hcell 0 _ rfl
      have k1 : wr.cell? ⟨fb, fo + k * 6 + 1, none⟩ = some (.int .i64 f.su) := hcell 1 _ rfl
      have k2 : wr.cell? ⟨fb, fo + k * 6 + 2, none⟩ = some (.int .i64 f.pr) := hcell 2 _ rfl
      have k3 : wr.cell? ⟨fb, fo + k * 6 + 3, none⟩ = some (.int .i64 f.nm) := hcell 3 _ rfl
      have k4 : wr.cell? ⟨fb, fo + k * 6 + 4, none⟩ = some X := hcell 4 _ rfl
      have k5 : wr.cell? ⟨fb, fo + k * 6 + 5, none⟩ = some E := hcell 5 _ rfl
      have hfm : f ∈ c.fs := hf ▸ List.getElem_mem _
      have HCX := Lib.hid (fun W (hW : Below wr.heap.size wr W) => clone_calls X f.ex.length (xcells f.ex) W ((hX.on i5).on hW) (xc_one _) (by have := HOB.out.ex f hfm; omega))
      have HCE := Lib.hid (fun W (hW : Below wr.heap.size wr W) => clonee_calls E f.es.length (ecells f.es) W ((hE.on i5).on hW) (ec_one _) (by have := HOB.out.es f hfm; omega))
      obtain ⟨XA, xc, rfl, _, _⟩ := hX.form
      obtain ⟨EA, ec, rfl, _, _⟩ := hE.form
      have HTK := Lib.hid (show c.fs.take (k + 1) = c.fs.take k ++ [f] by rw [← hf]; exact List.take_succ_eq_append_getElem hlt)
      clear hcell hcs hX hE hf hfb hfc hfx i1 i2 i3 i4 i5 hfm l V
      have HB5 := Lib.hid (Kt.balloc (Below.refl _ wr) (.cells #[.int .i64 f.cl, .int .i64 f.su, .int .i64 f.pr, .int .i64 f.nm, .slice XA f.ex.length xc, .slice EA f.es.length ec] 32))
      have HRF := Lib.hid (heap_alloc_new wr (.cells #[.int .i64 f.cl, .int .i64 f.su, .int .i64 f.pr, .int .i64 f.nm, .slice XA f.ex.length xc, .slice EA f.es.length ec] 32))
      go_upto_region 5 with (fail)
      obtain ⟨w5, hw5⟩ : ∃ W, wr.alloc (.cells #[.int .i64 f.cl, .int .i64 f.su, .int .i64 f.pr, .int .i64 f.nm, .slice XA f.ex.length xc, .slice EA f.es.length ec] 32) = W := ⟨_, rfl⟩
      rw [hw5] at HB5 HRF ⊢
      clear hw5
      have HCX5 := Lib.hid (fun W (hW : Below w5.heap.size w5 W) => HCX.out W (Kt.bthen HB5.out hW))
      have HCE5 := Lib.hid (fun W (hW : Below w5.heap.size w5 W) => HCE.out W (Kt.bthen HB5.out hW))
      clear HCX HCE k0 k1 k2 k3 k4 k5 q1
      refine Kt.G.start 7 (Kt.Fb w5 [(wr.heap.size, #[.int .i64 f.cl, .int .i64 f.su, .int .i64 f.pr, .int .i64 f.nm, .slice XA f.ex.length xc, .slice EA f.es.length ec], 32)]) (by kernel_rfl) ((Kt.Fb.nil w5 (Below.refl _ _)).add HRF.out).drew (fun hHeld => ?_)
      refine Kt.G.takeP 0 { dst := some 30, op := Op.fieldAddr 32 (Operand.tmp 5) 4, type := 0, pos := "desc.go:113", after := #[], guard := none } ?_ (fun _ => hHeld) rfl (by kernel_rfl) (fun _ _ _ h => h) (by rfl) ?_ ?_
      rotate_left
      · intro wq; go_simp; try with_reducible rfl
      try simp only [Act.put, List.setIfInBounds_toArray, List.set_cons_zero, List.set_cons_succ]
      refine Kt.G.take 1 { dst := some 31, op := Op.load 29 (Operand.tmp 30), type := 29, pos := "desc.go:113", after := #[{ on := 0, ground := Ground.data }], guard := none } ?_ hHeld rfl (by kernel_rfl) (fun _ _ _ h => h) (by rfl) ?_ ?_
      rotate_left
      · intro wq hSw; have r0 := hSw.row (wr.heap.size, #[.int .i64 f.cl, .int .i64 f.su, .int .i64 f.pr, .int .i64 f.nm, .slice XA f.ex.length xc, .slice EA f.es.length ec], 32) (by simp); have c0 := fun i => cell_of_row _ _ i _ _ _ r0; dsimp only at *; go_simp; try with_reducible rfl
      try simp only [Act.put, List.setIfInBounds_toArray, List.set_cons_zero, List.set_cons_succ]
      refine Kt.G.takeP 3 { dst := some 33, op := Op.fieldAddr 32 (Operand.tmp 5) 5, type := 0, pos := "desc.go:113", after := #[], guard := none } ?_ (fun _ => hHeld) rfl (by kernel_rfl) (fun _ _ _ h => h) (by rfl) ?_ ?_
      rotate_left
      · intro wq; go_simp; try with_reducible rfl
      try simp only [Act.put, List.setIfInBounds_toArray, List.set_cons_zero, List.set_cons_succ]
      refine Kt.G.take 4 { dst := some 34, op := Op.load 30 (Operand.tmp 33), type := 30, pos := "desc.go:113", after := #[{ on := 3, ground := Ground.data }], guard := none } ?_ hHeld rfl (by kernel_rfl) (fun _ _ _ h => h) (by rfl) ?_ ?_
      rotate_left
      · intro wq hSw; have r0 := hSw.row (wr.heap.size, #[.int .i64 f.cl, .int .i64 f.su, .int .i64 f.pr, .int .i64 f.nm, .slice XA f.ex.length xc, .slice EA f.es.length ec], 32) (by simp); have c0 := fun i => cell_of_row _ _ i _ _ _ r0; dsimp only at *; go_simp; try with_reducible rfl
      try simp only [Act.put, List.setIfInBounds_toArray, List.set_cons_zero, List.set_cons_succ]
      refine Kt.G.one 2 { dst := some 32, op := Op.call { callee := Callee.value (Operand.func 18), args := #[Operand.tmp 31], argTypes := #[29] }, type := 29, pos := "desc.go:113", after := #[{ on := 1, ground := Ground.data }], guard := none } rfl (by kernel_rfl) (by rfl) (fun K hK => ?_)
      have hzz := hHeld.bel.size
      go_simp
      refine (HCX5.out _ hHeld.bel).mono ?_; rintro en xw ⟨A2, d2, rfl, hs2, hb2⟩
      refine hK.out _ _ (fun _ => hHeld.on hb2) (fun hHeld => ?_)
      have hHeld := hHeld rfl
      clear hK K
      try simp only [Act.put, List.setIfInBounds_toArray, List.set_cons_zero, List.set_cons_succ]
      have HS2 := Lib.hid (hs2.mono hzz)
      clear hs2 hb2 hzz
      refine Kt.G.takeP 6 { dst := some 36, op := Op.fieldAddr 32 (Operand.tmp 5) 4, type := 0, pos := "desc.go:113", after := #[{ on := 0, ground := Ground.phase }, { on := 1, ground := Ground.phase }, { on := 2, ground := Ground.phase }, { on := 3, ground := Ground.phase }, { on := 4, ground := Ground.phase }, { on := 5, ground := Ground.textOnly Departure.lateStoresUnsure }], guard := none } ?_ (fun _ => hHeld) rfl (by kernel_rfl) (fun _ _ _ h => h) (by rfl) ?_ ?_
      rotate_left
      · intro wq; go_simp; try with_reducible rfl
      try simp only [Act.put, List.setIfInBounds_toArray, List.set_cons_zero, List.set_cons_succ]
      refine Kt.G.one 5 { dst := some 35, op := Op.call { callee := Callee.value (Operand.func 19), args := #[Operand.tmp 34], argTypes := #[30] }, type := 30, pos := "desc.go:113", after := #[{ on := 4, ground := Ground.data }, { on := 2, ground := Ground.chain }], guard := none } rfl (by kernel_rfl) (by rfl) (fun K hK => ?_)
      have hzz := hHeld.bel.size
      go_simp
      refine (HCE5.out _ hHeld.bel).mono ?_; rintro en xw ⟨A5, d5, rfl, hs5, hb5⟩
      refine hK.out _ _ (fun _ => hHeld.on hb5) (fun hHeld => ?_)
      have hHeld := hHeld rfl
      clear hK K
      try simp only [Act.put, List.setIfInBounds_toArray, List.set_cons_zero, List.set_cons_succ]
      have HS5 := Lib.hid (hs5.mono hzz)
      replace HS2 := Lib.hid (HS2.out.on hb5)
      clear hs5 hb5 hzz
      refine Kt.G.one 7 { dst := none, op := Op.store 29 (Operand.tmp 36) (Operand.tmp 32), type := 0, pos := "desc.go:113", after := #[{ on := 6, ground := Ground.data }, { on := 2, ground := Ground.data }, { on := 5, ground := Ground.chain }, { on := 0, ground := Ground.phase }, { on := 1, ground := Ground.phase }, { on := 2, ground := Ground.phase }, { on := 3, ground := Ground.phase }, { on := 4, ground := Ground.phase }, { on := 5, ground := Ground.textOnly Departure.lateStoresUnsure }], guard := none } rfl (by kernel_rfl) (by rfl) (fun K hK => ?_)
      have hrw := hHeld.row (wr.heap.size, #[.int .i64 f.cl, .int .i64 f.su, .int .i64 f.pr, .int .i64 f.nm, .slice XA f.ex.length xc, .slice EA f.es.length ec], 32) (by simp)
      have cK := fun i => cell_of_row _ _ i _ _ _ hrw; have fK := fun i => frozen_of_row _ _ i _ _ hrw
      dsimp only at cK
      go_simp
      refine hK.out _ _ (Kt.G.late (by kernel_rfl)) (fun _ => ?_)
      clear hK K
      try simp only [Act.put, List.setIfInBounds_toArray, List.set_cons_zero, List.set_cons_succ]
      refine Kt.G.takeP 8 { dst := some 37, op := Op.fieldAddr 32 (Operand.tmp 5) 5, type := 0, pos := "desc.go:113", after := #[{ on := 0, ground := Ground.phase }, { on := 1, ground := Ground.phase }, { on := 2, ground := Ground.phase }, { on := 3, ground := Ground.phase }, { on := 4, ground := Ground.phase }, { on := 5, ground := Ground.phase }, { on := 6, ground := Ground.phase }, { on := 7, ground := Ground.phase }], guard := none } ?_ (Kt.G.late (by kernel_rfl)) rfl (by kernel_rfl) (fun _ _ _ h => h) (by rfl) ?_ ?_
      rotate_left
      · intro wq; go_simp; try with_reducible rfl
      try simp only [Act.put, List.setIfInBounds_toArray, List.set_cons_zero, List.set_cons_succ]
      refine Kt.G.one 9 { dst := none, op := Op.store 30 (Operand.tmp 37) (Operand.tmp 35), type := 0, pos := "desc.go:113", after := #[{ on := 8, ground := Ground.data }, { on := 5, ground := Ground.data }, { on := 7, ground := Ground.chain }, { on := 0, ground := Ground.phase }, { on := 1, ground := Ground.phase }, { on := 2, ground := Ground.phase }, { on := 3, ground := Ground.phase }, { on := 4, ground := Ground.phase }, { on := 5, ground := Ground.phase }, { on := 6, ground := Ground.phase }, { on := 7, ground := Ground.phase }], guard := none } rfl (by kernel_rfl) (by rfl) (fun K hK => ?_)
      go_simp
      refine hK.out _ _ (Kt.G.late (by kernel_rfl)) (fun _ => ?_)
      clear hK K
      try simp only [Act.put, List.setIfInBounds_toArray, List.set_cons_zero, List.set_cons_succ]
      refine Kt.G.done (by kernel_rfl) (NoPanic.normal ?_) _
      have HBX := Lib.hid hHeld.bel
      obtain ⟨l, V, i1, i2, i3, i4, i5⟩ := HI.out
      have hrw' : xw.heap[wr.heap.size]? = some (.cells #[.int .i64 f.cl, .int .i64 f.su, .int .i64 f.pr, .int .i64 f.nm, .slice XA f.ex.length xc, .slice EA f.es.length ec] 32 (0, 0)) := hrw
      have hkf : wr.heap.size < w5.heap.size := (Array.getElem?_eq_some_iff.1 HRF.out).1
      have hbw : Below wr.heap.size wr (xw.setCells wr.heap.size 4 [.slice A2 f.ex.length d2, .slice A5 f.es.length d5]) := Kt.below_setCells [.slice A2 f.ex.length d2, .slice A5 f.es.length d5] wr.heap.size 4 _ _ (Nat.le_refl _) (Kt.bthen HB5.out HBX.out)
      have hnew : (xw.setCells wr.heap.size 4 [.slice A2 f.ex.length d2, .slice A5 f.es.length d5]).heap[wr.heap.size]? = some (.cells #[.int .i64 f.cl, .int .i64 f.su, .int .i64 f.pr, .int .i64 f.nm, .slice A2 f.ex.length d2, .slice A5 f.es.length d5] 32 (0, 0)) := by
        have h1 : (xw.setCell ⟨wr.heap.size, 4, none⟩ (.slice A2 f.ex.length d2)).heap[wr.heap.size]? = some (.cells #[.int .i64 f.cl, .int .i64 f.su, .int .i64 f.pr, .int .i64 f.nm, .slice A2 f.ex.length d2, .slice EA f.es.length ec] 32 (0, 0)) := heap_setCell_same _ _ _ _ _ _ hrw'
        exact heap_setCell_same _ _ _ _ _ _ h1
      have hs2 := HS2.out.sets [.slice A2 f.ex.length d2, .slice A5 f.es.length d5] wr.heap.size 4 (fun k e => by have := (HS2.out.lt k e).1; omega)
      have hs5 := HS5.out.sets [.slice A2 f.ex.length d2, .slice A5 f.es.length d5] wr.heap.size 4 (fun k e => by have := (HS5.out.lt k e).1; omega)
      have HZ5 := Lib.hid hkf
      go_upto_region 6 with (fail)
      refine Kt.fold (fun W => Hid (W.heap[wr.heap.size]? = some (.cells #[.int .i64 f.cl, .int .i64 f.su, .int .i64 f.pr, .int .i64 f.nm, .slice A2 f.ex.length d2, .slice A5 f.es.length d5] 32 (0, 0)) ∧ W.heap[w.heap.size + 1]? = some (.cells #[.int .i64 c.va, .int .i64 c.nm, .int .i64 c.at_, .int .i64 c.pw, V] 24 (0, 0)) ∧ Fo W w.heap.size V l ∧ W.heap[w.heap.size]? = some (.cells #[.int .i64 c.va, .int .i64 c.nm, .int .i64 c.at_, .int .i64 c.pw, .slice (some ⟨fb, fo, none⟩) c.fs.length fc] 24 (0, 0)) ∧ Below wr.heap.size wr W ∧ Kt.Sl W w5.heap.size 9 1 (.slice A2 f.ex.length d2) f.ex.length (xcells f.ex) ∧ Kt.Sl W w5.heap.size 43 5 (.slice A5 f.es.length d5) f.es.length (ecells f.es)))
        (Lib.hid ⟨hnew, (hbw.block _ (Array.getElem?_eq_some_iff.1 i2).1).trans i2, i3.on hbw, (hbw.block _ (Array.getElem?_eq_some_iff.1 i4).1).trans i4, hbw, hs2, hs5⟩) (fun W6 H6 => ?_)
      have HI3 := Lib.hid i3
      have HI5 := Lib.hid i5
      have HI1 := Lib.hid i1
      have hlk : l.length = k := by
        have := congrArg List.length i1
        rw [List.length_map, List.length_take] at this
        omega
      have HLK := Lib.hid hlk
      clear hHeld hrw hrw' cK fK hkf hbw hnew hs2 hs5 i1 i2 i3 i4 i5 HBX HRF HS2 HS5 HCX5 HCE5 hlk
      obtain ⟨VA, vc, rfl, _, _⟩ := HI3.out.sl.form
      have qB := fun i => cell_of_row _ _ i _ _ _ H6.out.2.1
      have qF := fun i => cell_of_row _ _ i _ _ _ H6.out.1
      have hkf2 : wr.heap.size < W6.heap.size := (Array.getElem?_eq_some_iff.1 H6.out.1).1
      have hkb2 : w.heap.size + 1 < W6.heap.size := (Array.getElem?_eq_some_iff.1 H6.out.2.1).1
      have HSL6 := Lib.hid (H6.out.2.2.1.sl.alloc (.cells #[.int .i64 f.cl, .int .i64 f.su, .int .i64 f.pr, .int .i64 f.nm, .slice A2 f.ex.length d2, .slice A5 f.es.length d5] 32))
      have HRB6 := Lib.hid (Kt.row_on (Kt.balloc (Below.refl _ W6) (.cells #[.int .i64 f.cl, .int .i64 f.su, .int .i64 f.pr, .int .i64 f.nm, .slice A2 f.ex.length d2, .slice A5 f.es.length d5] 32)) H6.out.2.1)
      go_wp2_with (refine Kt.append_sl _ (by rfl) (.tmp 39) (.tmp 41) 22 rfl w.heap.size 32 (.agg #[.int .i64 0, .int .i64 0, .int .i64 0, .int .i64 0, .slice none 0 0, .slice none 0 0]) 6 80 infoFa Try.underlying22 rfl (by decide) _ _ _ rfl HSL6.out ⟨W6.heap.size, 0, none⟩ 1 1 [.int .i64 f.cl, .int .i64 f.su, .int .i64 f.pr, .int .i64 f.nm, .slice A2 f.ex.length d2, .slice A5 f.es.length d5] rfl rfl (Kt.new_cells W6 #[.int .i64 f.cl, .int .i64 f.su, .int .i64 f.pr, .int .i64 f.nm, .slice A2 f.ex.length d2, .slice A5 f.es.length d5] _) (by simp [Value.oneCell']) (by have h1 := HLK.out; have h2 := HOB.out.fs; unfold maxLen; omega) (by have h1 := HLK.out; have h2 := HOB.out.fs; omega) (by rw [World.size_alloc]; omega) ?_; intro A6 c6 w7 hs7 hb7 hz7 hk7 hl7; have r7 := kept_row hk7 HRB6.out (fun k e => (sl_own HSL6.out e).2) (by decide); have f7 := fun i => frozen_of_row _ _ i _ _ r7; have q7 := fun i => cell_of_row _ _ i _ _ _ r7)
      have hX6 : Kt.Sl (W6.alloc (.cells #[.int .i64 f.cl, .int .i64 f.su, .int .i64 f.pr, .int .i64 f.nm, .slice A2 f.ex.length d2, .slice A5 f.es.length d5] 32)) w.heap.size 9 1 (.slice A2 f.ex.length d2) f.ex.length (xcells f.ex) := (H6.out.2.2.2.2.2.1.alloc _).mono (Nat.le_trans HI5.out.size (Nat.le_of_lt HZ5.out))
      have hE6 : Kt.Sl (W6.alloc (.cells #[.int .i64 f.cl, .int .i64 f.su, .int .i64 f.pr, .int .i64 f.nm, .slice A2 f.ex.length d2, .slice A5 f.es.length d5] 32)) w.heap.size 43 5 (.slice A5 f.es.length d5) f.es.length (ecells f.es) := (H6.out.2.2.2.2.2.2.alloc _).mono (Nat.le_trans HI5.out.size (Nat.le_of_lt HZ5.out))
      have hFA := H6.out.2.2.1.on (Kt.balloc (Below.refl _ W6) (.cells #[.int .i64 f.cl, .int .i64 f.su, .int .i64 f.pr, .int .i64 f.nm, .slice A2 f.ex.length d2, .slice A5 f.es.length d5] 32))
      have hF7 := hFA.faceX ⟨f, A2, d2, A5, d5⟩ hX6 hE6 (fun y hy j e1 e2 => by
        have h1 := ((HI3.out.xs y hy).lt j e1).2
        have h2 := (H6.out.2.2.2.2.2.1.lt j e2).1
        exact Nat.lt_irrefl _ (Nat.lt_of_lt_of_le (Nat.lt_trans h1 HZ5.out) h2)) (fun y hy j e1 e2 => by
        have h1 := ((HI3.out.es y hy).lt j e1).2
        have h2 := (H6.out.2.2.2.2.2.2.lt j e2).1
        exact Nat.lt_irrefl _ (Nat.lt_of_lt_of_le (Nat.lt_trans h1 HZ5.out) h2)) hs7 hk7
      have hown : ownT w7 24 (w.heap.size + 1) := ⟨_, r7⟩
      have hF8 := hF7.sets (w.heap.size + 1) 4 [.slice A6 (l.length + 1) c6] hown (by decide) (by decide) (by decide)
      have hr8 : (w7.setCell ⟨w.heap.size + 1, 4, none⟩ (.slice A6 (l.length + 1) c6)).heap[w.heap.size + 1]? = some (.cells #[.int .i64 c.va, .int .i64 c.nm, .int .i64 c.at_, .int .i64 c.pw, .slice A6 (l.length + 1) c6] 24 (0, 0)) := heap_setCell_same _ _ _ _ _ _ r7
      have hc7 := kept_row hk7 (Kt.row_on (Kt.balloc (Below.refl _ W6) (.cells #[.int .i64 f.cl, .int .i64 f.su, .int .i64 f.pr, .int .i64 f.nm, .slice A2 f.ex.length d2, .slice A5 f.es.length d5] 32)) H6.out.2.2.2.1) (fun k e => (sl_own HSL6.out e).2) (by decide)
      have hc8 := (Kt.setCells_other [.slice A6 (l.length + 1) c6] (w.heap.size + 1) 4 w7 w.heap.size (Nat.ne_of_lt (Nat.lt_succ_self _))).trans hc7
      have hbA := Kt.balloc (Kt.bthen HI5.out H6.out.2.2.2.2.1) (.cells #[.int .i64 f.cl, .int .i64 f.su, .int .i64 f.pr, .int .i64 f.nm, .slice A2 f.ex.length d2, .slice A5 f.es.length d5] 32)
      have hb8 := (hbA.trans hb7).setCell (p := ⟨w.heap.size + 1, 4, none⟩) (Nat.le_succ _) (.slice A6 (l.length + 1) c6)
      have hmap : (l ++ [(⟨f, A2, d2, A5, d5⟩ : Fh)]).map Fh.f = c.fs.take (k + 1) := by rw [List.map_append, HI1.out, HTK.out]; rfl
      have hwk := next_own hlt HOB.out.fs
      refine ⟨⟨k + 1, hlt, congrArg _ hwk, Lib.hid ⟨_, _, hmap, hr8, hF8, hc8, hb8⟩⟩, ?_⟩
      rw [hwk]
      exact Nat.sub_lt_sub_left hlt (Nat.lt_succ_self k)
    · obtain rfl : k = c.fs.length := by omega
      obtain ⟨l, V, i1, i2, i3, i4, i5⟩ := HI.out
      rw [List.take_length] at i1
      have hcb := i3.crd c.va c.nm c.at_ c.pw
      rw [i1] at hcb
      have HCB : Hid (CRd wr (.agg #[.int .i64 c.va, .int .i64 c.nm, .int .i64 c.at_, .int .i64 c.pw, V]) c) := Lib.hid hcb
      obtain ⟨VA, vc, rfl, _, _⟩ := i3.sl.form
      have HI2 := Lib.hid i2
      have HI4 := Lib.hid i4
      have HI5 := Lib.hid i5
      have h45 : c.fs.length ≤ 35184372088832 := by have := HOB.out.fs; omega
      have hfb : ∀ f ∈ c.fs, f.ex.length ≤ 140737488355328 ∧ f.es.length ≤ 35184372088832 := fun f hf => by
        have h1 := HOB.out.ex f hf
        have h2 := HOB.out.es f hf
        omega
      have HSM := Lib.hid (fun (W : World) (v v' : Value) (h1 : CRd W v c) (h2 : CRd W v' c) => same_calls c v v' W h1 h2 h45 hfb)
      clear q1
      have q1 := fun i => cell_of_row _ _ i _ _ _ i4
      have q2 := fun i => cell_of_row _ _ i _ _ _ i2
      clear i1 i2 i3 i4 i5 hcb h45 hfb HI
      go_wp2_with fail
      refine (wcfg_calls c _ wr (HV.out.on HI5.out)).mono ?_
      rintro e w2 ⟨rfl, hb2⟩
      have HB2 := Lib.hid (Kt.bthen HI5.out hb2)
      have HC2 := Lib.hid (Kt.row_on hb2 HI4.out)
      have HD2 := Lib.hid (Kt.row_on hb2 HI2.out)
      have HY2 := Lib.hid (HCB.out.on hb2)
      clear hb2 q1 q2 HCB HI2 HI4
      have q1 := fun i => cell_of_row _ _ i _ _ _ HC2.out
      have q2 := fun i => cell_of_row _ _ i _ _ _ HD2.out
      rcases wcfg_cases c with ⟨hc, hw⟩ | ⟨hc, hw⟩
      · rw [hw]
        dsimp only
        have HOK := Lib.hid hc
        have HCK := Lib.hid (cfg_back hc)
        have HRC := Lib.hid (rcfg_calls (cfgT c))
        obtain ⟨S, hS⟩ : ∃ S, bs' (cfgT c) = S := ⟨_, rfl⟩
        rw [hS] at HRC ⊢
        clear hw hc hS
        go_wp2_with fail
        refine (HLV.out _).mono ?_
        rintro e w3 ⟨rfl, hb3⟩
        have HB3 := Lib.hid (Kt.bthen HB2.out hb3)
        have HC3 := Lib.hid (Kt.row_on hb3 HC2.out)
        have HD3 := Lib.hid (Kt.row_on hb3 HD2.out)
        have HY3 := Lib.hid (HY2.out.on hb3)
        clear hb3 q1 q2 HC2 HD2 HY2 HB2
        have q1 := fun i => cell_of_row _ _ i _ _ _ HC3.out
        have q2 := fun i => cell_of_row _ _ i _ _ _ HD3.out
        go_wp2_with fail
        refine (HSM.out w3 _ _ (HV.out.on HB3.out) HY3.out).mono ?_
        rintro e w4 ⟨rfl, hb4⟩
        have HB4 := Lib.hid (Kt.bthen HB3.out hb4)
        have HC4 := Lib.hid (Kt.row_on hb4 HC3.out)
        clear hb4 q1 q2 HC3 HD3 HY3 HB3
        have hn00 : ((0 : Int) != 0) = false := rfl
        go_wp2_with fail
        refine (HRC.out _).mono ?_
        rintro e w5 ⟨⟨V, fl, rfl, hfl, hfo⟩, hb5⟩
        rw [HCK.out] at hfl ⊢
        dsimp only at hfl ⊢
        have hn4 : c.fs.length ≤ 4 := (cfgC_ok HOK.out).2.1
        have hfl2 : fl.length = c.fs.length := by rw [← hfl, List.length_map]
        have hfw := hfo.fw
        rw [hfl2] at hfw
        have HFW := Lib.hid hfw
        obtain ⟨YA, yc, rfl, hYA⟩ := hfw.len
        have HYA := Lib.hid hYA
        have HB5 := Lib.hid (Kt.bthen HB4.out hb5)
        have HC5 := Lib.hid (Kt.row_on hb5 HC4.out)
        have HBX := Lib.hid (Kt.balloc (Below.refl _ w5) (.cells #[.int .i64 c.va, .int .i64 c.nm, .int .i64 c.at_, .int .i64 c.pw, .slice YA c.fs.length yc] 24))
        have HRX := Lib.hid (heap_alloc_new w5 (.cells #[.int .i64 c.va, .int .i64 c.nm, .int .i64 c.at_, .int .i64 c.pw, .slice YA c.fs.length yc] 24))
        have HB45 := Lib.hid (And.intro hb5.size HB4.out.size)
        have HN4 := Lib.hid hn4
        clear hfw hfl hfo hb5 hYA hfl2 HB4 HC4 hn4
        go_wp2_with fail
        go_loopw [76] (fun vi wr => ∃ i : Nat, i ≤ c.fs.length ∧ vi = .int .i64 i ∧ Hid (wr.heap[w5.heap.size]? = some (.cells #[.int .i64 c.va, .int .i64 c.nm, .int .i64 c.at_, .int .i64 c.pw, .slice YA c.fs.length yc] 24 (0, 0)) ∧ Fw wr w4.heap.size (.slice YA c.fs.length yc) c.fs.length i ∧ wr.heap[w.heap.size]? = some (.cells #[.int .i64 c.va, .int .i64 c.nm, .int .i64 c.at_, .int .i64 c.pw, .slice FA c.fs.length fc] 24 (0, 0)) ∧ Below w.heap.size w wr)) (fun vi _ => c.fs.length - (intOf vi).toNat)
        case atStart => exact ⟨0, Nat.zero_le _, rfl, Lib.hid ⟨HRX.out, HFW.out.on HBX.out, Kt.row_on HBX.out HC5.out, HB5.out.trans (HBX.out.mono HB5.out.size)⟩⟩
        case round =>
          obtain ⟨i, hi, rfl, HI⟩ := hrel
          by_cases hlt : i < c.fs.length
          · obtain ⟨g, o, rfl⟩ := HYA.out (Nat.lt_of_le_of_lt (Nat.zero_le _) hlt)
            obtain ⟨j1, j2, j3, j4⟩ := HI.out
            obtain ⟨X, nx, E, ne, jx⟩ := j2.fx hlt
            obtain ⟨EA, ec, rfl⟩ := jx.se.form
            obtain ⟨XA, xc, rfl⟩ := jx.sx.form
            obtain ⟨hgB, hgo, cX, cE⟩ := jx.cells
            have q1 := fun i => cell_of_row _ _ i _ _ _ j1
            have HK := Lib.hid (show _ ∧ _ ∧ _ ∧ _ from ⟨j1, jx, j3, j4⟩)
            clear hgB hgo jx j1 j2 j3 j4
            go_wp2_with fail
            go_loopw [86] (fun vk wr2 => ∃ k : Nat, k ≤ ne ∧ vk = .int .i64 k ∧ Hid (wr2.heap[w5.heap.size]? = some (.cells #[.int .i64 c.va, .int .i64 c.nm, .int .i64 c.at_, .int .i64 c.pw, .slice (some ⟨g, o, none⟩) c.fs.length yc] 24 (0, 0)) ∧ Fx wr2 w4.heap.size (.slice (some ⟨g, o, none⟩) c.fs.length yc) c.fs.length i (.slice XA nx xc) nx (.slice EA ne ec) ne ∧ wr2.heap[w.heap.size]? = some (.cells #[.int .i64 c.va, .int .i64 c.nm, .int .i64 c.at_, .int .i64 c.pw, .slice FA c.fs.length fc] 24 (0, 0)) ∧ Below w.heap.size w wr2)) (fun vk _ => ne - (intOf vk).toNat)
            case atStart => exact ⟨0, Nat.zero_le _, rfl, HK⟩
            case round =>
              obtain ⟨k, hk, rfl, HK⟩ := hrel
              obtain ⟨j1, jx, j3, j4⟩ := HK.out
              obtain ⟨hgB, hgo, cX, cE⟩ := jx.cells
              have q1 := fun i => cell_of_row _ _ i _ _ _ j1
              by_cases hk2 : k < ne
              · obtain ⟨ge, oe, rfl, hgeB, hgeo, hgf, hcell⟩ := jx.se.at hk2
                obtain ⟨y0, c0⟩ := hcell 0 (by decide)
                obtain ⟨y1, c1⟩ := hcell 1 (by decide)
                obtain ⟨y2, c2⟩ := hcell 2 (by decide)
                obtain ⟨y3, c3⟩ := hcell 3 (by decide)
                obtain ⟨y4, c4⟩ := hcell 4 (by decide)
                rw [Nat.add_zero] at c0
                have hwk := next_le hk2 jx.se.le
                have HWK := Lib.hid hwk
                have hne1 : w5.heap.size ≠ ge := ownT_ne ⟨_, j1⟩ hgeo (by decide)
                have hne2 : w.heap.size ≠ ge := ownT_ne ⟨_, j3⟩ hgeo (by decide)
                have HNX := Lib.hid (show _ ∧ _ ∧ _ ∧ _ from ⟨(Kt.setCells_other [.int .i64 0, .bool false, .int .i64 0, .int .i64 0, .int .i64 0] ge (oe + k * 5) wr w5.heap.size hne1).trans j1, jx.sets ge (oe + k * 5) [.int .i64 0, .bool false, .int .i64 0, .int .i64 0, .int .i64 0] hgeo (by decide), (Kt.setCells_other [.int .i64 0, .bool false, .int .i64 0, .int .i64 0, .int .i64 0] ge (oe + k * 5) wr w.heap.size hne2).trans j3, Kt.below_setCells [.int .i64 0, .bool false, .int .i64 0, .int .i64 0, .int .i64 0] ge (oe + k * 5) _ _ (Nat.le_trans HB45.out.2 hgeB) j4⟩)
                clear hcell hgeB hgeo hgB hgo jx j1 j3 j4 hne1 hne2 hwk HK
                go_wp2_with fail
                go_roundw
                case rel => exact ⟨k + 1, hk2, congrArg _ (by first | exact HWK.out | rfl), HNX⟩
                case measure => (try rw [HWK.out]); exact Nat.sub_lt_sub_left hk2 (Nat.lt_succ_self k)
              · obtain rfl : ne = k := Nat.le_antisymm (Nat.not_lt.1 hk2) hk
                clear hgB hgo jx j1 j3 j4 hk hk2
                go_wp2_with fail
                go_loopw [106] (fun vk wr2 => ∃ k : Nat, k ≤ nx ∧ vk = .int .i64 k ∧ Hid (wr2.heap[w5.heap.size]? = some (.cells #[.int .i64 c.va, .int .i64 c.nm, .int .i64 c.at_, .int .i64 c.pw, .slice (some ⟨g, o, none⟩) c.fs.length yc] 24 (0, 0)) ∧ Fx wr2 w4.heap.size (.slice (some ⟨g, o, none⟩) c.fs.length yc) c.fs.length i (.slice XA nx xc) nx (.slice EA ne ec) ne ∧ wr2.heap[w.heap.size]? = some (.cells #[.int .i64 c.va, .int .i64 c.nm, .int .i64 c.at_, .int .i64 c.pw, .slice FA c.fs.length fc] 24 (0, 0)) ∧ Below w.heap.size w wr2)) (fun vk _ => nx - (intOf vk).toNat)
                case atStart => exact ⟨0, Nat.zero_le _, rfl, HK⟩
                case round =>
                  obtain ⟨k, hk, rfl, HK⟩ := hrel
                  obtain ⟨j1, jx, j3, j4⟩ := HK.out
                  obtain ⟨hgB, hgo, cX, cE⟩ := jx.cells
                  have q1 := fun i => cell_of_row _ _ i _ _ _ j1
                  by_cases hk2 : k < nx
                  · obtain ⟨ge, oe, rfl, hgeB, hgeo, hgf, hcell⟩ := jx.sx.at hk2
                    obtain ⟨y0, c0⟩ := hcell 0 (by decide)
                    rw [Nat.add_zero, Nat.mul_one] at c0
                    have hwk := next_le hk2 jx.sx.le
                    have HWK := Lib.hid hwk
                    have hne1 : w5.heap.size ≠ ge := ownT_ne ⟨_, j1⟩ hgeo (by decide)
                    have hne2 : w.heap.size ≠ ge := ownT_ne ⟨_, j3⟩ hgeo (by decide)
                    have HNX := Lib.hid (show _ ∧ _ ∧ _ ∧ _ from ⟨(Kt.setCells_other [.string ⟨#[]⟩] ge (oe + k) wr w5.heap.size hne1).trans j1, jx.sets ge (oe + k) [.string ⟨#[]⟩] hgeo (by decide), (Kt.setCells_other [.string ⟨#[]⟩] ge (oe + k) wr w.heap.size hne2).trans j3, Kt.below_setCells [.string ⟨#[]⟩] ge (oe + k) _ _ (Nat.le_trans HB45.out.2 hgeB) j4⟩)
                    clear hcell hgeB hgeo hgB hgo jx j1 j3 j4 hne1 hne2 hwk HK
                    go_wp2_with fail
                    go_roundw
                    case rel => exact ⟨k + 1, hk2, congrArg _ (by first | exact HWK.out | rfl), HNX⟩
                    case measure => (try rw [HWK.out]); exact Nat.sub_lt_sub_left hk2 (Nat.lt_succ_self k)
                  · obtain rfl : nx = k := Nat.le_antisymm (Nat.not_lt.1 hk2) hk
                    clear hgB hgo jx j1 j3 j4 hk hk2
                    have jxx := HK.out.2.1
                    obtain ⟨hgB, hgo, cX, cE⟩ := jxx.cells
                    have q1 := fun i => cell_of_row _ _ i _ _ _ HK.out.1
                    obtain ⟨v0, a0⟩ := jxx.all hlt 0 (by decide)
                    obtain ⟨v1, a1⟩ := jxx.all hlt 1 (by decide)
                    obtain ⟨v2, a2⟩ := jxx.all hlt 2 (by decide)
                    obtain ⟨v3, a3⟩ := jxx.all hlt 3 (by decide)
                    obtain ⟨v4, a4⟩ := jxx.all hlt 4 (by decide)
                    obtain ⟨v5, a5⟩ := jxx.all hlt 5 (by decide)
                    rw [Nat.add_zero] at a0
                    have hgf := frz_of hgo
                    have hne1 : w5.heap.size ≠ g := ownT_ne ⟨_, HK.out.1⟩ hgo (by decide)
                    have hne2 : w.heap.size ≠ g := ownT_ne ⟨_, HK.out.2.2.1⟩ hgo (by decide)
                    have HNX := Lib.hid (show _ ∧ _ ∧ _ ∧ _ from ⟨(Kt.setCells_other [.int .i64 7, .int .i64 0, .int .i64 0, .int .i64 0, .slice none 0 0, .slice none 0 0] g (o + i * 6) wr w5.heap.size hne1).trans HK.out.1, jxx.face hlt [.int .i64 7, .int .i64 0, .int .i64 0, .int .i64 0, .slice none 0 0, .slice none 0 0] rfl, (Kt.setCells_other [.int .i64 7, .int .i64 0, .int .i64 0, .int .i64 0, .slice none 0 0, .slice none 0 0] g (o + i * 6) wr w.heap.size hne2).trans HK.out.2.2.1, Kt.below_setCells [.int .i64 7, .int .i64 0, .int .i64 0, .int .i64 0, .slice none 0 0, .slice none 0 0] g (o + i * 6) _ _ (Nat.le_trans HB45.out.2 hgB) HK.out.2.2.2⟩)
                    have hwk := next_k hlt HN4.out
                    have HWK := Lib.hid hwk
                    clear hgB hgo jxx hne1 hne2 hwk HK cX cE
                    go_wp2_with fail
                    go_roundw
                    case rel => exact ⟨i + 1, hlt, congrArg _ (by first | exact HWK.out | rfl), HNX⟩
                    case measure => (try rw [HWK.out]); exact Nat.sub_lt_sub_left hlt (Nat.lt_succ_self i)
          · obtain rfl : i = c.fs.length := Nat.le_antisymm hi (Nat.not_lt.1 hlt)
            have HB6 := Lib.hid HI.out.2.2.2
            have HC6 := Lib.hid HI.out.2.2.1
            clear HI hlt hi
            go_wp2_with fail
            refine (HRC.out _).mono ?_
            rintro e w6 ⟨⟨V, fl, rfl, hfl, hfo⟩, hb6⟩
            rw [HCK.out] at hfl ⊢
            dsimp only at hfl ⊢
            have hcrd := hfo.crd c.va c.nm c.at_ c.pw
            rw [hfl] at hcrd
            obtain ⟨ZA, zc, rfl, _, _⟩ := hfo.sl.form
            have HZ : Hid (CRd w6 (.agg #[.int .i64 c.va, .int .i64 c.nm, .int .i64 c.at_, .int .i64 c.pw, .slice ZA fl.length zc]) c) := Lib.hid hcrd
            have HB7 := Lib.hid (Kt.bthen HB6.out hb6)
            have HC7 := Lib.hid (Kt.row_on hb6 HC6.out)
            have HA := Lib.hid (Kt.balloc (Below.refl _ w6) (.cells #[.int .i64 c.va, .int .i64 c.nm, .int .i64 c.at_, .int .i64 c.pw, .slice ZA fl.length zc] 24))
            have hr1 := heap_alloc_new w6 (.cells #[.int .i64 c.va, .int .i64 c.nm, .int .i64 c.at_, .int .i64 c.pw, .slice ZA fl.length zc] 24)
            have hr2 := Kt.row_on HA.out HC7.out
            have q1 := fun i => cell_of_row _ _ i _ _ _ hr1
            have q2 := fun i => cell_of_row _ _ i _ _ _ hr2
            have HB8 := Lib.hid (HB7.out.trans (HA.out.mono HB7.out.size))
            have hn01 : ((0 : Int) == 0) = true := rfl
            clear hcrd hfl hfo hb6 hr1 hr2
            go_wp2_with fail
            refine (HSM.out _ _ _ (HZ.out.on HA.out) (HV.out.on HB8.out)).mono ?_
            rintro e w7 ⟨rfl, hb7⟩
            have HB9 := Lib.hid (Kt.bthen HB8.out hb7)
            clear hb7 q1 q2
            go_wp2_with fail
            go_ret
            exact ⟨rfl, HB9.out⟩
      · rw [hw]
        dsimp only
        have hne : (cfgC c != 0) = true := by rw [bne_iff_ne]; exact hc
        clear hw hc
        go_wp2_with fail
        refine (HLV.out _).mono ?_
        rintro e w3 ⟨rfl, hb3⟩
        have HB3 := Lib.hid (Kt.bthen HB2.out hb3)
        have HC3 := Lib.hid (Kt.row_on hb3 HC2.out)
        have HD3 := Lib.hid (Kt.row_on hb3 HD2.out)
        have HY3 := Lib.hid (HY2.out.on hb3)
        clear hb3 q1 q2 HC2 HD2 HY2 HB2
        have q1 := fun i => cell_of_row _ _ i _ _ _ HC3.out
        have q2 := fun i => cell_of_row _ _ i _ _ _ HD3.out
        go_wp2_with fail
        refine (HSM.out w3 _ _ (HV.out.on HB3.out) HY3.out).mono ?_
        rintro e w4 ⟨rfl, hb4⟩
        have HB4 := Lib.hid (Kt.bthen HB3.out hb4)
        have HC4 := Lib.hid (Kt.row_on hb4 HC3.out)
        have HD4 := Lib.hid (Kt.row_on hb4 HD3.out)
        have HY4 := Lib.hid (HY3.out.on hb4)
        clear hb4 q1 q2 HC3 HD3 HY3 HB3
        go_wp2_with fail
        refine (HLV.out _).mono ?_
        rintro e w5 ⟨rfl, hb5⟩
        have HB5 := Lib.hid (Kt.bthen HB4.out hb5)
        have HC5 := Lib.hid (Kt.row_on hb5 HC4.out)
        have HD5 := Lib.hid (Kt.row_on hb5 HD4.out)
        have HY5 := Lib.hid (HY4.out.on hb5)
        clear hb5 HC4 HD4 HY4 HB4
        have q1 := fun i => cell_of_row _ _ i _ _ _ HC5.out
        have q2 := fun i => cell_of_row _ _ i _ _ _ HD5.out
        go_wp2_with fail
        refine (HSM.out w5 _ _ (HV.out.on HB5.out) HY5.out).mono ?_
        rintro e w6 ⟨rfl, hb6⟩
        have HB6 := Lib.hid (Kt.bthen HB5.out hb6)
        clear hb6 q1 q2
        go_wp2_with fail
        go_ret
        exact ⟨rfl, HB6.out⟩
end Go.Proofs.Ytmddfpmchcmgiaa
