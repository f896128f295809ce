/- descLives: true; DescLong. -/
import Derived.Test.YtmddfpmchcmgiaaDscH
import Derived.Test.YtmddfpmchcmgiaaDscS
namespace Go.Proofs.Ytmddfpmchcmgiaa
open Go.RowKit Go.Proofs.Ytmddfpmchcmgiaa.Dsc Go.Maps
def cfg0 : Cf := ⟨1, 0, 0, 50, []⟩
theorem cfg0_w : wCfg cfg0 = ([9, 2, 9, 0, 0, 1, 0, 0, 50], 0) := by decide
theorem cfg0_rd (W : World) : CRd W (.agg #[.int .i64 1, .int .i64 0, .int .i64 0, .int .i64 50, .slice none 0 0]) cfg0 :=
  ⟨.slice none 0 0, [], rfl, ⟨rfl, none, 0, rfl, Nat.le_refl _, fun h => absurd h (Nat.lt_irrefl _)⟩, rfl, fun _i h => absurd h (Nat.not_lt_zero _)⟩
set_option maxRecDepth 100000 in
theorem lives_calls (w : World) : Calls Try.prog 14 #[] w fun e w' => e = .returned (.bool true) ∧ Below w.heap.size w w' := by
  have HW := Lib.hid (fun W => wcfg_calls cfg0 _ W (cfg0_rd W))
  rw [cfg0_w] at HW
  have hl : bs' [9, 2, 9, 0, 0, 1, 0, 0, 50] = ⟨#[9, 2, 9, 0, 0, 1, 0, 0, 50]⟩ := rfl
  dsimp only at HW
  rw [hl] at HW
  clear hl
  go_enter Try.func14, Try.ntmps14
  go_wp2_with fail
  refine (HW.out _).mono ?_
  rintro e w1 ⟨rfl, HB⟩
  go_wp2_with fail
  go_ret
  exact ⟨rfl, HB⟩
theorem sum_n : ∀ (l : List Fa), (∀ f ∈ l, OkF f) → (l.map fun f => 1 + f.ex.length + f.es.length).sum ≤ 7 * l.length
  | [], _ => Nat.zero_le _
  | f :: l, h => by
    have h1 := sum_n l fun g hg => h g (List.mem_cons_of_mem _ hg)
    have h2 := (h f (List.mem_cons_self ..)).nx
    have h3 := (h f (List.mem_cons_self ..)).ne
    rw [List.map_cons, List.sum_cons, List.length_cons]
    omega
theorem sum_b : ∀ (l : List Fa), (∀ f ∈ l, OkF f) → (l.map fun f => 9 + 7 * f.es.length + f.ex.flatten.length).sum ≤ 101 * l.length
  | [], _ => Nat.zero_le _
  | f :: l, h => by
    have h1 := sum_b l fun g hg => h g (List.mem_cons_of_mem _ hg)
    have h2 := (h f (List.mem_cons_self ..)).nx
    have h3 := (h f (List.mem_cons_self ..)).ne
    have h4 := ex_len f.ex (h f (List.mem_cons_self ..)).xs
    rw [List.map_cons, List.sum_cons, List.length_cons]
    omega
theorem round_n {l : List Fa} {f : Fa} {k : Nat} (hl : l.length ≤ 4) (ha : ∀ f ∈ l, OkF f) (hf : OkF f) (ht : l.take (k + 1) = l.take k ++ [f]) :
    IntKind.i64.wrap (IntKind.i64.wrap (IntKind.i64.wrap (1 + ((List.take k (List.map (fun f => 1 + f.ex.length + f.es.length) l)).sum : Nat) + 1) + (f.ex.length : Nat)) + (f.es.length : Nat)) = ((1 + ((l.take (k + 1)).map fun f => 1 + f.ex.length + f.es.length).sum : Nat) : Int) := by
  have h0 := sum_n (l.take k) fun g hg => ha g (List.mem_of_mem_take hg)
  have h1 := hf.nx
  have h2 := hf.ne
  have h3 : (l.take k).length ≤ l.length := by rw [List.length_take]; exact Nat.min_le_right _ _
  rw [ht, List.map_append, List.sum_append, ← List.map_take]
  generalize (List.map (fun f : Fa => 1 + f.ex.length + f.es.length) (l.take k)).sum = S at *
  simp only [List.map_cons, List.map_nil, List.sum_cons, List.sum_nil]
  simp only [IntKind.wrap_i64]
  omega
theorem round_b {l : List Fa} {f : Fa} {k : Nat} (hl : l.length ≤ 4) (ha : ∀ f ∈ l, OkF f) (hf : OkF f) (ht : l.take (k + 1) = l.take k ++ [f]) :
    IntKind.i64.wrap (IntKind.i64.wrap (IntKind.i64.wrap (9 + ((List.take k (List.map (fun f => 9 + 7 * f.es.length + (List.map List.length f.ex).sum) l)).sum : Nat) + 9) + IntKind.i64.wrap (7 * (f.es.length : Nat))) + ((bs' f.ex.flatten).size : Nat)) = ((9 + ((l.take (k + 1)).map fun f => 9 + 7 * f.es.length + f.ex.flatten.length).sum : Nat) : Int) := by
  have h0 := sum_b (l.take k) fun g hg => ha g (List.mem_of_mem_take hg)
  have h1 := hf.nx
  have h2 := hf.ne
  have h4 := ex_len f.ex hf.xs
  have h3 : (l.take k).length ≤ l.length := by rw [List.length_take]; exact Nat.min_le_right _ _
  have e : (fun f : Fa => 9 + 7 * f.es.length + (List.map List.length f.ex).sum) = fun f => 9 + 7 * f.es.length + f.ex.flatten.length := by
    funext f; rw [List.length_flatten]
  rw [e, ht, List.map_append, List.sum_append, ← List.map_take, bs_size]
  generalize (List.map (fun f : Fa => 9 + 7 * f.es.length + f.ex.flatten.length) (l.take k)).sum = S at *
  simp only [List.map_cons, List.map_nil, List.sum_cons, List.sum_nil]
  generalize f.ex.flatten.length = X at *
  simp only [IntKind.wrap_i64]
  omega
theorem next_k {k n : Nat} (h : k < n) (hn : n ≤ 4) : wrap64 ((k : Int) + 1) = ((k + 1 : Nat) : Int) := by
  unfold wrap64; omega
set_option maxRecDepth 100000 in
theorem long_calls (c : Cf) (v : Value) (w : World) (h : CRd w v c) : Calls Try.prog 3 #[v] w fun e w' => e = .returned (.bool true) ∧ Below w.heap.size w w' := by
  have HV := Lib.hid h
  obtain ⟨F, css, rfl, hF, hcl, hcr⟩ := h
  have HF := Lib.hid hF
  have HCL := Lib.hid hcl
  have HCR := Lib.hid hcr
  obtain ⟨FA, fc, rfl, _, _⟩ := hF.form
  have HWC := Lib.hid (fun W (hW : Below w.heap.size w W) => wcfg_calls c _ W (HV.out.on hW))
  obtain ⟨t, code, hw⟩ : ∃ t code, wCfg c = (t, code) := ⟨_, _, rfl⟩
  rw [hw] at HWC
  dsimp only at HWC
  have HT := Lib.hid hw
  have HLV := Lib.hid lives_calls
  clear hF hcl hcr hw
  go_enter Try.func3, Try.ntmps3
  go_wp2_with fail
  refine (HWC.out _ (Kt.balloc (Below.refl _ _) _)).mono ?_
  rintro e w1 ⟨rfl, hb1⟩
  have HB1 := Lib.hid (Kt.bthen (Kt.balloc (Below.refl _ _) _) hb1)
  clear HWC
  go_wp2_with fail
  refine (HLV.out _).mono ?_
  rintro e w2 ⟨rfl, hb2⟩
  have HB2 := Lib.hid (Kt.bthen HB1.out hb2)
  have k4 : w2.cell? ⟨w.heap.size, 4, none⟩ = some (.slice FA c.fs.length fc) := (hb2.cell (p := ⟨w.heap.size, 4, none⟩) (Nat.lt_of_lt_of_le (Nat.lt_succ_self _) (by have := hb1.size; rw [World.size_alloc] at this; exact this))).trans ((hb1.cell (p := ⟨w.heap.size, 4, none⟩) (by rw [World.size_alloc]; exact Nat.lt_succ_self _)).trans (by rw [cell_of_row _ _ _ _ _ _ (heap_alloc_new w _)]; rfl))
  clear hb1 hb2
  by_cases hc : code = 0
  · have hne : (code != 0) = false := by rw [hc]; rfl
    subst hc
    have h0 : cfgC c = 0 ∧ cfgT c = t := by
      have := HT.out
      unfold wCfg at this
      by_cases q : cfgC c = 0
      · rw [if_pos q] at this; exact ⟨q, congrArg Prod.fst this⟩
      · rw [if_neg q] at this; exact absurd (congrArg Prod.snd this) q
    have H0 := Lib.hid h0
    clear h0 HT
    go_wp2_with fail
    go_loopw [5, 6, 25] (fun vn vb vk wr => ∃ k : Nat, k ≤ c.fs.length ∧ vk = .int .i64 k ∧ vn = .int .i64 (1 + ((c.fs.take k).map fun f => 1 + f.ex.length + f.es.length).sum : Nat) ∧ vb = .int .i64 (9 + ((c.fs.take k).map fun f => 9 + 7 * f.es.length + f.ex.flatten.length).sum : Nat) ∧ Hid (Below w.heap.size w wr)) (fun _ _ vk _ => c.fs.length - (intOf vk).toNat)
    case atStart => exact ⟨0, Nat.zero_le _, rfl, rfl, rfl, HB2⟩
    case round =>
      obtain ⟨k, hk, rfl, rfl, rfl, HBW⟩ := hrel
      by_cases hlt : k < c.fs.length
      · obtain ⟨f, hf⟩ : ∃ f, c.fs[k] = f := ⟨_, rfl⟩
        obtain ⟨X, E, hcs, hX, hE⟩ := HCR.out k hlt (by rw [HCL.out]; exact hlt)
        rw [hf] at hcs hX hE
        have HOK := Lib.hid (show OkF f by rw [← hf]; exact (cfgC_ok H0.out.1).2.2 _ (List.getElem_mem _))
        have HTK := Lib.hid (show c.fs.take (k + 1) = c.fs.take k ++ [f] by rw [← hf]; exact List.take_succ_eq_append_getElem hlt)
        have HLE := Lib.hid (cfgC_ok H0.out.1).2.1
        obtain ⟨_, _, hfe, _, hfx⟩ := HF.out.form
        injection hfe with hfe1 _ hfe2
        subst hfe1 hfe2
        obtain ⟨fb, fo, rfl, hfb, hfc⟩ := hfx (Nat.lt_of_le_of_lt (Nat.zero_le _) hlt)
        have hcell : ∀ j u, [Value.int .i64 f.cl, .int .i64 f.su, .int .i64 f.pr, .int .i64 f.nm, X, E][j]? = some u → wr.cell? ⟨fb, fo + k * 6 + j, none⟩ = some u := fun j u hj => by
          have hl6 : ∀ x ∈ css, x.length = 6 := fun x hx => by
            obtain ⟨i, hi, rfl⟩ := List.getElem_of_mem hx
            obtain ⟨_, _, he, _, _⟩ := HCR.out i (by rw [← HCL.out]; exact hi) hi
            rw [he]; rfl
          have hj6 : j < 6 := (List.getElem?_eq_some_iff.1 hj).1
          have h1 := flat_get css hl6 k (by rw [HCL.out]; exact hlt) j hj6
          rw [hcs, hj] at h1
          obtain ⟨h2, h3⟩ := List.getElem?_eq_some_iff.1 h1
          rw [Nat.add_assoc]
          exact (HBW.out.cell (p := ⟨fb, fo + (k * 6 + j), none⟩) hfb).trans ((hfc _ h2).trans (by rw [h3]))
        have k0 : wr.cell? ⟨fb, fo + k * 6, none⟩ = some (.int .i64 f.cl) := hcell 0 _ rfl
        have k1 : wr.cell? ⟨fb, fo + k * 6 + 1, none⟩ = some (.int .i64 f.su) := hcell 1 _ rfl
        have k2 : wr.cell? ⟨fb, fo + k * 6 + 2, none⟩ = some (.int .i64 f.pr) := hcell 2 _ rfl
        have k3 : wr.cell? ⟨fb, fo + k * 6 + 3, none⟩ = some (.int .i64 f.nm) := hcell 3 _ rfl
        have k4 : wr.cell? ⟨fb, fo + k * 6 + 4, none⟩ = some X := hcell 4 _ rfl
        have k5 : wr.cell? ⟨fb, fo + k * 6 + 5, none⟩ = some E := hcell 5 _ rfl
        have HX := Lib.hid hX
        have HE := Lib.hid hE
        obtain ⟨XA, xc, rfl, _, _⟩ := hX.form
        obtain ⟨EA, ec, rfl, _, _⟩ := hE.form
        have HBX0 := Lib.hid (Kt.balloc HBW.out (.cells #[.int .i64 f.cl, .int .i64 f.su, .int .i64 f.pr, .int .i64 f.nm, .slice XA f.ex.length xc, .slice EA f.es.length ec] 32))
        have HFRW0 := Lib.hid (heap_alloc_new wr (.cells #[.int .i64 f.cl, .int .i64 f.su, .int .i64 f.pr, .int .i64 f.nm, .slice XA f.ex.length xc, .slice EA f.es.length ec] 32))
        clear hcell hcs hX hE hf hfb hfc hfx
        go_upto_region 8 with fail
        obtain ⟨w3, hw3⟩ : ∃ W, wr.alloc (.cells #[.int .i64 f.cl, .int .i64 f.su, .int .i64 f.pr, .int .i64 f.nm, .slice XA f.ex.length xc, .slice EA f.es.length ec] 32) = W := ⟨_, rfl⟩
        have HBX : Hid (Below w.heap.size w w3) := Lib.hid (by rw [← hw3]; exact HBX0.out)
        have HFRW : Hid (w3.heap[wr.heap.size]? = some (.cells #[.int .i64 f.cl, .int .i64 f.su, .int .i64 f.pr, .int .i64 f.nm, .slice XA f.ex.length xc, .slice EA f.es.length ec] 32 (0, 0))) := Lib.hid (by rw [← hw3]; exact HFRW0.out)
        have HJ := Lib.hid (fun W (hW : Below w3.heap.size w3 W) => xjoin (.slice XA f.ex.length xc) f.ex W (HX.out.on (Kt.bthen HBX.out hW)) (Nat.le_trans HOK.out.nx (by decide)) (Nat.le_trans (ex_len _ HOK.out.xs) (Nat.le_trans (Nat.mul_le_mul_left _ HOK.out.nx) (by decide))))
        rw [hw3]
        clear hw3 HBX0 HFRW0
        refine Kt.G.start 23 (Kt.Fb w3 [(wr.heap.size, #[.int .i64 f.cl, .int .i64 f.su, .int .i64 f.pr, .int .i64 f.nm, .slice XA f.ex.length xc, .slice EA f.es.length ec], 32)]) (by kernel_rfl) ((Kt.Fb.nil w3 (Below.refl _ w3)).add HFRW.out).drew (fun hHeld => ?_)
        refine Kt.G.takeP 0 { dst := some 29, op := Op.move (Operand.tmp 5), type := 3, pos := "desc.go:83", after := #[], guard := none } ?_ (fun _ => hHeld) rfl (by kernel_rfl) (fun _ _ _ h => h) (by rfl) ?_ ?_
        rotate_left
        · intro wq; go_simp; try with_reducible rfl
        try simp only [Act.put, List.setIfInBounds_toArray, List.set_cons_zero, List.set_cons_succ]
        refine Kt.G.takeP 1 { dst := some 30, op := Op.binOp BinOp.add 3 (Operand.tmp 29) (Operand.const (Value.int IntKind.i64 1)) 3, type := 3, pos := "desc.go:83", after := #[{ on := 0, ground := Ground.data }], guard := none } ?_ (fun _ => hHeld) rfl (by kernel_rfl) (fun _ _ _ h => h) (by rfl) ?_ ?_
        rotate_left
        · intro wq; go_simp; try with_reducible rfl
        try simp only [Act.put, List.setIfInBounds_toArray, List.set_cons_zero, List.set_cons_succ]
        refine Kt.G.takeP 2 { dst := some 31, op := Op.fieldAddr 32 (Operand.tmp 8) 4, type := 0, pos := "desc.go:83", after := #[], guard := none } ?_ (fun _ => hHeld) rfl (by kernel_rfl) (fun _ _ _ h => h) (by rfl) ?_ ?_
        rotate_left
        · intro wq; go_simp; try with_reducible rfl
        try simp only [Act.put, List.setIfInBounds_toArray, List.set_cons_zero, List.set_cons_succ]
        refine Kt.G.take 3 { dst := some 32, op := Op.load 29 (Operand.tmp 31), type := 29, pos := "desc.go:83", after := #[{ on := 2, ground := Ground.data }], guard := none } ?_ hHeld rfl (by kernel_rfl) (fun _ _ _ h => h) (by rfl) ?_ ?_
        rotate_left
        · intro wq hSw; have r0 := hSw.row (wr.heap.size, #[.int .i64 f.cl, .int .i64 f.su, .int .i64 f.pr, .int .i64 f.nm, .slice XA f.ex.length xc, .slice EA f.es.length ec], 32) (by simp); have c0 := fun i => cell_of_row _ _ i _ _ _ r0; dsimp only at *; go_simp; try with_reducible rfl
        try simp only [Act.put, List.setIfInBounds_toArray, List.set_cons_zero, List.set_cons_succ]
        refine Kt.G.takeP 4 { dst := some 33, op := Op.call { callee := Callee.builtin Builtin.len, args := #[Operand.tmp 32], argTypes := #[29] }, type := 3, pos := "desc.go:83", after := #[{ on := 3, ground := Ground.data }], guard := none } ?_ (fun _ => hHeld) rfl (by kernel_rfl) (fun _ _ _ h => h) (by rfl) ?_ ?_
        rotate_left
        · intro wq; go_simp; try with_reducible rfl
        try simp only [Act.put, List.setIfInBounds_toArray, List.set_cons_zero, List.set_cons_succ]
        refine Kt.G.takeP 5 { dst := some 34, op := Op.binOp BinOp.add 3 (Operand.tmp 30) (Operand.tmp 33) 3, type := 3, pos := "desc.go:83", after := #[{ on := 1, ground := Ground.data }, { on := 4, ground := Ground.data }], guard := none } ?_ (fun _ => hHeld) rfl (by kernel_rfl) (fun _ _ _ h => h) (by rfl) ?_ ?_
        rotate_left
        · intro wq; go_simp; try with_reducible rfl
        try simp only [Act.put, List.setIfInBounds_toArray, List.set_cons_zero, List.set_cons_succ]
        refine Kt.G.takeP 6 { dst := some 35, op := Op.fieldAddr 32 (Operand.tmp 8) 5, type := 0, pos := "desc.go:83", after := #[], guard := none } ?_ (fun _ => hHeld) rfl (by kernel_rfl) (fun _ _ _ h => h) (by rfl) ?_ ?_
        rotate_left
        · intro wq; go_simp; try with_reducible rfl
        try simp only [Act.put, List.setIfInBounds_toArray, List.set_cons_zero, List.set_cons_succ]
        refine Kt.G.take 7 { dst := some 36, op := Op.load 30 (Operand.tmp 35), type := 30, pos := "desc.go:83", after := #[{ on := 6, ground := Ground.data }], guard := none } ?_ hHeld rfl (by kernel_rfl) (fun _ _ _ h => h) (by rfl) ?_ ?_
        rotate_left
        · intro wq hSw; have r0 := hSw.row (wr.heap.size, #[.int .i64 f.cl, .int .i64 f.su, .int .i64 f.pr, .int .i64 f.nm, .slice XA f.ex.length xc, .slice EA f.es.length ec], 32) (by simp); have c0 := fun i => cell_of_row _ _ i _ _ _ r0; dsimp only at *; go_simp; try with_reducible rfl
        try simp only [Act.put, List.setIfInBounds_toArray, List.set_cons_zero, List.set_cons_succ]
        refine Kt.G.takeP 8 { dst := some 37, op := Op.call { callee := Callee.builtin Builtin.len, args := #[Operand.tmp 36], argTypes := #[30] }, type := 3, pos := "desc.go:83", after := #[{ on := 7, ground := Ground.data }], guard := none } ?_ (fun _ => hHeld) rfl (by kernel_rfl) (fun _ _ _ h => h) (by rfl) ?_ ?_
        rotate_left
        · intro wq; go_simp; try with_reducible rfl
        try simp only [Act.put, List.setIfInBounds_toArray, List.set_cons_zero, List.set_cons_succ]
        refine Kt.G.takeP 9 { dst := some 38, op := Op.binOp BinOp.add 3 (Operand.tmp 34) (Operand.tmp 37) 3, type := 3, pos := "desc.go:83", after := #[{ on := 5, ground := Ground.data }, { on := 8, ground := Ground.data }], guard := none } ?_ (fun _ => hHeld) rfl (by kernel_rfl) (fun _ _ _ h => h) (by rfl) ?_ ?_
        rotate_left
        · intro wq; go_simp; try with_reducible rfl
        try simp only [Act.put, List.setIfInBounds_toArray, List.set_cons_zero, List.set_cons_succ]
        refine Kt.G.takeP 10 { dst := some 39, op := Op.move (Operand.tmp 6), type := 3, pos := "desc.go:83", after := #[{ on := 22, ground := Ground.gcOnly Departure.lateStores }], guard := none } ?_ (fun _ => hHeld) rfl (by kernel_rfl) (fun _ _ _ h => h) (by rfl) ?_ ?_
        rotate_left
        · intro wq; go_simp; try with_reducible rfl
        try simp only [Act.put, List.setIfInBounds_toArray, List.set_cons_zero, List.set_cons_succ]
        refine Kt.G.takeP 11 { dst := some 40, op := Op.binOp BinOp.add 3 (Operand.tmp 39) (Operand.const (Value.int IntKind.i64 9)) 3, type := 3, pos := "desc.go:83", after := #[{ on := 10, ground := Ground.data }, { on := 22, ground := Ground.gcOnly Departure.lateStores }], guard := none } ?_ (fun _ => hHeld) rfl (by kernel_rfl) (fun _ _ _ h => h) (by rfl) ?_ ?_
        rotate_left
        · intro wq; go_simp; try with_reducible rfl
        try simp only [Act.put, List.setIfInBounds_toArray, List.set_cons_zero, List.set_cons_succ]
        refine Kt.G.takeP 12 { dst := some 41, op := Op.fieldAddr 32 (Operand.tmp 8) 5, type := 0, pos := "desc.go:83", after := #[], guard := none } ?_ (fun _ => hHeld) rfl (by kernel_rfl) (fun _ _ _ h => h) (by rfl) ?_ ?_
        rotate_left
        · intro wq; go_simp; try with_reducible rfl
        try simp only [Act.put, List.setIfInBounds_toArray, List.set_cons_zero, List.set_cons_succ]
        refine Kt.G.take 13 { dst := some 42, op := Op.load 30 (Operand.tmp 41), type := 30, pos := "desc.go:83", after := #[{ on := 12, ground := Ground.data }], guard := none } ?_ hHeld rfl (by kernel_rfl) (fun _ _ _ h => h) (by rfl) ?_ ?_
        rotate_left
        · intro wq hSw; have r0 := hSw.row (wr.heap.size, #[.int .i64 f.cl, .int .i64 f.su, .int .i64 f.pr, .int .i64 f.nm, .slice XA f.ex.length xc, .slice EA f.es.length ec], 32) (by simp); have c0 := fun i => cell_of_row _ _ i _ _ _ r0; dsimp only at *; go_simp; try with_reducible rfl
        try simp only [Act.put, List.setIfInBounds_toArray, List.set_cons_zero, List.set_cons_succ]
        refine Kt.G.takeP 14 { dst := some 43, op := Op.call { callee := Callee.builtin Builtin.len, args := #[Operand.tmp 42], argTypes := #[30] }, type := 3, pos := "desc.go:83", after := #[{ on := 13, ground := Ground.data }], guard := none } ?_ (fun _ => hHeld) rfl (by kernel_rfl) (fun _ _ _ h => h) (by rfl) ?_ ?_
        rotate_left
        · intro wq; go_simp; try with_reducible rfl
        try simp only [Act.put, List.setIfInBounds_toArray, List.set_cons_zero, List.set_cons_succ]
        refine Kt.G.takeP 15 { dst := some 44, op := Op.binOp BinOp.mul 3 (Operand.const (Value.int IntKind.i64 7)) (Operand.tmp 43) 3, type := 3, pos := "desc.go:83", after := #[{ on := 14, ground := Ground.data }, { on := 22, ground := Ground.gcOnly Departure.lateStores }], guard := none } ?_ (fun _ => hHeld) rfl (by kernel_rfl) (fun _ _ _ h => h) (by rfl) ?_ ?_
        rotate_left
        · intro wq; go_simp; try with_reducible rfl
        try simp only [Act.put, List.setIfInBounds_toArray, List.set_cons_zero, List.set_cons_succ]
        refine Kt.G.takeP 16 { dst := some 45, op := Op.binOp BinOp.add 3 (Operand.tmp 40) (Operand.tmp 44) 3, type := 3, pos := "desc.go:83", after := #[{ on := 11, ground := Ground.data }, { on := 15, ground := Ground.data }, { on := 22, ground := Ground.gcOnly Departure.lateStores }], guard := none } ?_ (fun _ => hHeld) rfl (by kernel_rfl) (fun _ _ _ h => h) (by rfl) ?_ ?_
        rotate_left
        · intro wq; go_simp; try with_reducible rfl
        try simp only [Act.put, List.setIfInBounds_toArray, List.set_cons_zero, List.set_cons_succ]
        refine Kt.G.takeP 17 { dst := some 46, op := Op.fieldAddr 32 (Operand.tmp 8) 4, type := 0, pos := "desc.go:83", after := #[], guard := none } ?_ (fun _ => hHeld) rfl (by kernel_rfl) (fun _ _ _ h => h) (by rfl) ?_ ?_
        rotate_left
        · intro wq; go_simp; try with_reducible rfl
        try simp only [Act.put, List.setIfInBounds_toArray, List.set_cons_zero, List.set_cons_succ]
        refine Kt.G.take 18 { dst := some 47, op := Op.load 29 (Operand.tmp 46), type := 29, pos := "desc.go:83", after := #[{ on := 17, ground := Ground.data }], guard := none } ?_ hHeld rfl (by kernel_rfl) (fun _ _ _ h => h) (by rfl) ?_ ?_
        rotate_left
        · intro wq hSw; have r0 := hSw.row (wr.heap.size, #[.int .i64 f.cl, .int .i64 f.su, .int .i64 f.pr, .int .i64 f.nm, .slice XA f.ex.length xc, .slice EA f.es.length ec], 32) (by simp); have c0 := fun i => cell_of_row _ _ i _ _ _ r0; dsimp only at *; go_simp; try with_reducible rfl
        try simp only [Act.put, List.setIfInBounds_toArray, List.set_cons_zero, List.set_cons_succ]
        refine Kt.G.one 19 { dst := some 48, op := Op.call { callee := Callee.value (Operand.func 15), args := #[Operand.tmp 47, Operand.const (Value.string { data := #[] })], argTypes := #[29, 9] }, type := 9, pos := "desc.go:83", after := #[{ on := 18, ground := Ground.data }], guard := none } rfl (by kernel_rfl) (by rfl) (fun K hK => ?_)
        go_simp
        refine (HJ.out _ hHeld.bel).mono ?_; rintro en xw ⟨rfl, hb⟩
        refine hK.out _ _ (fun _ => hHeld.on hb) (fun hHeld => ?_)
        have hHeld := hHeld rfl
        clear hK K
        try simp only [Act.put, List.setIfInBounds_toArray, List.set_cons_zero, List.set_cons_succ]
        clear hb
        refine Kt.G.takeP 20 { dst := some 49, op := Op.call { callee := Callee.builtin Builtin.len, args := #[Operand.tmp 48], argTypes := #[9] }, type := 3, pos := "desc.go:83", after := #[{ on := 19, ground := Ground.data }], guard := none } ?_ (fun _ => hHeld) rfl (by kernel_rfl) (fun _ _ _ h => h) (by rfl) ?_ ?_
        rotate_left
        · intro wq; go_simp; try with_reducible rfl
        try simp only [Act.put, List.setIfInBounds_toArray, List.set_cons_zero, List.set_cons_succ]
        refine Kt.G.takeP 21 { dst := some 50, op := Op.binOp BinOp.add 3 (Operand.tmp 45) (Operand.tmp 49) 3, type := 3, pos := "desc.go:83", after := #[{ on := 16, ground := Ground.data }, { on := 20, ground := Ground.data }, { on := 22, ground := Ground.gcOnly Departure.lateStores }], guard := none } ?_ (fun _ => hHeld) rfl (by kernel_rfl) (fun _ _ _ h => h) (by rfl) ?_ ?_
        rotate_left
        · intro wq; go_simp; try with_reducible rfl
        try simp only [Act.put, List.setIfInBounds_toArray, List.set_cons_zero, List.set_cons_succ]
        refine Kt.G.one 22 { dst := some 5, op := Op.assign (Operand.tmp 38), type := 3, pos := "desc.go:83", after := #[{ on := 9, ground := Ground.data }, { on := 19, ground := Ground.chain }, { on := 0, ground := Ground.phase }, { on := 1, ground := Ground.phase }, { on := 2, ground := Ground.phase }, { on := 3, ground := Ground.phase }, { on := 4, ground := Ground.phase }, { on := 5, ground := Ground.phase }, { on := 6, ground := Ground.phase }, { on := 7, ground := Ground.phase }, { on := 8, ground := Ground.phase }, { on := 9, ground := Ground.phase }, { on := 10, ground := Ground.textOnly Departure.lateStores }, { on := 11, ground := Ground.textOnly Departure.lateStores }, { on := 12, ground := Ground.textOnly Departure.lateStores }, { on := 13, ground := Ground.textOnly Departure.lateStores }, { on := 14, ground := Ground.textOnly Departure.lateStoresUnsure }, { on := 15, ground := Ground.textOnly Departure.lateStores }, { on := 16, ground := Ground.textOnly Departure.lateStores }, { on := 17, ground := Ground.textOnly Departure.lateStores }, { on := 18, ground := Ground.textOnly Departure.lateStores }, { on := 19, ground := Ground.textOnly Departure.lateStoresUnsure }, { on := 20, ground := Ground.textOnly Departure.lateStoresUnsure }, { on := 21, ground := Ground.textOnly Departure.lateStores }], guard := none } rfl (by kernel_rfl) (by rfl) (fun K hK => ?_)
        go_simp
        refine hK.out _ _ (fun _ => hHeld) (fun hHeld => ?_)
        have hHeld := hHeld rfl
        clear hK K
        try simp only [Act.put, List.setIfInBounds_toArray, List.set_cons_zero, List.set_cons_succ]
        refine Kt.G.one 23 { dst := some 6, op := Op.assign (Operand.tmp 50), type := 3, pos := "desc.go:83", after := #[{ on := 21, ground := Ground.data }, { on := 22, ground := Ground.chain }, { on := 0, ground := Ground.phase }, { on := 1, ground := Ground.phase }, { on := 2, ground := Ground.phase }, { on := 3, ground := Ground.phase }, { on := 4, ground := Ground.phase }, { on := 5, ground := Ground.phase }, { on := 6, ground := Ground.phase }, { on := 7, ground := Ground.phase }, { on := 8, ground := Ground.phase }, { on := 9, ground := Ground.phase }, { on := 10, ground := Ground.phase }, { on := 11, ground := Ground.phase }, { on := 12, ground := Ground.phase }, { on := 13, ground := Ground.phase }, { on := 14, ground := Ground.phase }, { on := 15, ground := Ground.phase }, { on := 16, ground := Ground.phase }, { on := 17, ground := Ground.phase }, { on := 18, ground := Ground.phase }, { on := 19, ground := Ground.phase }, { on := 20, ground := Ground.phase }, { on := 21, ground := Ground.phase }, { on := 22, ground := Ground.phase }], guard := none } rfl (by kernel_rfl) (by rfl) (fun K hK => ?_)
        go_simp
        refine hK.out _ _ (Kt.G.late (by kernel_rfl)) (fun _ => ?_)
        clear hK K
        try simp only [Act.put, List.setIfInBounds_toArray, List.set_cons_zero, List.set_cons_succ]
        refine Kt.G.done (by kernel_rfl) (NoPanic.normal ?_) _
        have HBZ := Lib.hid (Kt.bthen HBX.out hHeld.bel)
        clear hHeld
        go_wp2_with fail
        go_roundw
        case rel => exact ⟨k + 1, hlt, congrArg _ (next_k hlt HLE.out), congrArg _ (round_n HLE.out (cfgC_ok H0.out.1).2.2 HOK.out HTK.out), congrArg _ (round_b HLE.out (cfgC_ok H0.out.1).2.2 HOK.out HTK.out), HBZ⟩
        case measure => rw [next_k hlt HLE.out]; show c.fs.length - (k + 1) < c.fs.length - k; omega
      · obtain rfl : k = c.fs.length := by omega
        have hsp : spl (bs' t).data.toList = (0, pcs c) := by
          rw [← H0.out.2]
          show spl (cfgT c) = _
          exact spl_cfg H0.out.1
        have hln := cfg_long c
        rw [H0.out.2] at hln
        have HSZ := Lib.hid (show (bs' t).size = 9 + (c.fs.map fun f => 9 + 7 * f.es.length + f.ex.flatten.length).sum by rw [bs_size]; exact hln.2)
        have HPC := Lib.hid hln.1
        have HSP := Lib.hid hsp
        clear hln hsp
        rw [List.take_length]
        go_wp2_with fail
        refine (split_calls _ _).mono ?_
        rintro e w3 ⟨⟨V, cd, l, rfl, hs, hS, _⟩, hb3⟩
        rw [HSP.out] at hs
        obtain ⟨rfl, hs2⟩ := Prod.mk.inj hs
        have hll : 1 + (c.fs.map fun f => 1 + f.ex.length + f.es.length).sum = l.length := by
          rw [← HPC.out, hs2, List.length_map]
        rw [hll, ← HSZ.out]
        obtain ⟨A, cc, rfl, _⟩ := hS.form
        have HB3 := Lib.hid (Kt.bthen HBW.out hb3)
        clear hs hs2 hS hb3 hll
        go_wp2_with fail
        go_ret
        exact ⟨rfl, HB3.out⟩
  · have hne : (code != 0) = true := by rw [bne_iff_ne]; exact hc
    go_wp2_with fail
    refine (HLV.out _).mono ?_
    rintro e w3 ⟨rfl, hb3⟩
    have HB3 := Lib.hid (Kt.bthen HB2.out hb3)
    clear hb3
    go_wp2_with fail
    go_ret
    exact ⟨rfl, HB3.out⟩
theorem long_walk (v0 : Value) (w : World) (r0 : Fr.RdV w reachBytes cfgS v0) :
    Calls Try.prog 3 #[v0] w fun e w' => e = .returned (.bool true) ∧ Below w.heap.size w w' := by
  obtain ⟨c, hc, _⟩ := cfg_rd r0
  exact long_calls c v0 w hc
end Go.Proofs.Ytmddfpmchcmgiaa
