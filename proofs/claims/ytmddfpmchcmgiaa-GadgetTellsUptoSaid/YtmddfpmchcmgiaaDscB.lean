/- add walked. -/
import Derived.Test.YtmddfpmchcmgiaaDscA
import Derived.Test.YtmddfpmchcmgiaaGen
namespace Go.Proofs.Ytmddfpmchcmgiaa
open Go.RowKit Go.Proofs.Ytmddfpmchcmgiaa.Dsc
theorem infoFa : (Try.prog.info? 32).map (fun i => (i.zero, i.size, i.bytes)) = some (some (.agg #[.int .i64 0, .int .i64 0, .int .i64 0, .int .i64 0, .slice none 0 0, .slice none 0 0]), 6, 80) := by kernel_rfl
theorem infoEn : (Try.prog.info? 43).map (fun i => (i.zero, i.size, i.bytes)) = some (some (.agg #[.int .i64 0, .bool false, .int .i64 0, .int .i64 0, .int .i64 0]), 5, 40) := by kernel_rfl
theorem infoSt : (Try.prog.info? 9).map (fun i => (i.zero, i.size, i.bytes)) = some (some (.string ByteArray.empty), 1, 16) := by kernel_rfl
theorem Fo.drew {w : World} {B : Nat} {V : Value} {l : List Fh} (h : Fo w B V l) : Fo w.drew B V l := ⟨h.sl.drew, h.xs, h.es, h.ax, h.ae⟩
theorem Fb_kept {w0 W W' : World} {rows : List (Nat × Array Value × TypeId)} {V : Value} {t : TypeId} (h : Kt.Fb w0 rows W) (hb : Below w0.heap.size W W') (hk : ∀ k, k < W.heap.size → V.ownBlock ≠ some k → W'.heap[k]? = W.heap[k]?)
    (hv : ∀ k, V.ownBlock = some k → ownT W t k) (hr : rows.all (fun r => r.2.2 != t) = true) : Kt.Fb w0 rows W' :=
  ⟨fun r hm => (hk r.1 (h.lt hm) fun e => ownT_ne ⟨_, h.row r hm⟩ (hv r.1 e) (by simpa using List.all_eq_true.1 hr r hm) rfl).trans (h.row r hm), h.bel.trans hb⟩
def AddOut (w0 : World) (a1 a2 a3 a4 : Int) (b : Nat) (fs : Option (List Fa)) (e : Ending) (w' : World) : Prop :=
  Below w0.heap.size w0 w' ∧ match fs with
  | none => e = .returned (.bool false)
  | some fs => e = .returned (.bool true) ∧ ∃ V' l', l'.map Fh.f = fs ∧ w'.heap[b]? = some (.cells #[.int .i64 a1, .int .i64 a2, .int .i64 a3, .int .i64 a4, V'] 24 (0, 0)) ∧ Fo w' w0.heap.size V' l'
/-- what is known ahead of a call of add -/
structure AddIn (w0 : World) (a1 a2 a3 a4 : Int) (b : Nat) (V : Value) (l : List Fh) (n : Nat) (w : World) : Prop where
  bel : Below w0.heap.size w0 w
  le : w0.heap.size ≤ b
  row : w.heap[b]? = some (.cells #[.int .i64 a1, .int .i64 a2, .int .i64 a3, .int .i64 a4, V] 24 (0, 0))
  fo : Fo w w0.heap.size V l
  hn : n ≤ 4096
  hl : l.length ≤ n
  hm : ∀ h ∈ l, h.f.ex.length ≤ n ∧ h.f.es.length ≤ n
set_option maxRecDepth 100000 in
theorem add_face (w0 : World) (a1 a2 a3 a4 : Int) (b : Nat) (V : Value) (l : List Fh) (n : Nat) (w : World) (d : List UInt8) (hi : AddIn w0 a1 a2 a3 a4 b V l n w) (h4 : at' d 1 = 4) (h9 : d.length = 9) :
    Calls Try.prog 40 #[.pointer (some ⟨b, 0, none⟩), .string (bs' d)] w (AddOut w0 a1 a2 a3 a4 b (some (l.map Fh.f ++ [⟨at' d 5, at' d 6, at' d 7, at' d 8, [], []⟩]))) := by
  have hz := bs_size d
  have hS : 1 < (bs' d).size := by omega
  have h1 := get_at d 1 hS
  rw [h4] at h1
  have HAT := Lib.hid (fun (i : Nat) (hi : i < 9) (W : World) (hW : W.heap[w.heap.size]? = some (.cells #[.string (bs' d)] 9 (0, 0))) => at_calls d i (by omega) w.heap.size W (cell_of_row _ _ 0 _ _ _ hW))
  obtain ⟨V0, hV0⟩ : ∃ V', V = V' := ⟨_, rfl⟩
  obtain ⟨A, c, rfl, hc1, hc2⟩ := hi.fo.sl.form
  have HI := Lib.hid hi
  have HB1 := Lib.hid (hi.bel.trans (Kt.balloc (Below.refl _ w) (.cells #[.string (bs' d)] 9)|>.mono hi.bel.size))
  have HR1 := Lib.hid (Kt.row_on (Kt.balloc (Below.refl _ w) (.cells #[.string (bs' d)] 9)) hi.row)
  have HR2 := Lib.hid (heap_alloc_new w (.cells #[.string (bs' d)] 9))
  have hsz : ((bs' d).size : Int) = 9 := by omega
  have HF := Lib.hid (hi.fo.on (Kt.balloc (Below.refl _ w) (.cells #[.string (bs' d)] 9)))
  have hrow := fun i => cell_of_row _ _ i _ _ _ HR1.out
  have hrow2 := fun i => cell_of_row _ _ i _ _ _ HR2.out
  have hblt : b < w.heap.size := (Array.getElem?_eq_some_iff.1 hi.row).1
  obtain ⟨z5, hz5⟩ : ∃ z, at' d 5 = z := ⟨_, rfl⟩
  obtain ⟨z6, hz6⟩ : ∃ z, at' d 6 = z := ⟨_, rfl⟩
  obtain ⟨z7, hz7⟩ : ∃ z, at' d 7 = z := ⟨_, rfl⟩
  obtain ⟨z8, hz8⟩ : ∃ z, at' d 8 = z := ⟨_, rfl⟩
  rw [hz5, hz6, hz7, hz8]
  obtain ⟨b1, hb1⟩ : ∃ x, (bs' d)[1]'hS = x := ⟨_, rfl⟩
  rw [hb1] at h1
  generalize bs' d = S at *
  clear hi hc1 hc2 hV0 h9 h4 hz V0
  go_enter Try.func40, Try.ntmps40
  go_upto_region 5 with (fail)
  refine Kt.G.start 18 (Kt.Fb w0 [(b, #[.int .i64 a1, .int .i64 a2, .int .i64 a3, .int .i64 a4, .slice A l.length c], 24), (w.heap.size, #[.string S], 9)]) (by kernel_rfl) (((Kt.Fb.nil w0 HB1.out).add HR2.out).add HR1.out).drew (fun hHeld => ?_)
  have HFd := Lib.hid HF.out.drew
  generalize (w.alloc (.cells #[.string S] 9)).drew = x1 at *
  refine Kt.G.takeP 0 { dst := some 24, op := Op.move (Operand.tmp 0), type := 89, pos := "desc.go:153", after := #[], guard := none } ?_ (fun _ => hHeld) rfl (by kernel_rfl) (fun _ _ _ h => h) (by rfl) ?_ ?_
  rotate_left
  · intro wq; go_simp; try with_reducible rfl
  try simp only [Act.put, List.setIfInBounds_toArray, List.set_cons_zero, List.set_cons_succ]
  refine Kt.G.takeP 1 { dst := some 25, op := Op.move (Operand.tmp 0), type := 89, pos := "desc.go:153", after := #[], guard := none } ?_ (fun _ => hHeld) rfl (by kernel_rfl) (fun _ _ _ h => h) (by rfl) ?_ ?_
  rotate_left
  · intro wq; go_simp; try with_reducible rfl
  try simp only [Act.put, List.setIfInBounds_toArray, List.set_cons_zero, List.set_cons_succ]
  refine Kt.G.takeP 2 { dst := some 26, op := Op.nilCheck (Operand.tmp 25), type := 0, pos := "desc.go:153", after := #[{ on := 1, ground := Ground.data }], guard := none } ?_ (fun _ => hHeld) rfl (by kernel_rfl) (fun _ _ _ h => h) (by rfl) ?_ ?_
  rotate_left
  · intro wq; go_simp; try with_reducible rfl
  try simp only [Act.put, List.setIfInBounds_toArray, List.set_cons_zero, List.set_cons_succ]
  refine Kt.G.takeP 3 { dst := some 27, op := Op.fieldAddr 24 (Operand.tmp 26) 4, type := 0, pos := "desc.go:153", after := #[{ on := 2, ground := Ground.data }], guard := none } ?_ (fun _ => hHeld) rfl (by kernel_rfl) (fun _ _ _ h => h) (by rfl) ?_ ?_
  rotate_left
  · intro wq; go_simp; try with_reducible rfl
  try simp only [Act.put, List.setIfInBounds_toArray, List.set_cons_zero, List.set_cons_succ]
  refine Kt.G.take 4 { dst := some 28, op := Op.load 22 (Operand.tmp 27), type := 22, pos := "desc.go:153", after := #[{ on := 3, ground := Ground.data }], guard := none } ?_ hHeld rfl (by kernel_rfl) (fun _ _ _ h => h) (by rfl) ?_ ?_
  rotate_left
  · intro wq hSw; have r0 := hSw.row (b, #[.int .i64 a1, .int .i64 a2, .int .i64 a3, .int .i64 a4, .slice A l.length c], 24) (by simp); have c0 := fun i => cell_of_row _ _ i _ _ _ r0; have r1 := hSw.row (w.heap.size, #[.string S], 9) (by simp); have c1 := fun i => cell_of_row _ _ i _ _ _ r1; dsimp only at *; go_simp; try with_reducible rfl
  try simp only [Act.put, List.setIfInBounds_toArray, List.set_cons_zero, List.set_cons_succ]
  refine Kt.G.takeP 5 { dst := some 29, op := Op.move (Operand.tmp 5), type := 95, pos := "desc.go:153", after := #[], guard := none } ?_ (fun _ => hHeld) rfl (by kernel_rfl) (fun _ _ _ h => h) (by rfl) ?_ ?_
  rotate_left
  · intro wq; go_simp; try with_reducible rfl
  try simp only [Act.put, List.setIfInBounds_toArray, List.set_cons_zero, List.set_cons_succ]
  refine Kt.G.takeP 7 { dst := some 31, op := Op.move (Operand.tmp 5), type := 95, pos := "desc.go:153", after := #[], guard := none } ?_ (fun _ => hHeld) rfl (by kernel_rfl) (fun _ _ _ h => h) (by rfl) ?_ ?_
  rotate_left
  · intro wq; go_simp; try with_reducible rfl
  try simp only [Act.put, List.setIfInBounds_toArray, List.set_cons_zero, List.set_cons_succ]
  refine Kt.G.takeP 9 { dst := some 33, op := Op.move (Operand.tmp 5), type := 95, pos := "desc.go:153", after := #[], guard := none } ?_ (fun _ => hHeld) rfl (by kernel_rfl) (fun _ _ _ h => h) (by rfl) ?_ ?_
  rotate_left
  · intro wq; go_simp; try with_reducible rfl
  try simp only [Act.put, List.setIfInBounds_toArray, List.set_cons_zero, List.set_cons_succ]
  refine Kt.G.takeP 11 { dst := some 35, op := Op.move (Operand.tmp 5), type := 95, pos := "desc.go:153", after := #[], guard := none } ?_ (fun _ => hHeld) rfl (by kernel_rfl) (fun _ _ _ h => h) (by rfl) ?_ ?_
  rotate_left
  · intro wq; go_simp; try with_reducible rfl
  try simp only [Act.put, List.setIfInBounds_toArray, List.set_cons_zero, List.set_cons_succ]
  refine Kt.G.one 6 { dst := some 30, op := Op.call { callee := Callee.value (Operand.tmp 29), args := #[Operand.const (Value.int IntKind.i64 5)], argTypes := #[3] }, type := 3, pos := "desc.go:153", after := #[{ on := 5, ground := Ground.data }], guard := none } rfl (by kernel_rfl) (by rfl) (fun K hK => ?_)
  go_simp
  refine (HAT.out 5 (by decide) _ (hHeld.row (w.heap.size, #[.string S], 9) (by simp))).mono ?_; rintro en xw ⟨rfl, rfl⟩
  simp only [hz5]
  refine hK.out _ _ (fun _ => hHeld) (fun hHeld => ?_)
  have hHeld := hHeld rfl
  clear hK K
  try simp only [Act.put, List.setIfInBounds_toArray, List.set_cons_zero, List.set_cons_succ]
  refine Kt.G.one 8 { dst := some 32, op := Op.call { callee := Callee.value (Operand.tmp 31), args := #[Operand.const (Value.int IntKind.i64 6)], argTypes := #[3] }, type := 3, pos := "desc.go:153", after := #[{ on := 7, ground := Ground.data }, { on := 6, ground := Ground.chain }], guard := none } rfl (by kernel_rfl) (by rfl) (fun K hK => ?_)
  go_simp
  refine (HAT.out 6 (by decide) _ (hHeld.row (w.heap.size, #[.string S], 9) (by simp))).mono ?_; rintro en xw ⟨rfl, rfl⟩
  simp only [hz6]
  refine hK.out _ _ (fun _ => hHeld) (fun hHeld => ?_)
  have hHeld := hHeld rfl
  clear hK K
  try simp only [Act.put, List.setIfInBounds_toArray, List.set_cons_zero, List.set_cons_succ]
  refine Kt.G.one 10 { dst := some 34, op := Op.call { callee := Callee.value (Operand.tmp 33), args := #[Operand.const (Value.int IntKind.i64 7)], argTypes := #[3] }, type := 3, pos := "desc.go:153", after := #[{ on := 9, ground := Ground.data }, { on := 8, ground := Ground.chain }], guard := none } rfl (by kernel_rfl) (by rfl) (fun K hK => ?_)
  go_simp
  refine (HAT.out 7 (by decide) _ (hHeld.row (w.heap.size, #[.string S], 9) (by simp))).mono ?_; rintro en xw ⟨rfl, rfl⟩
  simp only [hz7]
  refine hK.out _ _ (fun _ => hHeld) (fun hHeld => ?_)
  have hHeld := hHeld rfl
  clear hK K
  try simp only [Act.put, List.setIfInBounds_toArray, List.set_cons_zero, List.set_cons_succ]
  refine Kt.G.one 12 { dst := some 36, op := Op.call { callee := Callee.value (Operand.tmp 35), args := #[Operand.const (Value.int IntKind.i64 8)], argTypes := #[3] }, type := 3, pos := "desc.go:153", after := #[{ on := 11, ground := Ground.data }, { on := 10, ground := Ground.chain }], guard := none } rfl (by kernel_rfl) (by rfl) (fun K hK => ?_)
  go_simp
  refine (HAT.out 8 (by decide) _ (hHeld.row (w.heap.size, #[.string S], 9) (by simp))).mono ?_; rintro en xw ⟨rfl, rfl⟩
  simp only [hz8]
  refine hK.out _ _ (fun _ => hHeld) (fun hHeld => ?_)
  have hHeld := hHeld rfl
  clear hK K
  try simp only [Act.put, List.setIfInBounds_toArray, List.set_cons_zero, List.set_cons_succ]
  refine Kt.G.takeP 13 { dst := some 37, op := Op.build 32 #[(0, Operand.tmp 30), (1, Operand.tmp 32), (2, Operand.tmp 34), (3, Operand.tmp 36)], type := 32, pos := "desc.go:153", after := #[{ on := 6, ground := Ground.data }, { on := 8, ground := Ground.data }, { on := 10, ground := Ground.data }, { on := 12, ground := Ground.data }], guard := none } ?_ (fun _ => hHeld) rfl (by kernel_rfl) (fun _ _ _ h => h) (by rfl) ?_ ?_
  rotate_left
  · intro wq; go_simp; try with_reducible rfl
  try simp only [Act.put, List.setIfInBounds_toArray, List.set_cons_zero, List.set_cons_succ]
  refine Kt.G.one 14 { dst := some 38, op := Op.buildSlice 22 1 #[(0, Operand.tmp 37)], type := 22, pos := "desc.go:153", after := #[{ on := 13, ground := Ground.data }], guard := none } rfl (by kernel_rfl) (by rfl) (fun K hK => ?_)
  go_simp
  refine hK.out _ _ (fun _ => hHeld.alloc _) (fun hHeld => ?_)
  have hHeld := hHeld rfl
  clear hK K
  try simp only [Act.put, List.setIfInBounds_toArray, List.set_cons_zero, List.set_cons_succ]
  have HN14 := Lib.hid (Kt.new_cells x1 #[.int .i64 z5, .int .i64 z6, .int .i64 z7, .int .i64 z8, .slice none 0 0, .slice none 0 0] 32)
  have HFF := Lib.hid (HFd.out.on (Kt.balloc (Below.refl _ x1) (.cells #[.int .i64 z5, .int .i64 z6, .int .i64 z7, .int .i64 z8, .slice none 0 0, .slice none 0 0] 32)))
  have hzz := hHeld.bel.size
  refine Kt.G.one 15 { dst := some 39, op := Op.call { callee := Callee.builtin Builtin.append, args := #[Operand.tmp 28, Operand.tmp 38], argTypes := #[22, 22] }, type := 22, pos := "desc.go:153", after := #[{ on := 4, ground := Ground.data }, { on := 14, ground := Ground.data }, { on := 12, ground := Ground.chain }], guard := none } rfl (by kernel_rfl) (by rfl) (fun K hK => ?_)
  refine Kt.wp_append_sl _ (.tmp 28) (.tmp 38) 22 rfl w0.heap.size 32 (.agg #[.int .i64 0, .int .i64 0, .int .i64 0, .int .i64 0, .slice none 0 0, .slice none 0 0]) 6 80 infoFa Try.underlying22 rfl (by decide) _ _ _ rfl HFF.out.sl _ 1 1 [.int .i64 z5, .int .i64 z6, .int .i64 z7, .int .i64 z8, .slice none 0 0, .slice none 0 0] rfl rfl HN14.out (by simp [Value.oneCell']) (by have h1 := HI.out.hl; have h2 := HI.out.hn; unfold maxLen; omega) (by have h1 := HI.out.hl; have h2 := HI.out.hn; omega) hzz ?_
  intro A2 c2 w6 hs6 hb6 hz6 hk6 hl6
  refine hK.out _ _ (fun _ => Fb_kept hHeld hb6 hk6 (fun k e => (sl_own HFF.out.sl e).2) rfl) (fun hHeld => ?_)
  have hHeld := hHeld rfl
  clear hK K
  try simp only [Act.put, List.setIfInBounds_toArray, List.set_cons_zero, List.set_cons_succ]
  refine Kt.G.takeP 16 { dst := some 40, op := Op.nilCheck (Operand.tmp 24), type := 0, pos := "desc.go:153", after := #[{ on := 0, ground := Ground.data }, { on := 0, ground := Ground.phase }, { on := 1, ground := Ground.phase }, { on := 2, ground := Ground.phase }, { on := 3, ground := Ground.phase }, { on := 4, ground := Ground.phase }, { on := 5, ground := Ground.phase }, { on := 6, ground := Ground.phase }, { on := 7, ground := Ground.phase }, { on := 8, ground := Ground.phase }, { on := 9, ground := Ground.phase }, { on := 10, ground := Ground.phase }, { on := 11, ground := Ground.phase }, { on := 12, ground := Ground.phase }, { on := 13, ground := Ground.phase }, { on := 14, ground := Ground.phase }, { on := 15, ground := Ground.phase }], guard := none } ?_ (fun _ => hHeld) rfl (by kernel_rfl) (fun _ _ _ h => h) (by rfl) ?_ ?_
  rotate_left
  · intro wq; go_simp; try with_reducible rfl
  try simp only [Act.put, List.setIfInBounds_toArray, List.set_cons_zero, List.set_cons_succ]
  refine Kt.G.takeP 17 { dst := some 41, op := Op.fieldAddr 24 (Operand.tmp 40) 4, type := 0, pos := "desc.go:153", after := #[{ on := 16, ground := Ground.data }, { on := 0, ground := Ground.phase }, { on := 1, ground := Ground.phase }, { on := 2, ground := Ground.phase }, { on := 3, ground := Ground.phase }, { on := 4, ground := Ground.phase }, { on := 5, ground := Ground.phase }, { on := 6, ground := Ground.phase }, { on := 7, ground := Ground.phase }, { on := 8, ground := Ground.phase }, { on := 9, ground := Ground.phase }, { on := 10, ground := Ground.phase }, { on := 11, ground := Ground.phase }, { on := 12, ground := Ground.phase }, { on := 13, ground := Ground.phase }, { on := 14, ground := Ground.phase }, { on := 15, ground := Ground.phase }], guard := none } ?_ (fun _ => hHeld) rfl (by kernel_rfl) (fun _ _ _ h => h) (by rfl) ?_ ?_
  rotate_left
  · intro wq; go_simp; try with_reducible rfl
  try simp only [Act.put, List.setIfInBounds_toArray, List.set_cons_zero, List.set_cons_succ]
  refine Kt.G.one 18 { dst := none, op := Op.store 22 (Operand.tmp 41) (Operand.tmp 39), type := 0, pos := "desc.go:153", after := #[{ on := 17, ground := Ground.data }, { on := 15, ground := Ground.data }, { on := 15, ground := Ground.chain }, { on := 0, ground := Ground.phase }, { on := 1, ground := Ground.phase }, { on := 2, ground := Ground.phase }, { on := 3, ground := Ground.phase }, { on := 4, ground := Ground.phase }, { on := 5, ground := Ground.phase }, { on := 6, ground := Ground.phase }, { on := 7, ground := Ground.phase }, { on := 8, ground := Ground.phase }, { on := 9, ground := Ground.phase }, { on := 10, ground := Ground.phase }, { on := 11, ground := Ground.phase }, { on := 12, ground := Ground.phase }, { on := 13, ground := Ground.phase }, { on := 14, ground := Ground.phase }, { on := 15, ground := Ground.phase }], guard := none } rfl (by kernel_rfl) (by rfl) (fun K hK => ?_)
  have cK := fun i => cell_of_row _ _ i _ _ _ (hHeld.row (b, #[.int .i64 a1, .int .i64 a2, .int .i64 a3, .int .i64 a4, .slice A l.length c], 24) (by simp)); have fK := fun i => frozen_of_row _ _ i _ _ (hHeld.row (b, #[.int .i64 a1, .int .i64 a2, .int .i64 a3, .int .i64 a4, .slice A l.length c], 24) (by simp))
  go_simp
  refine hK.out _ _ (Kt.G.late (by kernel_rfl)) (fun _ => ?_)
  clear hK K
  try simp only [Act.put, List.setIfInBounds_toArray, List.set_cons_zero, List.set_cons_succ]
  refine Kt.G.done (by kernel_rfl) (NoPanic.normal ?_) _
  have hrow6 := hHeld.row (b, #[.int .i64 a1, .int .i64 a2, .int .i64 a3, .int .i64 a4, .slice A l.length c], 24) (by simp)
  have hF6 := HFF.out.face z5 z6 z7 z8 hs6 hk6
  have hown : ownT w6 24 b := ⟨_, hrow6⟩
  have hset := hF6.sets b 4 [.slice A2 (l.length + 1) c2] hown (by decide) (by decide) (by decide)
  have hBL := hHeld.bel.setCell (p := ⟨b, 4, none⟩) HI.out.le (.slice A2 (l.length + 1) c2)
  have hRR : (w6.setCell ⟨b, 4, none⟩ (.slice A2 (l.length + 1) c2)).heap[b]? = some (.cells #[.int .i64 a1, .int .i64 a2, .int .i64 a3, .int .i64 a4, .slice A2 (l.length + 1) c2] 24 (0, 0)) := heap_setCell_same _ _ _ _ _ _ hrow6
  clear cK fK hk6 hl6 hs6 hb6 HFF hHeld HAT
  go_wp2_with fail
  go_ret
  exact ⟨hBL, rfl, _, _, by rw [List.map_append]; rfl, hRR, hset⟩
/-- a store into a block that is newer than the faces -/
theorem Fo.sets_new {w wx : World} {B : Nat} {V : Value} {l : List Fh} (h0 : Fo w B V l) (h : Fo wx B V l) (g off : Nat) (news : List Value) (hg : w.heap.size ≤ g) : Fo (wx.setCells g off news) B V l := by
  have key : ∀ {k : Nat}, k < w.heap.size → (wx.setCells g off news).heap[k]? = wx.heap[k]? := fun hk => Kt.setCells_other _ _ _ _ _ (by omega)
  exact ⟨h.sl.keep fun k e => key (h0.sl.lt k e).2, fun x hx => (h.xs x hx).keep fun k e => key ((h0.xs x hx).lt k e).2, fun x hx => (h.es x hx).keep fun k e => key ((h0.es x hx).lt k e).2, h.ax, h.ae⟩
theorem Fc_kept {w0 W W' : World} {cs : List (Nat × Nat × Value)} {V : Value} (h : Kt.Fc w0 cs W) (hb : Below w0.heap.size W W') (hk : ∀ k, k < W.heap.size → V.ownBlock ≠ some k → W'.heap[k]? = W.heap[k]?)
    (hr : ∀ c ∈ cs, V.ownBlock ≠ some c.1) : Kt.Fc w0 cs W' :=
  ⟨fun c hc => ⟨Nat.lt_of_lt_of_le (h.cell c hc).1 hb.size, by
    exact (World.cell?_of_block (w := W) (a := ⟨c.1, c.2.1, none⟩) (hk c.1 (h.cell c hc).1 (hr c hc))).trans (h.cell c hc).2⟩, h.bel.trans hb⟩
theorem frz_kept {W W' : World} {B g o c n k : Nat} {xs : List Value} {V : Value} (h : Kt.Sl W B 32 6 (.slice (some ⟨g, o, none⟩) n c) k xs) (hk : ∀ k, k < W.heap.size → V.ownBlock ≠ some k → W'.heap[k]? = W.heap[k]?) (hn : V.ownBlock ≠ some g) (j : Nat) : W'.frozen? ⟨g, j, none⟩ = false :=
  (World.frozen?_of_block (w := W) (a := ⟨g, j, none⟩) (hk g (h.lt g rfl).2 hn)).trans (by
    obtain ⟨cur, hr⟩ := (sl_own h rfl).2
    exact frozen_of_row _ _ _ _ _ hr)
theorem fo_es {w w' : World} {B g o cap m : Nat} {A' : Option Addr} {c' : Nat} {pre : List Fh} {h0 : Fh} (x : En)
    (h : Fo w B (.slice (some ⟨g, o, none⟩) (m + 1) cap) (pre ++ [h0])) (hm : pre.length = m)
    (hs : Kt.Sl w' B 43 5 (.slice A' (h0.f.es.length + 1) c') (h0.f.es.length + 1) (ecells h0.f.es ++ ec1 x))
    (hk : ∀ k, k < w.heap.size → h0.E.ownBlock ≠ some k → w'.heap[k]? = w.heap[k]?)
    (hl : ∀ k, (Value.slice A' (h0.f.es.length + 1) c').ownBlock = some k → h0.E.ownBlock = some k ∨ w.heap.size ≤ k) :
    Fo (w'.setCells g (o + m * 6 + 5) [.slice A' (h0.f.es.length + 1) c']) B (.slice (some ⟨g, o, none⟩) (m + 1) cap) (pre ++ [⟨⟨h0.f.cl, h0.f.su, h0.f.pr, h0.f.nm, h0.f.ex, h0.f.es ++ [x]⟩, h0.xa, h0.xc, A', c'⟩]) := by
  subst hm
  exact h.ends hs hk hl (by omega)
theorem fo_ex {w w' : World} {B g o cap m : Nat} {A' : Option Addr} {c' : Nat} {pre : List Fh} {h0 : Fh} (d : List UInt8)
    (h : Fo w B (.slice (some ⟨g, o, none⟩) (m + 1) cap) (pre ++ [h0])) (hm : pre.length = m)
    (hs : Kt.Sl w' B 9 1 (.slice A' (h0.f.ex.length + 1) c') (h0.f.ex.length + 1) (xcells h0.f.ex ++ [.string (bs' d)]))
    (hk : ∀ k, k < w.heap.size → h0.X.ownBlock ≠ some k → w'.heap[k]? = w.heap[k]?)
    (hl : ∀ k, (Value.slice A' (h0.f.ex.length + 1) c').ownBlock = some k → h0.X.ownBlock = some k ∨ w.heap.size ≤ k) :
    Fo (w'.setCells g (o + m * 6 + 4) [.slice A' (h0.f.ex.length + 1) c']) B (.slice (some ⟨g, o, none⟩) (m + 1) cap) (pre ++ [⟨⟨h0.f.cl, h0.f.su, h0.f.pr, h0.f.nm, h0.f.ex ++ [d], h0.f.es⟩, A', c', h0.ea, h0.ec⟩]) := by
  subst hm
  exact h.exts hs hk hl (by omega)
theorem and127 (z : Int) (h0 : 0 ≤ z) (h1 : z ≤ 255) : bits .and .i64 z 127 = z % 128 := by
  obtain ⟨n, rfl⟩ := Int.eq_ofNat_of_zero_le h0
  have h := Kt.i64_and_nat n 127 (by omega) (by omega)
  have e : n &&& 127 = n % 128 := Nat.and_two_pow_sub_one_eq_mod n 7
  rw [e] at h
  exact h.trans (by omega)
theorem at_le (d : List UInt8) (i : Nat) : 0 ≤ at' d i ∧ at' d i ≤ 255 := by
  unfold at'
  have := UInt8.toNat_lt (d.getD i 0)
  omega
set_option maxRecDepth 100000 in
set_option maxHeartbeats 3200000 in
theorem add_end (w0 : World) (a1 a2 a3 a4 : Int) (b : Nat) (V : Value) (pre : List Fh) (h0 : Fh) (n : Nat) (w : World) (d : List UInt8) (hi : AddIn w0 a1 a2 a3 a4 b V (pre ++ [h0]) n w) (h5 : at' d 1 = 5) (h7 : d.length = 7) :
    Calls Try.prog 40 #[.pointer (some ⟨b, 0, none⟩), .string (bs' d)] w (AddOut w0 a1 a2 a3 a4 b (some (pre.map Fh.f ++ [⟨h0.f.cl, h0.f.su, h0.f.pr, h0.f.nm, h0.f.ex, h0.f.es ++ [⟨at' d 2 % 128, decide (128 ≤ at' d 2), at' d 3, at' d 4 + 256 * at' d 5, at' d 6⟩]⟩]))) := by
  have hz := bs_size d
  have hS : 1 < (bs' d).size := by omega
  have hS2 : 2 < (bs' d).size := by omega
  have h1 := get_at d 1 hS
  have h2 := get_at d 2 hS2
  rw [h5] at h1
  have HAT := Lib.hid (fun (i : Nat) (hi : i < 7) (W : World) (hW : W.heap[w.heap.size]? = some (.cells #[.string (bs' d)] 9 (0, 0))) => at_calls d i (by omega) w.heap.size W (cell_of_row _ _ 0 _ _ _ hW))
  have HWD := Lib.hid (wordAt_calls d 4 (by omega) (by omega))
  have hl2 := at_le d 2
  obtain ⟨g, o, c, rfl, hgB, hgs, hc1, hc2, hcc, hff⟩ := hi.fo.sl.cells (by rw [List.length_append]; exact Nat.succ_pos _)
  have HI := Lib.hid hi
  have HB1 := Lib.hid (hi.bel.trans (Kt.balloc (Below.refl _ w) (.cells #[.string (bs' d)] 9)|>.mono hi.bel.size))
  have HR1 := Lib.hid (Kt.row_on (Kt.balloc (Below.refl _ w) (.cells #[.string (bs' d)] 9)) hi.row)
  have HR2 := Lib.hid (heap_alloc_new w (.cells #[.string (bs' d)] 9))
  have hsz : ((bs' d).size : Int) = 7 := by omega
  have HF := Lib.hid (hi.fo.on (Kt.balloc (Below.refl _ w) (.cells #[.string (bs' d)] 9)))
  have hrow := fun i => cell_of_row _ _ i _ _ _ HR1.out
  have hrow2 := fun i => cell_of_row _ _ i _ _ _ HR2.out
  have hblt : b < w.heap.size := (Array.getElem?_eq_some_iff.1 hi.row).1
  rw [List.length_append, List.length_singleton] at HF HR1 hrow HI
  obtain ⟨m, hm⟩ : ∃ m, pre.length = m := ⟨_, rfl⟩
  have HM := Lib.hid hm
  have hmle : m ≤ 4096 := by
    have h1 := hi.hl
    have h2 := hi.hn
    rw [List.length_append, List.length_singleton] at h1
    omega
  have hlen : wrap64 (((m + 1 : Nat) : Int) - 1) = (m : Int) := by unfold wrap64; omega
  have hnl : decide ((m : Int) < 0) = false := decide_eq_false (by omega)
  obtain ⟨z2, hz2⟩ : ∃ z, at' d 2 = z := ⟨_, rfl⟩
  obtain ⟨z3, hz3⟩ : ∃ z, at' d 3 = z := ⟨_, rfl⟩
  obtain ⟨zw, hzw⟩ : ∃ z, at' d 4 + 256 * at' d 5 = z := ⟨_, rfl⟩
  obtain ⟨z6, hz6⟩ : ∃ z, at' d 6 = z := ⟨_, rfl⟩
  rw [hz2, hz3, hzw, hz6]
  rw [hz2] at h2 hl2
  rw [show at' d 4 + 256 * at' d (4 + 1) = zw from hzw] at HWD
  have hand := and127 z2 hl2.1 hl2.2
  obtain ⟨b1, hb1⟩ : ∃ x, (bs' d)[1]'hS = x := ⟨_, rfl⟩
  obtain ⟨b2, hb2⟩ : ∃ x, (bs' d)[2]'hS2 = x := ⟨_, rfl⟩
  rw [hb1] at h1
  rw [hb2] at h2
  generalize bs' d = S at *
  rw [hm] at HF HR1 hrow HI
  clear hi h7 h5 hz hcc hff hgB hgs hc1 hc2
  go_enter Try.func40, Try.ntmps40
  go_upto_region 9 with (fail)
  go_cut [7] from 54 to 67 (fun p wx => ∃ kZ, p = .pointer (some ⟨kZ, 0, none⟩) ∧ w.heap.size < kZ ∧ wx.heap[kZ]? = some (.cells #[.int .i64 (z2 % 128), .bool (decide (128 ≤ z2)), .int .i64 z3, .int .i64 zw, .int .i64 z6] 43 (0, 0)) ∧ wx.heap[b]? = some (.cells #[.int .i64 a1, .int .i64 a2, .int .i64 a3, .int .i64 a4, .slice (some ⟨g, o, none⟩) (m + 1) c] 24 (0, 0)) ∧ Fo wx w0.heap.size (.slice (some ⟨g, o, none⟩) (m + 1) c) (pre ++ [h0]) ∧ Below w0.heap.size w0 wx)
  case first =>
    refine Kt.G.start 14 (Kt.Fb w0 [(b, #[.int .i64 a1, .int .i64 a2, .int .i64 a3, .int .i64 a4, .slice (some ⟨g, o, none⟩) (m + 1) c], 24), (w.heap.size, #[.string S], 9)]) (by kernel_rfl) (((Kt.Fb.nil w0 HB1.out).add HR2.out).add HR1.out).drew (fun hHeld => ?_)
    have HFd := Lib.hid HF.out.drew
    generalize (w.alloc (.cells #[.string S] 9)).drew = x1 at *
    refine Kt.G.takeP 0 { dst := some 54, op := Op.move (Operand.tmp 5), type := 95, pos := "desc.go:157", after := #[], guard := none } ?_ (fun _ => hHeld) rfl (by kernel_rfl) (fun _ _ _ h => h) (by rfl) ?_ ?_
    rotate_left
    · intro wq; go_simp; try with_reducible rfl
    try simp only [Act.put, List.setIfInBounds_toArray, List.set_cons_zero, List.set_cons_succ]
    refine Kt.G.take 3 { dst := some 57, op := Op.load 9 (Operand.tmp 3), type := 9, pos := "desc.go:157", after := #[], guard := none } ?_ hHeld rfl (by kernel_rfl) (fun _ _ _ h => h) (by rfl) ?_ ?_
    rotate_left
    · intro wq hSw; have r0 := hSw.row (b, #[.int .i64 a1, .int .i64 a2, .int .i64 a3, .int .i64 a4, .slice (some ⟨g, o, none⟩) (m + 1) c], 24) (by simp); have c0 := fun i => cell_of_row _ _ i _ _ _ r0; have r1 := hSw.row (w.heap.size, #[.string S], 9) (by simp); have c1 := fun i => cell_of_row _ _ i _ _ _ r1; dsimp only at *; go_simp; try with_reducible rfl
    try simp only [Act.put, List.setIfInBounds_toArray, List.set_cons_zero, List.set_cons_succ]
    refine Kt.G.takeP 4 { dst := some 58, op := Op.index 9 (Operand.tmp 57) (Operand.const (Value.int IntKind.i64 2)), type := 5, pos := "desc.go:157", after := #[{ on := 3, ground := Ground.data }], guard := none } ?_ (fun _ => hHeld) rfl (by kernel_rfl) (fun _ _ _ h => h) (by rfl) ?_ ?_
    rotate_left
    · intro wq; go_simp; try with_reducible rfl
    try simp only [Act.put, List.setIfInBounds_toArray, List.set_cons_zero, List.set_cons_succ]
    refine Kt.G.takeP 5 { dst := some 59, op := Op.binOp BinOp.geq 5 (Operand.tmp 58) (Operand.const (Value.int IntKind.u8 128)) 5, type := 4, pos := "desc.go:157", after := #[{ on := 4, ground := Ground.data }], guard := none } ?_ (fun _ => hHeld) rfl (by kernel_rfl) (fun _ _ _ h => h) (by rfl) ?_ ?_
    rotate_left
    · intro wq; go_simp; try with_reducible rfl
    try simp only [Act.put, List.setIfInBounds_toArray, List.set_cons_zero, List.set_cons_succ]
    refine Kt.G.takeP 6 { dst := some 60, op := Op.move (Operand.tmp 5), type := 95, pos := "desc.go:157", after := #[], guard := none } ?_ (fun _ => hHeld) rfl (by kernel_rfl) (fun _ _ _ h => h) (by rfl) ?_ ?_
    rotate_left
    · intro wq; go_simp; try with_reducible rfl
    try simp only [Act.put, List.setIfInBounds_toArray, List.set_cons_zero, List.set_cons_succ]
    refine Kt.G.take 8 { dst := some 62, op := Op.load 9 (Operand.tmp 3), type := 9, pos := "desc.go:157", after := #[], guard := none } ?_ hHeld rfl (by kernel_rfl) (fun _ _ _ h => h) (by rfl) ?_ ?_
    rotate_left
    · intro wq hSw; have r0 := hSw.row (b, #[.int .i64 a1, .int .i64 a2, .int .i64 a3, .int .i64 a4, .slice (some ⟨g, o, none⟩) (m + 1) c], 24) (by simp); have c0 := fun i => cell_of_row _ _ i _ _ _ r0; have r1 := hSw.row (w.heap.size, #[.string S], 9) (by simp); have c1 := fun i => cell_of_row _ _ i _ _ _ r1; dsimp only at *; go_simp; try with_reducible rfl
    try simp only [Act.put, List.setIfInBounds_toArray, List.set_cons_zero, List.set_cons_succ]
    refine Kt.G.takeP 10 { dst := some 64, op := Op.move (Operand.tmp 5), type := 95, pos := "desc.go:157", after := #[], guard := none } ?_ (fun _ => hHeld) rfl (by kernel_rfl) (fun _ _ _ h => h) (by rfl) ?_ ?_
    rotate_left
    · intro wq; go_simp; try with_reducible rfl
    try simp only [Act.put, List.setIfInBounds_toArray, List.set_cons_zero, List.set_cons_succ]
    refine Kt.G.two 1 13 { dst := some 55, op := Op.call { callee := Callee.value (Operand.tmp 54), args := #[Operand.const (Value.int IntKind.i64 2)], argTypes := #[3] }, type := 3, pos := "desc.go:157", after := #[{ on := 0, ground := Ground.data }], guard := none } { dst := some 7, op := Op.alloc 43, type := 0, pos := "desc.go:157", after := #[], guard := none } rfl rfl (by kernel_rfl) (by rfl) (by rfl) (fun K hK => ?g1) (fun K hK => ?g2)
    case' g1 =>
      go_simp
      refine (HAT.out 2 (by decide) _ (hHeld.row (w.heap.size, #[.string S], 9) (by simp))).mono ?_; rintro en xw ⟨rfl, rfl⟩
      simp only [hz2]
      refine hK.out _ _ (fun _ => hHeld) (fun hHeld => ?_)
      have hHeld := hHeld rfl
      clear hK K
      try simp only [Act.put, List.setIfInBounds_toArray, List.set_cons_zero, List.set_cons_succ]
      refine Kt.G.takeP 2 { dst := some 56, op := Op.binOp BinOp.and 3 (Operand.tmp 55) (Operand.const (Value.int IntKind.i64 127)) 3, type := 3, pos := "desc.go:157", after := #[{ on := 1, ground := Ground.data }], guard := none } ?_ (fun _ => hHeld) rfl (by kernel_rfl) (fun _ _ _ h => h) (by rfl) ?_ ?_
      rotate_left
      · intro wq; go_simp; try with_reducible rfl
      try simp only [Act.put, List.setIfInBounds_toArray, List.set_cons_zero, List.set_cons_succ]
      refine Kt.G.two 7 13 { dst := some 61, op := Op.call { callee := Callee.value (Operand.tmp 60), args := #[Operand.const (Value.int IntKind.i64 3)], argTypes := #[3] }, type := 3, pos := "desc.go:157", after := #[{ on := 6, ground := Ground.data }, { on := 1, ground := Ground.chain }], guard := none } { dst := some 7, op := Op.alloc 43, type := 0, pos := "desc.go:157", after := #[], guard := none } rfl rfl (by kernel_rfl) (by rfl) (by rfl) (fun K hK => ?g3) (fun K hK => ?g4)
      case' g3 =>
        go_simp
        refine (HAT.out 3 (by decide) _ (hHeld.row (w.heap.size, #[.string S], 9) (by simp))).mono ?_; rintro en xw ⟨rfl, rfl⟩
        simp only [hz3]
        refine hK.out _ _ (fun _ => hHeld) (fun hHeld => ?_)
        have hHeld := hHeld rfl
        clear hK K
        try simp only [Act.put, List.setIfInBounds_toArray, List.set_cons_zero, List.set_cons_succ]
        refine Kt.G.two 9 13 { dst := some 63, op := Op.call { callee := Callee.value (Operand.func 47), args := #[Operand.tmp 62, Operand.const (Value.int IntKind.i64 4)], argTypes := #[9, 3] }, type := 3, pos := "desc.go:157", after := #[{ on := 8, ground := Ground.data }, { on := 7, ground := Ground.chain }], guard := none } { dst := some 7, op := Op.alloc 43, type := 0, pos := "desc.go:157", after := #[], guard := none } rfl rfl (by kernel_rfl) (by rfl) (by rfl) (fun K hK => ?g5) (fun K hK => ?g6)
        case' g5 =>
          have hszW := hHeld.lt (r := (w.heap.size, #[.string S], 9)) (by simp)
          go_simp
          refine (HWD.out _).mono ?_; rintro en xw ⟨rfl, hb⟩
          refine hK.out _ _ (fun _ => hHeld.on hb) (fun hHeld => ?_)
          have hHeld := hHeld rfl
          clear hK K
          try simp only [Act.put, List.setIfInBounds_toArray, List.set_cons_zero, List.set_cons_succ]
          replace HFd := Lib.hid (HFd.out.on hb)
          clear hb hszW
          refine Kt.G.two 11 13 { dst := some 65, op := Op.call { callee := Callee.value (Operand.tmp 64), args := #[Operand.const (Value.int IntKind.i64 6)], argTypes := #[3] }, type := 3, pos := "desc.go:157", after := #[{ on := 10, ground := Ground.data }, { on := 9, ground := Ground.chain }], guard := none } { dst := some 7, op := Op.alloc 43, type := 0, pos := "desc.go:157", after := #[], guard := none } rfl rfl (by kernel_rfl) (by rfl) (by rfl) (fun K hK => ?g7) (fun K hK => ?g8)
          case' g7 =>
            go_simp
            refine (HAT.out 6 (by decide) _ (hHeld.row (w.heap.size, #[.string S], 9) (by simp))).mono ?_; rintro en xw ⟨rfl, rfl⟩
            simp only [hz6]
            refine hK.out _ _ (fun _ => hHeld) (fun hHeld => ?_)
            have hHeld := hHeld rfl
            clear hK K
            try simp only [Act.put, List.setIfInBounds_toArray, List.set_cons_zero, List.set_cons_succ]
            refine Kt.G.takeP 12 { dst := some 66, op := Op.build 43 #[(0, Operand.tmp 56), (1, Operand.tmp 59), (2, Operand.tmp 61), (3, Operand.tmp 63), (4, Operand.tmp 65)], type := 43, pos := "desc.go:157", after := #[{ on := 2, ground := Ground.data }, { on := 5, ground := Ground.data }, { on := 7, ground := Ground.data }, { on := 9, ground := Ground.data }, { on := 11, ground := Ground.data }], guard := none } ?_ (fun _ => hHeld) rfl (by kernel_rfl) (fun _ _ _ h => h) (by rfl) ?_ ?_
            rotate_left
            · intro wq; go_simp; try with_reducible rfl
            try simp only [Act.put, List.setIfInBounds_toArray, List.set_cons_zero, List.set_cons_succ]
            refine Kt.G.one 13 { dst := some 7, op := Op.alloc 43, type := 0, pos := "desc.go:157", after := #[], guard := none } rfl (by kernel_rfl) (by rfl) (fun K hK => ?_)
            have hkz := hHeld.lt (r := (w.heap.size, #[.string S], 9)) (by simp)
            dsimp only at hkz
            replace HFd := Lib.hid (HFd.out.on (Kt.balloc (Below.refl _ xw) (.cells #[.int .i64 0, .bool false, .int .i64 0, .int .i64 0, .int .i64 0] 43)))
            go_simp
            refine hK.out _ _ (fun _ => hHeld.alloc _) (fun hHeld => ?_)
            have hHeld := hHeld rfl
            clear hK K
            try simp only [Act.put, List.setIfInBounds_toArray, List.set_cons_zero, List.set_cons_succ]
            have rK := heap_alloc_new xw (.cells #[.int .i64 0, .bool false, .int .i64 0, .int .i64 0, .int .i64 0] 43)
            generalize hkZ : xw.heap.size = kZ at *
            clear hkZ
            generalize xw.alloc (.cells #[.int .i64 0, .bool false, .int .i64 0, .int .i64 0, .int .i64 0] 43) = xk at *
          case' g8 =>
            have hkz := hHeld.lt (r := (w.heap.size, #[.string S], 9)) (by simp)
            dsimp only at hkz
            replace HFd := Lib.hid (HFd.out.on (Kt.balloc (Below.refl _ xw) (.cells #[.int .i64 0, .bool false, .int .i64 0, .int .i64 0, .int .i64 0] 43)))
            go_simp
            refine hK.out _ _ (fun _ => hHeld.alloc _) (fun hHeld => ?_)
            have hHeld := hHeld rfl
            clear hK K
            try simp only [Act.put, List.setIfInBounds_toArray, List.set_cons_zero, List.set_cons_succ]
            have rK := heap_alloc_new xw (.cells #[.int .i64 0, .bool false, .int .i64 0, .int .i64 0, .int .i64 0] 43)
            generalize hkZ : xw.heap.size = kZ at *
            clear hkZ
            generalize xw.alloc (.cells #[.int .i64 0, .bool false, .int .i64 0, .int .i64 0, .int .i64 0] 43) = xk at *
            refine Kt.G.one 11 { dst := some 65, op := Op.call { callee := Callee.value (Operand.tmp 64), args := #[Operand.const (Value.int IntKind.i64 6)], argTypes := #[3] }, type := 3, pos := "desc.go:157", after := #[{ on := 10, ground := Ground.data }, { on := 9, ground := Ground.chain }], guard := none } rfl (by kernel_rfl) (by rfl) (fun K hK => ?_)
            go_simp
            refine (HAT.out 6 (by decide) _ (hHeld.row (w.heap.size, #[.string S], 9) (by simp))).mono ?_; rintro en xw ⟨rfl, rfl⟩
            simp only [hz6]
            refine hK.out _ _ (fun _ => hHeld) (fun hHeld => ?_)
            have hHeld := hHeld rfl
            clear hK K
            try simp only [Act.put, List.setIfInBounds_toArray, List.set_cons_zero, List.set_cons_succ]
            refine Kt.G.takeP 12 { dst := some 66, op := Op.build 43 #[(0, Operand.tmp 56), (1, Operand.tmp 59), (2, Operand.tmp 61), (3, Operand.tmp 63), (4, Operand.tmp 65)], type := 43, pos := "desc.go:157", after := #[{ on := 2, ground := Ground.data }, { on := 5, ground := Ground.data }, { on := 7, ground := Ground.data }, { on := 9, ground := Ground.data }, { on := 11, ground := Ground.data }], guard := none } ?_ (fun _ => hHeld) rfl (by kernel_rfl) (fun _ _ _ h => h) (by rfl) ?_ ?_
            rotate_left
            · intro wq; go_simp; try with_reducible rfl
            try simp only [Act.put, List.setIfInBounds_toArray, List.set_cons_zero, List.set_cons_succ]
        case' g6 =>
          have hkz := hHeld.lt (r := (w.heap.size, #[.string S], 9)) (by simp)
          dsimp only at hkz
          replace HFd := Lib.hid (HFd.out.on (Kt.balloc (Below.refl _ x1) (.cells #[.int .i64 0, .bool false, .int .i64 0, .int .i64 0, .int .i64 0] 43)))
          go_simp
          refine hK.out _ _ (fun _ => hHeld.alloc _) (fun hHeld => ?_)
          have hHeld := hHeld rfl
          clear hK K
          try simp only [Act.put, List.setIfInBounds_toArray, List.set_cons_zero, List.set_cons_succ]
          have rK := heap_alloc_new x1 (.cells #[.int .i64 0, .bool false, .int .i64 0, .int .i64 0, .int .i64 0] 43)
          generalize hkZ : x1.heap.size = kZ at *
          clear hkZ
          generalize x1.alloc (.cells #[.int .i64 0, .bool false, .int .i64 0, .int .i64 0, .int .i64 0] 43) = xk at *
          refine Kt.G.one 9 { dst := some 63, op := Op.call { callee := Callee.value (Operand.func 47), args := #[Operand.tmp 62, Operand.const (Value.int IntKind.i64 4)], argTypes := #[9, 3] }, type := 3, pos := "desc.go:157", after := #[{ on := 8, ground := Ground.data }, { on := 7, ground := Ground.chain }], guard := none } rfl (by kernel_rfl) (by rfl) (fun K hK => ?_)
          have hszW := hHeld.lt (r := (w.heap.size, #[.string S], 9)) (by simp)
          go_simp
          refine (HWD.out _).mono ?_; rintro en xw ⟨rfl, hb⟩
          refine hK.out _ _ (fun _ => hHeld.on hb) (fun hHeld => ?_)
          have hHeld := hHeld rfl
          clear hK K
          try simp only [Act.put, List.setIfInBounds_toArray, List.set_cons_zero, List.set_cons_succ]
          replace HFd := Lib.hid (HFd.out.on hb)
          replace rK := Kt.row_on hb rK
          clear hb hszW
          refine Kt.G.one 11 { dst := some 65, op := Op.call { callee := Callee.value (Operand.tmp 64), args := #[Operand.const (Value.int IntKind.i64 6)], argTypes := #[3] }, type := 3, pos := "desc.go:157", after := #[{ on := 10, ground := Ground.data }, { on := 9, ground := Ground.chain }], guard := none } rfl (by kernel_rfl) (by rfl) (fun K hK => ?_)
          go_simp
          refine (HAT.out 6 (by decide) _ (hHeld.row (w.heap.size, #[.string S], 9) (by simp))).mono ?_; rintro en xw ⟨rfl, rfl⟩
          simp only [hz6]
          refine hK.out _ _ (fun _ => hHeld) (fun hHeld => ?_)
          have hHeld := hHeld rfl
          clear hK K
          try simp only [Act.put, List.setIfInBounds_toArray, List.set_cons_zero, List.set_cons_succ]
          refine Kt.G.takeP 12 { dst := some 66, op := Op.build 43 #[(0, Operand.tmp 56), (1, Operand.tmp 59), (2, Operand.tmp 61), (3, Operand.tmp 63), (4, Operand.tmp 65)], type := 43, pos := "desc.go:157", after := #[{ on := 2, ground := Ground.data }, { on := 5, ground := Ground.data }, { on := 7, ground := Ground.data }, { on := 9, ground := Ground.data }, { on := 11, ground := Ground.data }], guard := none } ?_ (fun _ => hHeld) rfl (by kernel_rfl) (fun _ _ _ h => h) (by rfl) ?_ ?_
          rotate_left
          · intro wq; go_simp; try with_reducible rfl
          try simp only [Act.put, List.setIfInBounds_toArray, List.set_cons_zero, List.set_cons_succ]
      case' g4 =>
        have hkz := hHeld.lt (r := (w.heap.size, #[.string S], 9)) (by simp)
        dsimp only at hkz
        replace HFd := Lib.hid (HFd.out.on (Kt.balloc (Below.refl _ x1) (.cells #[.int .i64 0, .bool false, .int .i64 0, .int .i64 0, .int .i64 0] 43)))
        go_simp
        refine hK.out _ _ (fun _ => hHeld.alloc _) (fun hHeld => ?_)
        have hHeld := hHeld rfl
        clear hK K
        try simp only [Act.put, List.setIfInBounds_toArray, List.set_cons_zero, List.set_cons_succ]
        have rK := heap_alloc_new x1 (.cells #[.int .i64 0, .bool false, .int .i64 0, .int .i64 0, .int .i64 0] 43)
        generalize hkZ : x1.heap.size = kZ at *
        clear hkZ
        generalize x1.alloc (.cells #[.int .i64 0, .bool false, .int .i64 0, .int .i64 0, .int .i64 0] 43) = xk at *
        refine Kt.G.one 7 { dst := some 61, op := Op.call { callee := Callee.value (Operand.tmp 60), args := #[Operand.const (Value.int IntKind.i64 3)], argTypes := #[3] }, type := 3, pos := "desc.go:157", after := #[{ on := 6, ground := Ground.data }, { on := 1, ground := Ground.chain }], guard := none } rfl (by kernel_rfl) (by rfl) (fun K hK => ?_)
        go_simp
        refine (HAT.out 3 (by decide) _ (hHeld.row (w.heap.size, #[.string S], 9) (by simp))).mono ?_; rintro en xw ⟨rfl, rfl⟩
        simp only [hz3]
        refine hK.out _ _ (fun _ => hHeld) (fun hHeld => ?_)
        have hHeld := hHeld rfl
        clear hK K
        try simp only [Act.put, List.setIfInBounds_toArray, List.set_cons_zero, List.set_cons_succ]
        refine Kt.G.one 9 { dst := some 63, op := Op.call { callee := Callee.value (Operand.func 47), args := #[Operand.tmp 62, Operand.const (Value.int IntKind.i64 4)], argTypes := #[9, 3] }, type := 3, pos := "desc.go:157", after := #[{ on := 8, ground := Ground.data }, { on := 7, ground := Ground.chain }], guard := none } rfl (by kernel_rfl) (by rfl) (fun K hK => ?_)
        have hszW := hHeld.lt (r := (w.heap.size, #[.string S], 9)) (by simp)
        go_simp
        refine (HWD.out _).mono ?_; rintro en xw ⟨rfl, hb⟩
        refine hK.out _ _ (fun _ => hHeld.on hb) (fun hHeld => ?_)
        have hHeld := hHeld rfl
        clear hK K
        try simp only [Act.put, List.setIfInBounds_toArray, List.set_cons_zero, List.set_cons_succ]
        replace HFd := Lib.hid (HFd.out.on hb)
        replace rK := Kt.row_on hb rK
        clear hb hszW
        refine Kt.G.one 11 { dst := some 65, op := Op.call { callee := Callee.value (Operand.tmp 64), args := #[Operand.const (Value.int IntKind.i64 6)], argTypes := #[3] }, type := 3, pos := "desc.go:157", after := #[{ on := 10, ground := Ground.data }, { on := 9, ground := Ground.chain }], guard := none } rfl (by kernel_rfl) (by rfl) (fun K hK => ?_)
        go_simp
        refine (HAT.out 6 (by decide) _ (hHeld.row (w.heap.size, #[.string S], 9) (by simp))).mono ?_; rintro en xw ⟨rfl, rfl⟩
        simp only [hz6]
        refine hK.out _ _ (fun _ => hHeld) (fun hHeld => ?_)
        have hHeld := hHeld rfl
        clear hK K
        try simp only [Act.put, List.setIfInBounds_toArray, List.set_cons_zero, List.set_cons_succ]
        refine Kt.G.takeP 12 { dst := some 66, op := Op.build 43 #[(0, Operand.tmp 56), (1, Operand.tmp 59), (2, Operand.tmp 61), (3, Operand.tmp 63), (4, Operand.tmp 65)], type := 43, pos := "desc.go:157", after := #[{ on := 2, ground := Ground.data }, { on := 5, ground := Ground.data }, { on := 7, ground := Ground.data }, { on := 9, ground := Ground.data }, { on := 11, ground := Ground.data }], guard := none } ?_ (fun _ => hHeld) rfl (by kernel_rfl) (fun _ _ _ h => h) (by rfl) ?_ ?_
        rotate_left
        · intro wq; go_simp; try with_reducible rfl
        try simp only [Act.put, List.setIfInBounds_toArray, List.set_cons_zero, List.set_cons_succ]
    case' g2 =>
      have hkz := hHeld.lt (r := (w.heap.size, #[.string S], 9)) (by simp)
      dsimp only at hkz
      replace HFd := Lib.hid (HFd.out.on (Kt.balloc (Below.refl _ x1) (.cells #[.int .i64 0, .bool false, .int .i64 0, .int .i64 0, .int .i64 0] 43)))
      go_simp
      refine hK.out _ _ (fun _ => hHeld.alloc _) (fun hHeld => ?_)
      have hHeld := hHeld rfl
      clear hK K
      try simp only [Act.put, List.setIfInBounds_toArray, List.set_cons_zero, List.set_cons_succ]
      have rK := heap_alloc_new x1 (.cells #[.int .i64 0, .bool false, .int .i64 0, .int .i64 0, .int .i64 0] 43)
      generalize hkZ : x1.heap.size = kZ at *
      clear hkZ
      generalize x1.alloc (.cells #[.int .i64 0, .bool false, .int .i64 0, .int .i64 0, .int .i64 0] 43) = xk at *
      refine Kt.G.one 1 { dst := some 55, op := Op.call { callee := Callee.value (Operand.tmp 54), args := #[Operand.const (Value.int IntKind.i64 2)], argTypes := #[3] }, type := 3, pos := "desc.go:157", after := #[{ on := 0, ground := Ground.data }], guard := none } rfl (by kernel_rfl) (by rfl) (fun K hK => ?_)
      go_simp
      refine (HAT.out 2 (by decide) _ (hHeld.row (w.heap.size, #[.string S], 9) (by simp))).mono ?_; rintro en xw ⟨rfl, rfl⟩
      simp only [hz2]
      refine hK.out _ _ (fun _ => hHeld) (fun hHeld => ?_)
      have hHeld := hHeld rfl
      clear hK K
      try simp only [Act.put, List.setIfInBounds_toArray, List.set_cons_zero, List.set_cons_succ]
      refine Kt.G.takeP 2 { dst := some 56, op := Op.binOp BinOp.and 3 (Operand.tmp 55) (Operand.const (Value.int IntKind.i64 127)) 3, type := 3, pos := "desc.go:157", after := #[{ on := 1, ground := Ground.data }], guard := none } ?_ (fun _ => hHeld) rfl (by kernel_rfl) (fun _ _ _ h => h) (by rfl) ?_ ?_
      rotate_left
      · intro wq; go_simp; try with_reducible rfl
      try simp only [Act.put, List.setIfInBounds_toArray, List.set_cons_zero, List.set_cons_succ]
      refine Kt.G.one 7 { dst := some 61, op := Op.call { callee := Callee.value (Operand.tmp 60), args := #[Operand.const (Value.int IntKind.i64 3)], argTypes := #[3] }, type := 3, pos := "desc.go:157", after := #[{ on := 6, ground := Ground.data }, { on := 1, ground := Ground.chain }], guard := none } rfl (by kernel_rfl) (by rfl) (fun K hK => ?_)
      go_simp
      refine (HAT.out 3 (by decide) _ (hHeld.row (w.heap.size, #[.string S], 9) (by simp))).mono ?_; rintro en xw ⟨rfl, rfl⟩
      simp only [hz3]
      refine hK.out _ _ (fun _ => hHeld) (fun hHeld => ?_)
      have hHeld := hHeld rfl
      clear hK K
      try simp only [Act.put, List.setIfInBounds_toArray, List.set_cons_zero, List.set_cons_succ]
      refine Kt.G.one 9 { dst := some 63, op := Op.call { callee := Callee.value (Operand.func 47), args := #[Operand.tmp 62, Operand.const (Value.int IntKind.i64 4)], argTypes := #[9, 3] }, type := 3, pos := "desc.go:157", after := #[{ on := 8, ground := Ground.data }, { on := 7, ground := Ground.chain }], guard := none } rfl (by kernel_rfl) (by rfl) (fun K hK => ?_)
      have hszW := hHeld.lt (r := (w.heap.size, #[.string S], 9)) (by simp)
      go_simp
      refine (HWD.out _).mono ?_; rintro en xw ⟨rfl, hb⟩
      refine hK.out _ _ (fun _ => hHeld.on hb) (fun hHeld => ?_)
      have hHeld := hHeld rfl
      clear hK K
      try simp only [Act.put, List.setIfInBounds_toArray, List.set_cons_zero, List.set_cons_succ]
      replace HFd := Lib.hid (HFd.out.on hb)
      replace rK := Kt.row_on hb rK
      clear hb hszW
      refine Kt.G.one 11 { dst := some 65, op := Op.call { callee := Callee.value (Operand.tmp 64), args := #[Operand.const (Value.int IntKind.i64 6)], argTypes := #[3] }, type := 3, pos := "desc.go:157", after := #[{ on := 10, ground := Ground.data }, { on := 9, ground := Ground.chain }], guard := none } rfl (by kernel_rfl) (by rfl) (fun K hK => ?_)
      go_simp
      refine (HAT.out 6 (by decide) _ (hHeld.row (w.heap.size, #[.string S], 9) (by simp))).mono ?_; rintro en xw ⟨rfl, rfl⟩
      simp only [hz6]
      refine hK.out _ _ (fun _ => hHeld) (fun hHeld => ?_)
      have hHeld := hHeld rfl
      clear hK K
      try simp only [Act.put, List.setIfInBounds_toArray, List.set_cons_zero, List.set_cons_succ]
      refine Kt.G.takeP 12 { dst := some 66, op := Op.build 43 #[(0, Operand.tmp 56), (1, Operand.tmp 59), (2, Operand.tmp 61), (3, Operand.tmp 63), (4, Operand.tmp 65)], type := 43, pos := "desc.go:157", after := #[{ on := 2, ground := Ground.data }, { on := 5, ground := Ground.data }, { on := 7, ground := Ground.data }, { on := 9, ground := Ground.data }, { on := 11, ground := Ground.data }], guard := none } ?_ (fun _ => hHeld) rfl (by kernel_rfl) (fun _ _ _ h => h) (by rfl) ?_ ?_
      rotate_left
      · intro wq; go_simp; try with_reducible rfl
      try simp only [Act.put, List.setIfInBounds_toArray, List.set_cons_zero, List.set_cons_succ]
    all_goals
      refine Kt.G.one 14 { dst := none, op := Op.store 43 (Operand.tmp 7) (Operand.tmp 66), type := 0, pos := "desc.go:157", after := #[{ on := 13, ground := Ground.data }, { on := 12, ground := Ground.data }, { on := 11, ground := Ground.chain }, { on := 0, ground := Ground.phase }, { on := 1, ground := Ground.phase }, { on := 2, ground := Ground.phase }, { on := 3, ground := Ground.phase }, { on := 4, ground := Ground.phase }, { on := 5, ground := Ground.phase }, { on := 6, ground := Ground.phase }, { on := 7, ground := Ground.phase }, { on := 8, ground := Ground.phase }, { on := 9, ground := Ground.phase }, { on := 10, ground := Ground.phase }, { on := 11, ground := Ground.phase }, { on := 12, ground := Ground.phase }, { on := 13, ground := Ground.phase }], guard := none } rfl (by kernel_rfl) (by rfl) (fun K hK => ?_)
      have cK := fun i => cell_of_row _ _ i _ _ _ rK; have fK := fun i => frozen_of_row _ _ i _ _ rK
      go_simp
      refine hK.out _ _ (Kt.G.late (by kernel_rfl)) (fun _ => ?_)
      clear hK K
      try simp only [Act.put, List.setIfInBounds_toArray, List.set_cons_zero, List.set_cons_succ]
      refine Kt.G.done (by kernel_rfl) (NoPanic.normal ?_) _
      clear cK fK
      go_wp2_with fail
      go_meet
      case rel =>
        exact ⟨kZ, rfl, hkz, Kt.fill [.int .i64 (z2 % 128), .bool (decide (128 ≤ z2)), .int .i64 z3, .int .i64 zw, .int .i64 z6] rK rfl, (Kt.setCells_other [.int .i64 (z2 % 128), .bool (decide (128 ≤ z2)), .int .i64 z3, .int .i64 zw, .int .i64 z6] kZ 0 _ b (fun e => by have := HI.out.le; omega)).trans (hHeld.row (b, #[.int .i64 a1, .int .i64 a2, .int .i64 a3, .int .i64 a4, .slice (some ⟨g, o, none⟩) (m + 1) c], 24) (by simp)), HI.out.fo.sets_new HFd.out kZ 0 [.int .i64 (z2 % 128), .bool (decide (128 ≤ z2)), .int .i64 z3, .int .i64 zw, .int .i64 z6] (Nat.le_of_lt hkz), Kt.below_setCells [.int .i64 (z2 % 128), .bool (decide (128 ≤ z2)), .int .i64 z3, .int .i64 zw, .int .i64 z6] kZ 0 _ _ (Nat.le_trans HI.out.bel.size (Nat.le_of_lt hkz)) hHeld.bel⟩
  case rest =>
    obtain ⟨kZ, rfl, hkz, hrZ, hrB, hFo, hBx⟩ := hcut
    have HZ := Lib.hid hkz
    have HRZ := Lib.hid hrZ
    have HRB := Lib.hid hrB
    have HFx := Lib.hid hFo
    have HBx := Lib.hid hBx
    have hgo := (sl_own hFo.sl rfl).2
    have hm0 : h0 ∈ pre ++ [h0] := List.mem_append_right _ (List.mem_singleton.2 rfl)
    have HGB : Hid (w0.heap.size ≤ g) := Lib.hid (sl_own hFo.sl rfl).1
    have hEl := hFo.es h0 hm0
    have HNB : Hid (h0.E.ownBlock ≠ some b) := Lib.hid fun e => ownT_ne (sl_own hEl e).2 ⟨_, hrB⟩ (by decide) rfl
    have HNG : Hid (h0.E.ownBlock ≠ some g) := Lib.hid fun e => ownT_ne (sl_own hEl e).2 hgo (by decide) rfl
    have HNZ : Hid (h0.E.ownBlock ≠ some kZ) := Lib.hid fun e => by
      have := old_of (sl_own (HI.out.fo.es h0 hm0) e).2
      omega
    have HNGB : Hid (b ≠ g) := Lib.hid (ownT_ne ⟨_, hrB⟩ hgo (by decide))
    have hEc : ((pre ++ [h0]).flatMap Fh.cs)[m * 6 + 5]? = some (.slice h0.ea h0.f.es.length h0.ec) := by
      rw [List.flatMap_append, ← hm, ← cs_len, List.getElem?_append_right (Nat.le_add_right _ _), Nat.add_sub_cancel_left]
      rfl
    have hsl2 := hFo.sl
    rw [List.length_append, List.length_singleton, hm] at hsl2
    have cg := Kt.sl_cell hsl2 (m * 6 + 5) _ hEc
    rw [← Nat.add_assoc] at cg
    have HCG := Lib.hid cg
    have HGZ := Lib.hid (old_of hgo)
    clear hkz hrZ hrB hFo hBx hgo hEl hEc hsl2 cg hrow hrow2
    go_upto_region 10 with (fail)
    have hmlt : (m : Int) < (m : Int) + 1 := Int.lt_succ _
    refine Kt.G.start 18 (Kt.Fc w0 [(b, 4, .slice (some ⟨g, o, none⟩) (m + 1) c), (g, o + m * 6 + 5, .slice h0.ea h0.f.es.length h0.ec), (kZ, 0, .int .i64 (z2 % 128)), (kZ, 1, .bool (decide (128 ≤ z2))), (kZ, 2, .int .i64 z3), (kZ, 3, .int .i64 zw), (kZ, 4, .int .i64 z6)]) (by kernel_rfl) ((((((((Kt.Fc.nil w0 HBx.out).add (Array.getElem?_eq_some_iff.1 HRZ.out).1 (cell_of_row _ _ 4 _ _ _ HRZ.out)).add (Array.getElem?_eq_some_iff.1 HRZ.out).1 (cell_of_row _ _ 3 _ _ _ HRZ.out)).add (Array.getElem?_eq_some_iff.1 HRZ.out).1 (cell_of_row _ _ 2 _ _ _ HRZ.out)).add (Array.getElem?_eq_some_iff.1 HRZ.out).1 (cell_of_row _ _ 1 _ _ _ HRZ.out)).add (Array.getElem?_eq_some_iff.1 HRZ.out).1 (cell_of_row _ _ 0 _ _ _ HRZ.out)).add HGZ.out HCG.out).add (Array.getElem?_eq_some_iff.1 HRB.out).1 (cell_of_row _ _ 4 _ _ _ HRB.out)).drew (fun hHeld => ?_)
    have HFd := Lib.hid HFx.out.drew
    replace HRB := Lib.hid (show wc.drew.heap[b]? = some (.cells #[.int .i64 a1, .int .i64 a2, .int .i64 a3, .int .i64 a4, .slice (some ⟨g, o, none⟩) (m + 1) c] 24 (0, 0)) from HRB.out)
    generalize wc.drew = x1 at *
    refine Kt.G.takeP 0 { dst := some 67, op := Op.move (Operand.tmp 0), type := 89, pos := "desc.go:158", after := #[], guard := none } ?_ (fun _ => hHeld) rfl (by kernel_rfl) (fun _ _ _ h => h) (by rfl) ?_ ?_
    rotate_left
    · intro wq; go_simp; try with_reducible rfl
    try simp only [Act.put, List.setIfInBounds_toArray, List.set_cons_zero, List.set_cons_succ]
    refine Kt.G.takeP 1 { dst := some 68, op := Op.nilCheck (Operand.tmp 67), type := 0, pos := "desc.go:158", after := #[{ on := 0, ground := Ground.data }], guard := none } ?_ (fun _ => hHeld) rfl (by kernel_rfl) (fun _ _ _ h => h) (by rfl) ?_ ?_
    rotate_left
    · intro wq; go_simp; try with_reducible rfl
    try simp only [Act.put, List.setIfInBounds_toArray, List.set_cons_zero, List.set_cons_succ]
    refine Kt.G.takeP 2 { dst := some 69, op := Op.fieldAddr 24 (Operand.tmp 68) 4, type := 0, pos := "desc.go:158", after := #[{ on := 1, ground := Ground.data }], guard := none } ?_ (fun _ => hHeld) rfl (by kernel_rfl) (fun _ _ _ h => h) (by rfl) ?_ ?_
    rotate_left
    · intro wq; go_simp; try with_reducible rfl
    try simp only [Act.put, List.setIfInBounds_toArray, List.set_cons_zero, List.set_cons_succ]
    refine Kt.G.take 3 { dst := some 70, op := Op.load 22 (Operand.tmp 69), type := 22, pos := "desc.go:158", after := #[{ on := 2, ground := Ground.data }], guard := none } ?_ hHeld rfl (by kernel_rfl) (fun _ _ _ h => h) (by rfl) ?_ ?_
    rotate_left
    · intro wq hSw; have c0 := (hSw.cell _ (List.Mem.head _)).2; have c1 := (hSw.cell _ (List.Mem.tail _ (List.Mem.head _))).2; have c2 := (hSw.cell _ (List.Mem.tail _ (List.Mem.tail _ (List.Mem.head _)))).2; have c3 := (hSw.cell _ (List.Mem.tail _ (List.Mem.tail _ (List.Mem.tail _ (List.Mem.head _))))).2; have c4 := (hSw.cell _ (List.Mem.tail _ (List.Mem.tail _ (List.Mem.tail _ (List.Mem.tail _ (List.Mem.head _)))))).2; have c5 := (hSw.cell _ (List.Mem.tail _ (List.Mem.tail _ (List.Mem.tail _ (List.Mem.tail _ (List.Mem.tail _ (List.Mem.head _))))))).2; have c6 := (hSw.cell _ (List.Mem.tail _ (List.Mem.tail _ (List.Mem.tail _ (List.Mem.tail _ (List.Mem.tail _ (List.Mem.tail _ (List.Mem.head _)))))))).2; dsimp only at *; go_simp; try with_reducible rfl
    try simp only [Act.put, List.setIfInBounds_toArray, List.set_cons_zero, List.set_cons_succ]
    refine Kt.G.takeP 4 { dst := some 71, op := Op.move (Operand.tmp 6), type := 3, pos := "desc.go:158", after := #[], guard := none } ?_ (fun _ => hHeld) rfl (by kernel_rfl) (fun _ _ _ h => h) (by rfl) ?_ ?_
    rotate_left
    · intro wq; go_simp; try with_reducible rfl
    try simp only [Act.put, List.setIfInBounds_toArray, List.set_cons_zero, List.set_cons_succ]
    refine Kt.G.takeP 5 { dst := some 72, op := Op.move (Operand.tmp 0), type := 89, pos := "desc.go:158", after := #[], guard := none } ?_ (fun _ => hHeld) rfl (by kernel_rfl) (fun _ _ _ h => h) (by rfl) ?_ ?_
    rotate_left
    · intro wq; go_simp; try with_reducible rfl
    try simp only [Act.put, List.setIfInBounds_toArray, List.set_cons_zero, List.set_cons_succ]
    refine Kt.G.takeP 6 { dst := some 73, op := Op.nilCheck (Operand.tmp 72), type := 0, pos := "desc.go:158", after := #[{ on := 5, ground := Ground.data }], guard := none } ?_ (fun _ => hHeld) rfl (by kernel_rfl) (fun _ _ _ h => h) (by rfl) ?_ ?_
    rotate_left
    · intro wq; go_simp; try with_reducible rfl
    try simp only [Act.put, List.setIfInBounds_toArray, List.set_cons_zero, List.set_cons_succ]
    refine Kt.G.takeP 7 { dst := some 74, op := Op.fieldAddr 24 (Operand.tmp 73) 4, type := 0, pos := "desc.go:158", after := #[{ on := 6, ground := Ground.data }], guard := none } ?_ (fun _ => hHeld) rfl (by kernel_rfl) (fun _ _ _ h => h) (by rfl) ?_ ?_
    rotate_left
    · intro wq; go_simp; try with_reducible rfl
    try simp only [Act.put, List.setIfInBounds_toArray, List.set_cons_zero, List.set_cons_succ]
    refine Kt.G.take 8 { dst := some 75, op := Op.load 22 (Operand.tmp 74), type := 22, pos := "desc.go:158", after := #[{ on := 7, ground := Ground.data }], guard := none } ?_ hHeld rfl (by kernel_rfl) (fun _ _ _ h => h) (by rfl) ?_ ?_
    rotate_left
    · intro wq hSw; have c0 := (hSw.cell _ (List.Mem.head _)).2; have c1 := (hSw.cell _ (List.Mem.tail _ (List.Mem.head _))).2; have c2 := (hSw.cell _ (List.Mem.tail _ (List.Mem.tail _ (List.Mem.head _)))).2; have c3 := (hSw.cell _ (List.Mem.tail _ (List.Mem.tail _ (List.Mem.tail _ (List.Mem.head _))))).2; have c4 := (hSw.cell _ (List.Mem.tail _ (List.Mem.tail _ (List.Mem.tail _ (List.Mem.tail _ (List.Mem.head _)))))).2; have c5 := (hSw.cell _ (List.Mem.tail _ (List.Mem.tail _ (List.Mem.tail _ (List.Mem.tail _ (List.Mem.tail _ (List.Mem.head _))))))).2; have c6 := (hSw.cell _ (List.Mem.tail _ (List.Mem.tail _ (List.Mem.tail _ (List.Mem.tail _ (List.Mem.tail _ (List.Mem.tail _ (List.Mem.head _)))))))).2; dsimp only at *; go_simp; try with_reducible rfl
    try simp only [Act.put, List.setIfInBounds_toArray, List.set_cons_zero, List.set_cons_succ]
    refine Kt.G.takeP 9 { dst := some 76, op := Op.move (Operand.tmp 6), type := 3, pos := "desc.go:158", after := #[], guard := none } ?_ (fun _ => hHeld) rfl (by kernel_rfl) (fun _ _ _ h => h) (by rfl) ?_ ?_
    rotate_left
    · intro wq; go_simp; try with_reducible rfl
    try simp only [Act.put, List.setIfInBounds_toArray, List.set_cons_zero, List.set_cons_succ]
    refine Kt.G.takeP 10 { dst := some 77, op := Op.indexAddr 22 (Operand.tmp 75) (Operand.tmp 76), type := 0, pos := "desc.go:158", after := #[{ on := 8, ground := Ground.data }, { on := 9, ground := Ground.data }], guard := none } ?_ (fun _ => hHeld) rfl (by kernel_rfl) (fun _ _ _ h => h) (by rfl) ?_ ?_
    rotate_left
    · intro wq; go_simp; try with_reducible rfl
    try simp only [Act.put, List.setIfInBounds_toArray, List.set_cons_zero, List.set_cons_succ]
    refine Kt.G.takeP 11 { dst := some 78, op := Op.fieldAddr 32 (Operand.tmp 77) 5, type := 0, pos := "desc.go:158", after := #[{ on := 10, ground := Ground.data }], guard := none } ?_ (fun _ => hHeld) rfl (by kernel_rfl) (fun _ _ _ h => h) (by rfl) ?_ ?_
    rotate_left
    · intro wq; go_simp; try with_reducible rfl
    try simp only [Act.put, List.setIfInBounds_toArray, List.set_cons_zero, List.set_cons_succ]
    refine Kt.G.take 12 { dst := some 79, op := Op.load 30 (Operand.tmp 78), type := 30, pos := "desc.go:158", after := #[{ on := 11, ground := Ground.data }], guard := none } ?_ hHeld rfl (by kernel_rfl) (fun _ _ _ h => h) (by rfl) ?_ ?_
    rotate_left
    · intro wq hSw; have c0 := (hSw.cell _ (List.Mem.head _)).2; have c1 := (hSw.cell _ (List.Mem.tail _ (List.Mem.head _))).2; have c2 := (hSw.cell _ (List.Mem.tail _ (List.Mem.tail _ (List.Mem.head _)))).2; have c3 := (hSw.cell _ (List.Mem.tail _ (List.Mem.tail _ (List.Mem.tail _ (List.Mem.head _))))).2; have c4 := (hSw.cell _ (List.Mem.tail _ (List.Mem.tail _ (List.Mem.tail _ (List.Mem.tail _ (List.Mem.head _)))))).2; have c5 := (hSw.cell _ (List.Mem.tail _ (List.Mem.tail _ (List.Mem.tail _ (List.Mem.tail _ (List.Mem.tail _ (List.Mem.head _))))))).2; have c6 := (hSw.cell _ (List.Mem.tail _ (List.Mem.tail _ (List.Mem.tail _ (List.Mem.tail _ (List.Mem.tail _ (List.Mem.tail _ (List.Mem.head _)))))))).2; dsimp only at *; go_simp; try with_reducible rfl
    try simp only [Act.put, List.setIfInBounds_toArray, List.set_cons_zero, List.set_cons_succ]
    refine Kt.G.take 13 { dst := some 80, op := Op.load 43 (Operand.tmp 7), type := 43, pos := "desc.go:158", after := #[], guard := none } ?_ hHeld rfl (by kernel_rfl) (fun _ _ _ h => h) (by rfl) ?_ ?_
    rotate_left
    · intro wq hSw; have c0 := (hSw.cell _ (List.Mem.head _)).2; have c1 := (hSw.cell _ (List.Mem.tail _ (List.Mem.head _))).2; have c2 := (hSw.cell _ (List.Mem.tail _ (List.Mem.tail _ (List.Mem.head _)))).2; have c3 := (hSw.cell _ (List.Mem.tail _ (List.Mem.tail _ (List.Mem.tail _ (List.Mem.head _))))).2; have c4 := (hSw.cell _ (List.Mem.tail _ (List.Mem.tail _ (List.Mem.tail _ (List.Mem.tail _ (List.Mem.head _)))))).2; have c5 := (hSw.cell _ (List.Mem.tail _ (List.Mem.tail _ (List.Mem.tail _ (List.Mem.tail _ (List.Mem.tail _ (List.Mem.head _))))))).2; have c6 := (hSw.cell _ (List.Mem.tail _ (List.Mem.tail _ (List.Mem.tail _ (List.Mem.tail _ (List.Mem.tail _ (List.Mem.tail _ (List.Mem.head _)))))))).2; dsimp only at *; go_simp; try with_reducible rfl
    try simp only [Act.put, List.setIfInBounds_toArray, List.set_cons_zero, List.set_cons_succ]
    refine Kt.G.one 14 { dst := some 81, op := Op.buildSlice 30 1 #[(0, Operand.tmp 80)], type := 30, pos := "desc.go:158", after := #[{ on := 13, ground := Ground.data }], guard := none } rfl (by kernel_rfl) (by rfl) (fun K hK => ?_)
    go_simp
    refine hK.out _ _ (fun _ => hHeld.alloc _) (fun hHeld => ?_)
    have hHeld := hHeld rfl
    clear hK K
    try simp only [Act.put, List.setIfInBounds_toArray, List.set_cons_zero, List.set_cons_succ]
    have HN := Lib.hid (Kt.new_cells x1 #[.int .i64 (z2 % 128), .bool (decide (128 ≤ z2)), .int .i64 z3, .int .i64 zw, .int .i64 z6] 43)
    have HFF := Lib.hid (HFd.out.on (Kt.balloc (Below.refl _ x1) (.cells #[.int .i64 (z2 % 128), .bool (decide (128 ≤ z2)), .int .i64 z3, .int .i64 zw, .int .i64 z6] 43)))
    have HRF := Lib.hid (Kt.row_on (Kt.balloc (Below.refl _ x1) (.cells #[.int .i64 (z2 % 128), .bool (decide (128 ≤ z2)), .int .i64 z3, .int .i64 zw, .int .i64 z6] 43)) HRB.out)
    have hzz := hHeld.bel.size
    refine Kt.G.one 15 { dst := some 82, op := Op.call { callee := Callee.builtin Builtin.append, args := #[Operand.tmp 79, Operand.tmp 81], argTypes := #[30, 30] }, type := 30, pos := "desc.go:158", after := #[{ on := 12, ground := Ground.data }, { on := 14, ground := Ground.data }], guard := none } rfl (by kernel_rfl) (by rfl) (fun K hK => ?_)
    refine Kt.wp_append_sl _ (.tmp 79) (.tmp 81) 30 rfl w0.heap.size 43 (.agg #[.int .i64 0, .bool false, .int .i64 0, .int .i64 0, .int .i64 0]) 5 40 infoEn Try.underlying30 rfl (by decide) _ _ _ rfl (HFF.out.es h0 hm0) _ 1 1 [.int .i64 (z2 % 128), .bool (decide (128 ≤ z2)), .int .i64 z3, .int .i64 zw, .int .i64 z6] rfl rfl HN.out (by simp [Value.oneCell']) (by have h1 := (HI.out.hm h0 hm0); have h2 := HI.out.hn; unfold maxLen; omega) (by have h1 := (HI.out.hm h0 hm0); have h2 := HI.out.hn; omega) hzz ?_
    intro A2 c2 w6 hs6 hb6 hz6 hk6 hl6
    refine hK.out _ _ (fun _ => Fc_kept hHeld hb6 hk6 (by intro c hc; simp only [List.mem_cons, List.not_mem_nil, or_false] at hc; rcases hc with rfl | rfl | rfl | rfl | rfl | rfl | rfl <;> first | exact HNB.out | exact HNG.out | exact HNZ.out)) (fun hHeld => ?_)
    have hHeld := hHeld rfl
    clear hK K
    try simp only [Act.put, List.setIfInBounds_toArray, List.set_cons_zero, List.set_cons_succ]
    refine Kt.G.takeP 16 { dst := some 83, op := Op.indexAddr 22 (Operand.tmp 70) (Operand.tmp 71), type := 0, pos := "desc.go:158", after := #[{ on := 3, ground := Ground.data }, { on := 4, ground := Ground.data }, { on := 0, ground := Ground.phase }, { on := 1, ground := Ground.phase }, { on := 2, ground := Ground.phase }, { on := 3, ground := Ground.phase }, { on := 4, ground := Ground.phase }, { on := 5, ground := Ground.phase }, { on := 6, ground := Ground.phase }, { on := 7, ground := Ground.phase }, { on := 8, ground := Ground.phase }, { on := 9, ground := Ground.phase }, { on := 10, ground := Ground.phase }, { on := 11, ground := Ground.phase }, { on := 12, ground := Ground.phase }, { on := 13, ground := Ground.phase }, { on := 14, ground := Ground.phase }, { on := 15, ground := Ground.phase }], guard := none } ?_ (fun _ => hHeld) rfl (by kernel_rfl) (fun _ _ _ h => h) (by rfl) ?_ ?_
    rotate_left
    · intro wq; go_simp; try with_reducible rfl
    try simp only [Act.put, List.setIfInBounds_toArray, List.set_cons_zero, List.set_cons_succ]
    refine Kt.G.takeP 17 { dst := some 84, op := Op.fieldAddr 32 (Operand.tmp 83) 5, type := 0, pos := "desc.go:158", after := #[{ on := 16, ground := Ground.data }, { on := 0, ground := Ground.phase }, { on := 1, ground := Ground.phase }, { on := 2, ground := Ground.phase }, { on := 3, ground := Ground.phase }, { on := 4, ground := Ground.phase }, { on := 5, ground := Ground.phase }, { on := 6, ground := Ground.phase }, { on := 7, ground := Ground.phase }, { on := 8, ground := Ground.phase }, { on := 9, ground := Ground.phase }, { on := 10, ground := Ground.phase }, { on := 11, ground := Ground.phase }, { on := 12, ground := Ground.phase }, { on := 13, ground := Ground.phase }, { on := 14, ground := Ground.phase }, { on := 15, ground := Ground.phase }], guard := none } ?_ (fun _ => hHeld) rfl (by kernel_rfl) (fun _ _ _ h => h) (by rfl) ?_ ?_
    rotate_left
    · intro wq; go_simp; try with_reducible rfl
    try simp only [Act.put, List.setIfInBounds_toArray, List.set_cons_zero, List.set_cons_succ]
    refine Kt.G.one 18 { dst := none, op := Op.store 30 (Operand.tmp 84) (Operand.tmp 82), type := 0, pos := "desc.go:158", after := #[{ on := 17, ground := Ground.data }, { on := 15, ground := Ground.data }, { on := 15, ground := Ground.chain }, { on := 0, ground := Ground.phase }, { on := 1, ground := Ground.phase }, { on := 2, ground := Ground.phase }, { on := 3, ground := Ground.phase }, { on := 4, ground := Ground.phase }, { on := 5, ground := Ground.phase }, { on := 6, ground := Ground.phase }, { on := 7, ground := Ground.phase }, { on := 8, ground := Ground.phase }, { on := 9, ground := Ground.phase }, { on := 10, ground := Ground.phase }, { on := 11, ground := Ground.phase }, { on := 12, ground := Ground.phase }, { on := 13, ground := Ground.phase }, { on := 14, ground := Ground.phase }, { on := 15, ground := Ground.phase }], guard := none } rfl (by kernel_rfl) (by rfl) (fun K hK => ?_)
    have cK := (hHeld.cell ((g, o + m * 6 + 5, .slice h0.ea h0.f.es.length h0.ec)) (by simp)).2; have fK : ∀ j, w6.frozen? ⟨g, j, none⟩ = false := frz_kept HFF.out.sl hk6 HNG.out
    dsimp only at cK
    go_simp
    refine hK.out _ _ (Kt.G.late (by kernel_rfl)) (fun _ => ?_)
    clear hK K
    try simp only [Act.put, List.setIfInBounds_toArray, List.set_cons_zero, List.set_cons_succ]
    refine Kt.G.done (by kernel_rfl) (NoPanic.normal ?_) _
    have hF6 := fo_es ⟨z2 % 128, decide (128 ≤ z2), z3, zw, z6⟩ HFF.out HM.out hs6 hk6 hl6
    have hR6 := (Kt.setCells_other [.slice A2 (h0.f.es.length + 1) c2] g (o + m * 6 + 5) w6 b HNGB.out).trans ((hk6 b (Array.getElem?_eq_some_iff.1 HRF.out).1 HNB.out).trans HRF.out)
    have hBL := Kt.below_setCells [.slice A2 (h0.f.es.length + 1) c2] g (o + m * 6 + 5) _ _ HGB.out hHeld.bel
    clear cK fK hk6 hl6 hs6 hb6 HFF hHeld HAT
    go_wp2_with fail
    go_ret
    exact ⟨hBL, rfl, _, _, by rw [List.map_append]; rfl, hR6, hF6⟩
set_option maxRecDepth 100000 in
set_option maxHeartbeats 3200000 in
theorem add_ext (w0 : World) (a1 a2 a3 a4 : Int) (b : Nat) (V : Value) (pre : List Fh) (h0 : Fh) (n : Nat) (w : World) (d : List UInt8) (hi : AddIn w0 a1 a2 a3 a4 b V (pre ++ [h0]) n w) (h6 : 6 ≤ at' d 1) (hd : 2 ≤ d.length) :
    Calls Try.prog 40 #[.pointer (some ⟨b, 0, none⟩), .string (bs' d)] w (AddOut w0 a1 a2 a3 a4 b (some (pre.map Fh.f ++ [⟨h0.f.cl, h0.f.su, h0.f.pr, h0.f.nm, h0.f.ex ++ [d], h0.f.es⟩]))) := by
  have hz := bs_size d
  have hS : 1 < (bs' d).size := by omega
  have h1 := get_at d 1 hS
  rw [← h1] at h6
  obtain ⟨g, o, c, rfl, hgB, hgs, hc1, hc2, hcc, hff⟩ := hi.fo.sl.cells (by rw [List.length_append]; exact Nat.succ_pos _)
  have HI := Lib.hid hi
  have HB1 := Lib.hid (hi.bel.trans (Kt.balloc (Below.refl _ w) (.cells #[.string (bs' d)] 9)|>.mono hi.bel.size))
  have HRB := Lib.hid (Kt.row_on (Kt.balloc (Below.refl _ w) (.cells #[.string (bs' d)] 9)) hi.row)
  have HR2 := Lib.hid (heap_alloc_new w (.cells #[.string (bs' d)] 9))
  have hsz1 : (1 : Int) < ((bs' d).size : Int) := by omega
  have HFx := Lib.hid (hi.fo.on (Kt.balloc (Below.refl _ w) (.cells #[.string (bs' d)] 9)))
  have hrow2 := fun i => cell_of_row _ _ i _ _ _ HR2.out
  have hblt : b < w.heap.size := (Array.getElem?_eq_some_iff.1 hi.row).1
  rw [List.length_append, List.length_singleton] at HFx HRB HI
  obtain ⟨m, hm⟩ : ∃ m, pre.length = m := ⟨_, rfl⟩
  have HM := Lib.hid hm
  have hmle : m ≤ 4096 := by
    have h1 := hi.hl
    have h2 := hi.hn
    rw [List.length_append, List.length_singleton] at h1
    omega
  have hlen : wrap64 (((m + 1 : Nat) : Int) - 1) = (m : Int) := by unfold wrap64; omega
  have hnl : decide ((m : Int) < 0) = false := decide_eq_false (by omega)
  rw [hm] at HFx HRB HI
  have hrow := fun i => cell_of_row _ _ i _ _ _ HRB.out
  have hF := HFx.out
  have hgo := (sl_own hF.sl rfl).2
  have hm0 : h0 ∈ pre ++ [h0] := List.mem_append_right _ (List.mem_singleton.2 rfl)
  have HGB : Hid (w0.heap.size ≤ g) := Lib.hid (sl_own hF.sl rfl).1
  have hXl := hF.xs h0 hm0
  have HNB : Hid (h0.X.ownBlock ≠ some b) := Lib.hid fun e => ownT_ne (sl_own hXl e).2 ⟨_, HRB.out⟩ (by decide) rfl
  have HNG : Hid (h0.X.ownBlock ≠ some g) := Lib.hid fun e => ownT_ne (sl_own hXl e).2 hgo (by decide) rfl
  have HNZ : Hid (h0.X.ownBlock ≠ some w.heap.size) := Lib.hid fun e => by
    have := old_of (sl_own (HI.out.fo.xs h0 hm0) e).2
    omega
  have HNGB : Hid (b ≠ g) := Lib.hid (ownT_ne ⟨_, HRB.out⟩ hgo (by decide))
  have hXc : ((pre ++ [h0]).flatMap Fh.cs)[m * 6 + 4]? = some (.slice h0.xa h0.f.ex.length h0.xc) := by
    rw [List.flatMap_append, ← hm, ← cs_len, List.getElem?_append_right (Nat.le_add_right _ _), Nat.add_sub_cancel_left]
    rfl
  have hsl2 := hF.sl
  rw [List.length_append, List.length_singleton, hm] at hsl2
  have cg := Kt.sl_cell hsl2 (m * 6 + 4) _ hXc
  rw [← Nat.add_assoc] at cg
  have HCG := Lib.hid cg
  have HGZ := Lib.hid (old_of hgo)
  have HBx := HB1
  obtain ⟨b1, hb1⟩ : ∃ x, (bs' d)[1]'hS = x := ⟨_, rfl⟩
  rw [hb1] at h6 h1
  have q4 : ((b1.toNat : Int) == 4) = false := by rw [beq_eq_false_iff_ne]; omega
  have q5 : ((b1.toNat : Int) == 5) = false := by rw [beq_eq_false_iff_ne]; omega
  have HNW : Hid (∀ l, xcells (l ++ [d]) = xcells l ++ [.string (bs' d)]) := Lib.hid fun l => by unfold xcells; rw [List.map_append]; rfl
  generalize hSd : bs' d = S at *
  clear hi hd hz hcc hff hgB hgs hc1 hc2 h1 hF hgo hXl hXc hsl2 cg
  go_enter Try.func40, Try.ntmps40
  go_upto_region 12 with (fail)
  have hmlt : (m : Int) < (m : Int) + 1 := Int.lt_succ _
  clear hrow hrow2
  obtain ⟨wc, hwc⟩ : ∃ W, w.alloc (.cells #[.string S] 9) = W := ⟨_, rfl⟩
  simp only [hwc] at *
  clear hwc
  refine Kt.G.start 18 (Kt.Fc w0 [(b, 4, .slice (some ⟨g, o, none⟩) (m + 1) c), (g, o + m * 6 + 4, .slice h0.xa h0.f.ex.length h0.xc), (w.heap.size, 0, .string S)]) (by kernel_rfl) ((((Kt.Fc.nil w0 HBx.out).add (Array.getElem?_eq_some_iff.1 HR2.out).1 (cell_of_row _ _ 0 _ _ _ HR2.out)).add HGZ.out HCG.out).add (Array.getElem?_eq_some_iff.1 HRB.out).1 (cell_of_row _ _ 4 _ _ _ HRB.out)).drew (fun hHeld => ?_)
  have HFd := Lib.hid HFx.out.drew
  replace HRB := Lib.hid (show wc.drew.heap[b]? = some (.cells #[.int .i64 a1, .int .i64 a2, .int .i64 a3, .int .i64 a4, .slice (some ⟨g, o, none⟩) (m + 1) c] 24 (0, 0)) from HRB.out)
  generalize wc.drew = x1 at *
  refine Kt.G.takeP 0 { dst := some 89, op := Op.move (Operand.tmp 0), type := 89, pos := "desc.go:160", after := #[], guard := none } ?_ (fun _ => hHeld) rfl (by kernel_rfl) (fun _ _ _ h => h) (by rfl) ?_ ?_
  rotate_left
  · intro wq; go_simp; try with_reducible rfl
  try simp only [Act.put, List.setIfInBounds_toArray, List.set_cons_zero, List.set_cons_succ]
  refine Kt.G.takeP 1 { dst := some 90, op := Op.nilCheck (Operand.tmp 89), type := 0, pos := "desc.go:160", after := #[{ on := 0, ground := Ground.data }], guard := none } ?_ (fun _ => hHeld) rfl (by kernel_rfl) (fun _ _ _ h => h) (by rfl) ?_ ?_
  rotate_left
  · intro wq; go_simp; try with_reducible rfl
  try simp only [Act.put, List.setIfInBounds_toArray, List.set_cons_zero, List.set_cons_succ]
  refine Kt.G.takeP 2 { dst := some 91, op := Op.fieldAddr 24 (Operand.tmp 90) 4, type := 0, pos := "desc.go:160", after := #[{ on := 1, ground := Ground.data }], guard := none } ?_ (fun _ => hHeld) rfl (by kernel_rfl) (fun _ _ _ h => h) (by rfl) ?_ ?_
  rotate_left
  · intro wq; go_simp; try with_reducible rfl
  try simp only [Act.put, List.setIfInBounds_toArray, List.set_cons_zero, List.set_cons_succ]
  refine Kt.G.take 3 { dst := some 92, op := Op.load 22 (Operand.tmp 91), type := 22, pos := "desc.go:160", after := #[{ on := 2, ground := Ground.data }], guard := none } ?_ hHeld rfl (by kernel_rfl) (fun _ _ _ h => h) (by rfl) ?_ ?_
  rotate_left
  · intro wq hSw; have c0 := (hSw.cell _ (List.Mem.head _)).2; have c1 := (hSw.cell _ (List.Mem.tail _ (List.Mem.head _))).2; have c2 := (hSw.cell _ (List.Mem.tail _ (List.Mem.tail _ (List.Mem.head _)))).2; dsimp only at *; go_simp; try with_reducible rfl
  try simp only [Act.put, List.setIfInBounds_toArray, List.set_cons_zero, List.set_cons_succ]
  refine Kt.G.takeP 4 { dst := some 93, op := Op.move (Operand.tmp 6), type := 3, pos := "desc.go:160", after := #[], guard := none } ?_ (fun _ => hHeld) rfl (by kernel_rfl) (fun _ _ _ h => h) (by rfl) ?_ ?_
  rotate_left
  · intro wq; go_simp; try with_reducible rfl
  try simp only [Act.put, List.setIfInBounds_toArray, List.set_cons_zero, List.set_cons_succ]
  refine Kt.G.takeP 5 { dst := some 94, op := Op.move (Operand.tmp 0), type := 89, pos := "desc.go:160", after := #[], guard := none } ?_ (fun _ => hHeld) rfl (by kernel_rfl) (fun _ _ _ h => h) (by rfl) ?_ ?_
  rotate_left
  · intro wq; go_simp; try with_reducible rfl
  try simp only [Act.put, List.setIfInBounds_toArray, List.set_cons_zero, List.set_cons_succ]
  refine Kt.G.takeP 6 { dst := some 95, op := Op.nilCheck (Operand.tmp 94), type := 0, pos := "desc.go:160", after := #[{ on := 5, ground := Ground.data }], guard := none } ?_ (fun _ => hHeld) rfl (by kernel_rfl) (fun _ _ _ h => h) (by rfl) ?_ ?_
  rotate_left
  · intro wq; go_simp; try with_reducible rfl
  try simp only [Act.put, List.setIfInBounds_toArray, List.set_cons_zero, List.set_cons_succ]
  refine Kt.G.takeP 7 { dst := some 96, op := Op.fieldAddr 24 (Operand.tmp 95) 4, type := 0, pos := "desc.go:160", after := #[{ on := 6, ground := Ground.data }], guard := none } ?_ (fun _ => hHeld) rfl (by kernel_rfl) (fun _ _ _ h => h) (by rfl) ?_ ?_
  rotate_left
  · intro wq; go_simp; try with_reducible rfl
  try simp only [Act.put, List.setIfInBounds_toArray, List.set_cons_zero, List.set_cons_succ]
  refine Kt.G.take 8 { dst := some 97, op := Op.load 22 (Operand.tmp 96), type := 22, pos := "desc.go:160", after := #[{ on := 7, ground := Ground.data }], guard := none } ?_ hHeld rfl (by kernel_rfl) (fun _ _ _ h => h) (by rfl) ?_ ?_
  rotate_left
  · intro wq hSw; have c0 := (hSw.cell _ (List.Mem.head _)).2; have c1 := (hSw.cell _ (List.Mem.tail _ (List.Mem.head _))).2; have c2 := (hSw.cell _ (List.Mem.tail _ (List.Mem.tail _ (List.Mem.head _)))).2; dsimp only at *; go_simp; try with_reducible rfl
  try simp only [Act.put, List.setIfInBounds_toArray, List.set_cons_zero, List.set_cons_succ]
  refine Kt.G.takeP 9 { dst := some 98, op := Op.move (Operand.tmp 6), type := 3, pos := "desc.go:160", after := #[], guard := none } ?_ (fun _ => hHeld) rfl (by kernel_rfl) (fun _ _ _ h => h) (by rfl) ?_ ?_
  rotate_left
  · intro wq; go_simp; try with_reducible rfl
  try simp only [Act.put, List.setIfInBounds_toArray, List.set_cons_zero, List.set_cons_succ]
  refine Kt.G.takeP 10 { dst := some 99, op := Op.indexAddr 22 (Operand.tmp 97) (Operand.tmp 98), type := 0, pos := "desc.go:160", after := #[{ on := 8, ground := Ground.data }, { on := 9, ground := Ground.data }], guard := none } ?_ (fun _ => hHeld) rfl (by kernel_rfl) (fun _ _ _ h => h) (by rfl) ?_ ?_
  rotate_left
  · intro wq; go_simp; try with_reducible rfl
  try simp only [Act.put, List.setIfInBounds_toArray, List.set_cons_zero, List.set_cons_succ]
  refine Kt.G.takeP 11 { dst := some 100, op := Op.fieldAddr 32 (Operand.tmp 99) 4, type := 0, pos := "desc.go:160", after := #[{ on := 10, ground := Ground.data }], guard := none } ?_ (fun _ => hHeld) rfl (by kernel_rfl) (fun _ _ _ h => h) (by rfl) ?_ ?_
  rotate_left
  · intro wq; go_simp; try with_reducible rfl
  try simp only [Act.put, List.setIfInBounds_toArray, List.set_cons_zero, List.set_cons_succ]
  refine Kt.G.take 12 { dst := some 101, op := Op.load 29 (Operand.tmp 100), type := 29, pos := "desc.go:160", after := #[{ on := 11, ground := Ground.data }], guard := none } ?_ hHeld rfl (by kernel_rfl) (fun _ _ _ h => h) (by rfl) ?_ ?_
  rotate_left
  · intro wq hSw; have c0 := (hSw.cell _ (List.Mem.head _)).2; have c1 := (hSw.cell _ (List.Mem.tail _ (List.Mem.head _))).2; have c2 := (hSw.cell _ (List.Mem.tail _ (List.Mem.tail _ (List.Mem.head _)))).2; dsimp only at *; go_simp; try with_reducible rfl
  try simp only [Act.put, List.setIfInBounds_toArray, List.set_cons_zero, List.set_cons_succ]
  refine Kt.G.take 13 { dst := some 102, op := Op.load 9 (Operand.tmp 3), type := 9, pos := "desc.go:160", after := #[], guard := none } ?_ hHeld rfl (by kernel_rfl) (fun _ _ _ h => h) (by rfl) ?_ ?_
  rotate_left
  · intro wq hSw; have c0 := (hSw.cell _ (List.Mem.head _)).2; have c1 := (hSw.cell _ (List.Mem.tail _ (List.Mem.head _))).2; have c2 := (hSw.cell _ (List.Mem.tail _ (List.Mem.tail _ (List.Mem.head _)))).2; dsimp only at *; go_simp; try with_reducible rfl
  try simp only [Act.put, List.setIfInBounds_toArray, List.set_cons_zero, List.set_cons_succ]
  refine Kt.G.one 14 { dst := some 103, op := Op.buildSlice 29 1 #[(0, Operand.tmp 102)], type := 29, pos := "desc.go:160", after := #[{ on := 13, ground := Ground.data }], guard := none } rfl (by kernel_rfl) (by rfl) (fun K hK => ?_)
  go_simp
  refine hK.out _ _ (fun _ => hHeld.alloc _) (fun hHeld => ?_)
  have hHeld := hHeld rfl
  clear hK K
  try simp only [Act.put, List.setIfInBounds_toArray, List.set_cons_zero, List.set_cons_succ]
  have HN := Lib.hid (Kt.new_cells x1 #[.string S] 9)
  have HFF := Lib.hid (HFd.out.on (Kt.balloc (Below.refl _ x1) (.cells #[.string S] 9)))
  have HRF := Lib.hid (Kt.row_on (Kt.balloc (Below.refl _ x1) (.cells #[.string S] 9)) HRB.out)
  have hzz := hHeld.bel.size
  refine Kt.G.one 15 { dst := some 104, op := Op.call { callee := Callee.builtin Builtin.append, args := #[Operand.tmp 101, Operand.tmp 103], argTypes := #[29, 29] }, type := 29, pos := "desc.go:160", after := #[{ on := 12, ground := Ground.data }, { on := 14, ground := Ground.data }], guard := none } rfl (by kernel_rfl) (by rfl) (fun K hK => ?_)
  refine Kt.wp_append_sl _ (.tmp 101) (.tmp 103) 29 rfl w0.heap.size 9 (.string ByteArray.empty) 1 16 infoSt Try.underlying29 rfl (by decide) _ _ _ rfl (HFF.out.xs h0 hm0) _ 1 1 [.string S] rfl rfl HN.out (by simp [Value.oneCell']) (by have h1 := (HI.out.hm h0 hm0); have h2 := HI.out.hn; unfold maxLen; omega) (by have h1 := (HI.out.hm h0 hm0); have h2 := HI.out.hn; omega) hzz ?_
  intro A2 c2 w6 hs6 hb6 hz6 hk6 hl6
  refine hK.out _ _ (fun _ => Fc_kept hHeld hb6 hk6 (by intro c hc; simp only [List.mem_cons, List.not_mem_nil, or_false] at hc; rcases hc with rfl | rfl | rfl <;> first | exact HNB.out | exact HNG.out | exact HNZ.out)) (fun hHeld => ?_)
  have hHeld := hHeld rfl
  clear hK K
  try simp only [Act.put, List.setIfInBounds_toArray, List.set_cons_zero, List.set_cons_succ]
  refine Kt.G.takeP 16 { dst := some 105, op := Op.indexAddr 22 (Operand.tmp 92) (Operand.tmp 93), type := 0, pos := "desc.go:160", after := #[{ on := 3, ground := Ground.data }, { on := 4, ground := Ground.data }, { on := 0, ground := Ground.phase }, { on := 1, ground := Ground.phase }, { on := 2, ground := Ground.phase }, { on := 3, ground := Ground.phase }, { on := 4, ground := Ground.phase }, { on := 5, ground := Ground.phase }, { on := 6, ground := Ground.phase }, { on := 7, ground := Ground.phase }, { on := 8, ground := Ground.phase }, { on := 9, ground := Ground.phase }, { on := 10, ground := Ground.phase }, { on := 11, ground := Ground.phase }, { on := 12, ground := Ground.phase }, { on := 13, ground := Ground.phase }, { on := 14, ground := Ground.phase }, { on := 15, ground := Ground.phase }], guard := none } ?_ (fun _ => hHeld) rfl (by kernel_rfl) (fun _ _ _ h => h) (by rfl) ?_ ?_
  rotate_left
  · intro wq; go_simp; try with_reducible rfl
  try simp only [Act.put, List.setIfInBounds_toArray, List.set_cons_zero, List.set_cons_succ]
  refine Kt.G.takeP 17 { dst := some 106, op := Op.fieldAddr 32 (Operand.tmp 105) 4, type := 0, pos := "desc.go:160", after := #[{ on := 16, ground := Ground.data }, { on := 0, ground := Ground.phase }, { on := 1, ground := Ground.phase }, { on := 2, ground := Ground.phase }, { on := 3, ground := Ground.phase }, { on := 4, ground := Ground.phase }, { on := 5, ground := Ground.phase }, { on := 6, ground := Ground.phase }, { on := 7, ground := Ground.phase }, { on := 8, ground := Ground.phase }, { on := 9, ground := Ground.phase }, { on := 10, ground := Ground.phase }, { on := 11, ground := Ground.phase }, { on := 12, ground := Ground.phase }, { on := 13, ground := Ground.phase }, { on := 14, ground := Ground.phase }, { on := 15, ground := Ground.phase }], guard := none } ?_ (fun _ => hHeld) rfl (by kernel_rfl) (fun _ _ _ h => h) (by rfl) ?_ ?_
  rotate_left
  · intro wq; go_simp; try with_reducible rfl
  try simp only [Act.put, List.setIfInBounds_toArray, List.set_cons_zero, List.set_cons_succ]
  refine Kt.G.one 18 { dst := none, op := Op.store 29 (Operand.tmp 106) (Operand.tmp 104), type := 0, pos := "desc.go:160", after := #[{ on := 17, ground := Ground.data }, { on := 15, ground := Ground.data }, { on := 15, ground := Ground.chain }, { on := 0, ground := Ground.phase }, { on := 1, ground := Ground.phase }, { on := 2, ground := Ground.phase }, { on := 3, ground := Ground.phase }, { on := 4, ground := Ground.phase }, { on := 5, ground := Ground.phase }, { on := 6, ground := Ground.phase }, { on := 7, ground := Ground.phase }, { on := 8, ground := Ground.phase }, { on := 9, ground := Ground.phase }, { on := 10, ground := Ground.phase }, { on := 11, ground := Ground.phase }, { on := 12, ground := Ground.phase }, { on := 13, ground := Ground.phase }, { on := 14, ground := Ground.phase }, { on := 15, ground := Ground.phase }], guard := none } rfl (by kernel_rfl) (by rfl) (fun K hK => ?_)
  have cK := (hHeld.cell ((g, o + m * 6 + 4, .slice h0.xa h0.f.ex.length h0.xc)) (by simp)).2; have fK : ∀ j, w6.frozen? ⟨g, j, none⟩ = false := frz_kept HFF.out.sl hk6 HNG.out
  dsimp only at cK
  go_simp
  refine hK.out _ _ (Kt.G.late (by kernel_rfl)) (fun _ => ?_)
  clear hK K
  try simp only [Act.put, List.setIfInBounds_toArray, List.set_cons_zero, List.set_cons_succ]
  refine Kt.G.done (by kernel_rfl) (NoPanic.normal ?_) _
  have hF6 := fo_ex d HFF.out HM.out (by rw [hSd]; exact hs6) hk6 hl6
  have hR6 := (Kt.setCells_other [.slice A2 (h0.f.ex.length + 1) c2] g (o + m * 6 + 4) w6 b HNGB.out).trans ((hk6 b (Array.getElem?_eq_some_iff.1 HRF.out).1 HNB.out).trans HRF.out)
  have hBL := Kt.below_setCells [.slice A2 (h0.f.ex.length + 1) c2] g (o + m * 6 + 4) _ _ HGB.out hHeld.bel
  clear cK fK hk6 hl6 hs6 hb6 HFF hHeld
  go_wp2_with fail
  go_ret
  exact ⟨hBL, rfl, _, _, by rw [List.map_append]; rfl, hR6, hF6⟩
set_option maxRecDepth 100000 in
set_option maxHeartbeats 3200000 in
theorem add_bad (w0 : World) (a1 a2 a3 a4 : Int) (b : Nat) (V : Value) (l : List Fh) (n : Nat) (w : World) (d : List UInt8) (hi : AddIn w0 a1 a2 a3 a4 b V l n w) (hd : 2 ≤ d.length)
    (hc : (l = [] ∧ at' d 1 = 4 ∧ d.length ≠ 9) ∨ (l = [] ∧ at' d 1 ≠ 4) ∨ (l ≠ [] ∧ at' d 1 = 4 ∧ d.length ≠ 9) ∨ (l ≠ [] ∧ at' d 1 = 5 ∧ d.length ≠ 7) ∨ (l ≠ [] ∧ at' d 1 < 4)) :
    Calls Try.prog 40 #[.pointer (some ⟨b, 0, none⟩), .string (bs' d)] w (AddOut w0 a1 a2 a3 a4 b none) := by
  have hz := bs_size d
  have hS : 1 < (bs' d).size := by omega
  have h1 := get_at d 1 hS
  obtain ⟨A, c, rfl, _, _⟩ := hi.fo.sl.form
  have HB1 := Lib.hid (hi.bel.trans (Kt.balloc (Below.refl _ w) (.cells #[.string (bs' d)] 9)|>.mono hi.bel.size))
  have HRB := Lib.hid (Kt.row_on (Kt.balloc (Below.refl _ w) (.cells #[.string (bs' d)] 9)) hi.row)
  have HR2 := Lib.hid (heap_alloc_new w (.cells #[.string (bs' d)] 9))
  have hsz1 : (1 : Int) < ((bs' d).size : Int) := by omega
  have hrow := fun i => cell_of_row _ _ i _ _ _ HRB.out
  have hrow2 := fun i => cell_of_row _ _ i _ _ _ HR2.out
  have hblt : b < w.heap.size := (Array.getElem?_eq_some_iff.1 hi.row).1
  have hm := hi.hl
  have hn := hi.hn
  obtain ⟨m, hml⟩ : ∃ m, l.length = m := ⟨_, rfl⟩
  have hm0 : l = [] ↔ m = 0 := by rw [← hml, List.length_eq_zero_iff]
  simp only [ne_eq, hm0] at hc
  simp only [← h1, ← hz] at hc
  rw [hml] at hm hrow
  have hlen : wrap64 ((m : Int) - 1) = (m : Int) - 1 := by unfold wrap64; omega
  obtain ⟨b1, hb1⟩ : ∃ x, (bs' d)[1]'hS = x := ⟨_, rfl⟩
  rw [hb1] at hc
  generalize bs' d = S at *
  clear hi HRB hz h1 hm0 hml hd
  rcases hc with ⟨c1, c2, c3⟩ | ⟨c1, c2⟩ | ⟨c1, c2, c3⟩ | ⟨c1, c2, c3⟩ | ⟨c1, c2⟩
  · have q9 : ((S.size : Int) == 9) = false := by rw [beq_eq_false_iff_ne]; omega
    have hnl : decide (wrap64 ((m : Int) - 1) < 0) = true := decide_eq_true (by rw [hlen]; omega)
    clear c3
    clear hm hn c1 hlen
    go_enter Try.func40, Try.ntmps40
    go_wp2_with fail
    go_ret
    exact ⟨HB1.out, rfl⟩
  · have q4 : ((b1.toNat : Int) == 4) = false := by rw [beq_eq_false_iff_ne]; exact c2
    have hnl : decide (wrap64 ((m : Int) - 1) < 0) = true := decide_eq_true (by rw [hlen]; omega)
    clear hm hn c1 c2 hlen
    go_enter Try.func40, Try.ntmps40
    go_wp2_with fail
    go_ret
    exact ⟨HB1.out, rfl⟩
  · have q9 : ((S.size : Int) == 9) = false := by rw [beq_eq_false_iff_ne]; omega
    have hnl : decide (wrap64 ((m : Int) - 1) < 0) = false := decide_eq_false (by rw [hlen]; omega)
    clear c3
    clear hm hn c1 hlen
    go_enter Try.func40, Try.ntmps40
    go_wp2_with fail
    go_ret
    exact ⟨HB1.out, rfl⟩
  · have q7 : ((S.size : Int) == 7) = false := by rw [beq_eq_false_iff_ne]; omega
    have hnl : decide (wrap64 ((m : Int) - 1) < 0) = false := decide_eq_false (by rw [hlen]; omega)
    clear c3
    clear hm hn c1 hlen
    go_enter Try.func40, Try.ntmps40
    go_wp2_with fail
    go_ret
    exact ⟨HB1.out, rfl⟩
  · have q4 : ((b1.toNat : Int) == 4) = false := by rw [beq_eq_false_iff_ne]; omega
    have q5 : ((b1.toNat : Int) == 5) = false := by rw [beq_eq_false_iff_ne]; omega
    have q6 : decide ((6 : Int) ≤ b1.toNat) = false := decide_eq_false (by omega)
    have hnl : decide (wrap64 ((m : Int) - 1) < 0) = false := decide_eq_false (by rw [hlen]; omega)
    clear hm hn c1 c2 hlen
    go_enter Try.func40, Try.ntmps40
    go_wp2_with fail
    go_ret
    exact ⟨HB1.out, rfl⟩
end Go.Proofs.Ytmddfpmchcmgiaa
