/- slices.Insert of one span, walked. -/
import Derived.Test.YtdckakjfplhanaaArnC
import Derived.Test.YtdckakjfplhanaaApd
import Derived.Test.YtdckakjfplhanaaAny
import Derived.Lib.Overlaps
import Derived.Lib.AppendZerosOnto
import Derived.Laws.NewBlocks
import Derived.Deep.DeepAppendWide
namespace Go.Proofs.Ytdckakjfplhanaa
open Go.RowKit Go.Proofs.Ytdckakjfplhanaa.Arn
def sp1 (x : Int × Int) : List Value := [.int .i64 x.1, .int .i64 x.2]
theorem spv_ins (l : List (Int × Int)) (i : Nat) (x : Int × Int) (hi : i ≤ l.length) : spv (l.take i ++ x :: l.drop i) = (spv l).take (i * 2) ++ sp1 x ++ (spv l).drop (i * 2) := by
  have h : l = l.take i ++ l.drop i := (List.take_append_drop i l).symm
  have hlen : (spv (l.take i)).length = i * 2 := by rw [spv_len, List.length_take, Nat.min_eq_left hi]
  have h1 : (spv l).take (i * 2) = spv (l.take i) := by
    conv => lhs; rw [h, spv_app]
    exact List.take_left' hlen
  have h2 : (spv l).drop (i * 2) = spv (l.drop i) := by
    conv => lhs; rw [h, spv_app]
    exact List.drop_left' hlen
  rw [h1, h2, spv_app, List.append_assoc]
  rfl
/-- what Insert gives -/
def InsIs (B : Nat) (w : World) (l : List (Int × Int)) (i : Nat) (x : Int × Int) (e : Ending) (w' : World) : Prop :=
  ∃ A c, e = .returned (.slice A (l.length + 1) c) ∧ Kt.Sl w' B 30 2 (.slice A (l.length + 1) c) (l.length + 1) (spv (l.take i ++ x :: l.drop i)) ∧ Below B w w'
set_option maxRecDepth 100000 in
set_option maxHeartbeats 1600000 in
theorem insert_end (B : Nat) (A : Option Addr) (c : Nat) (l : List (Int × Int)) (x : Int × Int) (vb vc : Nat) (w : World) (hB : B ≤ w.heap.size) (hs : Kt.Sl w B 30 2 (.slice A l.length c) l.length (spv l)) (hl : l.length ≤ 64)
    (hv : Kt.Ar w (.slice (some ⟨vb, 0, none⟩) 1 vc) 2 1 (sp1 x)) :
    Calls Try.prog 21 #[.slice A l.length c, .int .i64 l.length, .slice (some ⟨vb, 0, none⟩) 1 vc] w (InsIs B w l l.length x) := by
  have HS := Lib.hid hs
  have HV := Lib.hid hv
  have HB := Lib.hid hB
  have HL := Lib.hid hl
  clear hs hv hB hl
  go_enter Try.func21, Try.ntmps21
  go_wp2_with
    (refine Kt.append_ar (by rfl) (.tmp 23) (.tmp 24) 22 rfl B 30 (.agg #[.int .i64 0, .int .i64 0]) 2 16 infoSp Try.underlying22 rfl (by decide) _ _ _ rfl HS.out _ _ _ rfl HV.out (by intro u hu; simp [sp1] at hu; rcases hu with rfl | rfl <;> rfl) (by have := HL.out; unfold maxLen; omega) (by have := HL.out; omega) HB.out ?_
     intro A2 c2 w2 hs2 hb2 hz2 hk2 hl2)
  all_goals
    clear hk2 hl2
    go_ret
    refine ⟨A2, c2, rfl, ?_, hb2⟩
    rw [List.take_length, List.drop_length, spv_app]
    exact hs2
theorem ov_apart (w : World) (vb g o lb cb vc kB : Nat) (tA tB : TypeId) (kA : Nat) (hne : vb ≠ g) (hsa : w.shape? vb = some (tA, kA)) (hsb : w.shape? g = some (tB, kB)) (hkB : kB ≠ 0) (hfa : w.frozen? ⟨vb, 0, none⟩ = false) (hfe : w.frozen? ⟨vb, kA, none⟩ = false) :
    (callFunc 29 #[.slice (some ⟨vb, 0, none⟩) 1 vc, .slice (some ⟨g, o, none⟩) lb cb]).run Try.prog w = .ok (.value (.bool false)) w := by
  rw [run_callFunc_extern Try.func29 (by kernel_rfl) (by kernel_rfl) (by kernel_rfl) (e := Extern.SlicesOverlaps.overlaps #[22, 22] #[4]) (by kernel_rfl),
    Lib.run_overlaps_apart w 22 4 30 Try.underlying22 2 (fun w => by kernel_rfl) ⟨vb, 0, none⟩ ⟨g, o, none⟩ 1 vc lb cb hne tA tB kA kB hsa hsb hkB hfa hfe]
  rfl
theorem size_sp : (Try.prog.info? 30).map (·.size) = some 2 := by
  obtain ⟨i0, hi, _, hz1, _⟩ := info_parts infoSp
  rw [hi]; simp [hz1]
theorem shape_row {w : World} {g : Nat} {cs : Array Value} {t : TypeId} (h : w.heap[g]? = some (.cells cs t (0, 0))) : w.shape? g = some (t, cs.size) := by
  simp [World.shape?, h]
theorem wrap_succ (k : Nat) (h : k ≤ 64) : wrap64 ((k : Int) + 1) = (k : Int) + 1 := by unfold wrap64; omega
theorem wrap_succ' (k : Nat) (h : k ≤ 64) : IntKind.i64.wrap ((k : Int) + 1) = (k : Int) + 1 := IntWalk.i64_in _ (by omega)
set_option maxRecDepth 100000 in
set_option maxHeartbeats 1600000 in
theorem insert_shift (B g o c : Nat) (l : List (Int × Int)) (i : Nat) (x : Int × Int) (vb vc : Nat) (w : World) (hB : B ≤ w.heap.size) (hs : Kt.Sl w B 30 2 (.slice (some ⟨g, o, none⟩) l.length c) l.length (spv l)) (hl : l.length ≤ 64) (hi : i < l.length)
    (hv : w.heap[vb]? = some (.cells #[.int .i64 x.1, .int .i64 x.2] 30 (0, 0))) (hne : vb ≠ g) (hc : l.length + 1 ≤ c) :
    Calls Try.prog 21 #[.slice (some ⟨g, o, none⟩) l.length c, .int .i64 i, .slice (some ⟨vb, 0, none⟩) 1 vc] w (InsIs B w l i x) := by
  rcases hs.2 with ⟨hv0, _⟩ | ⟨g', o', cap', cur, hve, hbg, hg, hn, hcm, hsz, hx⟩
  · cases hv0
  cases hve
  have hln := spv_len l
  have hov := fun o' lb cb => ov_apart w vb g o' lb cb vc cur.size 30 30 2 hne (shape_row hv) (shape_row hg) (by omega) (frozen_of_row _ _ _ _ _ hv) (frozen_of_row _ _ _ _ _ hv)
  have hdl : ((spv l).drop (i * 2)).length = (l.length - i) * 2 := by rw [List.length_drop, hln]; omega
  have hcells : ∀ (W : World), W.heap[g]? = w.heap[g]? → ∀ j, j < c * 2 → (W.cell? ⟨g, o + j, none⟩).isSome = true := fun W hW j hj => by
    rw [cell_of_row _ _ _ _ _ _ (hW.trans hg), Array.getElem?_eq_getElem (by omega)]; rfl
  have hcp1 : ∀ ty dc sc, (Builtin.copy_ #[22, 22] ty #[.slice (some ⟨g, o + (i + 1) * 2, none⟩) (l.length - i) dc, .slice (some ⟨g, o + i * 2, none⟩) (l.length + 1 - i) sc]).run Try.prog w.drew = .ok (goInt (Nat.min (l.length + 1 - i) (l.length - i))) (w.drew.setCells g (o + (i + 1) * 2) ((spv l).drop (i * 2))) := fun ty dc sc =>
    run_copy_sz 2 w.drew _ _ ty 30 g (o + (i + 1) * 2) _ dc ⟨g, o + i * 2, none⟩ _ sc ((spv l).drop (i * 2)) Try.underlying22 size_sp (by rw [hdl]; congr 1; simp only [Nat.min_def]; split <;> omega)
      (fun j v hj => by
        rw [List.getElem?_drop] at hj
        rw [Addr.add_lit, Nat.add_assoc]
        exact (cell_of_row w g (o + (i * 2 + j)) cur _ _ hg).trans (hx _ _ hj))
      (fun j hj => by rw [hdl] at hj; rw [Nat.add_assoc]; exact hcells w.drew rfl _ (by omega)) (fun j hj => frozen_of_row _ _ _ _ _ hg) (fun v hv => spv_one l v (List.mem_of_mem_drop hv))
  obtain ⟨W1, hW1⟩ : ∃ W1, w.drew.setCells g (o + (i + 1) * 2) ((spv l).drop (i * 2)) = W1 := ⟨_, rfl⟩
  rw [hW1] at hcp1
  have hv1 : W1.heap[vb]? = some (.cells #[.int .i64 x.1, .int .i64 x.2] 30 (0, 0)) := by rw [← hW1]; exact (Kt.setCells_other _ _ _ _ _ hne).trans hv
  obtain ⟨cu1, hg1, hz1, _⟩ := Kt.setCells_all ((spv l).drop (i * 2)) g (o + (i + 1) * 2) w.drew cur hg (by rw [hdl]; omega)
  rw [hW1] at hg1
  have hcp2 : ∀ ty dc, (Builtin.copy_ #[22, 22] ty #[.slice (some ⟨g, o + i * 2, none⟩) (l.length + 1 - i) dc, .slice (some ⟨vb, 0, none⟩) 1 vc]).run Try.prog W1 = .ok (goInt (Nat.min 1 (l.length + 1 - i))) (W1.setCells g (o + i * 2) (sp1 x)) := fun ty dc =>
    run_copy_sz 2 W1 _ _ ty 30 g (o + i * 2) _ dc ⟨vb, 0, none⟩ _ vc (sp1 x) Try.underlying22 size_sp (by show 2 = _; simp only [Nat.min_def]; split <;> omega)
      (fun j v hj => by
        rw [Addr.add_lit]
        refine (cell_of_row W1 vb (0 + j) _ _ _ hv1).trans ?_
        rw [Nat.zero_add, ← Array.getElem?_toList]; exact hj)
      (fun j hj => by rw [cell_of_row _ _ _ _ _ _ hg1, Array.getElem?_eq_getElem (by have : (sp1 x).length = 2 := rfl; omega)]; rfl) (fun j hj => frozen_of_row _ _ _ _ _ hg1) (by intro u hu; simp [sp1] at hu; rcases hu with rfl | rfl <;> rfl)
  have HFIN : Hid (Kt.Sl (W1.setCells g (o + i * 2) (sp1 x)) B 30 2 (.slice (some ⟨g, o, none⟩) (l.length + 1) c) (l.length + 1) (spv (l.take i ++ x :: l.drop i)) ∧ Below B w (W1.setCells g (o + i * 2) (sp1 x))) := Lib.hid (by
    obtain ⟨cu2, r1, r2, r3⟩ := Kt.ins_row (e := 30) (w := w.drew) (g := g) (o := o) (p := i * 2) (cur := cur) (xs := spv l) (vs := sp1 x) hg (by rw [hln]; omega) (by show o + (spv l).length + 2 ≤ _; rw [hln]; omega) (fun j v _ hj => hx j v hj)
    rw [show o + (i * 2 + (sp1 x).length) = o + (i + 1) * 2 by show o + (i * 2 + 2) = _; omega, hW1] at r1
    rw [← spv_ins l i x (by omega)] at r3
    refine ⟨⟨by rw [spv_len]; simp; omega, .inr ⟨g, o, c, cu2, rfl, hbg, r1, by omega, hcm, by rw [r2]; exact hsz, r3⟩⟩, ?_⟩
    rw [← hW1]
    exact Kt.below_setCells _ _ _ _ _ hbg (Kt.below_setCells _ _ _ _ _ hbg (Below.refl _ _).drew))
  have e1 : (i : Int) < l.length := by omega
  have e2 : ((i : Int) == l.length) = false := by rw [beq_eq_false_iff_ne]; omega
  have e3 : (l.length : Int) + 1 ≤ c := by omega
  have e4 := wrap_succ l.length hl
  have e5 := wrap_succ i (Nat.le_of_lt (Nat.lt_of_lt_of_le hi hl))
  have HW1 := Lib.hid hW1
  have HC1 := Lib.hid hcp1
  have HC2 := Lib.hid hcp2
  clear hW1 hg1 hz1 hv1 hcells hdl hx hsz hg hv hs hln hcp1 hcp2
  go_enter Try.func21, Try.ntmps21
  go_wp2_with fail
  have f1 : IntKind.i64.wrap ((i : Int) + 1) = (i : Int) + 1 := wrap_succ' i (Nat.le_of_lt (Nat.lt_of_lt_of_le hi hl))
  have f2 : (0 : Int) ≤ (i : Int) + 1 := Int.add_nonneg (Int.natCast_nonneg i) (by decide)
  have f3 : (i : Int) + 1 ≤ (l.length : Int) + 1 := Int.add_le_add_right (Int.le_of_lt e1) 1
  have f4 : ((i : Int) + 1).toNat = i + 1 := rfl
  have f5 : ¬ (c = i + 1) := fun e => absurd hc (by rw [e]; exact Nat.not_le_of_lt (Nat.succ_lt_succ hi))
  have f6 : (i : Int) ≤ (l.length : Int) + 1 := Int.le_trans (Int.le_of_lt e1) (Int.le_add_of_nonneg_right (by decide))
  have f7 : ¬ (c = i) := fun e => absurd hc (by rw [e]; exact Nat.not_le_of_lt (Nat.lt_succ_of_lt hi))
  refine Kt.G.start 8 (fun _ => True) (by kernel_rfl) trivial (fun hHeld => ?_)
  refine Kt.G.takeP 0 { dst := some 69, op := Op.move (Operand.tmp 0), type := 22, pos := "slices.go:178", after := #[], guard := none } ?_ (fun _ => hHeld) rfl (by kernel_rfl) (fun _ _ _ h => h) (by rfl) ?_ ?_
  rotate_left
  · intro w; go_simp; try with_reducible rfl
  try simp only [Act.put, List.setIfInBounds_toArray, List.set_cons_zero, List.set_cons_succ]
  refine Kt.G.takeP 1 { dst := some 70, op := Op.move (Operand.tmp 1), type := 3, pos := "slices.go:178", after := #[], guard := none } ?_ (fun _ => hHeld) rfl (by kernel_rfl) (fun _ _ _ h => h) (by rfl) ?_ ?_
  rotate_left
  · intro w; go_simp; try with_reducible rfl
  try simp only [Act.put, List.setIfInBounds_toArray, List.set_cons_zero, List.set_cons_succ]
  refine Kt.G.takeP 2 { dst := some 71, op := Op.move (Operand.tmp 7), type := 3, pos := "slices.go:178", after := #[], guard := none } ?_ (fun _ => hHeld) rfl (by kernel_rfl) (fun _ _ _ h => h) (by rfl) ?_ ?_
  rotate_left
  · intro w; go_simp; try with_reducible rfl
  try simp only [Act.put, List.setIfInBounds_toArray, List.set_cons_zero, List.set_cons_succ]
  refine Kt.G.takeP 3 { dst := some 72, op := Op.binOp BinOp.add 3 (Operand.tmp 70) (Operand.tmp 71) 3, type := 3, pos := "slices.go:178", after := #[{ on := 1, ground := Ground.data }, { on := 2, ground := Ground.data }], guard := none } ?_ (fun _ => hHeld) rfl (by kernel_rfl) (fun _ _ _ h => h) (by rfl) ?_ ?_
  rotate_left
  · intro w; go_simp; try with_reducible rfl
  try simp only [Act.put, List.setIfInBounds_toArray, List.set_cons_zero, List.set_cons_succ]
  refine Kt.G.takeP 4 { dst := some 73, op := Op.slice 22 (Operand.tmp 69) (some (Operand.tmp 72)) none none, type := 22, pos := "slices.go:178", after := #[{ on := 0, ground := Ground.data }, { on := 3, ground := Ground.data }], guard := none } ?_ (fun _ => hHeld) rfl (by kernel_rfl) (fun _ _ _ h => h) (by rfl) ?_ ?_
  rotate_left
  · intro w; go_simp; try with_reducible rfl
  try simp only [Act.put, List.setIfInBounds_toArray, List.set_cons_zero, List.set_cons_succ]
  refine Kt.G.takeP 5 { dst := some 74, op := Op.move (Operand.tmp 0), type := 22, pos := "slices.go:178", after := #[], guard := none } ?_ (fun _ => hHeld) rfl (by kernel_rfl) (fun _ _ _ h => h) (by rfl) ?_ ?_
  rotate_left
  · intro w; go_simp; try with_reducible rfl
  try simp only [Act.put, List.setIfInBounds_toArray, List.set_cons_zero, List.set_cons_succ]
  refine Kt.G.takeP 6 { dst := some 75, op := Op.move (Operand.tmp 1), type := 3, pos := "slices.go:178", after := #[], guard := none } ?_ (fun _ => hHeld) rfl (by kernel_rfl) (fun _ _ _ h => h) (by rfl) ?_ ?_
  rotate_left
  · intro w; go_simp; try with_reducible rfl
  try simp only [Act.put, List.setIfInBounds_toArray, List.set_cons_zero, List.set_cons_succ]
  refine Kt.G.takeP 7 { dst := some 76, op := Op.slice 22 (Operand.tmp 74) (some (Operand.tmp 75)) none none, type := 22, pos := "slices.go:178", after := #[{ on := 5, ground := Ground.data }, { on := 6, ground := Ground.data }], guard := none } ?_ (fun _ => hHeld) rfl (by kernel_rfl) (fun _ _ _ h => h) (by rfl) ?_ ?_
  rotate_left
  · intro w; go_simp; try with_reducible rfl
  try simp only [Act.put, List.setIfInBounds_toArray, List.set_cons_zero, List.set_cons_succ]
  refine Kt.G.one 8 { dst := some 77, op := Op.call { callee := Callee.builtin Builtin.copy, args := #[Operand.tmp 73, Operand.tmp 76], argTypes := #[22, 22] }, type := 3, pos := "slices.go:178", after := #[{ on := 4, ground := Ground.data }, { on := 7, ground := Ground.data }], guard := none } rfl (by kernel_rfl) (by rfl) (fun K hK => ?_)
  refine wp_copy_run _ (.tmp 73) (.tmp 76) 22 22 rfl _ _ rfl rfl (HC1.out _ _ _) ?_
  refine hK.out _ _ (Kt.G.late (by kernel_rfl)) (fun _ => ?_)
  clear hK K
  try simp only [Act.put, List.setIfInBounds_toArray, List.set_cons_zero, List.set_cons_succ]
  refine Kt.G.done (by kernel_rfl) (NoPanic.normal ?_) _
  clear hHeld hov
  go_wp2_with (refine wpList_copy_run _ rfl (.tmp 80) (.tmp 81) 22 22 rfl _ _ rfl rfl (HC2.out _ _) ?_)
  go_ret
  exact ⟨_, _, rfl, HFIN.out.1, HFIN.out.2⟩
theorem Kt.ins_row2 {e : TypeId} {w : World} {g p : Nat} {cur : Array Value} {xs vs : List Value} (h : w.heap[g]? = some (.cells cur e (0, 0))) (hp : p ≤ xs.length) (hs : xs.length + vs.length ≤ cur.size) (hx : ∀ (j : Nat) (v : Value), j < p → xs[j]? = some v → cur[j]? = some v) :
    ∃ cur' : Array Value, ((w.setCells g p vs).setCells g (p + vs.length) (xs.drop p)).heap[g]? = some (.cells cur' e (0, 0)) ∧ cur'.size = cur.size ∧ ∀ (j : Nat) (v : Value), (xs.take p ++ vs ++ xs.drop p)[j]? = some v → cur'[j]? = some v := by
  obtain ⟨c1, a1, a2, a3, a4, a5⟩ := Kt.setCells_all vs g p w cur h (by omega)
  obtain ⟨c2, b1, b2, b3, b4, b5⟩ := Kt.setCells_all (xs.drop p) g (p + vs.length) _ c1 a1 (by rw [a2, List.length_drop]; omega)
  refine ⟨c2, b1, by rw [b2, a2], fun j v hj => ?_⟩
  have hl : (xs.take p).length = p := by rw [List.length_take]; omega
  rw [List.append_assoc, List.getElem?_append] at hj
  by_cases c1' : j < p
  · rw [if_pos (by omega), List.getElem?_take, if_pos c1'] at hj
    rw [b3 _ (by omega), a3 _ (by omega)]
    exact hx j v c1' hj
  · rw [if_neg (by omega), hl, List.getElem?_append] at hj
    by_cases c2' : j - p < vs.length
    · rw [if_pos c2'] at hj
      rw [b3 _ (by omega)]
      have := a4 _ _ hj
      rwa [show p + (j - p) = j by omega] at this
    · rw [if_neg c2'] at hj
      have := b4 _ _ hj
      rwa [show p + vs.length + (j - p - vs.length) = j by omega] at this
theorem wrap_sub (n i : Nat) (h : n ≤ 64) (hi : i < n) : wrap64 ((n : Int) + 1 - (i : Int)) = (n : Int) + 1 - (i : Int) := by unfold wrap64; omega
theorem drew_sets (b : Nat) : ∀ (vs : List Value) (o : Nat) (w : World), w.drew.setCells b o vs = (w.setCells b o vs).drew
  | [], _, _ => rfl
  | v :: r, o, w => by rw [World.setCells, World.setCells, ← drew_sets b r]; rfl
theorem zero_len (k : Nat) : (Builtin.zeroCells (Value.agg #[.int .i64 0, .int .i64 0]).cells k).size = k * 2 := by
  simp [Builtin.zeroCells, Value.cells]
set_option maxRecDepth 100000 in
set_option maxHeartbeats 1600000 in
theorem insert_grow (B g o c : Nat) (l : List (Int × Int)) (i : Nat) (x : Int × Int) (vb vc : Nat) (w : World) (hB : B ≤ w.heap.size) (hs : Kt.Sl w B 30 2 (.slice (some ⟨g, o, none⟩) l.length c) l.length (spv l)) (hl : l.length ≤ 64) (hi : i < l.length)
    (hv : w.heap[vb]? = some (.cells #[.int .i64 x.1, .int .i64 x.2] 30 (0, 0))) (hc : c < l.length + 1) :
    Calls Try.prog 21 #[.slice (some ⟨g, o, none⟩) l.length c, .int .i64 i, .slice (some ⟨vb, 0, none⟩) 1 vc] w (InsIs B w l i x) := by
  rcases hs.2 with ⟨hv0, _⟩ | ⟨g', o', cap', cur, hve, hbg, hg, hn, hcm, hsz, hx⟩
  · cases hv0
  cases hve
  have hln := spv_len l
  obtain ⟨i0, hi0, hz0, hzs, hzb⟩ := info_parts infoSp
  have hgw : g < w.heap.size := (Array.getElem?_eq_some_iff.1 hg).1
  have hvw : vb < w.heap.size := (Array.getElem?_eq_some_iff.1 hv).1
  have hold : (Builtin.firstCells i0.size i (.slice (some ⟨g, o, none⟩) i c)).run Try.prog w.drew = .ok ((spv l).take (i * 2)).toArray w.drew := by
    rw [hzs]
    exact run_firstCells_some w.drew 2 i ⟨g, o, none⟩ i c ((spv l).take (i * 2)) (by rw [List.length_take, hln]; omega) (fun j v hj => by
      rw [Addr.add_lit]
      rw [List.getElem?_take] at hj
      split at hj
      · exact (cell_of_row w g (o + j) cur _ _ hg).trans (hx j v hj)
      · cases hj)
  have hik : i + (l.length + 1 - i) = l.length + 1 := by omega
  have hrz : ∀ ty, (Builtin.append_ #[22, 3] ty #[.slice (some ⟨g, o, none⟩) i c, .int .i64 ((l.length : Int) + 1 - (i : Int))]).run Try.prog w =
      .ok (.slice (some ⟨w.heap.size, 0, none⟩) (l.length + 1) (grownCap w (l.length + 1) c 30)) (w.drew.alloc (.cells (((spv l).take (i * 2)).toArray ++ Builtin.zeroCells (Value.agg #[.int .i64 0, .int .i64 0]).cells (l.length + 1 - i) ++ Builtin.zeroCells (Value.agg #[.int .i64 0, .int .i64 0]).cells (grownCap w (l.length + 1) c 30 - (l.length + 1))) 30)) := fun ty => by
    have h := Lib.run_append_grow_zeros w 22 3 ty 30 i0 _ .i64 .i64 Try.underlying22 Try.underlying3 hi0 hz0 (some ⟨g, o, none⟩) i c ((spv l).take (i * 2)) hold (l.length + 1 - i) (by omega) (by omega) (by omega) (by omega) (by rw [hzb]; omega) (by rw [hzb, hik]; exact growslice_fits hc (by omega))
    rw [hik] at h
    rw [show (l.length : Int) + 1 - (i : Int) = ((l.length + 1 - i : Nat) : Int) by omega]
    exact h
  obtain ⟨G, hG⟩ : ∃ G, grownCap w (l.length + 1) c 30 = G := ⟨_, rfl⟩
  obtain ⟨ROW, hROW⟩ : ∃ ROW : Array Value, ((spv l).take (i * 2)).toArray ++ Builtin.zeroCells (Value.agg #[.int .i64 0, .int .i64 0]).cells (l.length + 1 - i) ++ Builtin.zeroCells (Value.agg #[.int .i64 0, .int .i64 0]).cells (G - (l.length + 1)) = ROW := ⟨_, rfl⟩
  have hGn : l.length + 1 ≤ G := by rw [← hG]; exact grownCap_ge w _ _ _
  have hGm : G ≤ maxLen := by rw [← hG]; exact grownCap_le_maxLen w _ _ _ (by unfold maxLen; omega)
  rw [hG, hROW] at hrz
  have htl : ((spv l).take (i * 2)).length = i * 2 := by rw [List.length_take, hln]; omega
  have hRz : ROW.size = G * 2 := by
    rw [← hROW, Array.size_append, Array.size_append, zero_len, zero_len, List.size_toArray, htl]
    omega
  have hRx : ∀ j v, j < i * 2 → (spv l)[j]? = some v → ROW[j]? = some v := fun j v hj hv => by
    rw [← hROW, Array.append_assoc, Array.getElem?_append_left (by rw [List.size_toArray, htl]; exact hj), List.getElem?_toArray, List.getElem?_take, if_pos hj]
    exact hv
  obtain ⟨N, hN⟩ : ∃ N, w.heap.size = N := ⟨_, rfl⟩
  obtain ⟨W1, hW1⟩ : ∃ W1, w.drew.alloc (.cells ROW 30) = W1 := ⟨_, rfl⟩
  rw [hW1, hN] at hrz
  have r1 : W1.heap[N]? = some (.cells ROW 30 (0, 0)) := by rw [← hW1, ← hN]; exact heap_alloc_new w.drew _
  have hb1 : Below w.heap.size w W1 := by rw [← hW1]; exact Kt.balloc (Below.refl _ w).drew _
  have rg1 : W1.heap[g]? = some (.cells cur 30 (0, 0)) := Kt.row_on hb1 hg
  have rv1 : W1.heap[vb]? = some (.cells #[.int .i64 x.1, .int .i64 x.2] 30 (0, 0)) := Kt.row_on hb1 hv
  have hdl : ((spv l).drop (i * 2)).length = (l.length - i) * 2 := by rw [List.length_drop, hln]; omega
  have hcpA : ∀ ty dc, (Builtin.copy_ #[22, 22] ty #[.slice (some ⟨N, i * 2, none⟩) (l.length + 1 - i) dc, .slice (some ⟨vb, 0, none⟩) 1 vc]).run Try.prog W1 = .ok (goInt (Nat.min 1 (l.length + 1 - i))) (W1.setCells N (i * 2) (sp1 x)) := fun ty dc =>
    run_copy_sz 2 W1 _ _ ty 30 N (i * 2) _ dc ⟨vb, 0, none⟩ _ vc (sp1 x) Try.underlying22 size_sp (by show 2 = _; simp only [Nat.min_def]; split <;> omega)
      (fun j v hj => by
        rw [Addr.add_lit]
        refine (cell_of_row W1 vb (0 + j) _ _ _ rv1).trans ?_
        rw [Nat.zero_add, ← Array.getElem?_toList]; exact hj)
      (fun j hj => by rw [cell_of_row _ _ _ _ _ _ r1, Array.getElem?_eq_getElem (by have : (sp1 x).length = 2 := rfl; omega)]; rfl) (fun j hj => frozen_of_row _ _ _ _ _ r1) (by intro u hu; simp [sp1] at hu; rcases hu with rfl | rfl <;> rfl)
  obtain ⟨W2, hW2⟩ : ∃ W2, W1.setCells N (i * 2) (sp1 x) = W2 := ⟨_, rfl⟩
  rw [hW2] at hcpA
  obtain ⟨cu2, r2, rz2, _⟩ := Kt.setCells_all (sp1 x) N (i * 2) W1 ROW r1 (by rw [hRz]; show i * 2 + 2 ≤ _; omega)
  rw [hW2] at r2
  have rg2 : W2.heap[g]? = some (.cells cur 30 (0, 0)) := by rw [← hW2]; exact (Kt.setCells_other _ _ _ _ _ (by omega)).trans rg1
  have hcpB : ∀ ty dc sc, (Builtin.copy_ #[22, 22] ty #[.slice (some ⟨N, (i + 1) * 2, none⟩) (l.length - i) dc, .slice (some ⟨g, o + i * 2, none⟩) (l.length - i) sc]).run Try.prog W2.drew = .ok (goInt (Nat.min (l.length - i) (l.length - i))) (W2.drew.setCells N ((i + 1) * 2) ((spv l).drop (i * 2))) := fun ty dc sc =>
    run_copy_sz 2 W2.drew _ _ ty 30 N ((i + 1) * 2) _ dc ⟨g, o + i * 2, none⟩ _ sc ((spv l).drop (i * 2)) Try.underlying22 size_sp (by rw [hdl]; congr 1; simp only [Nat.min_def]; split <;> omega)
      (fun j v hj => by
        rw [List.getElem?_drop] at hj
        rw [Addr.add_lit, Nat.add_assoc]
        exact (cell_of_row W2 g (o + (i * 2 + j)) cur _ _ rg2).trans (hx _ _ hj))
      (fun j hj => by
        rw [hdl] at hj
        refine (congrArg Option.isSome (cell_of_row W2 N _ _ _ _ r2)).trans ?_
        rw [Array.getElem?_eq_getElem (by omega)]; rfl) (fun j hj => frozen_of_row W2 _ _ _ _ r2) (fun v hv => spv_one l v (List.mem_of_mem_drop hv))
  have HFIN : Hid (Kt.Sl (W2.drew.setCells N ((i + 1) * 2) ((spv l).drop (i * 2))) B 30 2 (.slice (some ⟨N, 0, none⟩) (l.length + 1) G) (l.length + 1) (spv (l.take i ++ x :: l.drop i)) ∧ Below B w (W2.drew.setCells N ((i + 1) * 2) ((spv l).drop (i * 2)))) := Lib.hid (by
    obtain ⟨cu3, s1, s2, s3⟩ := Kt.ins_row2 (e := 30) (w := W1) (g := N) (p := i * 2) (cur := ROW) (xs := spv l) (vs := sp1 x) r1 (by rw [hln]; omega) (by rw [hRz, hln]; show l.length * 2 + 2 ≤ _; omega) hRx
    rw [show i * 2 + (sp1 x).length = (i + 1) * 2 by show i * 2 + 2 = _; omega, hW2] at s1
    rw [← spv_ins l i x (by omega)] at s3
    have s1' : (W2.drew.setCells N ((i + 1) * 2) ((spv l).drop (i * 2))).heap[N]? = some (.cells cu3 30 (0, 0)) := by
      rw [← s1, drew_sets]; rfl
    refine ⟨⟨by rw [spv_len]; simp; omega, .inr ⟨N, 0, G, cu3, rfl, by omega, s1', hGn, hGm, by rw [s2, hRz]; omega, fun j v hj => by rw [Nat.zero_add]; exact s3 j v hj⟩⟩, ?_⟩
    refine Kt.below_setCells _ _ _ _ _ (by omega) ?_
    rw [← hW2]
    exact (Kt.below_setCells _ _ _ _ _ (by omega) (hb1.mono hB)).drew)
  have e1 : (i : Int) < l.length := Int.ofNat_lt.2 hi
  have e2 : ((i : Int) == l.length) = false := by rw [beq_eq_false_iff_ne]; exact Int.ne_of_lt e1
  have e3 : (c : Int) < (l.length : Int) + 1 := by exact_mod_cast hc
  have e4 := wrap_succ l.length hl
  have e6 := wrap_sub l.length i hl hi
  have f1 : IntKind.i64.wrap ((i : Int) + 1) = (i : Int) + 1 := wrap_succ' i (Nat.le_of_lt (Nat.lt_of_lt_of_le hi hl))
  have f2 : (0 : Int) ≤ (i : Int) + 1 := Int.add_nonneg (Int.natCast_nonneg i) (by decide)
  have f3 : (i : Int) + 1 ≤ (l.length : Int) + 1 := Int.add_le_add_right (Int.le_of_lt e1) 1
  have f4 : ((i : Int) + 1).toNat = i + 1 := rfl
  have f5 : ¬ (G = i + 1) := fun e => absurd hGn (by rw [e]; exact Nat.not_le_of_lt (Nat.succ_lt_succ hi))
  have f6 : (i : Int) ≤ (l.length : Int) + 1 := Int.le_trans (Int.le_of_lt e1) (Int.le_add_of_nonneg_right (by decide))
  have f7 : ¬ (G = i) := fun e => absurd hGn (by rw [e]; exact Nat.not_le_of_lt (Nat.lt_succ_of_lt hi))
  have f8 : ¬ (c = i) := fun e => absurd hn (by rw [e]; exact Nat.not_le_of_lt hi)
  have HRZ := Lib.hid hrz
  have HCA := Lib.hid hcpA
  have HCB := Lib.hid hcpB
  clear hrz hcpA hcpB hold hik hG hROW hRz hRx htl hdl hN hW1 hW2 r1 r2 rz2 rg1 rg2 rv1 hb1 hx hsz hg hv hs hln hgw hvw hi0 hz0 hzs hzb hGn hGm
  go_enter Try.func21, Try.ntmps21
  go_upto_region 9 with (fail)
  have hca := HCA.out
  go_wp2_with (at_builtin; refine Lib.wpList_append_run _ rfl (.tmp 34) (.tmp 39) _ _ rfl _ _ rfl rfl _ _ (HRZ.out _) ?_)
  clear hca
  have f9 : (i : Int) ≤ (l.length : Int) := Int.le_of_lt e1
  refine Kt.G.start 8 (fun _ => True) (by kernel_rfl) trivial (fun hHeld => ?_)
  refine Kt.G.takeP 0 { dst := some 46, op := Op.move (Operand.tmp 9), type := 22, pos := "slices.go:154", after := #[], guard := none } ?_ (fun _ => hHeld) rfl (by kernel_rfl) (fun _ _ _ h => h) (by rfl) ?_ ?_
  rotate_left
  · intro w; go_simp; try with_reducible rfl
  try simp only [Act.put, List.setIfInBounds_toArray, List.set_cons_zero, List.set_cons_succ]
  refine Kt.G.takeP 1 { dst := some 47, op := Op.move (Operand.tmp 1), type := 3, pos := "slices.go:154", after := #[], guard := none } ?_ (fun _ => hHeld) rfl (by kernel_rfl) (fun _ _ _ h => h) (by rfl) ?_ ?_
  rotate_left
  · intro w; go_simp; try with_reducible rfl
  try simp only [Act.put, List.setIfInBounds_toArray, List.set_cons_zero, List.set_cons_succ]
  refine Kt.G.takeP 2 { dst := some 48, op := Op.move (Operand.tmp 7), type := 3, pos := "slices.go:154", after := #[], guard := none } ?_ (fun _ => hHeld) rfl (by kernel_rfl) (fun _ _ _ h => h) (by rfl) ?_ ?_
  rotate_left
  · intro w; go_simp; try with_reducible rfl
  try simp only [Act.put, List.setIfInBounds_toArray, List.set_cons_zero, List.set_cons_succ]
  refine Kt.G.takeP 3 { dst := some 49, op := Op.binOp BinOp.add 3 (Operand.tmp 47) (Operand.tmp 48) 3, type := 3, pos := "slices.go:154", after := #[{ on := 1, ground := Ground.data }, { on := 2, ground := Ground.data }], guard := none } ?_ (fun _ => hHeld) rfl (by kernel_rfl) (fun _ _ _ h => h) (by rfl) ?_ ?_
  rotate_left
  · intro w; go_simp; try with_reducible rfl
  try simp only [Act.put, List.setIfInBounds_toArray, List.set_cons_zero, List.set_cons_succ]
  refine Kt.G.takeP 4 { dst := some 50, op := Op.slice 22 (Operand.tmp 46) (some (Operand.tmp 49)) none none, type := 22, pos := "slices.go:154", after := #[{ on := 0, ground := Ground.data }, { on := 3, ground := Ground.data }], guard := none } ?_ (fun _ => hHeld) rfl (by kernel_rfl) (fun _ _ _ h => h) (by rfl) ?_ ?_
  rotate_left
  · intro w; go_simp; try with_reducible rfl
  try simp only [Act.put, List.setIfInBounds_toArray, List.set_cons_zero, List.set_cons_succ]
  refine Kt.G.takeP 5 { dst := some 51, op := Op.move (Operand.tmp 0), type := 22, pos := "slices.go:154", after := #[], guard := none } ?_ (fun _ => hHeld) rfl (by kernel_rfl) (fun _ _ _ h => h) (by rfl) ?_ ?_
  rotate_left
  · intro w; go_simp; try with_reducible rfl
  try simp only [Act.put, List.setIfInBounds_toArray, List.set_cons_zero, List.set_cons_succ]
  refine Kt.G.takeP 6 { dst := some 52, op := Op.move (Operand.tmp 1), type := 3, pos := "slices.go:154", after := #[], guard := none } ?_ (fun _ => hHeld) rfl (by kernel_rfl) (fun _ _ _ h => h) (by rfl) ?_ ?_
  rotate_left
  · intro w; go_simp; try with_reducible rfl
  try simp only [Act.put, List.setIfInBounds_toArray, List.set_cons_zero, List.set_cons_succ]
  refine Kt.G.takeP 7 { dst := some 53, op := Op.slice 22 (Operand.tmp 51) (some (Operand.tmp 52)) none none, type := 22, pos := "slices.go:154", after := #[{ on := 5, ground := Ground.data }, { on := 6, ground := Ground.data }], guard := none } ?_ (fun _ => hHeld) rfl (by kernel_rfl) (fun _ _ _ h => h) (by rfl) ?_ ?_
  rotate_left
  · intro w; go_simp; try with_reducible rfl
  try simp only [Act.put, List.setIfInBounds_toArray, List.set_cons_zero, List.set_cons_succ]
  refine Kt.G.one 8 { dst := some 54, op := Op.call { callee := Callee.builtin Builtin.copy, args := #[Operand.tmp 50, Operand.tmp 53], argTypes := #[22, 22] }, type := 3, pos := "slices.go:154", after := #[{ on := 4, ground := Ground.data }, { on := 7, ground := Ground.data }], guard := none } rfl (by kernel_rfl) (by rfl) (fun K hK => ?_)
  refine wp_copy_run _ (.tmp 50) (.tmp 53) 22 22 rfl _ _ rfl rfl (HCB.out _ _ _) ?_
  refine hK.out _ _ (Kt.G.late (by kernel_rfl)) (fun _ => ?_)
  clear hK K
  try simp only [Act.put, List.setIfInBounds_toArray, List.set_cons_zero, List.set_cons_succ]
  refine Kt.G.done (by kernel_rfl) (NoPanic.normal ?_) _
  clear hHeld
  go_wp2_with fail
  go_ret
  exact ⟨_, _, rfl, HFIN.out.1, HFIN.out.2⟩
theorem insert_calls (B : Nat) (A : Option Addr) (c : Nat) (l : List (Int × Int)) (i : Nat) (x : Int × Int) (vb vc : Nat) (w : World) (hB : B ≤ w.heap.size) (hs : Kt.Sl w B 30 2 (.slice A l.length c) l.length (spv l)) (hl : l.length ≤ 64) (hi : i ≤ l.length)
    (hv : w.heap[vb]? = some (.cells #[.int .i64 x.1, .int .i64 x.2] 30 (0, 0))) (hvc : 1 ≤ vc) (hne : ∀ k, (Value.slice A l.length c).ownBlock = some k → vb ≠ k) :
    Calls Try.prog 21 #[.slice A l.length c, .int .i64 i, .slice (some ⟨vb, 0, none⟩) 1 vc] w (InsIs B w l i x) := by
  by_cases e : i = l.length
  · subst e
    refine insert_end B A c l x vb vc w hB hs hl ⟨rfl, _, vc, rfl, hvc, fun _ => ⟨vb, 0, rfl, (Array.getElem?_eq_some_iff.1 hv).1, fun j hj => ?_⟩⟩
    rw [Nat.zero_add, cell_of_row _ _ _ _ _ _ hv, ← Array.getElem?_toList]
    exact List.getElem?_eq_getElem hj
  · obtain ⟨g, o, cap, hve, _, _, _, _, _, _⟩ := hs.cells (by omega)
    cases hve
    by_cases hc : l.length + 1 ≤ c
    · exact insert_shift B g o c l i x vb vc w hB hs hl (by omega) hv (hne g rfl) hc
    · exact insert_grow B g o c l i x vb vc w hB hs hl (by omega) hv (by omega)
end Go.Proofs.Ytdckakjfplhanaa
