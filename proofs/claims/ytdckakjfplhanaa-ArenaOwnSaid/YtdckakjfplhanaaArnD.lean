/- slices.Delete of one span, walked; Give. -/
import Derived.Test.YtdckakjfplhanaaArnI
import Derived.ArgAppend
import Derived.Lib.SliceRun
namespace Go.Proofs.Ytdckakjfplhanaa
open Go.RowKit Go.Proofs.Ytdckakjfplhanaa.Arn
theorem Kt.del_row {e : TypeId} {w : World} {g o p d : Nat} {cur : Array Value} {xs zs : List Value} (h : w.heap[g]? = some (.cells cur e (0, 0))) (hp : p + d ≤ xs.length) (hz : zs.length = d) (hs : o + xs.length ≤ cur.size) (hx : ∀ (j : Nat) (v : Value), xs[j]? = some v → cur[o + j]? = some v) :
    ∃ cur' : Array Value, ((w.setCells g (o + p) (xs.drop (p + d))).setCells g (o + (xs.length - d)) zs).heap[g]? = some (.cells cur' e (0, 0)) ∧ cur'.size = cur.size ∧ ∀ (j : Nat) (v : Value), (xs.take p ++ xs.drop (p + d))[j]? = some v → cur'[o + j]? = some v := by
  obtain ⟨c1, a1, a2, a3, a4, a5⟩ := Kt.setCells_all (xs.drop (p + d)) g (o + p) w cur h (by rw [List.length_drop]; omega)
  obtain ⟨c2, b1, b2, b3, b4, b5⟩ := Kt.setCells_all zs g (o + (xs.length - d)) _ c1 a1 (by rw [a2, hz]; omega)
  refine ⟨c2, b1, by rw [b2, a2], fun j v hj => ?_⟩
  have hl : (xs.take p).length = p := by rw [List.length_take]; omega
  have hjl : j < xs.length - d := by
    have := (List.getElem?_eq_some_iff.1 hj).1
    rw [List.length_append, hl, List.length_drop] at this
    omega
  rw [b3 _ (by omega)]
  rw [List.getElem?_append] at hj
  by_cases c1' : j < p
  · rw [if_pos (by omega), List.getElem?_take, if_pos c1'] at hj
    rw [a3 _ (by omega)]
    exact hx j v hj
  · rw [if_neg (by omega), hl] at hj
    have := a4 _ _ hj
    rwa [show o + p + (j - p) = o + j by omega] at this
theorem spv_rem (l : List (Int × Int)) (k : Nat) (h : k < l.length) : spv (rem l k) = (spv l).take (k * 2) ++ (spv l).drop (k * 2 + 2) := by
  have e : l = l.take k ++ l.drop k := (List.take_append_drop k l).symm
  have e2 : l = l.take (k + 1) ++ l.drop (k + 1) := (List.take_append_drop (k + 1) l).symm
  have h1 : (spv l).take (k * 2) = spv (l.take k) := by
    conv => lhs; rw [e, spv_app]
    exact List.take_left' (by rw [spv_len, List.length_take, Nat.min_eq_left (by omega)])
  have h2 : (spv l).drop (k * 2 + 2) = spv (l.drop (k + 1)) := by
    conv => lhs; rw [e2, spv_app]
    exact List.drop_left' (by rw [spv_len, List.length_take, Nat.min_eq_left (by omega)]; omega)
  rw [h1, h2, ← spv_app]
  rfl
theorem zeroSp (w : World) : (zeroValue 30).run Try.prog w = .ok (.agg #[.int .i64 0, .int .i64 0]) w := by kernel_rfl
theorem zc1 : (Builtin.zeroCells (Value.agg #[.int .i64 0, .int .i64 0]).cells 1).toList = [.int .i64 0, .int .i64 0] := by
  have h : Builtin.zeroCells (Value.agg #[.int .i64 0, .int .i64 0]).cells 1 = #[.int .i64 0, .int .i64 0] := by kernel_rfl
  rw [h]
theorem clear_one (w : World) (ty : TypeId) (g o c : Nat) (hc : ∀ j, j < 2 → (w.cell? ⟨g, o + j, none⟩).isSome = true) (hf : ∀ j, w.frozen? ⟨g, j, none⟩ = false) :
    (Builtin.clear_ #[22] ty #[.slice (some ⟨g, o, none⟩) 1 c]).run Try.prog w = .ok (.tuple #[]) (w.setCells g o [.int .i64 0, .int .i64 0]) := by
  have hst := run_storeCells_cells (P := Try.prog) g o [.int .i64 0, .int .i64 0] 0 w (by simpa using hc) (by intro j _; exact hf _) (by intro v hv; simp at hv; subst hv; rfl)
  simp only [Nat.add_zero] at hst
  simp [Builtin.clear_, run_underlying Try.underlying22, zeroSp, zc1, hst]
def DelIs (B : Nat) (w : World) (l : List (Int × Int)) (m k : Nat) (e : Ending) (w' : World) : Prop :=
  ∃ A c, e = .returned (.slice A m c) ∧ Kt.Sl w' B 30 2 (.slice A m c) m (spv (rem l k)) ∧ Below B w w'
set_option maxRecDepth 100000 in
set_option maxHeartbeats 1600000 in
theorem delete_calls (B g o c m : Nat) (l : List (Int × Int)) (k : Nat) (w : World) (hB : B ≤ w.heap.size) (hlm : l.length = m + 1) (hs : Kt.Sl w B 30 2 (.slice (some ⟨g, o, none⟩) (m + 1) c) (m + 1) (spv l)) (hl : m ≤ 63) (hk : k ≤ m) :
    Calls Try.prog 23 #[.slice (some ⟨g, o, none⟩) (m + 1) c, .int .i64 k, .int .i64 ((k : Int) + 1)] w (DelIs B w l m k) := by
  rcases hs.2 with ⟨hv0, _⟩ | ⟨g', o', cap', cur, hve, hbg, hg, hn, hcm, hsz, hx⟩
  · cases hv0
  cases hve
  have hln := spv_len l
  rw [hlm] at hln
  obtain ⟨i0, hi0, hz0, hzs, hzb⟩ := info_parts infoSp
  have hdl : ((spv l).drop (k * 2 + 2)).length = (m - k) * 2 := by rw [List.length_drop, hln]; omega
  have hap : ∀ ty sc, (Builtin.append_ #[22, 22] ty #[.slice (some ⟨g, o, none⟩) k c, .slice (if c = k + 1 then some ⟨g, o, none⟩ else some ⟨g, o + (k + 1) * 2, none⟩) (m - k) sc]).run Try.prog w.drew = .ok (.slice (some ⟨g, o, none⟩) m c) (w.drew.setCells g (o + k * 2) ((spv l).drop (k * 2 + 2))) := fun ty sc => by
    obtain ⟨a, ha, hsrc⟩ : ∃ a : Addr, (if c = k + 1 then some (⟨g, o, none⟩ : Addr) else some ⟨g, o + (k + 1) * 2, none⟩) = some a ∧ ∀ j u, ((spv l).drop (k * 2 + 2))[j]? = some u → w.drew.cell? (a.add j) = some u := by
      by_cases h : c = k + 1
      · refine ⟨⟨g, o, none⟩, by simp [h], fun j u hj => ?_⟩
        have h0 : ((spv l).drop (k * 2 + 2)).length = 0 := by rw [hdl]; omega
        rw [List.length_eq_zero_iff.1 h0] at hj
        simp at hj
      · refine ⟨⟨g, o + (k + 1) * 2, none⟩, by simp [h], fun j u hj => ?_⟩
        rw [List.getElem?_drop] at hj
        rw [Addr.add_lit]
        have := (cell_of_row w g (o + (k * 2 + 2 + j)) cur _ _ hg).trans (hx _ _ hj)
        rwa [show o + (k * 2 + 2 + j) = o + (k + 1) * 2 + j by omega] at this
    rw [ha]
    have h := run_append_room_cells (P := Try.prog) w.drew 22 ty 30 i0 Try.underlying22 hi0 g o k c a (m - k) sc ((spv l).drop (k * 2 + 2)) (by rw [hdl, hzs]) hsrc (fun v hv => spv_one l v (List.mem_of_mem_drop hv)) (by omega)
      (fun j hj => by
        rw [hdl] at hj
        rw [hzs]
        refine (congrArg Option.isSome (cell_of_row w g _ _ _ _ hg)).trans ?_
        rw [Array.getElem?_eq_getElem (by omega)]; rfl) (fun j hj => frozen_of_row w _ _ _ _ hg)
    rw [hzs, show k + (m - k) = m by omega] at h
    exact h
  obtain ⟨W1, hW1⟩ : ∃ W1, w.drew.setCells g (o + k * 2) ((spv l).drop (k * 2 + 2)) = W1 := ⟨_, rfl⟩
  rw [hW1] at hap
  obtain ⟨cu1, r1, rz1, _⟩ := Kt.setCells_all ((spv l).drop (k * 2 + 2)) g (o + k * 2) w.drew cur hg (by rw [hdl]; omega)
  rw [hW1] at r1
  have hcl : ∀ ty sc, (Builtin.clear_ #[22] ty #[.slice (some ⟨g, o + m * 2, none⟩) 1 sc]).run Try.prog W1 = .ok (.tuple #[]) (W1.setCells g (o + m * 2) [.int .i64 0, .int .i64 0]) := fun ty sc =>
    clear_one W1 ty g (o + m * 2) sc (fun j hj => by rw [cell_of_row _ _ _ _ _ _ r1, Array.getElem?_eq_getElem (by omega)]; rfl) (fun j => frozen_of_row _ _ _ _ _ r1)
  have HFIN : Hid (Kt.Sl (W1.setCells g (o + m * 2) [.int .i64 0, .int .i64 0]) B 30 2 (.slice (some ⟨g, o, none⟩) m c) m (spv (rem l k)) ∧ Below B w (W1.setCells g (o + m * 2) [.int .i64 0, .int .i64 0])) := Lib.hid (by
    obtain ⟨cu2, s1, s2, s3⟩ := Kt.del_row (e := 30) (w := w.drew) (g := g) (o := o) (p := k * 2) (d := 2) (cur := cur) (xs := spv l) (zs := [.int .i64 0, .int .i64 0]) hg (by rw [hln]; omega) rfl (by rw [hln]; omega) hx
    rw [hW1, show (spv l).length - 2 = m * 2 by rw [hln]; omega] at s1
    rw [← spv_rem l k (by omega)] at s3
    refine ⟨⟨by rw [spv_len]; have := rem_len l k (by omega); omega, .inr ⟨g, o, c, cu2, rfl, hbg, s1, by omega, hcm, by rw [s2]; exact hsz, s3⟩⟩, ?_⟩
    refine Kt.below_setCells _ _ _ _ _ hbg ?_
    rw [← hW1]
    exact Kt.below_setCells _ _ _ _ _ hbg (Below.refl _ _).drew)
  have HAP := Lib.hid hap
  have HNC := Lib.hid hn
  have e1 : (k : Int) ≤ m := Int.ofNat_le.2 hk
  have e2 : (k : Int) ≤ (k : Int) + 1 := Int.le_add_of_nonneg_right (by decide)
  have e3 : (k : Int) + 1 ≤ (m : Int) + 1 := Int.add_le_add_right e1 1
  have e4 : (m : Int) + 1 ≤ c := by exact_mod_cast hn
  have e5 : ((k : Int) == (k : Int) + 1) = false := by rw [beq_eq_false_iff_ne]; exact Int.ne_of_lt (Int.lt_succ _)
  have e6 : ((k : Int) + 1).toNat = k + 1 := rfl
  have e7 : ((m : Int) + 1).toNat = m + 1 := rfl
  have e8 : (0 : Int) ≤ (k : Int) + 1 := Int.add_nonneg (Int.natCast_nonneg k) (by decide)
  have e10 : k ≤ c := Nat.le_trans hk (Nat.le_trans (Nat.le_succ m) hn)
  have e11 : m ≤ c := Nat.le_trans (Nat.le_succ m) hn
  have e12 : m + 1 ≤ c := hn
  have e9 : ¬ (c = m) := fun e => absurd hn (by rw [e]; exact Nat.not_succ_le_self m)
  clear hap hW1 r1 rz1 hdl hx hsz hg hs hln hlm hi0 hz0 hzs hzb
  go_enter Try.func23, Try.ntmps23
  go_upto_region 5 with (fail)
  refine Kt.G.start 7 (fun _ => True) (by kernel_rfl) trivial (fun hHeld => ?_)
  refine Kt.G.takeP 0 { dst := some 20, op := Op.move (Operand.tmp 0), type := 22, pos := "slices.go:232", after := #[], guard := none } ?_ (fun _ => hHeld) rfl (by kernel_rfl) (fun _ _ _ h => h) (by rfl) ?_ ?_
  rotate_left
  · intro w; go_simp; try with_reducible rfl
  try simp only [Act.put, List.setIfInBounds_toArray, List.set_cons_zero, List.set_cons_succ]
  refine Kt.G.takeP 1 { dst := some 21, op := Op.move (Operand.tmp 1), type := 3, pos := "slices.go:232", after := #[], guard := none } ?_ (fun _ => hHeld) rfl (by kernel_rfl) (fun _ _ _ h => h) (by rfl) ?_ ?_
  rotate_left
  · intro w; go_simp; try with_reducible rfl
  try simp only [Act.put, List.setIfInBounds_toArray, List.set_cons_zero, List.set_cons_succ]
  refine Kt.G.takeP 2 { dst := some 22, op := Op.slice 22 (Operand.tmp 20) none (some (Operand.tmp 21)) none, type := 22, pos := "slices.go:232", after := #[{ on := 0, ground := Ground.data }, { on := 1, ground := Ground.data }], guard := none } ?_ (fun _ => hHeld) rfl (by kernel_rfl) (fun _ _ _ h => h) (by rfl) ?_ ?_
  rotate_left
  · intro w; go_simp; try with_reducible rfl
  try simp only [Act.put, List.setIfInBounds_toArray, List.set_cons_zero, List.set_cons_succ]
  refine Kt.G.takeP 3 { dst := some 23, op := Op.move (Operand.tmp 0), type := 22, pos := "slices.go:232", after := #[], guard := none } ?_ (fun _ => hHeld) rfl (by kernel_rfl) (fun _ _ _ h => h) (by rfl) ?_ ?_
  rotate_left
  · intro w; go_simp; try with_reducible rfl
  try simp only [Act.put, List.setIfInBounds_toArray, List.set_cons_zero, List.set_cons_succ]
  refine Kt.G.takeP 4 { dst := some 24, op := Op.move (Operand.tmp 2), type := 3, pos := "slices.go:232", after := #[], guard := none } ?_ (fun _ => hHeld) rfl (by kernel_rfl) (fun _ _ _ h => h) (by rfl) ?_ ?_
  rotate_left
  · intro w; go_simp; try with_reducible rfl
  try simp only [Act.put, List.setIfInBounds_toArray, List.set_cons_zero, List.set_cons_succ]
  refine Kt.G.takeP 5 { dst := some 25, op := Op.slice 22 (Operand.tmp 23) (some (Operand.tmp 24)) none none, type := 22, pos := "slices.go:232", after := #[{ on := 3, ground := Ground.data }, { on := 4, ground := Ground.data }], guard := none } ?_ (fun _ => hHeld) rfl (by kernel_rfl) (fun _ _ _ h => h) (by rfl) ?_ ?_
  rotate_left
  · intro w; go_simp; try with_reducible rfl
  try simp only [Act.put, List.setIfInBounds_toArray, List.set_cons_zero, List.set_cons_succ]
  refine Kt.G.one 6 { dst := some 26, op := Op.call { callee := Callee.builtin Builtin.append, args := #[Operand.tmp 22, Operand.tmp 25], argTypes := #[22, 22] }, type := 22, pos := "slices.go:232", after := #[{ on := 2, ground := Ground.data }, { on := 5, ground := Ground.data }], guard := none } rfl (by kernel_rfl) (by rfl) (fun K hK => ?_)
  refine Lib.wp_append_run _ (.tmp 22) (.tmp 25) 22 22 rfl _ _ rfl rfl _ _ (HAP.out _ _) ?_
  refine hK.out _ _ (fun _ => trivial) (fun hHeld => ?_)
  have hHeld := hHeld rfl
  clear hK K
  try simp only [Act.put, List.setIfInBounds_toArray, List.set_cons_zero, List.set_cons_succ]
  refine Kt.G.one 7 { dst := some 0, op := Op.assign (Operand.tmp 26), type := 22, pos := "slices.go:232", after := #[{ on := 6, ground := Ground.data }, { on := 6, ground := Ground.chain }, { on := 0, ground := Ground.phase }, { on := 1, ground := Ground.phase }, { on := 2, ground := Ground.phase }, { on := 3, ground := Ground.phase }, { on := 4, ground := Ground.phase }, { on := 5, ground := Ground.phase }, { on := 6, ground := Ground.phase }], guard := none } rfl (by kernel_rfl) (by rfl) (fun K hK => ?_)
  go_simp
  refine hK.out _ _ (Kt.G.late (by kernel_rfl)) (fun _ => ?_)
  clear hK K
  try simp only [Act.put, List.setIfInBounds_toArray, List.set_cons_zero, List.set_cons_succ]
  refine Kt.G.done (by kernel_rfl) (NoPanic.normal ?_) _
  clear hHeld
  go_wp2_with fail
  · rename_i h
    subst h
    go_ret
    exact ⟨_, _, rfl, HFIN.out.1, HFIN.out.2⟩
  · go_ret
    exact ⟨_, _, rfl, HFIN.out.1, HFIN.out.2⟩
end Go.Proofs.Ytdckakjfplhanaa
