/- slices.Insert of one node, walked. -/
import Derived.Test.YtmjcokmfjofgnaaTpoX
import Derived.Test.YtmjcokmfjofgnaaApd
import Derived.Test.YtmjcokmfjofgnaaAny
import Derived.Lib.Overlaps
import Derived.Lib.AppendZerosOnto
import Derived.Laws.NewBlocks
import Derived.Deep.DeepAppendWide
import Derived.Laws.IdiomCopy
namespace Go.Proofs.Ytmjcokmfjofgnaa
open Go.RowKit Go.Proofs.Ytmjcokmfjofgnaa.Tpo
theorem infoN : (Try.prog.info? 25).map (fun i => (i.zero, i.size, i.bytes)) = some (some (.agg #[.slice none 0 0, .int .i64 0, .int .i64 0, .int .i64 0]), 4, 48) := by kernel_rfl
theorem cs_one (x : Nh) : ∀ u ∈ x.cs, u.oneCell' = true := by
  intro u hu
  simp only [Nh.cs, List.mem_cons, List.not_mem_nil, or_false] at hu
  rcases hu with rfl | rfl | rfl | rfl <;> rfl
section
variable {P : Program}
theorem run_copy_sz (sz : Nat) (w : World) (dT sT ty elem : TypeId) (b o dLen dCap : Nat) (a : Addr) (sLen sCap : Nat) (cs : List Value)
    (hu : P.underlying dT = some (.slice elem)) (hs : (P.info? elem).map (·.size) = some sz) (hn : cs.length = Nat.min sLen dLen * sz)
    (hsrc : ∀ j v, cs[j]? = some v → w.cell? (a.add j) = some v) (hc : ∀ j, j < cs.length → (w.cell? ⟨b, o + j, none⟩).isSome = true) (hf : ∀ j, j < cs.length → w.frozen? ⟨b, o + j, none⟩ = false) (h1 : ∀ v ∈ cs, v.oneCell' = true) :
    (Builtin.copy_ #[dT, sT] ty #[.slice (some ⟨b, o, none⟩) dLen dCap, .slice (some a) sLen sCap]).run P w = .ok (goInt (Nat.min sLen dLen)) (w.setCells b o cs) := by
  have hst := run_storeCells_cells (P := P) b o cs 0 w (by simpa using hc) (by simpa using hf) h1
  cases hq : P.info? elem with
  | none => simp [hq] at hs
  | some i =>
    have hi : i.size = sz := by simpa [hq] using hs
    have hfc := run_firstCells_some (P := P) w sz (Nat.min sLen dLen) a sLen sCap cs hn hsrc
    simp [Builtin.copy_, run_underlying hu, Builtin.lenOf, sizeOf, typeInfo, hq, hi, hfc, hst]
theorem wp_copy_run (w : World) {o : Oper} {a : Act} {K : Act → World → Prop} {Q : Exit → Act → World → Prop} (d s : Operand) (t t' : TypeId)
    (ho : o.op = .call { callee := .builtin .copy, args := #[d, s], argTypes := #[t, t'] }) (v u : Value) (hd : a.eval d = v) (hs : a.eval s = u) {v' : Value} {w' : World}
    (hr : (Builtin.copy_ #[t, t'] o.type #[v, u]).run P w = .ok v' w') (h : K (a.put o.dst v') w') : o.wp P a w K Q := by
  unfold Oper.wp execOp
  simp only [ho, resolve, invoke, builtin, Sem.run_bind, Sem.run_pure, Result.andThen_ok, List.map_toArray, List.map_cons, List.map_nil, hd, hs, hr]
  exact h
theorem wpList_copy_run (w : World) {ops : Array Oper} {rest : List Oper} {o : Oper} {a : Act} {Q : Exit → Act → World → Prop} (hgd : o.guard = none) (d s : Operand) (t t' : TypeId)
    (ho : o.op = .call { callee := .builtin .copy, args := #[d, s], argTypes := #[t, t'] }) (v u : Value) (hd : a.eval d = v) (hs : a.eval s = u) {v' : Value} {w' : World}
    (hr : (Builtin.copy_ #[t, t'] o.type #[v, u]).run P w = .ok v' w') (h : wpList P ops Q rest (a.put o.dst v') w') : wpList P ops Q (o :: rest) a w :=
  wpList_plain hgd fun _ hK => wp_copy_run w d s t t' ho v u hd hs hr (hK _ _ h)
end
/-- a row that is stored in part: all else stands -/
theorem Kt.setCells_all {e : TypeId} : ∀ (news : List Value) (g off : Nat) (w : World) (cur : Array Value), w.heap[g]? = some (.cells cur e (0, 0)) → off + news.length ≤ cur.size →
    ∃ cur', (w.setCells g off news).heap[g]? = some (.cells cur' e (0, 0)) ∧ cur'.size = cur.size ∧ (∀ j, j < off → cur'[j]? = cur[j]?) ∧ (∀ j u, news[j]? = some u → cur'[off + j]? = some u) ∧ ∀ j, off + news.length ≤ j → cur'[j]? = cur[j]?
  | [], g, off, w, cur, h, _ => ⟨cur, h, rfl, fun _ _ => rfl, fun j u hj => by simp at hj, fun _ _ => rfl⟩
  | x :: news, g, off, w, cur, h, hl => by
    simp only [List.length_cons] at hl
    have h1 : (w.setCell ⟨g, off, none⟩ x).heap[g]? = some (.cells (cur.setIfInBounds off x) e (0, 0)) := heap_setCell_same _ _ _ _ _ _ h
    obtain ⟨cur', h2, h3, h4, h5, h6⟩ := Kt.setCells_all news g (off + 1) _ _ h1 (by simp; omega)
    refine ⟨cur', h2, by simpa using h3, fun j hj => ?_, fun j u hj => ?_, fun j hj => ?_⟩
    · rw [h4 j (by omega), Array.getElem?_setIfInBounds_ne (by omega)]
    · cases j with
      | zero =>
        simp at hj; subst hj
        rw [Nat.add_zero, h4 off (by omega), Array.getElem?_setIfInBounds_self_of_lt (by omega)]
      | succ j =>
        rw [show off + (j + 1) = off + 1 + j by omega]
        exact h5 j u (by simpa using hj)
    · simp only [List.length_cons] at hj
      rw [h6 j (by omega), Array.getElem?_setIfInBounds_ne (by omega)]
/-- two stores into a row: what stood from p on, moved behind, and the new ones at p -/
theorem Kt.ins_row {e : TypeId} {w : World} {g o p : Nat} {cur : Array Value} {xs vs : List Value} (h : w.heap[g]? = some (.cells cur e (0, 0))) (hp : p ≤ xs.length) (hs : o + xs.length + vs.length ≤ cur.size) (hx : ∀ j v, j < p → xs[j]? = some v → cur[o + j]? = some v) :
    ∃ cur', ((w.setCells g (o + (p + vs.length)) (xs.drop p)).setCells g (o + p) vs).heap[g]? = some (.cells cur' e (0, 0)) ∧ cur'.size = cur.size ∧ ∀ j v, (xs.take p ++ vs ++ xs.drop p)[j]? = some v → cur'[o + j]? = some v := by
  obtain ⟨c1, a1, a2, a3, a4, a5⟩ := Kt.setCells_all (xs.drop p) g (o + (p + vs.length)) w cur h (by rw [List.length_drop]; omega)
  obtain ⟨c2, b1, b2, b3, b4, b5⟩ := Kt.setCells_all vs g (o + p) _ c1 a1 (by rw [a2]; omega)
  refine ⟨c2, b1, by rw [b2, a2], fun j v hj => ?_⟩
  have hl : (xs.take p).length = p := by rw [List.length_take]; omega
  rw [List.append_assoc, List.getElem?_append] at hj
  by_cases c1' : j < p
  · rw [if_pos (by omega), List.getElem?_take, if_pos c1'] at hj
    rw [b3 _ (by omega), a3 _ (by omega)]
    exact hx j v c1' hj
  · rw [if_neg (by omega), hl, List.getElem?_append] at hj
    by_cases c2' : j - p < vs.length
    · rw [if_pos c2'] at hj
      have := b4 _ _ hj
      rwa [show o + p + (j - p) = o + j by omega] at this
    · rw [if_neg c2'] at hj
      rw [b5 _ (by omega)]
      have := a4 _ _ hj
      rwa [show o + (p + vs.length) + (j - p - vs.length) = o + j by omega] at this
set_option maxHeartbeats 800000 in
theorem nclone_calls (v : Value) (n : Nat) (xs : List Value) (w : World) (h : Kt.Ar w v 4 n xs) (h1 : ∀ u ∈ xs, u.oneCell' = true) (hn : n ≤ 1099511627776) :
    Calls Try.prog 17 #[v] w fun e w' => ∃ A c, e = .returned (.slice A n c) ∧ Kt.Sl w' w.heap.size 25 4 (.slice A n c) n xs ∧ Below w.heap.size w w' := by
  have qT : ∀ (w : World) (a : Option Addr) (n c n' c' : Nat), (binOp .eql 22 (.slice a n c) (.slice none n' c')).run Try.prog w = .ok (.bool a.isNone) w := fun w a n c n' c' => Lib.run_eql_slice_nil w _ _ a n c n' c' Try.underlying22
  obtain ⟨A, c, rfl, hnc, hx⟩ := h.form
  have hlen := h.len
  cases A with
  | none =>
    have hn0 : n = 0 := by
      rcases Nat.eq_zero_or_pos n with h0 | h0
      · exact h0
      · obtain ⟨b, o, e, _⟩ := hx h0; cases e
    subst hn0
    obtain rfl : xs = [] := List.eq_nil_of_length_eq_zero (by simpa using hlen)
    go_enter Try.func17, Try.ntmps17
    go_wp2
    go_ret
    exact ⟨none, 0, rfl, Kt.Sl.nil _ _ _ _, Below.refl _ _⟩
  | some ad =>
    have hnews : ∀ j u, xs[j]? = some u → (w.alloc (.cells #[] 25)).cell? (ad.add j) = some u := by
      intro j u hj
      obtain ⟨hj1, hj2⟩ := List.getElem?_eq_some_iff.1 hj
      obtain ⟨b, o, e, hb, hc⟩ := hx (by omega)
      injection e with e
      subst e
      rw [Addr.add_lit, World.cell?_alloc_lt _ _ _ (by exact hb), hc j hj1, hj2]
    have hs0 : Kt.Sl (w.alloc (.cells #[] 25)) w.heap.size 25 4 (.slice (some ⟨w.heap.size, 0, none⟩) 0 0) 0 [] :=
      ⟨rfl, .inr ⟨w.heap.size, 0, 0, #[], rfl, Nat.le_refl _, heap_alloc_new w _, Nat.le_refl _, by simp [maxLen], by simp, fun j u hj => by simp at hj⟩⟩
    go_enter Try.func17, Try.ntmps17
    go_wp2_with (
      refine Kt.append_sl _ (by rfl) (.tmp 5) (.tmp 6) 22 rfl w.heap.size 25 (.agg #[.slice none 0 0, .int .i64 0, .int .i64 0, .int .i64 0]) 4 48 infoN Try.underlying22 rfl (by decide) _ 0 [] rfl hs0 ad n c xs rfl hlen hnews h1 (by unfold maxLen; omega) (by omega) (by rw [World.size_alloc]; omega) ?_
      intro A' c' w1 hs1 hb1 hz1 hk1 hl1
      clear hk1 hl1 hs0 hnews hx)
    go_ret
    rw [Nat.zero_add] at hs1
    exact ⟨A', c', rfl, hs1, ((Below.refl _ w).alloc (Nat.le_refl _) _).trans hb1⟩
theorem ncs_ins (l : List Nh) (i : Nat) (x : Nh) (hi : i ≤ l.length) : ncs (l.take i ++ x :: l.drop i) = (ncs l).take (i * 4) ++ x.cs ++ (ncs l).drop (i * 4) := by
  have h : l = l.take i ++ l.drop i := (List.take_append_drop i l).symm
  have hlen : (ncs (l.take i)).length = i * 4 := by rw [ncs_len, List.length_take, Nat.min_eq_left hi]
  have h1 : (ncs l).take (i * 4) = ncs (l.take i) := by
    conv => lhs; rw [h, ncs_app]
    exact List.take_left' hlen
  have h2 : (ncs l).drop (i * 4) = ncs (l.drop i) := by
    conv => lhs; rw [h, ncs_app]
    exact List.drop_left' hlen
  rw [h1, h2, ncs_app, List.append_assoc]
  rfl
/-- what Insert gives -/
def InsIs (B : Nat) (w : World) (V : Value) (l : List Nh) (i : Nat) (x : Nh) (e : Ending) (w' : World) : Prop :=
  ∃ A c, e = .returned (.slice A (l.length + 1) c) ∧ Kt.Sl w' B 25 4 (.slice A (l.length + 1) c) (l.length + 1) (ncs (l.take i ++ x :: l.drop i)) ∧ Below B w w' ∧ ∀ k, k < w.heap.size → V.ownBlock ≠ some k → w'.heap[k]? = w.heap[k]?
set_option maxRecDepth 100000 in
set_option maxHeartbeats 1600000 in
theorem insert_end (B : Nat) (A : Option Addr) (c : Nat) (l : List Nh) (x : Nh) (vb vc : Nat) (w : World) (hB : B ≤ w.heap.size) (hs : Kt.Sl w B 25 4 (.slice A l.length c) l.length (ncs l)) (hl : l.length ≤ 64)
    (hv : Kt.Ar w (.slice (some ⟨vb, 0, none⟩) 1 vc) 4 1 x.cs) :
    Calls Try.prog 26 #[.slice A l.length c, .int .i64 l.length, .slice (some ⟨vb, 0, none⟩) 1 vc] w (InsIs B w (.slice A l.length c) l l.length x) := by
  have HS := Lib.hid hs
  have HV := Lib.hid hv
  have HB := Lib.hid hB
  have HL := Lib.hid hl
  clear hs hv hB hl
  go_enter Try.func26, Try.ntmps26
  go_wp2_with
    (refine Kt.append_ar (by rfl) (.tmp 23) (.tmp 24) 22 rfl B 25 (.agg #[.slice none 0 0, .int .i64 0, .int .i64 0, .int .i64 0]) 4 48 infoN Try.underlying22 rfl (by decide) (.slice A l.length c) _ _ rfl HS.out _ _ _ rfl HV.out (by intro u hu; exact cs_one x u hu) (by have := HL.out; unfold maxLen; omega) (by have := HL.out; omega) HB.out ?_
     intro A2 c2 w2 hs2 hb2 hz2 hk2 hl2)
  all_goals
    clear hl2
    go_ret
    refine ⟨A2, c2, rfl, ?_, hb2, fun k h1 h2 => hk2 k h1 (by cases A <;> exact h2)⟩
    rw [List.take_length, List.drop_length, ncs_app]
    exact hs2
theorem ov_apart (w : World) (vb g o lb cb vc kB : Nat) (tA tB : TypeId) (kA : Nat) (hne : vb ≠ g) (hsa : w.shape? vb = some (tA, kA)) (hsb : w.shape? g = some (tB, kB)) (hkB : kB ≠ 0) (hfa : w.frozen? ⟨vb, 0, none⟩ = false) (hfe : w.frozen? ⟨vb, kA, none⟩ = false) :
    (callFunc 39 #[.slice (some ⟨vb, 0, none⟩) 1 vc, .slice (some ⟨g, o, none⟩) lb cb]).run Try.prog w = .ok (.value (.bool false)) w := by
  rw [run_callFunc_extern Try.func39 (by kernel_rfl) (by kernel_rfl) (by kernel_rfl) (e := Extern.SlicesOverlaps.overlaps #[22, 22] #[4]) (by kernel_rfl),
    Lib.run_overlaps_apart w 22 4 25 Try.underlying22 4 (fun w => by kernel_rfl) ⟨vb, 0, none⟩ ⟨g, o, none⟩ 1 vc lb cb hne tA tB kA kB hsa hsb hkB hfa hfe]
  rfl
theorem size_n : (Try.prog.info? 25).map (·.size) = some 4 := by
  obtain ⟨i0, hi, _, hz1, _⟩ := info_parts infoN
  rw [hi]; simp [hz1]
theorem shape_row {w : World} {g : Nat} {cs : Array Value} {t : TypeId} (h : w.heap[g]? = some (.cells cs t (0, 0))) : w.shape? g = some (t, cs.size) := by
  simp [World.shape?, h]
theorem wrap_succ (k : Nat) (h : k ≤ 64) : wrap64 ((k : Int) + 1) = (k : Int) + 1 := by unfold wrap64; omega
theorem wrap_succ' (k : Nat) (h : k ≤ 64) : IntKind.i64.wrap ((k : Int) + 1) = (k : Int) + 1 := IntWalk.i64_in _ (by omega)
set_option maxRecDepth 100000 in
set_option maxHeartbeats 1600000 in
theorem insert_shift (B g o c : Nat) (l : List Nh) (i : Nat) (x : Nh) (vb vc : Nat) (w : World) (_hB : B ≤ w.heap.size) (hs : Kt.Sl w B 25 4 (.slice (some ⟨g, o, none⟩) l.length c) l.length (ncs l)) (hl : l.length ≤ 64) (hi : i < l.length)
    (hv : w.heap[vb]? = some (.cells x.cs.toArray 25 (0, 0))) (hne : vb ≠ g) (hc : l.length + 1 ≤ c) :
    Calls Try.prog 26 #[.slice (some ⟨g, o, none⟩) l.length c, .int .i64 i, .slice (some ⟨vb, 0, none⟩) 1 vc] w (InsIs B w (.slice (some ⟨g, o, none⟩) l.length c) l i x) := by
  rcases hs.2 with ⟨hv0, _⟩ | ⟨g', o', cap', cur, hve, hbg, hg, hn, hcm, hsz, hx⟩
  · cases hv0
  cases hve
  have hln := ncs_len l
  have hov := fun o' lb cb => ov_apart w vb g o' lb cb vc cur.size 25 25 4 hne (shape_row hv) (shape_row hg) (by omega) (frozen_of_row _ _ _ _ _ hv) (frozen_of_row _ _ _ _ _ hv)
  have hdl : ((ncs l).drop (i * 4)).length = (l.length - i) * 4 := by rw [List.length_drop, hln]; omega
  have hcells : ∀ (W : World), W.heap[g]? = w.heap[g]? → ∀ j, j < c * 4 → (W.cell? ⟨g, o + j, none⟩).isSome = true := fun W hW j hj => by
    rw [cell_of_row _ _ _ _ _ _ (hW.trans hg), Array.getElem?_eq_getElem (by omega)]; rfl
  have hcp1 : ∀ ty dc sc, (Builtin.copy_ #[22, 22] ty #[.slice (some ⟨g, o + (i + 1) * 4, none⟩) (l.length - i) dc, .slice (some ⟨g, o + i * 4, none⟩) (l.length + 1 - i) sc]).run Try.prog w.drew = .ok (goInt (Nat.min (l.length + 1 - i) (l.length - i))) (w.drew.setCells g (o + (i + 1) * 4) ((ncs l).drop (i * 4))) := fun ty dc sc =>
    run_copy_sz 4 w.drew _ _ ty 25 g (o + (i + 1) * 4) _ dc ⟨g, o + i * 4, none⟩ _ sc ((ncs l).drop (i * 4)) Try.underlying22 size_n (by rw [hdl]; congr 1; simp only [Nat.min_def]; split <;> omega)
      (fun j v hj => by
        rw [List.getElem?_drop] at hj
        rw [Addr.add_lit, Nat.add_assoc]
        exact (cell_of_row w g (o + (i * 4 + j)) cur _ _ hg).trans (hx _ _ hj))
      (fun j hj => by rw [hdl] at hj; rw [Nat.add_assoc]; exact hcells w.drew rfl _ (by omega)) (fun j hj => frozen_of_row _ _ _ _ _ hg) (fun v hv => ncs_one l v (List.mem_of_mem_drop hv))
  obtain ⟨W1, hW1⟩ : ∃ W1, w.drew.setCells g (o + (i + 1) * 4) ((ncs l).drop (i * 4)) = W1 := ⟨_, rfl⟩
  rw [hW1] at hcp1
  have hv1 : W1.heap[vb]? = some (.cells x.cs.toArray 25 (0, 0)) := by rw [← hW1]; exact (Kt.setCells_other _ _ _ _ _ hne).trans hv
  obtain ⟨cu1, hg1, hz1, _⟩ := Kt.setCells_all ((ncs l).drop (i * 4)) g (o + (i + 1) * 4) w.drew cur hg (by rw [hdl]; omega)
  rw [hW1] at hg1
  have hcp2 : ∀ ty dc, (Builtin.copy_ #[22, 22] ty #[.slice (some ⟨g, o + i * 4, none⟩) (l.length + 1 - i) dc, .slice (some ⟨vb, 0, none⟩) 1 vc]).run Try.prog W1 = .ok (goInt (Nat.min 1 (l.length + 1 - i))) (W1.setCells g (o + i * 4) x.cs) := fun ty dc =>
    run_copy_sz 4 W1 _ _ ty 25 g (o + i * 4) _ dc ⟨vb, 0, none⟩ _ vc x.cs Try.underlying22 size_n (by show 4 = _; simp only [Nat.min_def]; split <;> omega)
      (fun j v hj => by
        rw [Addr.add_lit]
        refine (cell_of_row W1 vb (0 + j) _ _ _ hv1).trans ?_
        rw [Nat.zero_add, ← Array.getElem?_toList]; exact hj)
      (fun j hj => by rw [cell_of_row _ _ _ _ _ _ hg1, Array.getElem?_eq_getElem (by have : x.cs.length = 4 := rfl; omega)]; rfl) (fun j hj => frozen_of_row _ _ _ _ _ hg1) (by intro u hu; exact cs_one x u hu)
  have HFIN : Hid (Kt.Sl (W1.setCells g (o + i * 4) x.cs) B 25 4 (.slice (some ⟨g, o, none⟩) (l.length + 1) c) (l.length + 1) (ncs (l.take i ++ x :: l.drop i)) ∧ Below B w (W1.setCells g (o + i * 4) x.cs) ∧ ∀ k, k < w.heap.size → (Value.slice (some ⟨g, o, none⟩) l.length c).ownBlock ≠ some k → (W1.setCells g (o + i * 4) x.cs).heap[k]? = w.heap[k]?) := Lib.hid (by
    obtain ⟨cu2, r1, r2, r3⟩ := Kt.ins_row (e := 25) (w := w.drew) (g := g) (o := o) (p := i * 4) (cur := cur) (xs := ncs l) (vs := x.cs) hg (by rw [hln]; omega) (by show o + (ncs l).length + 4 ≤ _; rw [hln]; omega) (fun j v _ hj => hx j v hj)
    rw [show o + (i * 4 + x.cs.length) = o + (i + 1) * 4 by show o + (i * 4 + 4) = _; omega, hW1] at r1
    rw [← ncs_ins l i x (by omega)] at r3
    refine ⟨⟨by rw [ncs_len]; simp; omega, .inr ⟨g, o, c, cu2, rfl, hbg, r1, by omega, hcm, by rw [r2]; exact hsz, r3⟩⟩, ?_⟩
    refine ⟨by rw [← hW1]; exact Kt.below_setCells _ _ _ _ _ hbg (Kt.below_setCells _ _ _ _ _ hbg (Below.refl _ _).drew), fun k hk hkn => ?_⟩
    have hkg : k ≠ g := fun e => hkn (by rw [e]; rfl)
    rw [Kt.setCells_other _ _ _ _ _ hkg, ← hW1, Kt.setCells_other _ _ _ _ _ hkg]; rfl)
  have e1 : (i : Int) < l.length := by omega
  have e2 : ((i : Int) == l.length) = false := by rw [beq_eq_false_iff_ne]; omega
  have e3 : (l.length : Int) + 1 ≤ c := by omega
  have e4 := wrap_succ l.length hl
  have e5 := wrap_succ i (Nat.le_of_lt (Nat.lt_of_lt_of_le hi hl))
  have HW1 := Lib.hid hW1
  have HC1 := Lib.hid hcp1
  have HC2 := Lib.hid hcp2
  clear hW1 hg1 hz1 hv1 hcells hdl hx hsz hg hv hs hln hcp1 hcp2
  go_enter Try.func26, Try.ntmps26
  go_wp2_with fail
  have f1 : IntKind.i64.wrap ((i : Int) + 1) = (i : Int) + 1 := wrap_succ' i (Nat.le_of_lt (Nat.lt_of_lt_of_le hi hl))
  have f2 : (0 : Int) ≤ (i : Int) + 1 := Int.add_nonneg (Int.natCast_nonneg i) (by decide)
  have f3 : (i : Int) + 1 ≤ (l.length : Int) + 1 := Int.add_le_add_right (Int.le_of_lt e1) 1
  have f4 : ((i : Int) + 1).toNat = i + 1 := rfl
  have f5 : ¬ (c = i + 1) := fun e => absurd hc (by rw [e]; exact Nat.not_le_of_lt (Nat.succ_lt_succ hi))
  have f6 : (i : Int) ≤ (l.length : Int) + 1 := Int.le_trans (Int.le_of_lt e1) (Int.le_add_of_nonneg_right (by decide))
  have f7 : ¬ (c = i) := fun e => absurd hc (by rw [e]; exact Nat.not_le_of_lt (Nat.lt_succ_of_lt hi))
  refine Kt.G.start 8 (fun _ => True) (by kernel_rfl) trivial (fun hHeld => ?_)
  refine Kt.G.takeP 0 { dst := some 69, op := Op.move (Operand.tmp 0), type := 22, pos := "slices.go:178", after := #[], guard := none } ?_ (fun _ => hHeld) rfl (by kernel_rfl) (fun _ _ _ h => h) (by rfl) ?_ ?_
  rotate_left
  · intro w; go_simp; try with_reducible rfl
  try simp only [Act.put, List.setIfInBounds_toArray, List.set_cons_zero, List.set_cons_succ]
  refine Kt.G.takeP 1 { dst := some 70, op := Op.move (Operand.tmp 1), type := 3, pos := "slices.go:178", after := #[], guard := none } ?_ (fun _ => hHeld) rfl (by kernel_rfl) (fun _ _ _ h => h) (by rfl) ?_ ?_
  rotate_left
  · intro w; go_simp; try with_reducible rfl
  try simp only [Act.put, List.setIfInBounds_toArray, List.set_cons_zero, List.set_cons_succ]
  refine Kt.G.takeP 2 { dst := some 71, op := Op.move (Operand.tmp 7), type := 3, pos := "slices.go:178", after := #[], guard := none } ?_ (fun _ => hHeld) rfl (by kernel_rfl) (fun _ _ _ h => h) (by rfl) ?_ ?_
  rotate_left
  · intro w; go_simp; try with_reducible rfl
  try simp only [Act.put, List.setIfInBounds_toArray, List.set_cons_zero, List.set_cons_succ]
  refine Kt.G.takeP 3 { dst := some 72, op := Op.binOp BinOp.add 3 (Operand.tmp 70) (Operand.tmp 71) 3, type := 3, pos := "slices.go:178", after := #[{ on := 1, ground := Ground.data }, { on := 2, ground := Ground.data }], guard := none } ?_ (fun _ => hHeld) rfl (by kernel_rfl) (fun _ _ _ h => h) (by rfl) ?_ ?_
  rotate_left
  · intro w; go_simp; try with_reducible rfl
  try simp only [Act.put, List.setIfInBounds_toArray, List.set_cons_zero, List.set_cons_succ]
  refine Kt.G.takeP 4 { dst := some 73, op := Op.slice 22 (Operand.tmp 69) (some (Operand.tmp 72)) none none, type := 22, pos := "slices.go:178", after := #[{ on := 0, ground := Ground.data }, { on := 3, ground := Ground.data }], guard := none } ?_ (fun _ => hHeld) rfl (by kernel_rfl) (fun _ _ _ h => h) (by rfl) ?_ ?_
  rotate_left
  · intro w; go_simp; try with_reducible rfl
  try simp only [Act.put, List.setIfInBounds_toArray, List.set_cons_zero, List.set_cons_succ]
  refine Kt.G.takeP 5 { dst := some 74, op := Op.move (Operand.tmp 0), type := 22, pos := "slices.go:178", after := #[], guard := none } ?_ (fun _ => hHeld) rfl (by kernel_rfl) (fun _ _ _ h => h) (by rfl) ?_ ?_
  rotate_left
  · intro w; go_simp; try with_reducible rfl
  try simp only [Act.put, List.setIfInBounds_toArray, List.set_cons_zero, List.set_cons_succ]
  refine Kt.G.takeP 6 { dst := some 75, op := Op.move (Operand.tmp 1), type := 3, pos := "slices.go:178", after := #[], guard := none } ?_ (fun _ => hHeld) rfl (by kernel_rfl) (fun _ _ _ h => h) (by rfl) ?_ ?_
  rotate_left
  · intro w; go_simp; try with_reducible rfl
  try simp only [Act.put, List.setIfInBounds_toArray, List.set_cons_zero, List.set_cons_succ]
  refine Kt.G.takeP 7 { dst := some 76, op := Op.slice 22 (Operand.tmp 74) (some (Operand.tmp 75)) none none, type := 22, pos := "slices.go:178", after := #[{ on := 5, ground := Ground.data }, { on := 6, ground := Ground.data }], guard := none } ?_ (fun _ => hHeld) rfl (by kernel_rfl) (fun _ _ _ h => h) (by rfl) ?_ ?_
  rotate_left
  · intro w; go_simp; try with_reducible rfl
  try simp only [Act.put, List.setIfInBounds_toArray, List.set_cons_zero, List.set_cons_succ]
  refine Kt.G.one 8 { dst := some 77, op := Op.call { callee := Callee.builtin Builtin.copy, args := #[Operand.tmp 73, Operand.tmp 76], argTypes := #[22, 22] }, type := 3, pos := "slices.go:178", after := #[{ on := 4, ground := Ground.data }, { on := 7, ground := Ground.data }], guard := none } rfl (by kernel_rfl) (by rfl) (fun K hK => ?_)
  refine wp_copy_run _ (.tmp 73) (.tmp 76) 22 22 rfl _ _ rfl rfl (HC1.out _ _ _) ?_
  refine hK.out _ _ (Kt.G.late (by kernel_rfl)) (fun _ => ?_)
  clear hK K
  try simp only [Act.put, List.setIfInBounds_toArray, List.set_cons_zero, List.set_cons_succ]
  refine Kt.G.done (by kernel_rfl) (NoPanic.normal ?_) _
  clear hHeld hov
  go_wp2_with (refine wpList_copy_run _ rfl (.tmp 80) (.tmp 81) 22 22 rfl _ _ rfl rfl (HC2.out _ _) ?_)
  go_ret
  exact ⟨_, _, rfl, HFIN.out.1, HFIN.out.2.1, HFIN.out.2.2⟩
theorem Kt.ins_row2 {e : TypeId} {w : World} {g p : Nat} {cur : Array Value} {xs vs : List Value} (h : w.heap[g]? = some (.cells cur e (0, 0))) (hp : p ≤ xs.length) (hs : xs.length + vs.length ≤ cur.size) (hx : ∀ (j : Nat) (v : Value), j < p → xs[j]? = some v → cur[j]? = some v) :
    ∃ cur' : Array Value, ((w.setCells g p vs).setCells g (p + vs.length) (xs.drop p)).heap[g]? = some (.cells cur' e (0, 0)) ∧ cur'.size = cur.size ∧ ∀ (j : Nat) (v : Value), (xs.take p ++ vs ++ xs.drop p)[j]? = some v → cur'[j]? = some v := by
  obtain ⟨c1, a1, a2, a3, a4, a5⟩ := Kt.setCells_all vs g p w cur h (by omega)
  obtain ⟨c2, b1, b2, b3, b4, b5⟩ := Kt.setCells_all (xs.drop p) g (p + vs.length) _ c1 a1 (by rw [a2, List.length_drop]; omega)
  refine ⟨c2, b1, by rw [b2, a2], fun j v hj => ?_⟩
  have hl : (xs.take p).length = p := by rw [List.length_take]; omega
  rw [List.append_assoc, List.getElem?_append] at hj
  by_cases c1' : j < p
  · rw [if_pos (by omega), List.getElem?_take, if_pos c1'] at hj
    rw [b3 _ (by omega), a3 _ (by omega)]
    exact hx j v c1' hj
  · rw [if_neg (by omega), hl, List.getElem?_append] at hj
    by_cases c2' : j - p < vs.length
    · rw [if_pos c2'] at hj
      rw [b3 _ (by omega)]
      have := a4 _ _ hj
      rwa [show p + (j - p) = j by omega] at this
    · rw [if_neg c2'] at hj
      have := b4 _ _ hj
      rwa [show p + vs.length + (j - p - vs.length) = j by omega] at this
theorem wrap_sub (n i : Nat) (h : n ≤ 64) (hi : i < n) : wrap64 ((n : Int) + 1 - (i : Int)) = (n : Int) + 1 - (i : Int) := by unfold wrap64; omega
theorem drew_sets (b : Nat) : ∀ (vs : List Value) (o : Nat) (w : World), w.drew.setCells b o vs = (w.setCells b o vs).drew
  | [], _, _ => rfl
  | v :: r, o, w => by rw [World.setCells, World.setCells, ← drew_sets b r]; rfl
theorem zero_len (k : Nat) : (Builtin.zeroCells (Value.agg #[.slice none 0 0, .int .i64 0, .int .i64 0, .int .i64 0]).cells k).size = k * 4 := by
  simp [Builtin.zeroCells, Value.cells]
set_option maxRecDepth 100000 in
set_option maxHeartbeats 1600000 in
theorem insert_grow (B g o c : Nat) (l : List Nh) (i : Nat) (x : Nh) (vb vc : Nat) (w : World) (hB : B ≤ w.heap.size) (hs : Kt.Sl w B 25 4 (.slice (some ⟨g, o, none⟩) l.length c) l.length (ncs l)) (hl : l.length ≤ 64) (hi : i < l.length)
    (hv : w.heap[vb]? = some (.cells x.cs.toArray 25 (0, 0))) (hc : c < l.length + 1) :
    Calls Try.prog 26 #[.slice (some ⟨g, o, none⟩) l.length c, .int .i64 i, .slice (some ⟨vb, 0, none⟩) 1 vc] w (InsIs B w (.slice (some ⟨g, o, none⟩) l.length c) l i x) := by
  rcases hs.2 with ⟨hv0, _⟩ | ⟨g', o', cap', cur, hve, hbg, hg, hn, hcm, hsz, hx⟩
  · cases hv0
  cases hve
  have hln := ncs_len l
  obtain ⟨i0, hi0, hz0, hzs, hzb⟩ := info_parts infoN
  have hgw : g < w.heap.size := (Array.getElem?_eq_some_iff.1 hg).1
  have hvw : vb < w.heap.size := (Array.getElem?_eq_some_iff.1 hv).1
  have hold : (Builtin.firstCells i0.size i (.slice (some ⟨g, o, none⟩) i c)).run Try.prog w.drew = .ok ((ncs l).take (i * 4)).toArray w.drew := by
    rw [hzs]
    exact run_firstCells_some w.drew 4 i ⟨g, o, none⟩ i c ((ncs l).take (i * 4)) (by rw [List.length_take, hln]; omega) (fun j v hj => by
      rw [Addr.add_lit]
      rw [List.getElem?_take] at hj
      split at hj
      · exact (cell_of_row w g (o + j) cur _ _ hg).trans (hx j v hj)
      · cases hj)
  have hik : i + (l.length + 1 - i) = l.length + 1 := by omega
  have hrz : ∀ ty, (Builtin.append_ #[22, 3] ty #[.slice (some ⟨g, o, none⟩) i c, .int .i64 ((l.length : Int) + 1 - (i : Int))]).run Try.prog w =
      .ok (.slice (some ⟨w.heap.size, 0, none⟩) (l.length + 1) (grownCap w (l.length + 1) c 25)) (w.drew.alloc (.cells (((ncs l).take (i * 4)).toArray ++ Builtin.zeroCells (Value.agg #[.slice none 0 0, .int .i64 0, .int .i64 0, .int .i64 0]).cells (l.length + 1 - i) ++ Builtin.zeroCells (Value.agg #[.slice none 0 0, .int .i64 0, .int .i64 0, .int .i64 0]).cells (grownCap w (l.length + 1) c 25 - (l.length + 1))) 25)) := fun ty => by
    have h := Lib.run_append_grow_zeros w 22 3 ty 25 i0 _ .i64 .i64 Try.underlying22 Try.underlying3 hi0 hz0 (some ⟨g, o, none⟩) i c ((ncs l).take (i * 4)) hold (l.length + 1 - i) (by omega) (by omega) (by omega) (by omega) (by rw [hzb]; omega) (by rw [hzb, hik]; exact growslice_fits hc (by omega))
    rw [hik] at h
    rw [show (l.length : Int) + 1 - (i : Int) = ((l.length + 1 - i : Nat) : Int) by omega]
    exact h
  obtain ⟨G, hG⟩ : ∃ G, grownCap w (l.length + 1) c 25 = G := ⟨_, rfl⟩
  obtain ⟨ROW, hROW⟩ : ∃ ROW : Array Value, ((ncs l).take (i * 4)).toArray ++ Builtin.zeroCells (Value.agg #[.slice none 0 0, .int .i64 0, .int .i64 0, .int .i64 0]).cells (l.length + 1 - i) ++ Builtin.zeroCells (Value.agg #[.slice none 0 0, .int .i64 0, .int .i64 0, .int .i64 0]).cells (G - (l.length + 1)) = ROW := ⟨_, rfl⟩
  have hGn : l.length + 1 ≤ G := by rw [← hG]; exact grownCap_ge w _ _ _
  have hGm : G ≤ maxLen := by rw [← hG]; exact grownCap_le_maxLen w _ _ _ (by unfold maxLen; omega)
  rw [hG, hROW] at hrz
  have htl : ((ncs l).take (i * 4)).length = i * 4 := by rw [List.length_take, hln]; omega
  have hRz : ROW.size = G * 4 := by
    rw [← hROW, Array.size_append, Array.size_append, zero_len, zero_len, List.size_toArray, htl]
    omega
  have hRx : ∀ j v, j < i * 4 → (ncs l)[j]? = some v → ROW[j]? = some v := fun j v hj hv => by
    rw [← hROW, Array.append_assoc, Array.getElem?_append_left (by rw [List.size_toArray, htl]; exact hj), List.getElem?_toArray, List.getElem?_take, if_pos hj]
    exact hv
  obtain ⟨N, hN⟩ : ∃ N, w.heap.size = N := ⟨_, rfl⟩
  obtain ⟨W1, hW1⟩ : ∃ W1, w.drew.alloc (.cells ROW 25) = W1 := ⟨_, rfl⟩
  rw [hW1, hN] at hrz
  have r1 : W1.heap[N]? = some (.cells ROW 25 (0, 0)) := by rw [← hW1, ← hN]; exact heap_alloc_new w.drew _
  have hb1 : Below w.heap.size w W1 := by rw [← hW1]; exact Kt.balloc (Below.refl _ w).drew _
  have rg1 : W1.heap[g]? = some (.cells cur 25 (0, 0)) := Kt.row_on hb1 hg
  have rv1 : W1.heap[vb]? = some (.cells x.cs.toArray 25 (0, 0)) := Kt.row_on hb1 hv
  have hdl : ((ncs l).drop (i * 4)).length = (l.length - i) * 4 := by rw [List.length_drop, hln]; omega
  have hcpA : ∀ ty dc, (Builtin.copy_ #[22, 22] ty #[.slice (some ⟨N, i * 4, none⟩) (l.length + 1 - i) dc, .slice (some ⟨vb, 0, none⟩) 1 vc]).run Try.prog W1 = .ok (goInt (Nat.min 1 (l.length + 1 - i))) (W1.setCells N (i * 4) x.cs) := fun ty dc =>
    run_copy_sz 4 W1 _ _ ty 25 N (i * 4) _ dc ⟨vb, 0, none⟩ _ vc x.cs Try.underlying22 size_n (by show 4 = _; simp only [Nat.min_def]; split <;> omega)
      (fun j v hj => by
        rw [Addr.add_lit]
        refine (cell_of_row W1 vb (0 + j) _ _ _ rv1).trans ?_
        rw [Nat.zero_add, ← Array.getElem?_toList]; exact hj)
      (fun j hj => by rw [cell_of_row _ _ _ _ _ _ r1, Array.getElem?_eq_getElem (by have : x.cs.length = 4 := rfl; omega)]; rfl) (fun j hj => frozen_of_row _ _ _ _ _ r1) (by intro u hu; exact cs_one x u hu)
  obtain ⟨W2, hW2⟩ : ∃ W2, W1.setCells N (i * 4) x.cs = W2 := ⟨_, rfl⟩
  rw [hW2] at hcpA
  obtain ⟨cu2, r2, rz2, _⟩ := Kt.setCells_all x.cs N (i * 4) W1 ROW r1 (by rw [hRz]; show i * 4 + 4 ≤ _; omega)
  rw [hW2] at r2
  have rg2 : W2.heap[g]? = some (.cells cur 25 (0, 0)) := by rw [← hW2]; exact (Kt.setCells_other _ _ _ _ _ (by omega)).trans rg1
  have hcpB : ∀ ty dc sc, (Builtin.copy_ #[22, 22] ty #[.slice (some ⟨N, (i + 1) * 4, none⟩) (l.length - i) dc, .slice (some ⟨g, o + i * 4, none⟩) (l.length - i) sc]).run Try.prog W2.drew = .ok (goInt (Nat.min (l.length - i) (l.length - i))) (W2.drew.setCells N ((i + 1) * 4) ((ncs l).drop (i * 4))) := fun ty dc sc =>
    run_copy_sz 4 W2.drew _ _ ty 25 N ((i + 1) * 4) _ dc ⟨g, o + i * 4, none⟩ _ sc ((ncs l).drop (i * 4)) Try.underlying22 size_n (by rw [hdl]; congr 1; simp only [Nat.min_def]; split <;> omega)
      (fun j v hj => by
        rw [List.getElem?_drop] at hj
        rw [Addr.add_lit, Nat.add_assoc]
        exact (cell_of_row W2 g (o + (i * 4 + j)) cur _ _ rg2).trans (hx _ _ hj))
      (fun j hj => by
        rw [hdl] at hj
        refine (congrArg Option.isSome (cell_of_row W2 N _ _ _ _ r2)).trans ?_
        rw [Array.getElem?_eq_getElem (by omega)]; rfl) (fun j hj => frozen_of_row W2 _ _ _ _ r2) (fun v hv => ncs_one l v (List.mem_of_mem_drop hv))
  have HFIN : Hid (Kt.Sl (W2.drew.setCells N ((i + 1) * 4) ((ncs l).drop (i * 4))) B 25 4 (.slice (some ⟨N, 0, none⟩) (l.length + 1) G) (l.length + 1) (ncs (l.take i ++ x :: l.drop i)) ∧ Below B w (W2.drew.setCells N ((i + 1) * 4) ((ncs l).drop (i * 4))) ∧ ∀ k, k < w.heap.size → (Value.slice (some ⟨g, o, none⟩) l.length c).ownBlock ≠ some k → (W2.drew.setCells N ((i + 1) * 4) ((ncs l).drop (i * 4))).heap[k]? = w.heap[k]?) := Lib.hid (by
    obtain ⟨cu3, s1, s2, s3⟩ := Kt.ins_row2 (e := 25) (w := W1) (g := N) (p := i * 4) (cur := ROW) (xs := ncs l) (vs := x.cs) r1 (by rw [hln]; omega) (by rw [hRz, hln]; show l.length * 4 + 4 ≤ _; omega) hRx
    rw [show i * 4 + x.cs.length = (i + 1) * 4 by show i * 4 + 4 = _; omega, hW2] at s1
    rw [← ncs_ins l i x (by omega)] at s3
    have s1' : (W2.drew.setCells N ((i + 1) * 4) ((ncs l).drop (i * 4))).heap[N]? = some (.cells cu3 25 (0, 0)) := by
      rw [← s1, drew_sets]; rfl
    refine ⟨⟨by rw [ncs_len]; simp; omega, .inr ⟨N, 0, G, cu3, rfl, by omega, s1', hGn, hGm, by rw [s2, hRz]; omega, fun j v hj => by rw [Nat.zero_add]; exact s3 j v hj⟩⟩, ?_⟩
    refine ⟨Kt.below_setCells _ _ _ _ _ (by omega) (by rw [← hW2]; exact (Kt.below_setCells _ _ _ _ _ (by omega) (hb1.mono hB)).drew), fun k hk _ => ?_⟩
    rw [Kt.setCells_other _ _ _ _ _ (by omega)]
    show W2.heap[k]? = _
    rw [← hW2, Kt.setCells_other _ _ _ _ _ (by omega)]
    exact hb1.block k hk)
  have e1 : (i : Int) < l.length := Int.ofNat_lt.2 hi
  have e2 : ((i : Int) == l.length) = false := by rw [beq_eq_false_iff_ne]; exact Int.ne_of_lt e1
  have e3 : (c : Int) < (l.length : Int) + 1 := by exact_mod_cast hc
  have e4 := wrap_succ l.length hl
  have e6 := wrap_sub l.length i hl hi
  have f1 : IntKind.i64.wrap ((i : Int) + 1) = (i : Int) + 1 := wrap_succ' i (Nat.le_of_lt (Nat.lt_of_lt_of_le hi hl))
  have f2 : (0 : Int) ≤ (i : Int) + 1 := Int.add_nonneg (Int.natCast_nonneg i) (by decide)
  have f3 : (i : Int) + 1 ≤ (l.length : Int) + 1 := Int.add_le_add_right (Int.le_of_lt e1) 1
  have f4 : ((i : Int) + 1).toNat = i + 1 := rfl
  have f5 : ¬ (G = i + 1) := fun e => absurd hGn (by rw [e]; exact Nat.not_le_of_lt (Nat.succ_lt_succ hi))
  have f6 : (i : Int) ≤ (l.length : Int) + 1 := Int.le_trans (Int.le_of_lt e1) (Int.le_add_of_nonneg_right (by decide))
  have f7 : ¬ (G = i) := fun e => absurd hGn (by rw [e]; exact Nat.not_le_of_lt (Nat.lt_succ_of_lt hi))
  have f8 : ¬ (c = i) := fun e => absurd hn (by rw [e]; exact Nat.not_le_of_lt hi)
  have HRZ := Lib.hid hrz
  have HCA := Lib.hid hcpA
  have HCB := Lib.hid hcpB
  clear hrz hcpA hcpB hold hik hG hROW hRz hRx htl hdl hN hW1 hW2 r1 r2 rz2 rg1 rg2 rv1 hb1 hx hsz hg hv hs hln hgw hvw hi0 hz0 hzs hzb hGn hGm
  go_enter Try.func26, Try.ntmps26
  go_upto_region 9 with (fail)
  have hca := HCA.out
  go_wp2_with (at_builtin; refine Lib.wpList_append_run _ rfl (.tmp 34) (.tmp 39) _ _ rfl _ _ rfl rfl _ _ (HRZ.out _) ?_)
  clear hca
  have f9 : (i : Int) ≤ (l.length : Int) := Int.le_of_lt e1
  refine Kt.G.start 8 (fun _ => True) (by kernel_rfl) trivial (fun hHeld => ?_)
  refine Kt.G.takeP 0 { dst := some 46, op := Op.move (Operand.tmp 9), type := 22, pos := "slices.go:154", after := #[], guard := none } ?_ (fun _ => hHeld) rfl (by kernel_rfl) (fun _ _ _ h => h) (by rfl) ?_ ?_
  rotate_left
  · intro w; go_simp; try with_reducible rfl
  try simp only [Act.put, List.setIfInBounds_toArray, List.set_cons_zero, List.set_cons_succ]
  refine Kt.G.takeP 1 { dst := some 47, op := Op.move (Operand.tmp 1), type := 3, pos := "slices.go:154", after := #[], guard := none } ?_ (fun _ => hHeld) rfl (by kernel_rfl) (fun _ _ _ h => h) (by rfl) ?_ ?_
  rotate_left
  · intro w; go_simp; try with_reducible rfl
  try simp only [Act.put, List.setIfInBounds_toArray, List.set_cons_zero, List.set_cons_succ]
  refine Kt.G.takeP 2 { dst := some 48, op := Op.move (Operand.tmp 7), type := 3, pos := "slices.go:154", after := #[], guard := none } ?_ (fun _ => hHeld) rfl (by kernel_rfl) (fun _ _ _ h => h) (by rfl) ?_ ?_
  rotate_left
  · intro w; go_simp; try with_reducible rfl
  try simp only [Act.put, List.setIfInBounds_toArray, List.set_cons_zero, List.set_cons_succ]
  refine Kt.G.takeP 3 { dst := some 49, op := Op.binOp BinOp.add 3 (Operand.tmp 47) (Operand.tmp 48) 3, type := 3, pos := "slices.go:154", after := #[{ on := 1, ground := Ground.data }, { on := 2, ground := Ground.data }], guard := none } ?_ (fun _ => hHeld) rfl (by kernel_rfl) (fun _ _ _ h => h) (by rfl) ?_ ?_
  rotate_left
  · intro w; go_simp; try with_reducible rfl
  try simp only [Act.put, List.setIfInBounds_toArray, List.set_cons_zero, List.set_cons_succ]
  refine Kt.G.takeP 4 { dst := some 50, op := Op.slice 22 (Operand.tmp 46) (some (Operand.tmp 49)) none none, type := 22, pos := "slices.go:154", after := #[{ on := 0, ground := Ground.data }, { on := 3, ground := Ground.data }], guard := none } ?_ (fun _ => hHeld) rfl (by kernel_rfl) (fun _ _ _ h => h) (by rfl) ?_ ?_
  rotate_left
  · intro w; go_simp; try with_reducible rfl
  try simp only [Act.put, List.setIfInBounds_toArray, List.set_cons_zero, List.set_cons_succ]
  refine Kt.G.takeP 5 { dst := some 51, op := Op.move (Operand.tmp 0), type := 22, pos := "slices.go:154", after := #[], guard := none } ?_ (fun _ => hHeld) rfl (by kernel_rfl) (fun _ _ _ h => h) (by rfl) ?_ ?_
  rotate_left
  · intro w; go_simp; try with_reducible rfl
  try simp only [Act.put, List.setIfInBounds_toArray, List.set_cons_zero, List.set_cons_succ]
  refine Kt.G.takeP 6 { dst := some 52, op := Op.move (Operand.tmp 1), type := 3, pos := "slices.go:154", after := #[], guard := none } ?_ (fun _ => hHeld) rfl (by kernel_rfl) (fun _ _ _ h => h) (by rfl) ?_ ?_
  rotate_left
  · intro w; go_simp; try with_reducible rfl
  try simp only [Act.put, List.setIfInBounds_toArray, List.set_cons_zero, List.set_cons_succ]
  refine Kt.G.takeP 7 { dst := some 53, op := Op.slice 22 (Operand.tmp 51) (some (Operand.tmp 52)) none none, type := 22, pos := "slices.go:154", after := #[{ on := 5, ground := Ground.data }, { on := 6, ground := Ground.data }], guard := none } ?_ (fun _ => hHeld) rfl (by kernel_rfl) (fun _ _ _ h => h) (by rfl) ?_ ?_
  rotate_left
  · intro w; go_simp; try with_reducible rfl
  try simp only [Act.put, List.setIfInBounds_toArray, List.set_cons_zero, List.set_cons_succ]
  refine Kt.G.one 8 { dst := some 54, op := Op.call { callee := Callee.builtin Builtin.copy, args := #[Operand.tmp 50, Operand.tmp 53], argTypes := #[22, 22] }, type := 3, pos := "slices.go:154", after := #[{ on := 4, ground := Ground.data }, { on := 7, ground := Ground.data }], guard := none } rfl (by kernel_rfl) (by rfl) (fun K hK => ?_)
  refine wp_copy_run _ (.tmp 50) (.tmp 53) 22 22 rfl _ _ rfl rfl (HCB.out _ _ _) ?_
  refine hK.out _ _ (Kt.G.late (by kernel_rfl)) (fun _ => ?_)
  clear hK K
  try simp only [Act.put, List.setIfInBounds_toArray, List.set_cons_zero, List.set_cons_succ]
  refine Kt.G.done (by kernel_rfl) (NoPanic.normal ?_) _
  clear hHeld
  go_wp2_with fail
  go_ret
  exact ⟨_, _, rfl, HFIN.out.1, HFIN.out.2.1, HFIN.out.2.2⟩
theorem insert_calls (B : Nat) (A : Option Addr) (c : Nat) (l : List Nh) (i : Nat) (x : Nh) (vb vc : Nat) (w : World) (hB : B ≤ w.heap.size) (hs : Kt.Sl w B 25 4 (.slice A l.length c) l.length (ncs l)) (hl : l.length ≤ 64) (hi : i ≤ l.length)
    (hv : w.heap[vb]? = some (.cells x.cs.toArray 25 (0, 0))) (hvc : 1 ≤ vc) (hne : ∀ k, (Value.slice A l.length c).ownBlock = some k → vb ≠ k) :
    Calls Try.prog 26 #[.slice A l.length c, .int .i64 i, .slice (some ⟨vb, 0, none⟩) 1 vc] w (InsIs B w (.slice A l.length c) l i x) := by
  by_cases e : i = l.length
  · subst e
    refine insert_end B A c l x vb vc w hB hs hl ⟨rfl, _, vc, rfl, hvc, fun _ => ⟨vb, 0, rfl, (Array.getElem?_eq_some_iff.1 hv).1, fun j hj => ?_⟩⟩
    rw [Nat.zero_add, cell_of_row _ _ _ _ _ _ hv, ← Array.getElem?_toList]
    exact List.getElem?_eq_getElem hj
  · obtain ⟨g, o, cap, hve, _, _, _, _, _, _⟩ := hs.cells (by omega)
    cases hve
    by_cases hc : l.length + 1 ≤ c
    · exact insert_shift B g o c l i x vb vc w hB hs hl (by omega) hv (hne g rfl) hc
    · exact insert_grow B g o c l i x vb vc w hB hs hl (by omega) hv (by omega)
end Go.Proofs.Ytmjcokmfjofgnaa
