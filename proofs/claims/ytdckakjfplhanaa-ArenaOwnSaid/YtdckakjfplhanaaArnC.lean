/- slices.Clone of spans; copy at elements of any size; rows that are stored in part. -/
import Derived.Test.YtdckakjfplhanaaArnX
import Derived.Laws.IdiomCopy
namespace Go.Proofs.Ytdckakjfplhanaa
open Go.RowKit
theorem infoCl : (Try.prog.info? 30).map (fun i => (i.zero, i.size, i.bytes)) = some (some (.agg #[.int .i64 0, .int .i64 0]), 2, 16) := by kernel_rfl
set_option maxHeartbeats 800000 in
theorem clones_calls (v : Value) (n : Nat) (xs : List Value) (w : World) (h : Kt.Ar w v 2 n xs) (h1 : ∀ u ∈ xs, u.oneCell' = true) (hn : n ≤ 8796093022208) :
    Calls Try.prog 13 #[v] w fun e w' => ∃ A c, e = .returned (.slice A n c) ∧ Kt.Sl w' w.heap.size 30 2 (.slice A n c) n xs ∧ Below w.heap.size w w' := by
  have qT : ∀ (w : World) (a : Option Addr) (n c n' c' : Nat), (binOp .eql 22 (.slice a n c) (.slice none n' c')).run Try.prog w = .ok (.bool a.isNone) w := fun w a n c n' c' => Lib.run_eql_slice_nil w _ _ a n c n' c' Try.underlying22
  obtain ⟨A, c, rfl, hnc, hx⟩ := h.form
  have hlen := h.len
  cases A with
  | none =>
    have hn0 : n = 0 := by
      rcases Nat.eq_zero_or_pos n with h0 | h0
      · exact h0
      · obtain ⟨b, o, e, _⟩ := hx h0; cases e
    subst hn0
    obtain rfl : xs = [] := List.eq_nil_of_length_eq_zero (by simpa using hlen)
    go_enter Try.func13, Try.ntmps13
    go_wp2
    go_ret
    exact ⟨none, 0, rfl, Kt.Sl.nil _ _ _ _, Below.refl _ _⟩
  | some ad =>
    have hnews : ∀ j u, xs[j]? = some u → (w.alloc (.cells #[] 30)).cell? (ad.add j) = some u := by
      intro j u hj
      obtain ⟨hj1, hj2⟩ := List.getElem?_eq_some_iff.1 hj
      obtain ⟨b, o, e, hb, hc⟩ := hx (by omega)
      injection e with e
      subst e
      rw [Addr.add_lit, World.cell?_alloc_lt _ _ _ (by exact hb), hc j hj1, hj2]
    have hs0 : Kt.Sl (w.alloc (.cells #[] 30)) w.heap.size 30 2 (.slice (some ⟨w.heap.size, 0, none⟩) 0 0) 0 [] :=
      ⟨rfl, .inr ⟨w.heap.size, 0, 0, #[], rfl, Nat.le_refl _, heap_alloc_new w _, Nat.le_refl _, by simp [maxLen], by simp, fun j u hj => by simp at hj⟩⟩
    go_enter Try.func13, Try.ntmps13
    go_wp2_with (
      refine Kt.append_sl _ (by rfl) (.tmp 5) (.tmp 6) 22 rfl w.heap.size 30 (.agg #[.int .i64 0, .int .i64 0]) 2 16 infoCl Try.underlying22 rfl (by decide) _ 0 [] rfl hs0 ad n c xs rfl hlen hnews h1 (by unfold maxLen; omega) (by omega) (by rw [World.size_alloc]; omega) ?_
      intro A' c' w1 hs1 hb1 hz1 hk1 hl1
      clear hk1 hl1 hs0 hnews hx)
    go_ret
    rw [Nat.zero_add] at hs1
    exact ⟨A', c', rfl, hs1, ((Below.refl _ w).alloc (Nat.le_refl _) _).trans hb1⟩
section
variable {P : Program}
theorem run_copy_sz (sz : Nat) (w : World) (dT sT ty elem : TypeId) (b o dLen dCap : Nat) (a : Addr) (sLen sCap : Nat) (cs : List Value)
    (hu : P.underlying dT = some (.slice elem)) (hs : (P.info? elem).map (·.size) = some sz) (hn : cs.length = Nat.min sLen dLen * sz)
    (hsrc : ∀ j v, cs[j]? = some v → w.cell? (a.add j) = some v) (hc : ∀ j, j < cs.length → (w.cell? ⟨b, o + j, none⟩).isSome = true) (hf : ∀ j, j < cs.length → w.frozen? ⟨b, o + j, none⟩ = false) (h1 : ∀ v ∈ cs, v.oneCell' = true) :
    (Builtin.copy_ #[dT, sT] ty #[.slice (some ⟨b, o, none⟩) dLen dCap, .slice (some a) sLen sCap]).run P w = .ok (goInt (Nat.min sLen dLen)) (w.setCells b o cs) := by
  have hst := run_storeCells_cells (P := P) b o cs 0 w (by simpa using hc) (by simpa using hf) h1
  cases hq : P.info? elem with
  | none => simp [hq] at hs
  | some i =>
    have hi : i.size = sz := by simpa [hq] using hs
    have hfc := run_firstCells_some (P := P) w sz (Nat.min sLen dLen) a sLen sCap cs hn hsrc
    simp [Builtin.copy_, run_underlying hu, Builtin.lenOf, sizeOf, typeInfo, hq, hi, hfc, hst]
theorem wp_copy_run (w : World) {o : Oper} {a : Act} {K : Act → World → Prop} {Q : Exit → Act → World → Prop} (d s : Operand) (t t' : TypeId)
    (ho : o.op = .call { callee := .builtin .copy, args := #[d, s], argTypes := #[t, t'] }) (v u : Value) (hd : a.eval d = v) (hs : a.eval s = u) {v' : Value} {w' : World}
    (hr : (Builtin.copy_ #[t, t'] o.type #[v, u]).run P w = .ok v' w') (h : K (a.put o.dst v') w') : o.wp P a w K Q := by
  unfold Oper.wp execOp
  simp only [ho, resolve, invoke, builtin, Sem.run_bind, Sem.run_pure, Result.andThen_ok, List.map_toArray, List.map_cons, List.map_nil, hd, hs, hr]
  exact h
theorem wpList_copy_run (w : World) {ops : Array Oper} {rest : List Oper} {o : Oper} {a : Act} {Q : Exit → Act → World → Prop} (hgd : o.guard = none) (d s : Operand) (t t' : TypeId)
    (ho : o.op = .call { callee := .builtin .copy, args := #[d, s], argTypes := #[t, t'] }) (v u : Value) (hd : a.eval d = v) (hs : a.eval s = u) {v' : Value} {w' : World}
    (hr : (Builtin.copy_ #[t, t'] o.type #[v, u]).run P w = .ok v' w') (h : wpList P ops Q rest (a.put o.dst v') w') : wpList P ops Q (o :: rest) a w :=
  wpList_plain hgd fun _ hK => wp_copy_run w d s t t' ho v u hd hs hr (hK _ _ h)
end
/-- a row that is stored in part: all else stands -/
theorem Kt.setCells_all {e : TypeId} : ∀ (news : List Value) (g off : Nat) (w : World) (cur : Array Value), w.heap[g]? = some (.cells cur e (0, 0)) → off + news.length ≤ cur.size →
    ∃ cur', (w.setCells g off news).heap[g]? = some (.cells cur' e (0, 0)) ∧ cur'.size = cur.size ∧ (∀ j, j < off → cur'[j]? = cur[j]?) ∧ (∀ j u, news[j]? = some u → cur'[off + j]? = some u) ∧ ∀ j, off + news.length ≤ j → cur'[j]? = cur[j]?
  | [], g, off, w, cur, h, _ => ⟨cur, h, rfl, fun _ _ => rfl, fun j u hj => by simp at hj, fun _ _ => rfl⟩
  | x :: news, g, off, w, cur, h, hl => by
    simp only [List.length_cons] at hl
    have h1 : (w.setCell ⟨g, off, none⟩ x).heap[g]? = some (.cells (cur.setIfInBounds off x) e (0, 0)) := heap_setCell_same _ _ _ _ _ _ h
    obtain ⟨cur', h2, h3, h4, h5, h6⟩ := Kt.setCells_all news g (off + 1) _ _ h1 (by simp; omega)
    refine ⟨cur', h2, by simpa using h3, fun j hj => ?_, fun j u hj => ?_, fun j hj => ?_⟩
    · rw [h4 j (by omega), Array.getElem?_setIfInBounds_ne (by omega)]
    · cases j with
      | zero =>
        simp at hj; subst hj
        rw [Nat.add_zero, h4 off (by omega), Array.getElem?_setIfInBounds_self_of_lt (by omega)]
      | succ j =>
        rw [show off + (j + 1) = off + 1 + j by omega]
        exact h5 j u (by simpa using hj)
    · simp only [List.length_cons] at hj
      rw [h6 j (by omega), Array.getElem?_setIfInBounds_ne (by omega)]
/-- two stores into a row: what stood from p on, moved behind, and the new ones at p -/
theorem Kt.ins_row {e : TypeId} {w : World} {g o p : Nat} {cur : Array Value} {xs vs : List Value} (h : w.heap[g]? = some (.cells cur e (0, 0))) (hp : p ≤ xs.length) (hs : o + xs.length + vs.length ≤ cur.size) (hx : ∀ j v, j < p → xs[j]? = some v → cur[o + j]? = some v) :
    ∃ cur', ((w.setCells g (o + (p + vs.length)) (xs.drop p)).setCells g (o + p) vs).heap[g]? = some (.cells cur' e (0, 0)) ∧ cur'.size = cur.size ∧ ∀ j v, (xs.take p ++ vs ++ xs.drop p)[j]? = some v → cur'[o + j]? = some v := by
  obtain ⟨c1, a1, a2, a3, a4, a5⟩ := Kt.setCells_all (xs.drop p) g (o + (p + vs.length)) w cur h (by rw [List.length_drop]; omega)
  obtain ⟨c2, b1, b2, b3, b4, b5⟩ := Kt.setCells_all vs g (o + p) _ c1 a1 (by rw [a2]; omega)
  refine ⟨c2, b1, by rw [b2, a2], fun j v hj => ?_⟩
  have hl : (xs.take p).length = p := by rw [List.length_take]; omega
  rw [List.append_assoc, List.getElem?_append] at hj
  by_cases c1' : j < p
  · rw [if_pos (by omega), List.getElem?_take, if_pos c1'] at hj
    rw [b3 _ (by omega), a3 _ (by omega)]
    exact hx j v c1' hj
  · rw [if_neg (by omega), hl, List.getElem?_append] at hj
    by_cases c2' : j - p < vs.length
    · rw [if_pos c2'] at hj
      have := b4 _ _ hj
      rwa [show o + p + (j - p) = o + j by omega] at this
    · rw [if_neg c2'] at hj
      rw [b5 _ (by omega)]
      have := a4 _ _ hj
      rwa [show o + (p + vs.length) + (j - p - vs.length) = o + j by omega] at this
end Go.Proofs.Ytdckakjfplhanaa
