/- 'append(x, y...)' where y is any slice that can be read, nil too. -/
import Derived.Test.YtafiedhjjnapoaaArg
import Derived.Test.YtafiedhjjnapoaaSlm
namespace Go.Proofs.Ytafiedhjjnapoaa.Kt
open Go.RowKit
section
variable {P : Program} {w : World}
theorem run_append_nil (B : Nat) (t ty e : TypeId) (i : TypeInfo) (size : Nat) (ht : P.underlying t = some (.slice e)) (hi : P.info? e = some i) (v : Value) (n : Nat) (xs : List Value) (h : Sl w B e size v n xs) (c : Nat) :
    (Builtin.append_ #[t, t] ty #[v, .slice none 0 c]).run P w = .ok v w := by
  rcases h.2 with ⟨rfl, rfl⟩ | ⟨g, o, cap, cur, rfl, hb, hg, hn, hc, hs, hx⟩
  · simp [Builtin.append_, run_underlying ht, sizeOf, typeInfo, hi, Builtin.lenOf, Builtin.firstCells]
  · simp [Builtin.append_, run_underlying ht, sizeOf, typeInfo, hi, Builtin.lenOf, Builtin.firstCells, hn, storeCells]
theorem run_append_ar (B : Nat) (t ty e : TypeId) (z : Value) (size bytes : Nat) (hinfo : (P.info? e).map (fun i => (i.zero, i.size, i.bytes)) = some (some z, size, bytes)) (ht : P.underlying t = some (.slice e)) (hzs : z.cells.size = size) (hsz : 0 < size)
    (v : Value) (n : Nat) (xs : List Value) (h : Sl w B e size v n xs) (u : Value) (m : Nat) (news : List Value) (hu : Ar w u size m news) (h1 : ∀ u ∈ news, u.oneCell' = true)
    (h63 : n + m ≤ maxLen) (hbytes : (n + m) * bytes ≤ 140737488355328) (hB : B ≤ w.heap.size) :
    ∃ v' w', (Builtin.append_ #[t, t] ty #[v, u]).run P w = .ok v' w' ∧ Sl w' B e size v' (n + m) (xs ++ news) ∧ Below B w w' ∧ w.heap.size ≤ w'.heap.size ∧
      (∀ k, k < w.heap.size → v.ownBlock ≠ some k → w'.heap[k]? = w.heap[k]?) ∧ ∀ k, v'.ownBlock = some k → v.ownBlock = some k ∨ w.heap.size ≤ k := by
  obtain ⟨A, c, rfl, hmc, hx⟩ := hu.form
  have hl := hu.len
  cases A with
  | none =>
    have hm0 : m = 0 := by
      rcases Nat.eq_zero_or_pos m with h0 | h0
      · exact h0
      · obtain ⟨b, o, e, _⟩ := hx h0; cases e
    subst hm0
    obtain rfl : news = [] := List.eq_nil_of_length_eq_zero (by simpa using hl)
    obtain ⟨i, hi, _, _, _⟩ := info_parts hinfo
    exact ⟨v, w, run_append_nil B t ty e i size ht hi v n xs h c, by simpa using h, Below.refl _ _, Nat.le_refl _, fun _ _ _ => rfl, fun k hk => .inl hk⟩
  | some ad =>
    refine run_append_sl (P := P) w B t ty e z size bytes hinfo ht hzs hsz v n xs h ad m c news hl (fun j x hj => ?_) h1 h63 hbytes hB
    have hj1 := (List.getElem?_eq_some_iff.1 hj).1
    have h0 : 0 < m := by
      rcases Nat.eq_zero_or_pos m with h0 | h0
      · subst h0; rw [hl] at hj1; simp at hj1
      · exact h0
    obtain ⟨b, o, e, hb, hc⟩ := hx h0
    injection e with e
    subst e
    rw [Addr.add_lit, hc j hj1, (List.getElem?_eq_some_iff.1 hj).2]
theorem append_ar {ops : Array Oper} {rest : List Oper} {o : Oper} {a : Act} {Q : Exit → Act → World → Prop} (hgd : Region.wanted o (yielded ops a.tmps) = true) (s x : Operand) (t : TypeId)
    (ho : o.op = .call { callee := .builtin .append, args := #[s, x], argTypes := #[t, t] })
    (B : Nat) (e : TypeId) (z : Value) (size bytes : Nat) (hinfo : (P.info? e).map (fun i => (i.zero, i.size, i.bytes)) = some (some z, size, bytes)) (ht : P.underlying t = some (.slice e)) (hzs : z.cells.size = size) (hsz : 0 < size)
    (v : Value) (n : Nat) (xs : List Value) (hs : a.eval s = v) (h : Sl w B e size v n xs) (u : Value) (m : Nat) (news : List Value) (hx : a.eval x = u) (hu : Ar w u size m news) (h1 : ∀ u ∈ news, u.oneCell' = true)
    (h63 : n + m ≤ maxLen) (hbytes : (n + m) * bytes ≤ 140737488355328) (hB : B ≤ w.heap.size)
    (hK : ∀ A' c' w', Sl w' B e size (.slice A' (n + m) c') (n + m) (xs ++ news) → Below B w w' → w.heap.size ≤ w'.heap.size → (∀ k, k < w.heap.size → v.ownBlock ≠ some k → w'.heap[k]? = w.heap[k]?) → (∀ k, (Value.slice A' (n + m) c').ownBlock = some k → v.ownBlock = some k ∨ w.heap.size ≤ k) → wpList P ops Q rest (a.put o.dst (.slice A' (n + m) c')) w') : wpList P ops Q (o :: rest) a w := by
  obtain ⟨v', w', hrun, r1, r2, r3, r4, r5⟩ := run_append_ar (P := P) B t o.type e z size bytes hinfo ht hzs hsz v n xs h u m news hu h1 h63 hbytes hB
  obtain ⟨A', c', rfl, _, _⟩ := r1.form
  refine BigFrame.wpList_want hgd fun K hK' => ?_
  unfold Oper.wp
  simp [execOp, ho, resolve, invoke, builtin, hs, hx, hrun, Result.andThen]
  exact hK' _ _ (hK A' c' w' r1 r2 r3 r4 r5)
theorem wp_append_ar {K : Act → World → Prop} {o : Oper} {a : Act} {Q : Exit → Act → World → Prop} (s x : Operand) (t : TypeId)
    (ho : o.op = .call { callee := .builtin .append, args := #[s, x], argTypes := #[t, t] })
    (B : Nat) (e : TypeId) (z : Value) (size bytes : Nat) (hinfo : (P.info? e).map (fun i => (i.zero, i.size, i.bytes)) = some (some z, size, bytes)) (ht : P.underlying t = some (.slice e)) (hzs : z.cells.size = size) (hsz : 0 < size)
    (v : Value) (n : Nat) (xs : List Value) (hs : a.eval s = v) (h : Sl w B e size v n xs) (u : Value) (m : Nat) (news : List Value) (hx : a.eval x = u) (hu : Ar w u size m news) (h1 : ∀ u ∈ news, u.oneCell' = true)
    (h63 : n + m ≤ maxLen) (hbytes : (n + m) * bytes ≤ 140737488355328) (hB : B ≤ w.heap.size)
    (hK : ∀ A' c' w', Sl w' B e size (.slice A' (n + m) c') (n + m) (xs ++ news) → Below B w w' → w.heap.size ≤ w'.heap.size → (∀ k, k < w.heap.size → v.ownBlock ≠ some k → w'.heap[k]? = w.heap[k]?) → (∀ k, (Value.slice A' (n + m) c').ownBlock = some k → v.ownBlock = some k ∨ w.heap.size ≤ k) → K (a.put o.dst (.slice A' (n + m) c')) w') : o.wp P a w K Q := by
  obtain ⟨v', w', hrun, r1, r2, r3, r4, r5⟩ := run_append_ar (P := P) B t o.type e z size bytes hinfo ht hzs hsz v n xs h u m news hu h1 h63 hbytes hB
  obtain ⟨A', c', rfl, _, _⟩ := r1.form
  unfold Oper.wp
  simp [execOp, ho, resolve, invoke, builtin, hs, hx, hrun, Result.andThen]
  exact hK A' c' w' r1 r2 r3 r4 r5
end
end Go.Proofs.Ytafiedhjjnapoaa.Kt
