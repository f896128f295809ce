/- A slice that lies anywhere in a block of the call's own: read, cut, appended to. -/
import Derived.Test.YtafiedhjjnapoaaKit
import Derived.Deep.MidRow
import Derived.ArgAppend
namespace Go.Proofs.Ytafiedhjjnapoaa.Kt
open Go.RowKit
/-- v is nil, or lies in a block from B on, behind which its capacity is there -/
def Sl (w : World) (B : Nat) (e : TypeId) (sz : Nat) (v : Value) (n : Nat) (xs : List Value) : Prop :=
  xs.length = n * sz ∧ ((v = .slice none 0 0 ∧ n = 0) ∨
   ∃ g o cap cur, v = .slice (some ⟨g, o, none⟩) n cap ∧ B ≤ g ∧ w.heap[g]? = some (.cells cur e (0, 0)) ∧ n ≤ cap ∧ cap ≤ maxLen ∧ o + cap * sz ≤ cur.size ∧ ∀ j u, xs[j]? = some u → cur[o + j]? = some u)
section
variable {w w' : World} {B : Nat} {e : TypeId} {sz n : Nat} {v : Value} {xs : List Value}
theorem Sl.nil (w : World) (B : Nat) (e : TypeId) (sz : Nat) : Sl w B e sz (.slice none 0 0) 0 [] := ⟨by simp, .inl ⟨rfl, rfl⟩⟩
theorem Sl.of_own (h : w.ownsRow B e sz v n xs) : Sl w B e sz v n xs := by
  refine ⟨h.1, ?_⟩
  rcases h.2 with h0 | ⟨g, cap, cur, rfl, hb, hg, hn, hc, hs, ht⟩
  · exact .inl h0
  · refine .inr ⟨g, 0, cap, cur, rfl, hb, hg, hn, hc, by omega, fun j u hj => ?_⟩
    rw [← ht, List.getElem?_take] at hj
    split at hj
    · rw [Nat.zero_add]; simpa using hj
    · cases hj
theorem Sl.keep (h : Sl w B e sz v n xs) (hk : ∀ k, v.ownBlock = some k → w'.heap[k]? = w.heap[k]?) : Sl w' B e sz v n xs := by
  refine ⟨h.1, ?_⟩
  rcases h.2 with h0 | ⟨g, o, cap, cur, rfl, hb, hg, r⟩
  · exact .inl h0
  · exact .inr ⟨g, o, cap, cur, rfl, hb, (hk g rfl).trans hg, r⟩
theorem Sl.lt (h : Sl w B e sz v n xs) : ∀ k, v.ownBlock = some k → B ≤ k ∧ k < w.heap.size := by
  intro k hk
  rcases h.2 with ⟨rfl, _⟩ | ⟨g, o, cap, cur, rfl, hb, hg, _⟩
  · cases hk
  · simp [Value.ownBlock] at hk; subst hk; exact ⟨hb, (Array.getElem?_eq_some_iff.1 hg).1⟩
theorem Sl.on (h : Sl w B e sz v n xs) (b : Below w.heap.size w w') : Sl w' B e sz v n xs := h.keep fun k hk => b.block k (h.lt k hk).2
theorem Sl.alloc (h : Sl w B e sz v n xs) (o : Obj) : Sl (w.alloc o) B e sz v n xs := h.keep fun k hk => Below.heap_alloc w o k (h.lt k hk).2
theorem Sl.drew (h : Sl w B e sz v n xs) : Sl w.drew B e sz v n xs := h
theorem Sl.mono (h : Sl w B e sz v n xs) {B' : Nat} (hb : B' ≤ B) : Sl w B' e sz v n xs :=
  ⟨h.1, h.2.imp id fun ⟨g, o, cap, cur, h1, h2, h3⟩ => ⟨g, o, cap, cur, h1, Nat.le_trans hb h2, h3⟩⟩
theorem Sl.form (h : Sl w B e sz v n xs) : ∃ A c, v = .slice A n c ∧ n ≤ c ∧ c ≤ maxLen := by
  rcases h.2 with ⟨rfl, rfl⟩ | ⟨g, o, cap, cur, rfl, hb, hg, hn, hc, _⟩
  · exact ⟨none, 0, rfl, Nat.le_refl _, by simp [maxLen]⟩
  · exact ⟨_, cap, rfl, hn, hc⟩
theorem Sl.cells (h : Sl w B e sz v n xs) (hn : 0 < n) : ∃ g o cap, v = .slice (some ⟨g, o, none⟩) n cap ∧ B ≤ g ∧ g < w.heap.size ∧ n ≤ cap ∧ cap ≤ maxLen ∧ (∀ j (hj : j < xs.length), w.cell? ⟨g, o + j, none⟩ = some xs[j]) ∧ ∀ j, w.frozen? ⟨g, j, none⟩ = false := by
  rcases h.2 with ⟨_, rfl⟩ | ⟨g, o, cap, cur, rfl, hb, hg, hnc, hc, hs, ht⟩
  · omega
  · exact ⟨g, o, cap, rfl, hb, (Array.getElem?_eq_some_iff.1 hg).1, hnc, hc, fun j hj => (cell_of_row w g (o + j) cur e (0, 0) hg).trans (ht j _ (List.getElem?_eq_getElem hj)), fun j => frozen_of_row w g j cur e hg⟩
/-- 'v[1:]' -/
theorem Sl.tail {A : Option Addr} {c : Nat} (h : Sl w B e sz (.slice A n c) n xs) (hn : 0 < n) : Sl w B e sz (.slice (if c = 1 then A else A.map (·.add (1 * sz))) (n - 1) (c - 1)) (n - 1) (xs.drop (1 * sz)) := by
  refine ⟨by rw [List.length_drop, h.1, Nat.sub_mul], .inr ?_⟩
  rcases h.2 with ⟨_, rfl⟩ | ⟨g, o, cap, cur, hv, hb, hg, hnc, hc, hs, ht⟩
  · omega
  · injection hv with h1 h2 h3
    subst h1 h3
    split
    · rename_i h1
      subst h1
      refine ⟨g, o, 1 - 1, cur, rfl, hb, hg, by omega, by simp [maxLen], by omega, fun j u hj => ?_⟩
      rw [List.getElem?_drop] at hj
      have := (List.getElem?_eq_some_iff.1 hj).1
      have hn1 : n = 1 := by omega
      rw [h.1, hn1] at this
      omega
    · refine ⟨g, o + 1 * sz, c - 1, cur, ?_, hb, hg, by omega, by omega, ?_, fun j u hj => ?_⟩
      · simp only [Option.map_some, Addr.add]
        by_cases h0 : 1 * sz = 0
        · simp [h0]
        · simp at h0; simp [h0]
      · have : c * sz = (c - 1) * sz + 1 * sz := by rw [← Nat.add_mul]; congr 1; omega
        omega
      · rw [List.getElem?_drop] at hj
        rw [Nat.add_assoc]; exact ht _ _ hj
theorem setCells_row : ∀ (news : List Value) (g off : Nat) (w : World) (cur : Array Value), w.heap[g]? = some (.cells cur e (0, 0)) → off + news.length ≤ cur.size →
    ∃ cur', (w.setCells g off news).heap[g]? = some (.cells cur' e (0, 0)) ∧ cur'.size = cur.size ∧ (∀ j, j < off → cur'[j]? = cur[j]?) ∧ ∀ j u, news[j]? = some u → cur'[off + j]? = some u
  | [], g, off, w, cur, h, _ => ⟨cur, h, rfl, fun _ _ => rfl, fun j u hj => by simp at hj⟩
  | x :: news, g, off, w, cur, h, hl => by
    simp only [List.length_cons] at hl
    have h1 : (w.setCell ⟨g, off, none⟩ x).heap[g]? = some (.cells (cur.setIfInBounds off x) e (0, 0)) := heap_setCell_same _ _ _ _ _ _ h
    obtain ⟨cur', h2, h3, h4, h5⟩ := setCells_row news g (off + 1) _ _ h1 (by simp; omega)
    refine ⟨cur', h2, by simpa using h3, fun j hj => ?_, fun j u hj => ?_⟩
    · rw [h4 j (by omega), Array.getElem?_setIfInBounds_ne (by omega)]
    · cases j with
      | zero =>
        simp at hj; subst hj
        rw [Nat.add_zero, h4 off (by omega), Array.getElem?_setIfInBounds_self_of_lt (by omega)]
      | succ j =>
        rw [show off + (j + 1) = off + 1 + j by omega]
        exact h5 j u (by simpa using hj)
theorem below_setCells : ∀ (news : List Value) (g off : Nat) (w a : World), B ≤ g → Below B a w → Below B a (w.setCells g off news)
  | [], _, _, _, _, _, h => h
  | x :: news, g, off, _, a, hg, h => below_setCells news g (off + 1) _ a hg (h.setCell hg x)
theorem setCells_other : ∀ (news : List Value) (g off : Nat) (w : World) (k : Nat), k ≠ g → (w.setCells g off news).heap[k]? = w.heap[k]?
  | [], _, _, _, _, _ => rfl
  | _ :: news, g, off, _, k, hk => (setCells_other news g (off + 1) _ k hk).trans (heap_setCell_other _ _ _ _ hk)
theorem setCells_size : ∀ (news : List Value) (g off : Nat) (w : World), (w.setCells g off news).heap.size = w.heap.size
  | [], _, _, _ => rfl
  | x :: news, g, off, w => (setCells_size news g (off + 1) _).trans (by simp [World.setCell])
theorem below_grown {w w' : World} (h : w.grownBy w' none) (hB : B ≤ w.heap.size) : Below B w w' := (Below.refl B w).grown h hB (fun k hk => by cases hk)
end
section
variable {P : Program} (w : World)
theorem run_append_sl (B : Nat) (t ty e : TypeId) (z : Value) (size bytes : Nat) (hinfo : (P.info? e).map (fun i => (i.zero, i.size, i.bytes)) = some (some z, size, bytes)) (ht : P.underlying t = some (.slice e)) (hzs : z.cells.size = size) (hsz : 0 < size)
    (v : Value) (n : Nat) (xs : List Value) (h : Sl w B e size v n xs) (ad : Addr) (m c : Nat) (news : List Value) (hl : news.length = m * size) (hnews : ∀ j u, news[j]? = some u → w.cell? (ad.add j) = some u) (h1 : ∀ u ∈ news, u.oneCell' = true)
    (h63 : n + m ≤ maxLen) (hbytes : (n + m) * bytes ≤ 140737488355328) (hB : B ≤ w.heap.size) :
    ∃ v' w', (Builtin.append_ #[t, t] ty #[v, .slice (some ad) m c]).run P w = .ok v' w' ∧ Sl w' B e size v' (n + m) (xs ++ news) ∧ Below B w w' ∧ w.heap.size ≤ w'.heap.size ∧
      (∀ k, k < w.heap.size → v.ownBlock ≠ some k → w'.heap[k]? = w.heap[k]?) ∧ ∀ k, v'.ownBlock = some k → v.ownBlock = some k ∨ w.heap.size ≤ k := by
  obtain ⟨i, hi, hz, hz1, hz2⟩ := info_parts hinfo
  rcases h.2 with ⟨rfl, rfl⟩ | ⟨g, o, cap, cur, rfl, hb, hg, hn, hc, hs, hx⟩
  · obtain rfl : xs = [] := List.eq_nil_of_length_eq_zero (by simpa using h.1)
    obtain ⟨v', w', hrun, r1, r2, _⟩ := run_append_own (P := P) w w.heap.size t ty e i z size bytes ht hi hz hz1 hz2 hzs hsz (.slice none 0 0) 0 [] (World.ownsRow_nil w _ e size) ad m c news hl hnews h1 h63 hbytes (Nat.le_refl _)
    exact ⟨v', w', hrun, Sl.mono (Sl.of_own r1) hB, below_grown r2 hB, r2.size, fun k hk _ => r2.block k hk (by simp [Value.ownBlock]), fun k hk => .inr (r1.lt k hk).1⟩
  · by_cases hr : n + m ≤ cap
    · subst hz1
      have hmul : (n + m) * i.size ≤ cap * i.size := Nat.mul_le_mul_right _ hr
      rw [Nat.add_mul] at hmul
      have hcell : ∀ j, j < news.length → (w.cell? ⟨g, o + n * i.size + j, none⟩).isSome = true := fun j hj => by
        rw [cell_of_row w g _ cur e (0, 0) hg, Array.getElem?_eq_getElem (by omega)]; rfl
      have hrun := run_append_room_cells (P := P) w t ty e i ht hi g o n cap ad m c news hl hnews h1 hr hcell (fun j _ => frozen_of_row w g _ cur e hg)
      obtain ⟨cur', r1, r2, r3, r4⟩ := setCells_row (e := e) news g (o + n * i.size) w cur hg (by omega)
      refine ⟨_, _, hrun, ⟨by rw [List.length_append, h.1, hl, Nat.add_mul], .inr ⟨g, o, cap, cur', rfl, hb, r1, hr, hc, by omega, fun j u hj => ?_⟩⟩, below_setCells news g _ w w hb (Below.refl _ _), by rw [setCells_size]; exact Nat.le_refl _, fun k _ hk => setCells_other news g _ w k (fun e => hk (by simp [Value.ownBlock, e])), fun k hk => .inl hk⟩
      rw [List.getElem?_append] at hj
      split at hj
      · rename_i hlt
        rw [r3 _ (by have := h.1; omega)]; exact hx j u hj
      · rename_i hge
        have := r4 _ _ hj
        rw [h.1] at this hge
        rwa [show o + n * i.size + (j - n * i.size) = o + j by omega] at this
    · obtain ⟨v', w', hrun, r1, r2⟩ := run_append_arg_grows (P := P) w t ty e i z size bytes ht hi hz hz1 hz2 hzs hsz ⟨g, o, none⟩ n cap xs h.1 (fun j u hj => by rw [Addr.add_lit, cell_of_row w g (o + j) cur e (0, 0) hg]; exact hx j u hj) ad m c news hl hnews (by omega) h63 hbytes
      exact ⟨v', w', hrun, Sl.mono (Sl.of_own r1) hB, below_grown r2 hB, r2.size, fun k hk _ => r2.block k hk (by simp), fun k hk => .inr (r1.lt k hk).1⟩
theorem wp_append_sl {K : Act → World → Prop} {o : Oper} {a : Act} {Q : Exit → Act → World → Prop} (s x : Operand) (t : TypeId)
    (ho : o.op = .call { callee := .builtin .append, args := #[s, x], argTypes := #[t, t] })
    (B : Nat) (e : TypeId) (z : Value) (size bytes : Nat) (hinfo : (P.info? e).map (fun i => (i.zero, i.size, i.bytes)) = some (some z, size, bytes)) (ht : P.underlying t = some (.slice e)) (hzs : z.cells.size = size) (hsz : 0 < size)
    (v : Value) (n : Nat) (xs : List Value) (hs : a.eval s = v) (h : Sl w B e size v n xs) (ad : Addr) (m c : Nat) (news : List Value) (hx : a.eval x = .slice (some ad) m c) (hl : news.length = m * size) (hnews : ∀ j u, news[j]? = some u → w.cell? (ad.add j) = some u) (h1 : ∀ u ∈ news, u.oneCell' = true)
    (h63 : n + m ≤ maxLen) (hbytes : (n + m) * bytes ≤ 140737488355328) (hB : B ≤ w.heap.size)
    (hK : ∀ A' c' w', Sl w' B e size (.slice A' (n + m) c') (n + m) (xs ++ news) → Below B w w' → w.heap.size ≤ w'.heap.size → (∀ k, k < w.heap.size → v.ownBlock ≠ some k → w'.heap[k]? = w.heap[k]?) → (∀ k, (Value.slice A' (n + m) c').ownBlock = some k → v.ownBlock = some k ∨ w.heap.size ≤ k) → K (a.put o.dst (.slice A' (n + m) c')) w') : o.wp P a w K Q := by
  obtain ⟨v', w', hrun, r1, r2, r3, r4, r5⟩ := run_append_sl (P := P) w B t o.type e z size bytes hinfo ht hzs hsz v n xs h ad m c news hl hnews h1 h63 hbytes hB
  obtain ⟨A', c', rfl, _, _⟩ := r1.form
  unfold Oper.wp
  simp [execOp, ho, resolve, invoke, builtin, hs, hx, hrun, Result.andThen]
  exact hK A' c' w' r1 r2 r3 r4 r5
theorem append_sl {ops : Array Oper} {rest : List Oper} {o : Oper} {a : Act} {Q : Exit → Act → World → Prop} (hgd : Region.wanted o (yielded ops a.tmps) = true) (s x : Operand) (t : TypeId)
    (ho : o.op = .call { callee := .builtin .append, args := #[s, x], argTypes := #[t, t] })
    (B : Nat) (e : TypeId) (z : Value) (size bytes : Nat) (hinfo : (P.info? e).map (fun i => (i.zero, i.size, i.bytes)) = some (some z, size, bytes)) (ht : P.underlying t = some (.slice e)) (hzs : z.cells.size = size) (hsz : 0 < size)
    (v : Value) (n : Nat) (xs : List Value) (hs : a.eval s = v) (h : Sl w B e size v n xs) (ad : Addr) (m c : Nat) (news : List Value) (hx : a.eval x = .slice (some ad) m c) (hl : news.length = m * size) (hnews : ∀ j u, news[j]? = some u → w.cell? (ad.add j) = some u) (h1 : ∀ u ∈ news, u.oneCell' = true)
    (h63 : n + m ≤ maxLen) (hbytes : (n + m) * bytes ≤ 140737488355328) (hB : B ≤ w.heap.size)
    (hK : ∀ A' c' w', Sl w' B e size (.slice A' (n + m) c') (n + m) (xs ++ news) → Below B w w' → w.heap.size ≤ w'.heap.size → (∀ k, k < w.heap.size → v.ownBlock ≠ some k → w'.heap[k]? = w.heap[k]?) → (∀ k, (Value.slice A' (n + m) c').ownBlock = some k → v.ownBlock = some k ∨ w.heap.size ≤ k) → wpList P ops Q rest (a.put o.dst (.slice A' (n + m) c')) w') : wpList P ops Q (o :: rest) a w := by
  obtain ⟨v', w', hrun, r1, r2, r3, r4, r5⟩ := run_append_sl (P := P) w B t o.type e z size bytes hinfo ht hzs hsz v n xs h ad m c news hl hnews h1 h63 hbytes hB
  obtain ⟨A', c', rfl, _, _⟩ := r1.form
  refine BigFrame.wpList_want hgd fun K hK' => ?_
  unfold Oper.wp
  simp [execOp, ho, resolve, invoke, builtin, hs, hx, hrun, Result.andThen]
  exact hK' _ _ (hK A' c' w' r1 r2 r3 r4 r5)
end
/-- the cells of one new block, read from its head -/
theorem new_cells (w : World) (cs : Array Value) (e : TypeId) : ∀ j u, cs.toList[j]? = some u → (w.alloc (.cells cs e)).cell? ((⟨w.heap.size, 0, none⟩ : Addr).add j) = some u := fun j u hj => by
  unfold Addr.add
  split
  · rename_i h0; subst h0; simpa using hj
  · simpa using hj
end Go.Proofs.Ytafiedhjjnapoaa.Kt
