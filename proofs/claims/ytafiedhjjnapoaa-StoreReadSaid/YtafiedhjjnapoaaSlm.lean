/- More on slices of the call's own: other stores, a store into them, what they read as. -/
import Derived.Test.YtafiedhjjnapoaaArg
import Derived.Deep.QuietTactic
import Derived.BigQuiet
import Derived.Outline
import Derived.Deep.RegionHeld3
import Derived.Deep.CutBlock
import Derived.Deep.CutRange
namespace Go.Proofs.Ytafiedhjjnapoaa
open Go.RowKit
theorem bdrewN {B : Nat} {a w : World} (h : Below B a w) (n : Nat) : Below B a (w.drewN n) := ⟨h.os, h.tape, h.output, h.size, h.block⟩
theorem Kt.Sl.set {w : World} {B e sz n : Nat} {v : Value} {xs : List Value} (h : Kt.Sl w B e sz v n xs) {p : Addr} (hne : ∀ k, v.ownBlock = some k → k ≠ p.block) (u : Value) : Kt.Sl (w.setCell p u) B e sz v n xs :=
  h.keep fun k hk => heap_setCell_other _ _ _ _ (hne k hk)
theorem Kt.Sl.low {w : World} {B e sz n : Nat} {v : Value} {xs : List Value} (h : Kt.Sl w B e sz v n xs) {p : Addr} (hp : p.block < B) (u : Value) : Kt.Sl (w.setCell p u) B e sz v n xs :=
  h.set (fun k hk => by have := (h.lt k hk).1; omega) u
theorem Kt.Ar.of_sl {w : World} {B e sz n : Nat} {v : Value} {xs : List Value} (h : Kt.Sl w B e sz v n xs) : Kt.Ar w v sz n xs := by
  refine ⟨h.1, ?_⟩
  rcases h.2 with ⟨rfl, rfl⟩ | ⟨g, o, cap, cur, rfl, hb, hg, hn, hc, hs, hx⟩
  · exact ⟨none, 0, rfl, Nat.le_refl _, fun h => absurd h (by omega)⟩
  · exact ⟨_, cap, rfl, hn, fun _ => ⟨g, o, rfl, (Array.getElem?_eq_some_iff.1 hg).1, fun j hj => (cell_of_row w g (o + j) cur e (0, 0) hg).trans (hx j _ (List.getElem?_eq_getElem hj))⟩⟩
theorem Kt.Sl.put {w : World} {B e sz n g o cap : Nat} {xs : List Value} (h : Kt.Sl w B e sz (.slice (some ⟨g, o, none⟩) n cap) n xs) (j : Nat) (hj : j < n * sz) (u : Value) :
    Kt.Sl (w.setCell ⟨g, o + j, none⟩ u) B e sz (.slice (some ⟨g, o, none⟩) n cap) n (xs.set j u) := by
  refine ⟨by rw [List.length_set]; exact h.1, .inr ?_⟩
  rcases h.2 with ⟨hv, _⟩ | ⟨g', o', cap', cur, hv, hb, hg, hn, hc, hs, hx⟩
  · cases hv
  · cases hv
    have hjc : j < cap * sz := Nat.lt_of_lt_of_le hj (Nat.mul_le_mul_right _ hn)
    refine ⟨g, o, cap, cur.setIfInBounds (o + j) u, rfl, hb, heap_setCell_same _ _ _ _ _ _ hg, hn, hc, by simpa using hs, fun i v hi => ?_⟩
    rw [List.getElem?_set] at hi
    by_cases hij : j = i
    · subst hij
      rw [if_pos rfl] at hi
      split at hi
      · injection hi with hi; subst hi
        rw [Array.getElem?_setIfInBounds_self_of_lt (by omega)]
      · cases hi
    · rw [if_neg hij] at hi
      rw [Array.getElem?_setIfInBounds_ne (by omega)]
      exact hx i v hi
/-- a row that is known stays so as the world grows -/
theorem Kt.row_on {w w' : World} {b : Nat} {cs : Array Value} {t : TypeId} (hb : Below w.heap.size w w') (h : w.heap[b]? = some (.cells cs t (0, 0))) : w'.heap[b]? = some (.cells cs t (0, 0)) :=
  (hb.block b (Array.getElem?_eq_some_iff.1 h).1).trans h
/-- the boxes that were made ahead of a call that made memory -/
theorem Kt.box1 {w w1 : World} {c : Array Value} {t : TypeId} (hb : Below (w.alloc (.cells c t)).heap.size (w.alloc (.cells c t)) w1) : w1.heap[w.heap.size]? = some (.cells c t (0, 0)) :=
  Kt.row_on hb (heap_alloc_new w _)
theorem Kt.box2 {w w1 : World} {c d : Array Value} {t u : TypeId} (hb : Below ((w.alloc (.cells c t)).alloc (.cells d u)).heap.size ((w.alloc (.cells c t)).alloc (.cells d u)) w1) :
    w1.heap[w.heap.size]? = some (.cells c t (0, 0)) ∧ w1.heap[w.heap.size + 1]? = some (.cells d u (0, 0)) :=
  ⟨Kt.row_on hb ((Below.heap_alloc _ _ _ (by simp)).trans (heap_alloc_new w _)), Kt.row_on hb ((congrArg _ (by simp)).trans (heap_alloc_new (w.alloc _) _))⟩
/-- the world by a name of its own, and what is known of it -/
theorem Kt.fold {P : Program} {c : Code} {Q : Exit → Act → World → Prop} {a : Act} {w : World} (R : World → Prop) (h : R w) (k : ∀ W, R W → c.wp P Q a W) : c.wp P Q a w := k w h
theorem Kt.foldC {P : Program} {f : FuncId} {vs : Array Value} {w : World} {R : Ending → World → Prop} (F : World → Prop) (h : F w) (k : ∀ W, F W → Calls P f vs W R) : Calls P f vs w R := k w h
/-- a block that is stored whole -/
theorem Kt.fill {w : World} {b : Nat} {cur : Array Value} {t : TypeId} (news : List Value) (h : w.heap[b]? = some (.cells cur t (0, 0))) (hl : news.length = cur.size) : (w.setCells b 0 news).heap[b]? = some (.cells news.toArray t (0, 0)) := by
  obtain ⟨cur', h1, h2, _, h4⟩ := Kt.setCells_row (e := t) news b 0 w cur h (by omega)
  rw [h1]
  have : cur' = news.toArray := by
    apply Array.ext_getElem?
    intro i
    by_cases hi : i < news.length
    · have := h4 i news[i] (List.getElem?_eq_getElem hi)
      rw [Nat.zero_add] at this
      simp [this, hi]
    · rw [Array.getElem?_eq_none (by omega), Array.getElem?_eq_none (by simp; omega)]
  rw [this]
theorem Kt.Sl.sets {w : World} {B e sz n : Nat} {v : Value} {xs : List Value} (h : Kt.Sl w B e sz v n xs) (news : List Value) (g off : Nat) (hne : ∀ k, v.ownBlock = some k → k ≠ g) : Kt.Sl (w.setCells g off news) B e sz v n xs :=
  h.keep fun k hk => Kt.setCells_other _ _ _ _ _ (hne k hk)
theorem Kt.Sl.put' {w : World} {B e sz n g o cap a : Nat} {xs : List Value} (h : Kt.Sl w B e sz (.slice (some ⟨g, o, none⟩) n cap) n xs) (j : Nat) (ha : a = o + j) (hj : j < n * sz) (u : Value) :
    Kt.Sl (w.setCell ⟨g, a, none⟩ u) B e sz (.slice (some ⟨g, o, none⟩) n cap) n (xs.set j u) := by subst ha; exact h.put j hj u
theorem Kt.sl_cell {w : World} {B e sz n g o cap : Nat} {xs : List Value} (h : Kt.Sl w B e sz (.slice (some ⟨g, o, none⟩) n cap) n xs) (j : Nat) (u : Value) (hj : xs[j]? = some u) : w.cell? ⟨g, o + j, none⟩ = some u := by
  rcases h.2 with ⟨hv, _⟩ | ⟨g', o', cap', cur, hv, hb, hg, hn, hc, hs, hx⟩
  · cases hv
  · cases hv
    exact (cell_of_row w g (o + j) cur e (0, 0) hg).trans (hx j u hj)
theorem Kt.sl_free {w : World} {B e sz n g o cap : Nat} {xs : List Value} (h : Kt.Sl w B e sz (.slice (some ⟨g, o, none⟩) n cap) n xs) (j : Nat) : w.frozen? ⟨g, j, none⟩ = false := by
  rcases h.2 with ⟨hv, _⟩ | ⟨g', o', cap', cur, hv, hb, hg, hn, hc, hs, hx⟩
  · cases hv
  · cases hv
    exact frozen_of_row w g j cur e hg
theorem Kt.fillA {w : World} {b : Nat} {cur : Array Value} {t : TypeId} (news : List Value) (h : w.heap[b]? = some (.cells cur t (0, 0))) (hl : news.length = cur.size) (o : Obj) : ((w.setCells b 0 news).alloc o).heap[b]? = some (.cells news.toArray t (0, 0)) :=
  (Below.heap_alloc _ _ _ (by rw [Kt.setCells_size]; exact (Array.getElem?_eq_some_iff.1 h).1)).trans (Kt.fill news h hl)
theorem Kt.otherA {w : World} {b off k : Nat} {x : Obj} (news : List Value) (h : w.heap[k]? = some x) (hk : k ≠ b) (o : Obj) : ((w.setCells b off news).alloc o).heap[k]? = some x :=
  (Below.heap_alloc _ _ _ (by rw [Kt.setCells_size]; exact (Array.getElem?_eq_some_iff.1 h).1)).trans ((Kt.setCells_other _ _ _ _ _ hk).trans h)
theorem Kt.newA {w : World} {b off : Nat} (news : List Value) (c : Array Value) (t : TypeId) : ((w.setCells b off news).alloc (.cells c t)).heap[w.heap.size]? = some (.cells c t (0, 0)) := by
  have := heap_alloc_new (w.setCells b off news) (.cells c t)
  rwa [Kt.setCells_size] at this
theorem Kt.Ar.new (w : World) (cs : Array Value) (e : TypeId) (n sz : Nat) (h : cs.size = n * sz) : Kt.Ar (w.alloc (.cells cs e)) (.slice (some ⟨w.heap.size, 0, none⟩) n n) sz n cs.toList := by
  refine ⟨by simpa using h, _, n, rfl, Nat.le_refl _, fun _ => ⟨w.heap.size, 0, rfl, by simp, fun j hj => ?_⟩⟩
  have := Kt.new_cells w cs e j cs.toList[j] (List.getElem?_eq_getElem hj)
  rwa [Addr.add_lit] at this
theorem Kt.new_cells' (w : World) (cs : Array Value) (e : TypeId) (H : Nat) (hH : w.heap.size = H) : ∀ j u, cs.toList[j]? = some u → (w.alloc (.cells cs e)).cell? ((⟨H, 0, none⟩ : Addr).add j) = some u := by subst hH; exact Kt.new_cells w cs e
theorem Kt.Ar.new' (w : World) (cs : Array Value) (e : TypeId) (n sz H : Nat) (hH : w.heap.size = H) (h : cs.size = n * sz) : Kt.Ar (w.alloc (.cells cs e)) (.slice (some ⟨H, 0, none⟩) n n) sz n cs.toList := by subst hH; exact Kt.Ar.new w cs e n sz h
end Go.Proofs.Ytafiedhjjnapoaa
