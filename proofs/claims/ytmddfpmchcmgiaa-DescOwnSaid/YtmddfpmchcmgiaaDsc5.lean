/- Slices of one's own that are stored into: what stands there is some value, whichever. -/
import Derived.Test.YtmddfpmchcmgiaaDscA
import Derived.Test.YtmddfpmchcmgiaaDscG
namespace Go.Proofs.Ytmddfpmchcmgiaa
open Go.RowKit Go.Proofs.Ytmddfpmchcmgiaa.Dsc
theorem setCells_shape {e : TypeId} : ∀ (news : List Value) (g off : Nat) (w : World) (cur : Array Value), w.heap[g]? = some (.cells cur e (0, 0)) → ∃ cur', (w.setCells g off news).heap[g]? = some (.cells cur' e (0, 0)) ∧ cur'.size = cur.size
  | [], _, _, _, cur, h => ⟨cur, h, rfl⟩
  | x :: news, g, off, w, cur, h => by
    have h1 : (w.setCell ⟨g, off, none⟩ x).heap[g]? = some (.cells (cur.setIfInBounds off x) e (0, 0)) := heap_setCell_same _ _ _ _ _ _ h
    obtain ⟨cur', h2, h3⟩ := setCells_shape news g (off + 1) _ _ h1
    exact ⟨cur', h2, by rw [h3, Array.size_setIfInBounds]⟩
def SE (w : World) (B : Nat) (e : TypeId) (sz : Nat) (v : Value) (n : Nat) : Prop := ∃ xs, Kt.Sl w B e sz v n xs
theorem sl_any {w : World} {B sz n g o cap : Nat} {e : TypeId} {cur : Array Value} (hb : B ≤ g) (hg : w.heap[g]? = some (.cells cur e (0, 0))) (hn : n ≤ cap) (hc : cap ≤ maxLen) (hs : o + cap * sz ≤ cur.size) : SE w B e sz (.slice (some ⟨g, o, none⟩) n cap) n := by
  have hm : n * sz ≤ cap * sz := Nat.mul_le_mul_right _ hn
  refine ⟨(cur.toList.drop o).take (n * sz), by rw [List.length_take, List.length_drop, Array.length_toList]; omega, .inr ⟨g, o, cap, cur, rfl, hb, hg, hn, hc, hs, fun j u hj => ?_⟩⟩
  rw [List.getElem?_take] at hj
  split at hj
  · rw [List.getElem?_drop, Array.getElem?_toList] at hj
    exact hj
  · cases hj
theorem SE.sets {w : World} {B sz n : Nat} {e : TypeId} {v : Value} (h : SE w B e sz v n) (g off : Nat) (news : List Value) : SE (w.setCells g off news) B e sz v n := by
  obtain ⟨xs, h⟩ := h
  have h0 := h
  rcases h.2 with ⟨rfl, rfl⟩ | ⟨g', o, cap, cur, rfl, hb, hg, hn, hc, hs, _⟩
  · exact ⟨[], Kt.Sl.nil _ _ _ _⟩
  · by_cases e1 : g' = g
    · subst e1
      obtain ⟨cur', h1, h2⟩ := setCells_shape news g' off w cur hg
      exact sl_any hb h1 hn hc (by rw [h2]; exact hs)
    · exact ⟨xs, h0.keep fun k e2 => Kt.setCells_other _ _ _ _ _ (by simp [Value.ownBlock] at e2; omega)⟩
theorem SE.on {w w' : World} {B sz n : Nat} {e : TypeId} {v : Value} (h : SE w B e sz v n) (hb : Below w.heap.size w w') : SE w' B e sz v n := h.imp fun _ h => h.on hb
/-- faces whose lists may be stored into, from the i-th on -/
structure Fw (w : World) (B : Nat) (V : Value) (n i : Nat) : Prop where
  sl : ∃ xs, Kt.Sl w B 32 6 V n xs ∧ ∀ j, i ≤ j → j < n → ∃ X E nx ne, xs[j * 6 + 4]? = some X ∧ xs[j * 6 + 5]? = some E ∧ SE w B 9 1 X nx ∧ SE w B 43 5 E ne
theorem Fw.on {w w' : World} {B n i : Nat} {V : Value} (h : Fw w B V n i) (hb : Below w.heap.size w w') : Fw w' B V n i := by
  obtain ⟨xs, h1, h2⟩ := h.sl
  refine ⟨xs, h1.on hb, fun j hj hn => ?_⟩
  obtain ⟨X, E, nx, ne, a, b, c, d⟩ := h2 j hj hn
  exact ⟨X, E, nx, ne, a, b, c.on hb, d.on hb⟩
theorem Fo.fw {w : World} {B : Nat} {V : Value} {l : List Fh} (h : Fo w B V l) : Fw w B V l.length 0 := by
  refine ⟨_, h.sl, fun j _ hn => ?_⟩
  have hm : l[j] ∈ l := List.getElem_mem hn
  have hc : ∀ q, q < 6 → (l.flatMap Fh.cs)[j * 6 + q]? = l[j].cs[q]? := fun q hq => by
    have hfl : (l.map Fh.cs).flatten = l.flatMap Fh.cs := (List.flatMap_def ..).symm
    have := flat_get (l.map Fh.cs) (fun x hx => by obtain ⟨y, _, rfl⟩ := List.mem_map.1 hx; rfl) j (by simpa using hn) q hq
    rw [hfl] at this
    rw [this, List.getElem_map]
  exact ⟨l[j].X, l[j].E, _, _, (hc 4 (by decide)).trans rfl, (hc 5 (by decide)).trans rfl, ⟨_, h.xs _ hm⟩, ⟨_, h.es _ hm⟩⟩
/-- a store into a list of a face -/
theorem Fw.sets {w : World} {B n i : Nat} {V : Value} (h : Fw w B V n i) (g off : Nat) (news : List Value) {t : TypeId} (hg : ownT w t g) (hne : t ≠ 32) : Fw (w.setCells g off news) B V n i := by
  obtain ⟨xs, h1, h2⟩ := h.sl
  refine ⟨xs, h1.keep fun k e => Kt.setCells_other _ _ _ _ _ (ownT_ne hg (sl_own h1 e).2 hne).symm, fun j hj hn => ?_⟩
  obtain ⟨X, E, nx, ne, a, b, c, d⟩ := h2 j hj hn
  exact ⟨X, E, nx, ne, a, b, c.sets g off news, d.sets g off news⟩
theorem Kt.Sl.puts {B e sz n g o cap : Nat} : ∀ (news : List Value) (xs : List Value) (w : World) (_h : Kt.Sl w B e sz (.slice (some ⟨g, o, none⟩) n cap) n xs) (j : Nat) (_hj : j + news.length ≤ n * sz),
    ∃ xs', Kt.Sl (w.setCells g (o + j) news) B e sz (.slice (some ⟨g, o, none⟩) n cap) n xs' ∧ ∀ q, (q < j ∨ j + news.length ≤ q) → xs'[q]? = xs[q]?
  | [], xs, _, h, _, _ => ⟨xs, h, fun _ _ => rfl⟩
  | u :: news, xs, w, h, j, hj => by
    rw [List.length_cons] at hj
    have h1 := h.put j (by omega) u
    obtain ⟨xs', h2, h3⟩ := Kt.Sl.puts news _ _ h1 (j + 1) (by omega)
    refine ⟨xs', h2, fun q hq => ?_⟩
    rw [List.length_cons] at hq
    rw [h3 q (by omega), List.getElem?_set_ne (by omega)]
/-- a face is stored whole -/
theorem Fw.face {w : World} {B n i g o cap : Nat} (h : Fw w B (.slice (some ⟨g, o, none⟩) n cap) n i) (hi : i < n) (news : List Value) (hl : news.length = 6) : Fw (w.setCells g (o + i * 6) news) B (.slice (some ⟨g, o, none⟩) n cap) n (i + 1) := by
  obtain ⟨xs, h1, h2⟩ := h.sl
  obtain ⟨xs', h3, h4⟩ := Kt.Sl.puts news xs w h1 (i * 6) (by omega)
  refine ⟨xs', h3, fun j hj hn => ?_⟩
  obtain ⟨X, E, nx, ne, a, b, c, d⟩ := h2 j (by omega) hn
  exact ⟨X, E, nx, ne, (h4 _ (.inr (by omega))).trans a, (h4 _ (.inr (by omega))).trans b, c.sets _ _ _, d.sets _ _ _⟩
/-- the same, and the lists of the i-th by name -/
structure Fx (w : World) (B : Nat) (V : Value) (n i : Nat) (X : Value) (nx : Nat) (E : Value) (ne : Nat) : Prop where
  fw : ∃ xs, Kt.Sl w B 32 6 V n xs ∧ xs[i * 6 + 4]? = some X ∧ xs[i * 6 + 5]? = some E ∧ ∀ j, i + 1 ≤ j → j < n → ∃ X E nx ne, xs[j * 6 + 4]? = some X ∧ xs[j * 6 + 5]? = some E ∧ SE w B 9 1 X nx ∧ SE w B 43 5 E ne
  sx : SE w B 9 1 X nx
  se : SE w B 43 5 E ne
theorem Fw.fx {w : World} {B n i : Nat} {V : Value} (h : Fw w B V n i) (hi : i < n) : ∃ X nx E ne, Fx w B V n i X nx E ne := by
  obtain ⟨xs, h1, h2⟩ := h.sl
  obtain ⟨X, E, nx, ne, a, b, c, d⟩ := h2 i (Nat.le_refl _) hi
  exact ⟨X, nx, E, ne, ⟨xs, h1, a, b, fun j hj hn => h2 j (Nat.le_of_succ_le hj) hn⟩, c, d⟩
theorem Fx.sets {w : World} {B n i nx ne : Nat} {V X E : Value} (h : Fx w B V n i X nx E ne) (g off : Nat) (news : List Value) {t : TypeId} (hg : ownT w t g) (hne : t ≠ 32) : Fx (w.setCells g off news) B V n i X nx E ne := by
  obtain ⟨xs, h1, a, b, h2⟩ := h.fw
  refine ⟨⟨xs, h1.keep fun k e => Kt.setCells_other _ _ _ _ _ (ownT_ne hg (sl_own h1 e).2 hne).symm, a, b, fun j hj hn => ?_⟩, h.sx.sets g off news, h.se.sets g off news⟩
  obtain ⟨X, E, nx, ne, a, b, c, d⟩ := h2 j hj hn
  exact ⟨X, E, nx, ne, a, b, c.sets g off news, d.sets g off news⟩
theorem Fx.face {w : World} {B n i g o cap nx ne : Nat} {X E : Value} (h : Fx w B (.slice (some ⟨g, o, none⟩) n cap) n i X nx E ne) (hi : i < n) (news : List Value) (hl : news.length = 6) : Fw (w.setCells g (o + i * 6) news) B (.slice (some ⟨g, o, none⟩) n cap) n (i + 1) := by
  obtain ⟨xs, h1, _, _, h2⟩ := h.fw
  obtain ⟨xs', h3, h4⟩ := Kt.Sl.puts news xs w h1 (i * 6) (by omega)
  refine ⟨xs', h3, fun j hj hn => ?_⟩
  obtain ⟨X, E, nx, ne, a, b, c, d⟩ := h2 j hj hn
  exact ⟨X, E, nx, ne, (h4 _ (.inr (by omega))).trans a, (h4 _ (.inr (by omega))).trans b, c.sets _ _ _, d.sets _ _ _⟩
/-- where the lists of the i-th stand -/
theorem Fx.cells {w : World} {B n i g o cap nx ne : Nat} {X E : Value} (h : Fx w B (.slice (some ⟨g, o, none⟩) n cap) n i X nx E ne) : B ≤ g ∧ ownT w 32 g ∧ w.cell? ⟨g, o + i * 6 + 4, none⟩ = some X ∧ w.cell? ⟨g, o + i * 6 + 5, none⟩ = some E := by
  obtain ⟨xs, h1, a, b, _⟩ := h.fw
  have c := Kt.sl_cell h1 _ _ a
  have d := Kt.sl_cell h1 _ _ b
  rw [← Nat.add_assoc] at c d
  exact ⟨(sl_own h1 rfl).1, (sl_own h1 rfl).2, c, d⟩
theorem Fx.all {w : World} {B n i g o cap nx ne : Nat} {X E : Value} (h : Fx w B (.slice (some ⟨g, o, none⟩) n cap) n i X nx E ne) (hi : i < n) : ∀ q, q < 6 → ∃ u, w.cell? ⟨g, o + i * 6 + q, none⟩ = some u := by
  obtain ⟨xs, h1, _⟩ := h.fw
  intro q hq
  have hlt : i * 6 + q < xs.length := by rw [h1.1]; omega
  have c := Kt.sl_cell h1 _ _ (List.getElem?_eq_getElem hlt)
  rw [← Nat.add_assoc] at c
  exact ⟨_, c⟩
theorem SE.le {w : World} {B sz n : Nat} {e : TypeId} {v : Value} (h : SE w B e sz v n) : n ≤ maxLen := by
  obtain ⟨xs, h⟩ := h
  obtain ⟨A, c, _, h1, h2⟩ := h.form
  exact Nat.le_trans h1 h2
theorem next_le {k n : Nat} (h : k < n) (h2 : n ≤ maxLen) : wrap64 ((k : Int) + 1) = ((k + 1 : Nat) : Int) := by
  unfold maxLen at h2
  unfold wrap64
  omega
theorem frz_of {w : World} {t : TypeId} {g : Nat} (h : ownT w t g) (j : Nat) : w.frozen? ⟨g, j, none⟩ = false := by
  obtain ⟨cur, hr⟩ := h
  exact frozen_of_row _ _ _ _ _ hr
theorem SE.form {w : World} {B sz n : Nat} {e : TypeId} {v : Value} (h : SE w B e sz v n) : ∃ A c, v = .slice A n c := by
  obtain ⟨xs, h⟩ := h
  obtain ⟨A, c, e, _⟩ := h.form
  exact ⟨A, c, e⟩
theorem SE.at {w : World} {B sz n c k : Nat} {e : TypeId} {A : Option Addr} (h : SE w B e sz (.slice A n c) n) (hk : k < n) : ∃ g o, A = some ⟨g, o, none⟩ ∧ B ≤ g ∧ ownT w e g ∧ (∀ j, w.frozen? ⟨g, j, none⟩ = false) ∧ ∀ q, q < sz → ∃ u, w.cell? ⟨g, o + k * sz + q, none⟩ = some u := by
  obtain ⟨xs, h⟩ := h
  obtain ⟨g, o, cap, e1, hb, _, _, _, hc, hf⟩ := h.cells (Nat.lt_of_le_of_lt (Nat.zero_le _) hk)
  injection e1 with e1 _ e2
  subst e1 e2
  refine ⟨g, o, rfl, hb, (sl_own h rfl).2, hf, fun q hq => ?_⟩
  have hm : k * sz + sz ≤ n * sz := by rw [← Nat.succ_mul]; exact Nat.mul_le_mul_right _ hk
  have hlt : k * sz + q < xs.length := by rw [h.1]; omega
  rw [Nat.add_assoc]
  exact ⟨_, hc _ hlt⟩
theorem Fw.len {w : World} {B n i : Nat} {V : Value} (h : Fw w B V n i) : ∃ A c, V = .slice A n c ∧ (0 < n → ∃ g o, A = some ⟨g, o, none⟩) := by
  obtain ⟨xs, h1, _⟩ := h.sl
  obtain ⟨A, c, rfl, _, _⟩ := h1.form
  refine ⟨A, c, rfl, fun hn => ?_⟩
  obtain ⟨g, o, cap, e, _⟩ := h1.cells hn
  injection e with e1
  exact ⟨g, o, e1⟩
end Go.Proofs.Ytmddfpmchcmgiaa
