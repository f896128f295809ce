/- topo: trees of one's own that are stored into. -/
import Derived.Test.YtmjcokmfjofgnaaTpoA
namespace Go.Proofs.Ytmjcokmfjofgnaa
open Go.RowKit Go.Proofs.Ytmjcokmfjofgnaa.Rou Go.Proofs.Ytmjcokmfjofgnaa.Tpo
/-- a path whose places may be stored into: what stands there is a number, whichever -/
def IR (w : World) (B : Nat) (x : Nh) : Prop := x.n.path.length = 0 ∨ ∃ g o cur, x.A = some ⟨g, o, none⟩ ∧ B ≤ g ∧ w.heap[g]? = some (.cells cur 3 (0, 0)) ∧ x.n.path.length ≤ maxLen ∧ ∀ j, j < x.n.path.length → ∃ z, cur[o + j]? = some (.int .i64 z)
theorem On.ir {w : World} {B : Nat} {x : Nh} (h : On w B x) : IR w B x := by
  rcases h.own.2 with ⟨_, h0⟩ | ⟨g, o, cap, cur, e, hb, hg, hn, hcm, _, hx⟩
  · exact .inl h0
  · injection e with e1
    refine .inr ⟨g, o, cur, e1, hb, hg, Nat.le_trans hn hcm, fun j hj => ⟨x.n.path[j], hx j _ ?_⟩⟩
    simp [inv, hj]
theorem IR.keep {w w' : World} {B : Nat} {x : Nh} (h : IR w B x) (hk : ∀ k, B ≤ k → (∃ cur, w.heap[k]? = some (.cells cur 3 (0, 0))) → w'.heap[k]? = w.heap[k]?) : IR w' B x := by
  rcases h with h | ⟨g, o, cur, e, hb, hg, hm, hx⟩
  · exact .inl h
  · exact .inr ⟨g, o, cur, e, hb, (hk g hb ⟨cur, hg⟩).trans hg, hm, hx⟩
theorem IR.on {w w' : World} {B : Nat} {x : Nh} (h : IR w B x) (hb : Below w.heap.size w w') : IR w' B x := h.keep fun k _ ⟨_, hc⟩ => hb.block k (Array.getElem?_eq_some_iff.1 hc).1
/-- a number is stored at a place of numbers -/
theorem IR.put {w : World} {B : Nat} {x : Nh} (h : IR w B x) (g a : Nat) (z : Int) (cur' : Array Value) (hg' : w.heap[g]? = some (.cells cur' 3 (0, 0))) : IR (w.setCells g a [.int .i64 z]) B x := by
  rcases h with h | ⟨g1, o, cur, e, hb, hg, hm, hx⟩
  · exact .inl h
  · by_cases hgg : g1 = g
    · subst hgg
      rw [hg] at hg'
      refine .inr ⟨g1, o, cur.setIfInBounds a (.int .i64 z), e, hb, heap_setCell_same _ _ _ _ _ _ hg, hm, fun j hj => ?_⟩
      obtain ⟨u, hu⟩ := hx j hj
      have hlt : o + j < cur.size := (Array.getElem?_eq_some_iff.1 hu).1
      by_cases hja : a = o + j
      · subst hja
        exact ⟨z, Array.getElem?_setIfInBounds_self_of_lt hlt⟩
      · exact ⟨u, by rw [Array.getElem?_setIfInBounds_ne hja]; exact hu⟩
    · exact .inr ⟨g1, o, cur, e, hb, (Kt.setCells_other _ _ _ _ _ hgg).trans hg, hm, hx⟩
structure TS (w : World) (B : Nat) (V : Value) (l : List Nh) : Prop where
  sl : Kt.Sl w B 25 4 V l.length (ncs l)
  ir : ∀ x ∈ l, IR w B x
theorem To.ts {w : World} {B : Nat} {V : Value} {l : List Nh} (h : To w B V l) : TS w B V l := ⟨h.sl, fun x hx => (h.on x hx).ir⟩
theorem TS.onw {w w' : World} {B : Nat} {V : Value} {l : List Nh} (h : TS w B V l) (hb : Below w.heap.size w w') : TS w' B V l := ⟨h.sl.on hb, fun x hx => (h.ir x hx).on hb⟩
theorem ty_ne {w : World} {g k : Nat} {c1 c2 : Array Value} {t1 t2 : TypeId} (h1 : w.heap[g]? = some (.cells c1 t1 (0, 0))) (h2 : w.heap[k]? = some (.cells c2 t2 (0, 0))) (hne : t1 ≠ t2) : k ≠ g := fun e => by
  subst e
  rw [h1] at h2
  injection h2 with q
  injection q with q1 q2
  exact hne q2
theorem sl_row {w : World} {B : Nat} {V : Value} {n : Nat} {xs : List Value} (h : Kt.Sl w B 25 4 V n xs) {k : Nat} (hk : V.ownBlock = some k) : ∃ cur, w.heap[k]? = some (.cells cur 25 (0, 0)) := by
  rcases h.2 with ⟨e, _⟩ | ⟨g, o, cap, cur, e, _, hg, _⟩
  · rw [e] at hk; cases hk
  · rw [e] at hk
    simp [Value.ownBlock] at hk
    subst hk
    exact ⟨cur, hg⟩
theorem TS.put {w : World} {B : Nat} {V : Value} {l : List Nh} (h : TS w B V l) (g a : Nat) (z : Int) (cur' : Array Value) (hg' : w.heap[g]? = some (.cells cur' 3 (0, 0))) : TS (w.setCells g a [.int .i64 z]) B V l :=
  ⟨h.sl.keep fun k hk => by
    obtain ⟨cur, hc⟩ := sl_row h.sl hk
    exact Kt.setCells_other _ _ _ _ _ (ty_ne hg' hc (by decide)), fun x hx => (h.ir x hx).put g a z cur' hg'⟩
/-- what is stored into another block of nodes -/
theorem TS.other {w : World} {B : Nat} {V : Value} {l : List Nh} (h : TS w B V l) (g off : Nat) (news : List Value) (cur' : Array Value) (hg' : w.heap[g]? = some (.cells cur' 25 (0, 0))) (hne : V.ownBlock ≠ some g) : TS (w.setCells g off news) B V l :=
  ⟨h.sl.keep fun k hk => Kt.setCells_other _ _ _ _ _ (fun e => hne (e ▸ hk)), fun x hx => (h.ir x hx).keep fun k _ ⟨_, hc⟩ => Kt.setCells_other _ _ _ _ _ (ty_ne hg' hc (by decide))⟩
def zz : Nh := ⟨none, 0, ⟨[], 0, 0, 77⟩⟩
theorem TS.self {w : World} {B : Nat} {g o c : Nat} {l : List Nh} (h : TS w B (.slice (some ⟨g, o, none⟩) l.length c) l) (i : Nat) (hi : i < l.length) : TS (w.setCells g (o + i * 4) zz.cs) B (.slice (some ⟨g, o, none⟩) l.length c) (l.set i zz) := by
  rcases h.sl.2 with ⟨e, _⟩ | ⟨g', o', cap, cur, e, hb, hg, hn, hcm, hsz, hx⟩
  · cases e
  · cases e
    obtain ⟨cur', r1, r2, r3, r4, r5⟩ := Kt.setCells_all zz.cs g (o + i * 4) w cur hg (by show o + i * 4 + 4 ≤ _; omega)
    have h4 : zz.cs.length = 4 := rfl
    refine ⟨⟨by rw [ncs_len], .inr ⟨g, o, c, cur', by rw [List.length_set], hb, r1, by rw [List.length_set]; exact hn, hcm, by rw [r2]; exact hsz, fun j u hj => ?_⟩⟩, fun x hx' => ?_⟩
    · have hj0 := (List.getElem?_eq_some_iff.1 hj).1
      rw [ncs_len, List.length_set] at hj0
      obtain ⟨k, r, hk, hr⟩ : ∃ k r, j = k * 4 + r ∧ r < 4 := ⟨j / 4, j % 4, by omega, by omega⟩
      subst hk
      have hkl : k < l.length := by omega
      rw [ncs_at _ k (by rw [List.length_set]; exact hkl) r hr] at hj
      by_cases hki : k = i
      · subst hki
        rw [List.getElem_set_self] at hj
        have := r4 r u hj
        rw [show o + (k * 4 + r) = o + k * 4 + r by omega]
        exact this
      · rw [List.getElem_set_ne (fun e => hki e.symm)] at hj
        rw [← ncs_at l k hkl r hr] at hj
        have h0 := hx _ _ hj
        rcases Nat.lt_or_gt_of_ne hki with hlt | hgt
        · rw [r3 _ (by omega)]; exact h0
        · rw [r5 _ (by omega)]; exact h0
    · rcases List.mem_or_eq_of_mem_set hx' with hx' | rfl
      · exact (h.ir x hx').keep fun k _ ⟨_, hc⟩ => Kt.setCells_other _ _ _ _ _ (ty_ne hg hc (by decide))
      · exact .inl rfl
/-- four trees -/
structure J (w : World) (B : Nat) (Vs : List Value) (ls : List (List Nh)) : Prop where
  len : Vs.length = ls.length
  ts : ∀ m (h : m < Vs.length) (h' : m < ls.length), TS w B Vs[m] ls[m]
def Apt (Vs : List Value) : Prop := ∀ m m' (h : m < Vs.length) (h' : m' < Vs.length), m ≠ m' → ∀ k, Vs[m].ownBlock = some k → Vs[m'].ownBlock ≠ some k
theorem J.put {w : World} {B : Nat} {Vs : List Value} {ls : List (List Nh)} (h : J w B Vs ls) (g a : Nat) (z : Int) (cur' : Array Value) (hg' : w.heap[g]? = some (.cells cur' 3 (0, 0))) : J (w.setCells g a [.int .i64 z]) B Vs ls :=
  ⟨h.len, fun m hm hm' => (h.ts m hm hm').put g a z cur' hg'⟩
theorem J.node {w : World} {B : Nat} {Vs : List Value} {ls : List (List Nh)} (h : J w B Vs ls) (ha : Apt Vs) (m : Nat) (hm : m < Vs.length) (hm' : m < ls.length) (g o c i : Nat) (hV : Vs[m] = .slice (some ⟨g, o, none⟩) (ls[m]).length c) (hi : i < (ls[m]).length) :
    J (w.setCells g (o + i * 4) zz.cs) B Vs (ls.set m ((ls[m]).set i zz)) := by
  have h0 := h.ts m hm hm'
  rw [hV] at h0
  obtain ⟨cur, hc⟩ := sl_row h0.sl (k := g) rfl
  refine ⟨by rw [List.length_set]; exact h.len, fun k hk hk' => ?_⟩
  rw [List.length_set] at hk'
  by_cases e : k = m
  · subst e
    rw [List.getElem_set_self, hV]
    exact h0.self i hi
  · rw [List.getElem_set_ne (fun q => e q.symm)]
    exact (h.ts k hk hk').other g _ _ cur hc (fun q => ha k m hk hm e g q (by rw [hV]; rfl))
def Dj (a b : Value) : Prop := ∀ k, a.ownBlock = some k → b.ownBlock ≠ some k
theorem apt4 {a b c d : Value} (h1 : Dj a b) (h2 : Dj a c) (h3 : Dj a d) (h4 : Dj b c) (h5 : Dj b d) (h6 : Dj c d) : Apt [a, b, c, d] := by
  intro m m' h h' hne
  match m, m', h, h' with
  | 0, 0, _, _ => exact absurd rfl hne
  | 0, 1, _, _ => exact h1
  | 0, 2, _, _ => exact h2
  | 0, 3, _, _ => exact h3
  | 0, _ + 4, _, h => exact absurd h (by simp)
  | 1, 0, _, _ => exact fun x p q => h1 x q p
  | 1, 1, _, _ => exact absurd rfl hne
  | 1, 2, _, _ => exact h4
  | 1, 3, _, _ => exact h5
  | 1, _ + 4, _, h => exact absurd h (by simp)
  | 2, 0, _, _ => exact fun x p q => h2 x q p
  | 2, 1, _, _ => exact fun x p q => h4 x q p
  | 2, 2, _, _ => exact absurd rfl hne
  | 2, 3, _, _ => exact h6
  | 2, _ + 4, _, h => exact absurd h (by simp)
  | 3, 0, _, _ => exact fun x p q => h3 x q p
  | 3, 1, _, _ => exact fun x p q => h5 x q p
  | 3, 2, _, _ => exact fun x p q => h6 x q p
  | 3, 3, _, _ => exact absurd rfl hne
  | 3, _ + 4, _, h => exact absurd h (by simp)
  | _ + 4, _, h, _ => exact absurd h (by simp)
/-- four trees, and the block that has them -/
structure JJ (P : World) (kK : Nat) (Vs : List Value) (w : World) : Prop where
  bel : Below P.heap.size P w
  row : w.heap[kK]? = some (.cells Vs.toArray 22 (0, 0))
  ls : ∃ ls, J w P.heap.size Vs ls
end Go.Proofs.Ytmjcokmfjofgnaa
