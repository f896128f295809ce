/- host.Play: the machine in its box beside the two lists. -/
import Derived.Test.YtidcbboonjenhaaHstK
namespace Go.Proofs.Ytidcbboonjenhaa
open Go.RowKit Classical Go.Proofs.Ytidcbboonjenhaa.Slt
theorem infoV : (Try.prog.info? 56).map (fun i => (i.zero, i.size, i.bytes)) = some (some (.agg #[.int .i64 0, .int .i64 0, .int .i64 0]), 3, 24) := by kernel_rfl
theorem infoN : (Try.prog.info? 25).map (fun i => (i.zero, i.size, i.bytes)) = some (some (.int .i64 0), 1, 8) := by kernel_rfl
def HApart (u v : Value) : Prop := ∀ k, u.ownBlock = some k → v.ownBlock ≠ some k
def HOff (u : Value) (b : Nat) : Prop := ∀ k, u.ownBlock = some k → k ≠ b
theorem HApart.nil (u : Value) : HApart u (.slice none 0 0) := fun k _ h => by cases h
theorem HOff.nil (b : Nat) : HOff (.slice none 0 0) b := fun k h => by cases h
/-- the machine M in the box b, the events and what was told each in a block of its own, above w's end; the answer's box as it was laid -/
structure HP (w : World) (b : Nat) (M : Mv) (o1 : Value) (l1 : List E3) (o2 : Value) (l2 : List Int) (W : World) : Prop where
  row : Mb b M W
  mo : MO W (w.heap.size + 1) M
  r0 : Mb w.heap.size zM W
  s1 : Kt.Sl W (w.heap.size + 1) 56 3 o1 l1.length (evs l1)
  s2 : Kt.Sl W (w.heap.size + 1) 25 1 o2 l2.length (ers l2)
  fc : HOff M.C b
  fe : HOff M.E b
  f1 : HOff o1 b
  f2 : HOff o2 b
  c1 : HApart M.C o1
  c2 : HApart M.C o2
  e1 : HApart M.E o1
  e2 : HApart M.E o2
  a12 : HApart o1 o2
  bel : Below w.heap.size w W
  lt : w.heap.size < b
section
variable {w W W' W0 W9 : World} {b : Nat} {M M1 : Mv} {o1 o2 v : Value} {l1 : List E3} {l2 : List Int}
theorem HApart.symm {u v : Value} (h : HApart u v) : HApart v u := fun k hk h2 => h k h2 hk
theorem HP.on (h : HP w b M o1 l1 o2 l2 W) (hb : Below W.heap.size W W') : HP w b M o1 l1 o2 l2 W' :=
  ⟨h.row.on hb, h.mo.on hb, h.r0.on hb, h.s1.on hb, h.s2.on hb, h.fc, h.fe, h.f1, h.f2, h.c1, h.c2, h.e1, h.e2, h.a12, Kt.bthen h.bel hb, h.lt⟩
theorem HP.al (h : HP w b M o1 l1 o2 l2 W) (c : Array Value) (t : TypeId) : HP w b M o1 l1 o2 l2 (W.alloc (.cells c t)) := h.on (Kt.balloc (Below.refl _ W) _)
theorem HP.blt (h : HP w b M o1 l1 o2 l2 W) : b + 1 ≤ W.heap.size := h.row.lt'
theorem HP.store (h : HP w b M o1 l1 o2 l2 W0) (hb : Below W0.heap.size W0 W) (hm : MO W W0.heap.size M1) (hr : Mb b M1 W9) (hu : Upd b W W9) : HP w b M1 o1 l1 o2 l2 W9 := by
  have hlt := h.blt
  have hw : w.heap.size + 1 ≤ W0.heap.size := by have := h.lt; omega
  have h' := h.on hb
  have hC : ∀ k, M1.C.ownBlock = some k → W0.heap.size ≤ k ∧ k < W.heap.size := fun k hk => hm.c.lt k hk
  have hE : ∀ k, M1.E.ownBlock = some k → W0.heap.size ≤ k ∧ k < W.heap.size := fun k hk => hm.e.lt k hk
  have keep : ∀ k, k ≠ b → k < W.heap.size → W9.heap[k]? = W.heap[k]? := fun k h1 h2 => hu.other k h1 h2
  refine ⟨hr, (hm.upd hu (by omega)).mono hw, hu.mb h'.r0 (by have := h.lt; omega), h'.s1.keep fun k hk => keep k (h.f1 k hk) (h'.s1.lt k hk).2, h'.s2.keep fun k hk => keep k (h.f2 k hk) (h'.s2.lt k hk).2,
    fun k hk => by have := hC k hk; omega, fun k hk => by have := hE k hk; omega, h.f1, h.f2, ?_, ?_, ?_, ?_, h.a12, h'.bel.trans (hu.below.mono (by have := h.lt; omega)), h.lt⟩
  · intro k hk q; have := hC k hk; have := (h.s1.lt k q).2; omega
  · intro k hk q; have := hC k hk; have := (h.s2.lt k q).2; omega
  · intro k hk q; have := hE k hk; have := (h.s1.lt k q).2; omega
  · intro k hk q; have := hE k hk; have := (h.s2.lt k q).2; omega
theorem HP.keepM (h : HP w b M o1 l1 o2 l2 W) (hr : Mb b M1 W9) (hC : M1.C = M.C) (hE : M1.E = M.E) (hm : MO W (w.heap.size + 1) M1) (hu : Upd b W W9) : HP w b M1 o1 l1 o2 l2 W9 := by
  have keep : ∀ k, k ≠ b → k < W.heap.size → W9.heap[k]? = W.heap[k]? := fun k h1 h2 => hu.other k h1 h2
  exact ⟨hr, ⟨hm.k, hm.c.keep fun k hk => keep k (h.fc k (hC ▸ hk)) (hm.c.lt k hk).2, hm.e.keep fun k hk => keep k (h.fe k (hE ▸ hk)) (hm.e.lt k hk).2⟩, hu.mb h.r0 (by have := h.lt; omega), h.s1.keep fun k hk => keep k (h.f1 k hk) (h.s1.lt k hk).2, h.s2.keep fun k hk => keep k (h.f2 k hk) (h.s2.lt k hk).2,
    hC ▸ h.fc, hE ▸ h.fe, h.f1, h.f2, hC ▸ h.c1, hC ▸ h.c2, hE ▸ h.e1, hE ▸ h.e2, h.a12, h.bel.trans (hu.below.mono (by have := h.lt; omega)), h.lt⟩
theorem HP.app2 (h : HP w b M o1 l1 o2 l2 W) {x : Int} (hs : Kt.Sl W' (w.heap.size + 1) 25 1 v (l2.length + 1) (ers l2 ++ [.int .i64 x])) (hk : ∀ k, k < W.heap.size → o2.ownBlock ≠ some k → W'.heap[k]? = W.heap[k]?)
    (hl : ∀ k, v.ownBlock = some k → o2.ownBlock = some k ∨ W.heap.size ≤ k) (hbl : Below (w.heap.size + 1) W W') : HP w b M o1 l1 v (l2 ++ [x]) W' := by
  have hlt := h.blt
  have hz := h.lt
  refine ⟨(hk b (by omega) (fun e => h.f2 b e rfl)).trans h.row, ⟨h.mo.k, h.mo.c.keep fun k hc => hk k (h.mo.c.lt k hc).2 (h.c2 k hc), h.mo.e.keep fun k hc => hk k (h.mo.e.lt k hc).2 (h.e2 k hc)⟩, (hk _ (by omega) (fun e => by have := (h.s2.lt _ e).1; omega)).trans h.r0,
    h.s1.keep fun k hc => hk k (h.s1.lt k hc).2 (h.a12 k hc), ?_, h.fc, h.fe, h.f1, ?_, h.c1, ?_, h.e1, ?_, ?_, h.bel.trans (hbl.mono (Nat.le_succ _)), h.lt⟩
  · rw [ers_snoc, List.length_append]; exact hs
  · intro k hv
    rcases hl k hv with h1 | h1
    · exact h.f2 k h1
    · omega
  · intro k hc hv
    rcases hl k hv with h1 | h1
    · exact h.c2 k hc h1
    · have := (h.mo.c.lt k hc).2; omega
  · intro k hc hv
    rcases hl k hv with h1 | h1
    · exact h.e2 k hc h1
    · have := (h.mo.e.lt k hc).2; omega
  · intro k hc hv
    rcases hl k hv with h1 | h1
    · exact h.a12 k hc h1
    · have := (h.s1.lt k hc).2; omega
theorem HP.app1 (h : HP w b M o1 l1 o2 l2 W) {x : E3} (hs : Kt.Sl W' (w.heap.size + 1) 56 3 v (l1.length + 1) (evs l1 ++ evc x)) (hk : ∀ k, k < W.heap.size → o1.ownBlock ≠ some k → W'.heap[k]? = W.heap[k]?)
    (hl : ∀ k, v.ownBlock = some k → o1.ownBlock = some k ∨ W.heap.size ≤ k) (hbl : Below (w.heap.size + 1) W W') : HP w b M v (l1 ++ [x]) o2 l2 W' := by
  have hlt := h.blt
  have hz := h.lt
  refine ⟨(hk b (by omega) (fun e => h.f1 b e rfl)).trans h.row, ⟨h.mo.k, h.mo.c.keep fun k hc => hk k (h.mo.c.lt k hc).2 (h.c1 k hc), h.mo.e.keep fun k hc => hk k (h.mo.e.lt k hc).2 (h.e1 k hc)⟩, (hk _ (by omega) (fun e => by have := (h.s1.lt _ e).1; omega)).trans h.r0,
    ?_, h.s2.keep fun k hc => hk k (h.s2.lt k hc).2 (h.a12.symm k hc), h.fc, h.fe, ?_, h.f2, ?_, h.c2, ?_, h.e2, ?_, h.bel.trans (hbl.mono (Nat.le_succ _)), h.lt⟩
  · rw [evs_snoc, List.length_append]; exact hs
  · intro k hv
    rcases hl k hv with h1 | h1
    · exact h.f1 k h1
    · omega
  · intro k hc hv
    rcases hl k hv with h1 | h1
    · exact h.c1 k hc h1
    · have := (h.mo.c.lt k hc).2; omega
  · intro k hc hv
    rcases hl k hv with h1 | h1
    · exact h.e1 k hc h1
    · have := (h.mo.e.lt k hc).2; omega
  · intro k hv h2
    rcases hl k hv with h1 | h1
    · exact h.a12 k h1 h2
    · have := (h.s2.lt k h2).2; omega
end
/-- and the next machine M1 in the box g -/
structure HQ (w : World) (b g : Nat) (M M1 : Mv) (o1 : Value) (l1 : List E3) (o2 : Value) (l2 : List Int) (W : World) : Prop where
  hp : HP w b M o1 l1 o2 l2 W
  mo1 : MO W (w.heap.size + 1) M1
  g0 : Mb g M1 W
  gb : b < g
  fc : HOff M1.C b
  fe : HOff M1.E b
  c1 : HApart M1.C o1
  c2 : HApart M1.C o2
  e1 : HApart M1.E o1
  e2 : HApart M1.E o2
  g1 : HOff o1 g
  g2 : HOff o2 g
section
variable {w W W' W0 W9 : World} {b g : Nat} {M M1 : Mv} {o1 o2 v : Value} {l1 : List E3} {l2 : List Int}
theorem HQ.of (h : HP w b M o1 l1 o2 l2 W0) (hb : Below W0.heap.size W0 W) (hm : MO W W0.heap.size M1) (hg : Mb g M1 W) (hgs : W0.heap.size ≤ g) : HQ w b g M M1 o1 l1 o2 l2 W := by
  have hlt := h.blt
  have hz := h.lt
  have hC : ∀ k, M1.C.ownBlock = some k → W0.heap.size ≤ k ∧ k < W.heap.size := fun k hk => hm.c.lt k hk
  have hE : ∀ k, M1.E.ownBlock = some k → W0.heap.size ≤ k ∧ k < W.heap.size := fun k hk => hm.e.lt k hk
  refine ⟨h.on hb, hm.mono (by omega), hg, by omega, fun k hk => by have := hC k hk; omega, fun k hk => by have := hE k hk; omega, ?_, ?_, ?_, ?_, ?_, ?_⟩
  · intro k hk q; have := hC k hk; have := (h.s1.lt k q).2; omega
  · intro k hk q; have := hC k hk; have := (h.s2.lt k q).2; omega
  · intro k hk q; have := hE k hk; have := (h.s1.lt k q).2; omega
  · intro k hk q; have := hE k hk; have := (h.s2.lt k q).2; omega
  · intro k hk; have := (h.s1.lt k hk).2; omega
  · intro k hk; have := (h.s2.lt k hk).2; omega
theorem HQ.on (h : HQ w b g M M1 o1 l1 o2 l2 W) (hb : Below W.heap.size W W') : HQ w b g M M1 o1 l1 o2 l2 W' :=
  ⟨h.hp.on hb, h.mo1.on hb, h.g0.on hb, h.gb, h.fc, h.fe, h.c1, h.c2, h.e1, h.e2, h.g1, h.g2⟩
theorem HQ.al (h : HQ w b g M M1 o1 l1 o2 l2 W) (c : Array Value) (t : TypeId) : HQ w b g M M1 o1 l1 o2 l2 (W.alloc (.cells c t)) := h.on (Kt.balloc (Below.refl _ W) _)
theorem HQ.store (h : HQ w b g M M1 o1 l1 o2 l2 W) (hr : Mb b M1 W9) (hu : Upd b W W9) : HP w b M1 o1 l1 o2 l2 W9 := by
  have hlt := h.hp.blt
  have hz := h.hp.lt
  have keep : ∀ k, k ≠ b → k < W.heap.size → W9.heap[k]? = W.heap[k]? := fun k h1 h2 => hu.other k h1 h2
  exact ⟨hr, ⟨h.mo1.k, h.mo1.c.keep fun k hk => keep k (h.fc k hk) (h.mo1.c.lt k hk).2, h.mo1.e.keep fun k hk => keep k (h.fe k hk) (h.mo1.e.lt k hk).2⟩, hu.mb h.hp.r0 (by omega), h.hp.s1.keep fun k hk => keep k (h.hp.f1 k hk) (h.hp.s1.lt k hk).2, h.hp.s2.keep fun k hk => keep k (h.hp.f2 k hk) (h.hp.s2.lt k hk).2,
    h.fc, h.fe, h.hp.f1, h.hp.f2, h.c1, h.c2, h.e1, h.e2, h.hp.a12, h.hp.bel.trans (hu.below.mono (by omega)), h.hp.lt⟩
theorem HQ.app2 (h : HQ w b g M M1 o1 l1 o2 l2 W) {x : Int} (hs : Kt.Sl W' (w.heap.size + 1) 25 1 v (l2.length + 1) (ers l2 ++ [.int .i64 x])) (hk : ∀ k, k < W.heap.size → o2.ownBlock ≠ some k → W'.heap[k]? = W.heap[k]?)
    (hl : ∀ k, v.ownBlock = some k → o2.ownBlock = some k ∨ W.heap.size ≤ k) (hbl : Below (w.heap.size + 1) W W') : HQ w b g M M1 o1 l1 v (l2 ++ [x]) W' := by
  have hz := h.g0.lt
  refine ⟨h.hp.app2 hs hk hl hbl, ⟨h.mo1.k, h.mo1.c.keep fun k hc => hk k (h.mo1.c.lt k hc).2 (h.c2 k hc), h.mo1.e.keep fun k hc => hk k (h.mo1.e.lt k hc).2 (h.e2 k hc)⟩, (hk g hz (fun e => h.g2 g e rfl)).trans h.g0, h.gb, h.fc, h.fe, h.c1, ?_, h.e1, ?_, h.g1, ?_⟩
  · intro k hc hv
    rcases hl k hv with h1 | h1
    · exact h.c2 k hc h1
    · have := (h.mo1.c.lt k hc).2; omega
  · intro k hc hv
    rcases hl k hv with h1 | h1
    · exact h.e2 k hc h1
    · have := (h.mo1.e.lt k hc).2; omega
  · intro k hv
    rcases hl k hv with h1 | h1
    · exact h.g2 k h1
    · omega
end
end Go.Proofs.Ytidcbboonjenhaa
