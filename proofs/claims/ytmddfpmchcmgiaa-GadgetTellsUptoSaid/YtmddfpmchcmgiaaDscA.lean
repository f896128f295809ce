/- add: a descriptor more is put into a configuration of one's own: what stands where. -/
import Derived.Test.YtmddfpmchcmgiaaDscW
import Derived.Test.YtmddfpmchcmgiaaGen
namespace Go.Proofs.Ytmddfpmchcmgiaa
open Go.RowKit Go.Proofs.Ytmddfpmchcmgiaa.Dsc
structure Fh where
  f : Fa
  xa : Option Addr
  xc : Nat
  ea : Option Addr
  ec : Nat
def Fh.X (h : Fh) : Value := .slice h.xa h.f.ex.length h.xc
def Fh.E (h : Fh) : Value := .slice h.ea h.f.es.length h.ec
def Fh.cs (h : Fh) : List Value := [.int .i64 h.f.cl, .int .i64 h.f.su, .int .i64 h.f.pr, .int .i64 h.f.nm, h.X, h.E]
/-- the faces of a configuration of one's own -/
structure Fo (w : World) (B : Nat) (V : Value) (l : List Fh) : Prop where
  sl : Kt.Sl w B 32 6 V l.length (l.flatMap Fh.cs)
  xs : ∀ h ∈ l, Kt.Sl w B 9 1 h.X h.f.ex.length (xcells h.f.ex)
  es : ∀ h ∈ l, Kt.Sl w B 43 5 h.E h.f.es.length (ecells h.f.es)
  ax : l.Pairwise fun a b => ∀ k, a.X.ownBlock = some k → b.X.ownBlock ≠ some k
  ae : l.Pairwise fun a b => ∀ k, a.E.ownBlock = some k → b.E.ownBlock ≠ some k
def ownT (w : World) (t : TypeId) (k : Nat) : Prop := ∃ cur, w.heap[k]? = some (.cells cur t (0, 0))
theorem sl_own {w : World} {B sz n : Nat} {t : TypeId} {V : Value} {xs : List Value} (h : Kt.Sl w B t sz V n xs) {k : Nat} (hk : V.ownBlock = some k) : B ≤ k ∧ ownT w t k := by
  rcases h.2 with ⟨e, _⟩ | ⟨g, o, cap, cur, e, hb, hg, _⟩
  · rw [e] at hk; cases hk
  · rw [e] at hk
    simp [Value.ownBlock] at hk
    subst hk
    exact ⟨hb, cur, hg⟩
theorem ownT_ne {w : World} {k g : Nat} {t u : TypeId} (h1 : ownT w t k) (h2 : ownT w u g) (hne : t ≠ u) : k ≠ g := fun e => by
  subst e
  obtain ⟨c1, h1⟩ := h1
  obtain ⟨c2, h2⟩ := h2
  rw [h1] at h2
  injection h2 with q
  injection q with q1 q2
  exact hne q2
theorem Fo.nil (w : World) (B : Nat) : Fo w B (.slice none 0 0) [] := ⟨Kt.Sl.nil _ _ _ _, fun _ h => (by cases h), fun _ h => (by cases h), .nil, .nil⟩
theorem Fo.on {w w' : World} {B : Nat} {V : Value} {l : List Fh} (h : Fo w B V l) (hb : Below w.heap.size w w') : Fo w' B V l :=
  ⟨h.sl.on hb, fun x hx => (h.xs x hx).on hb, fun x hx => (h.es x hx).on hb, h.ax, h.ae⟩
theorem Fo.mono {w : World} {B B' : Nat} {V : Value} {l : List Fh} (h : Fo w B V l) (hb : B' ≤ B) : Fo w B' V l :=
  ⟨h.sl.mono hb, fun x hx => (h.xs x hx).mono hb, fun x hx => (h.es x hx).mono hb, h.ax, h.ae⟩
/-- a store into a block of another type -/
theorem Fo.keep {w w' : World} {B : Nat} {V : Value} {l : List Fh} (h : Fo w B V l) (hk : ∀ k, B ≤ k → (ownT w 32 k ∨ ownT w 9 k ∨ ownT w 43 k) → w'.heap[k]? = w.heap[k]?) : Fo w' B V l :=
  ⟨h.sl.keep fun k e => hk k (sl_own h.sl e).1 (.inl (sl_own h.sl e).2), fun x hx => (h.xs x hx).keep fun k e => hk k (sl_own (h.xs x hx) e).1 (.inr (.inl (sl_own (h.xs x hx) e).2)), fun x hx => (h.es x hx).keep fun k e => hk k (sl_own (h.es x hx) e).1 (.inr (.inr (sl_own (h.es x hx) e).2)), h.ax, h.ae⟩
theorem Fo.sets {w : World} {B : Nat} {V : Value} {l : List Fh} (h : Fo w B V l) (g off : Nat) (news : List Value) {t : TypeId} (hg : ownT w t g) (h1 : t ≠ 32) (h2 : t ≠ 9) (h3 : t ≠ 43) : Fo (w.setCells g off news) B V l :=
  h.keep fun _ _ ht => Kt.setCells_other _ _ _ _ _ (by
    rcases ht with ht | ht | ht
    · exact (ownT_ne hg ht h1).symm
    · exact (ownT_ne hg ht h2).symm
    · exact (ownT_ne hg ht h3).symm)
theorem old_of {w : World} {k : Nat} {t : TypeId} (h : ownT w t k) : k < w.heap.size := by
  obtain ⟨c, h⟩ := h
  exact (Array.getElem?_eq_some_iff.1 h).1
/-- a face more -/
theorem Fo.face {w w' : World} {B : Nat} {V V' : Value} {l : List Fh} (h : Fo w B V l) (a b c d : Int)
    (hs : Kt.Sl w' B 32 6 V' (l.length + 1) (l.flatMap Fh.cs ++ [.int .i64 a, .int .i64 b, .int .i64 c, .int .i64 d, .slice none 0 0, .slice none 0 0]))
    (hk : ∀ k, k < w.heap.size → V.ownBlock ≠ some k → w'.heap[k]? = w.heap[k]?) : Fo w' B V' (l ++ [⟨⟨a, b, c, d, [], []⟩, none, 0, none, 0⟩]) := by
  have key : ∀ {t : TypeId} {k : Nat}, ownT w t k → t ≠ 32 → w'.heap[k]? = w.heap[k]? := fun ht hne => hk _ (old_of ht) fun e => ownT_ne ht (sl_own h.sl e).2 hne rfl
  refine ⟨by rw [List.length_append, List.flatMap_append]; exact hs, fun x hx => ?_, fun x hx => ?_, ?_, ?_⟩
  · rcases List.mem_append.1 hx with hx | hx
    · exact (h.xs x hx).keep fun k e => key (sl_own (h.xs x hx) e).2 (by decide)
    · cases List.mem_singleton.1 hx
      exact Kt.Sl.nil _ _ _ _
  · rcases List.mem_append.1 hx with hx | hx
    · exact (h.es x hx).keep fun k e => key (sl_own (h.es x hx) e).2 (by decide)
    · cases List.mem_singleton.1 hx
      exact Kt.Sl.nil _ _ _ _
  · refine List.pairwise_append.2 ⟨h.ax, List.pairwise_singleton _ _, fun x _ y hy k _ e => ?_⟩
    cases List.mem_singleton.1 hy
    cases e
  · refine List.pairwise_append.2 ⟨h.ae, List.pairwise_singleton _ _, fun x _ y hy k _ e => ?_⟩
    cases List.mem_singleton.1 hy
    cases e
theorem cs_len (l : List Fh) : (l.flatMap Fh.cs).length = l.length * 6 := by
  induction l with
  | nil => rfl
  | cons x l ih => rw [List.flatMap_cons, List.length_append, ih, List.length_cons]; show 6 + _ = _; omega
/-- an end more of the last face: first the append, then the store -/
theorem Fo.ends {w w' : World} {B g o cap a : Nat} {A' : Option Addr} {c' : Nat} {pre : List Fh} {h0 : Fh} {x : En}
    (h : Fo w B (.slice (some ⟨g, o, none⟩) (pre.length + 1) cap) (pre ++ [h0]))
    (hs : Kt.Sl w' B 43 5 (.slice A' (h0.f.es.length + 1) c') (h0.f.es.length + 1) (ecells h0.f.es ++ ec1 x))
    (hk : ∀ k, k < w.heap.size → h0.E.ownBlock ≠ some k → w'.heap[k]? = w.heap[k]?)
    (hl : ∀ k, (Value.slice A' (h0.f.es.length + 1) c').ownBlock = some k → h0.E.ownBlock = some k ∨ w.heap.size ≤ k) (ha : a = o + (pre.length * 6 + 5)) :
    Fo (w'.setCells g a [.slice A' (h0.f.es.length + 1) c']) B (.slice (some ⟨g, o, none⟩) (pre.length + 1) cap) (pre ++ [⟨⟨h0.f.cl, h0.f.su, h0.f.pr, h0.f.nm, h0.f.ex, h0.f.es ++ [x]⟩, h0.xa, h0.xc, A', c'⟩]) := by
  have hm0 : h0 ∈ pre ++ [h0] := List.mem_append_right _ (List.mem_singleton.2 rfl)
  have key : ∀ {t : TypeId} {k : Nat}, ownT w t k → t ≠ 43 → w'.heap[k]? = w.heap[k]? := fun ht hne => hk _ (old_of ht) fun e => ownT_ne ht (sl_own (h.es h0 hm0) e).2 hne rfl
  have hsl : Kt.Sl w' B 32 6 (.slice (some ⟨g, o, none⟩) (pre.length + 1) cap) (pre.length + 1) ((pre ++ [h0]).flatMap Fh.cs) := by
    have := h.sl
    rw [List.length_append] at this
    exact this.keep fun k e => key (sl_own this e).2 (by decide)
  have hgF : ownT w' 32 g := (sl_own hsl rfl).2
  have hput := hsl.put' (pre.length * 6 + 5) ha (by omega) (.slice A' (h0.f.es.length + 1) c')
  have oth : ∀ {t : TypeId} {k : Nat}, ownT w' t k → t ≠ 32 → (w'.setCells g a [.slice A' (h0.f.es.length + 1) c']).heap[k]? = w'.heap[k]? := fun ht hne => Kt.setCells_other _ _ _ _ _ (ownT_ne ht hgF hne)
  refine ⟨?_, fun y hy => ?_, fun y hy => ?_, ?_, ?_⟩
  · rw [List.length_append]
    have e : ((pre ++ [h0]).flatMap Fh.cs).set (pre.length * 6 + 5) (.slice A' (h0.f.es.length + 1) c') = (pre ++ [(⟨⟨h0.f.cl, h0.f.su, h0.f.pr, h0.f.nm, h0.f.ex, h0.f.es ++ [x]⟩, h0.xa, h0.xc, A', c'⟩ : Fh)]).flatMap Fh.cs := by
      rw [List.flatMap_append, List.flatMap_append, ← cs_len, List.set_append_right _ _ (Nat.le_add_right _ _), Nat.add_sub_cancel_left]
      congr 1
      show _ = [Value.int .i64 h0.f.cl, .int .i64 h0.f.su, .int .i64 h0.f.pr, .int .i64 h0.f.nm, .slice h0.xa h0.f.ex.length h0.xc, .slice A' (h0.f.es ++ [x]).length c']
      rw [List.length_append]
      rfl
    rw [← e]
    exact hput
  · rcases List.mem_append.1 hy with hy | hy
    · have hyx := h.xs y (List.mem_append_left _ hy)
      have h1 := hyx.keep (w' := w') fun k e => key (sl_own hyx e).2 (by decide)
      exact h1.keep fun k e => oth (sl_own h1 e).2 (by decide)
    · cases List.mem_singleton.1 hy
      have hyx := h.xs h0 hm0
      have h1 := hyx.keep (w' := w') fun k e => key (sl_own hyx e).2 (by decide)
      exact h1.keep fun k e => oth (sl_own h1 e).2 (by decide)
  · rcases List.mem_append.1 hy with hy | hy
    · have hye := h.es y (List.mem_append_left _ hy)
      have h1 := hye.keep (w' := w') fun k e => hk k (old_of (sl_own hye e).2) ((List.pairwise_append.1 h.ae).2.2 y hy h0 (List.mem_singleton.2 rfl) k e)
      exact h1.keep fun k e => oth (sl_own h1 e).2 (by decide)
    · cases List.mem_singleton.1 hy
      show Kt.Sl _ _ _ _ (.slice A' (h0.f.es ++ [x]).length c') (h0.f.es ++ [x]).length (ecells (h0.f.es ++ [x]))
      rw [List.length_append]
      have e : ecells (h0.f.es ++ [x]) = ecells h0.f.es ++ ec1 x := by unfold ecells; rw [List.flatMap_append]; simp
      rw [e]
      exact hs.keep fun k e => oth (sl_own hs e).2 (by decide)
  · refine List.pairwise_append.2 ⟨(List.pairwise_append.1 h.ax).1, List.pairwise_singleton _ _, fun y hy z hz k e => ?_⟩
    cases List.mem_singleton.1 hz
    exact (List.pairwise_append.1 h.ax).2.2 y hy h0 (List.mem_singleton.2 rfl) k e
  · refine List.pairwise_append.2 ⟨(List.pairwise_append.1 h.ae).1, List.pairwise_singleton _ _, fun y hy z hz k e => ?_⟩
    cases List.mem_singleton.1 hz
    intro e2
    have e2' : (Value.slice A' (h0.f.es ++ [x]).length c').ownBlock = some k := e2
    rw [List.length_append] at e2'
    rcases hl k e2' with q | q
    · exact (List.pairwise_append.1 h.ae).2.2 y hy h0 (List.mem_singleton.2 rfl) k e q
    · exact absurd (old_of (sl_own (h.es y (List.mem_append_left _ hy)) e).2) (Nat.not_lt.2 q)
/-- a text more of the last face -/
theorem Fo.exts {w w' : World} {B g o cap a : Nat} {A' : Option Addr} {c' : Nat} {pre : List Fh} {h0 : Fh} {d : List UInt8}
    (h : Fo w B (.slice (some ⟨g, o, none⟩) (pre.length + 1) cap) (pre ++ [h0]))
    (hs : Kt.Sl w' B 9 1 (.slice A' (h0.f.ex.length + 1) c') (h0.f.ex.length + 1) (xcells h0.f.ex ++ [.string (bs' d)]))
    (hk : ∀ k, k < w.heap.size → h0.X.ownBlock ≠ some k → w'.heap[k]? = w.heap[k]?)
    (hl : ∀ k, (Value.slice A' (h0.f.ex.length + 1) c').ownBlock = some k → h0.X.ownBlock = some k ∨ w.heap.size ≤ k) (ha : a = o + (pre.length * 6 + 4)) :
    Fo (w'.setCells g a [.slice A' (h0.f.ex.length + 1) c']) B (.slice (some ⟨g, o, none⟩) (pre.length + 1) cap) (pre ++ [⟨⟨h0.f.cl, h0.f.su, h0.f.pr, h0.f.nm, h0.f.ex ++ [d], h0.f.es⟩, A', c', h0.ea, h0.ec⟩]) := by
  have hm0 : h0 ∈ pre ++ [h0] := List.mem_append_right _ (List.mem_singleton.2 rfl)
  have key : ∀ {t : TypeId} {k : Nat}, ownT w t k → t ≠ 9 → w'.heap[k]? = w.heap[k]? := fun ht hne => hk _ (old_of ht) fun e => ownT_ne ht (sl_own (h.xs h0 hm0) e).2 hne rfl
  have hsl : Kt.Sl w' B 32 6 (.slice (some ⟨g, o, none⟩) (pre.length + 1) cap) (pre.length + 1) ((pre ++ [h0]).flatMap Fh.cs) := by
    have := h.sl
    rw [List.length_append] at this
    exact this.keep fun k e => key (sl_own this e).2 (by decide)
  have hgF : ownT w' 32 g := (sl_own hsl rfl).2
  have hput := hsl.put' (pre.length * 6 + 4) ha (by omega) (.slice A' (h0.f.ex.length + 1) c')
  have oth : ∀ {t : TypeId} {k : Nat}, ownT w' t k → t ≠ 32 → (w'.setCells g a [.slice A' (h0.f.ex.length + 1) c']).heap[k]? = w'.heap[k]? := fun ht hne => Kt.setCells_other _ _ _ _ _ (ownT_ne ht hgF hne)
  refine ⟨?_, fun y hy => ?_, fun y hy => ?_, ?_, ?_⟩
  · rw [List.length_append]
    have e : ((pre ++ [h0]).flatMap Fh.cs).set (pre.length * 6 + 4) (.slice A' (h0.f.ex.length + 1) c') = (pre ++ [(⟨⟨h0.f.cl, h0.f.su, h0.f.pr, h0.f.nm, h0.f.ex ++ [d], h0.f.es⟩, A', c', h0.ea, h0.ec⟩ : Fh)]).flatMap Fh.cs := by
      rw [List.flatMap_append, List.flatMap_append, ← cs_len, List.set_append_right _ _ (Nat.le_add_right _ _), Nat.add_sub_cancel_left]
      congr 1
      show _ = [Value.int .i64 h0.f.cl, .int .i64 h0.f.su, .int .i64 h0.f.pr, .int .i64 h0.f.nm, .slice A' (h0.f.ex ++ [d]).length c', .slice h0.ea h0.f.es.length h0.ec]
      rw [List.length_append]
      rfl
    rw [← e]
    exact hput
  · rcases List.mem_append.1 hy with hy | hy
    · have hyx := h.xs y (List.mem_append_left _ hy)
      have h1 := hyx.keep (w' := w') fun k e => hk k (old_of (sl_own hyx e).2) ((List.pairwise_append.1 h.ax).2.2 y hy h0 (List.mem_singleton.2 rfl) k e)
      exact h1.keep fun k e => oth (sl_own h1 e).2 (by decide)
    · cases List.mem_singleton.1 hy
      show Kt.Sl _ _ _ _ (.slice A' (h0.f.ex ++ [d]).length c') (h0.f.ex ++ [d]).length (xcells (h0.f.ex ++ [d]))
      rw [List.length_append]
      have e : xcells (h0.f.ex ++ [d]) = xcells h0.f.ex ++ [.string (bs' d)] := by unfold xcells; rw [List.map_append]; rfl
      rw [e]
      exact hs.keep fun k e => oth (sl_own hs e).2 (by decide)
  · rcases List.mem_append.1 hy with hy | hy
    · have hye := h.es y (List.mem_append_left _ hy)
      have h1 := hye.keep (w' := w') fun k e => key (sl_own hye e).2 (by decide)
      exact h1.keep fun k e => oth (sl_own h1 e).2 (by decide)
    · cases List.mem_singleton.1 hy
      have hye := h.es h0 hm0
      have h1 := hye.keep (w' := w') fun k e => key (sl_own hye e).2 (by decide)
      exact h1.keep fun k e => oth (sl_own h1 e).2 (by decide)
  · refine List.pairwise_append.2 ⟨(List.pairwise_append.1 h.ax).1, List.pairwise_singleton _ _, fun y hy z hz k e => ?_⟩
    cases List.mem_singleton.1 hz
    intro e2
    have e2' : (Value.slice A' (h0.f.ex ++ [d]).length c').ownBlock = some k := e2
    rw [List.length_append] at e2'
    rcases hl k e2' with q | q
    · exact (List.pairwise_append.1 h.ax).2.2 y hy h0 (List.mem_singleton.2 rfl) k e q
    · exact absurd (old_of (sl_own (h.xs y (List.mem_append_left _ hy)) e).2) (Nat.not_lt.2 q)
  · refine List.pairwise_append.2 ⟨(List.pairwise_append.1 h.ae).1, List.pairwise_singleton _ _, fun y hy z hz k e => ?_⟩
    cases List.mem_singleton.1 hz
    exact (List.pairwise_append.1 h.ae).2.2 y hy h0 (List.mem_singleton.2 rfl) k e
set_option maxRecDepth 100000 in
theorem at_bytes (S : ByteArray) (i : Nat) (hi : i < S.size) (b : Nat) (w : World) (hc : w.cell? ⟨b, 0, none⟩ = some (.string S)) :
    Calls Try.prog 60 #[.int .i64 i, .pointer (some ⟨b, 0, none⟩)] w fun e w' => e = .returned (.int .i64 (S[i].toNat : Int)) ∧ w = w' := by
  have hS2 : (i : Int) < S.size := by omega
  have hb := UInt8.toNat_lt S[i]
  go_enter Try.func60, Try.ntmps60
  go_wp2_with fail
  go_ret
  exact ⟨rfl, rfl⟩
theorem at_calls (d : List UInt8) (i : Nat) (hi : i < d.length) (b : Nat) (w : World) (hc : w.cell? ⟨b, 0, none⟩ = some (.string (bs' d))) :
    Calls Try.prog 60 #[.int .i64 i, .pointer (some ⟨b, 0, none⟩)] w fun e w' => e = .returned (.int .i64 (at' d i)) ∧ w = w' := by
  have h := at_bytes (bs' d) i (by rw [bs_size]; exact hi) b w hc
  rw [get_at] at h
  exact h
theorem or_bytes64 (x y : Nat) (hx : x < 256) (hy : y < 256) : bits .or .i64 (x : Int) ((y : Int) * 256) = (x : Int) + 256 * y := by
  show IntKind.i64.wrap ((BitVec.ofInt 64 (x : Int) ||| BitVec.ofInt 64 ((y : Int) * 256)).toNat : Int) = _
  have e : ((y : Int) * 256) = ((y * 256 : Nat) : Int) := by omega
  rw [e, BitVec.toNat_or, BitVec.ofInt_natCast, BitVec.ofInt_natCast, BitVec.toNat_ofNat, BitVec.toNat_ofNat, Nat.mod_eq_of_lt (by omega), Nat.mod_eq_of_lt (by omega)]
  have h2 : x ||| y * 256 = y * 256 + x := by
    have := Nat.shiftLeft_add_eq_or_of_lt (show x < 2 ^ 8 by omega) y
    rw [Nat.shiftLeft_eq, show (2 : Nat) ^ 8 = 256 from rfl] at this
    rw [Nat.or_comm]; omega
  rw [h2, IntKind.wrap_i64]
  omega
set_option maxRecDepth 100000 in
theorem wordAt_bytes (S : ByteArray) (i : Nat) (hi : i + 1 < S.size) (hz : S.size ≤ 100000) (w : World) :
    Calls Try.prog 47 #[.string S, .int .i64 i] w fun e w' => e = .returned (.int .i64 (((S[i]'(by omega)).toNat : Int) + 256 * (S[i + 1].toNat : Int))) ∧ Below w.heap.size w w' := by
  have hi2 : ((i : Int) + 1) < S.size := by omega
  have ho := or_bytes64 (S[i]'(by omega)).toNat (S[i + 1]'hi).toNat (UInt8.toNat_lt _) (UInt8.toNat_lt _)
  have h1 := UInt8.toNat_lt (S[i]'(by omega))
  have h2 := UInt8.toNat_lt (S[i + 1]'hi)
  go_enter Try.func47, Try.ntmps47
  go_wp2
  have hb1 : (0 : Int) ≤ i := by omega
  have hb2 : (i : Int) < S.size := by omega
  have hb3 : (0 : Int) ≤ (i : Int) + 1 := by omega
  have hw : IntKind.i64.wrap ((i : Int) + 1) = (i : Int) + 1 := IntWalk.i64_in _ (by omega)
  have ht : ((i : Int) + 1).toNat = i + 1 := by omega
  have ht2 : ((i : Int)).toNat = i := by omega
  go_quiet (fail)
  go_wp2
  go_ret
  have h := Below.refl w.heap.size w
  exact ⟨rfl, h.os, h.tape, h.output, h.size, h.block⟩
theorem wordAt_calls (d : List UInt8) (i : Nat) (hi : i + 1 < d.length) (hz : d.length ≤ 100000) (w : World) :
    Calls Try.prog 47 #[.string (bs' d), .int .i64 i] w fun e w' => e = .returned (.int .i64 (at' d i + 256 * at' d (i + 1))) ∧ Below w.heap.size w w' := by
  have h := wordAt_bytes (bs' d) i (by rw [bs_size]; exact hi) (by rw [bs_size]; exact hz) w
  rw [get_at, get_at] at h
  exact h
end Go.Proofs.Ytmddfpmchcmgiaa
