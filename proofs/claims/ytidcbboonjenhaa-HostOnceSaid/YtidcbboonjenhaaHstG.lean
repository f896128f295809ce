/- host: what Work does, plainly. -/
import Derived.Test.YtidcbboonjenhaaHstF
namespace Go.Proofs.Ytidcbboonjenhaa
open Go.RowKit Classical Go.Proofs.Ytidcbboonjenhaa.Slt
structure Ms where
  r : Rg
  v : Rg
  l : List Int
def Mv.ms (M : Mv) : Ms := ⟨M.r, M.v, M.l⟩
structure Vs (m : Ms) : Prop where
  r : Right m.r
  v : Right m.v
  b : Ok m.l
  len : m.l.length = 594
  cw : ∀ c ∈ m.r.cs, 0 ≤ c.1 ∧ c.1 < 35184372088832
  ew : ∀ c ∈ m.v.cs, 0 ≤ c.1 ∧ c.1 < 16777216
theorem vs_of {M : Mv} (hk : Mk M) (h : Vl M) (hw : Wf M.r.cs) (hw2 : Wf M.v.cs) : Vs M.ms := ⟨h.r, h.v, h.b, hk.l, fun c hc => ⟨(hw c hc).1, h.cw c hc⟩, fun c hc => ⟨(hw2 c hc).1, h.ew c hc⟩⟩
theorem Vs.vl {M : Mv} (h : Vs M.ms) : Vl M := ⟨h.r, h.v, h.b, fun c hc => (h.cw c hc).2, fun c hc => (h.ew c hc).2⟩
theorem Vs.wf {m : Ms} (h : Vs m) : Wf m.r.cs := fun c hc => ⟨(h.cw c hc).1, by have := (h.cw c hc).2; omega⟩
theorem Vs.wf2 {m : Ms} (h : Vs m) : Wf m.v.cs := fun c hc => ⟨(h.ew c hc).1, by have := (h.ew c hc).2; omega⟩
def uk (x : Nat) : Int := ((x / 2199023255552 : Nat) : Int)
def us (x : Nat) : Int := ((x / 137438953472 % 16 : Nat) : Int)
def ue (x : Nat) : Int := ((x / 4294967296 % 32 : Nat) : Int)
def ua (x : Nat) : Int := ((x % 4294967296 : Nat) : Int)
theorem unR_is {x : Nat} (h : x < 35184372088832) : unR x = .tuple #[.agg #[.int .i64 (uk x), .int .i64 (us x), .int .i64 (ue x), .int .i64 (ua x)], .int .i64 0] := if_pos h
def ev (c n p : Int) : Int := c + n * 256 + p * 65536
inductive Go1 (m : Ms) : Ms → Prop
  | mk (x : Nat) (l' : List Int) (c n : Int) : fullB m.v = false → getB m.r = true → (cellAt m.r).1 = (x : Int) → Did m.l (uk x) (us x) (ue x) (ua x) l' c n → Go1 m ⟨getR m.r, putR m.v (ev c n m.r.ga), l'⟩
def Stop (m : Ms) : Prop := fullB m.v = true ∨ getB m.r = false
inductive Pre (m : Ms) : Nat → Ms → Prop
  | zero : Pre m 0 m
  | step {k : Nat} {m1 m2 : Ms} : Pre m k m1 → Go1 m1 m2 → Pre m (k + 1) m2
theorem code_bd {x : List Int} {k e a : Int} : 0 ≤ cmdCode x k e a ∧ cmdCode x k e a ≤ 19 := by
  unfold cmdCode confCode endCode
  repeat (first | split | (constructor <;> decide))
theorem Did.bd {l : List Int} {k s e a : Int} {l' : List Int} {c n : Int} (h : Did l k s e a l' c n) : (0 ≤ c ∧ c ≤ 19) ∧ 0 ≤ n ∧ n ≤ 8 := by
  cases h with
  | bad => decide
  | noop => decide
  | enable i _ _ hf => exact ⟨by decide, by omega, by have := hf.2.1; omega⟩
  | full => decide
  | trb => decide
  | done n y _ _ _ h1 h2 h3 => exact ⟨by decide, by omega, by omega⟩
  | refused n _ _ _ h1 h2 h3 => exact ⟨code_bd, by omega, by omega⟩
theorem ev_bd {c n p : Int} (hc : 0 ≤ c ∧ c ≤ 19) (hn : 0 ≤ n ∧ n ≤ 8) (hp : 0 ≤ p ∧ p < 64) : 0 ≤ ev c n p ∧ ev c n p < 16777216 := by
  unfold ev; omega
theorem put_words {r : Rg} {w lo hi : Int} (hr : Right r) (h : ∀ c ∈ r.cs, lo ≤ c.1 ∧ c.1 < hi) (hw : lo ≤ w ∧ w < hi) : ∀ c ∈ (putR r w).cs, lo ≤ c.1 ∧ c.1 < hi := fun c hc => by
  obtain ⟨i, hi2⟩ := List.getElem?_of_mem hc
  have e : (putR r w).cs = putCs r w := rfl
  rw [e, putCs_get? r hr w i] at hi2
  obtain ⟨y, hy, hy2⟩ := Option.map_eq_some_iff.1 hi2
  have hm := h y (List.mem_of_getElem? hy)
  subst hy2
  split
  · exact hw
  · split <;> exact hm
theorem getR_cs (r : Rg) : (getR r).cs = r.cs := rfl
theorem cell_mem {r : Rg} (hr : Right r) : cellAt r ∈ r.cs := by
  have h := hr.ga
  have hlt : r.ga.toNat < r.cs.length := by have := hr.lo; omega
  unfold cellAt
  rw [List.getD_eq_getElem?_getD, List.getElem?_eq_getElem hlt]
  exact List.getElem_mem hlt
theorem Go1.vs {m m' : Ms} (h : Vs m) (hg : Go1 m m') : Vs m' := by
  cases hg with
  | mk x l' c n h1 h2 h3 hd =>
    obtain ⟨hc, hn⟩ := Did.bd hd
    obtain ⟨hl, ho⟩ := Did.ok h.len h.b hd
    have hp : 0 ≤ m.r.ga ∧ m.r.ga < 64 := by have := h.r.ga; have := h.r.hi; omega
    exact ⟨get_right h.r, put_right h.v _, ho, hl, fun c hc => h.cw c hc, put_words h.v h.ew (ev_bd hc hn hp)⟩
theorem Pre.vs {m m' : Ms} {k : Nat} (h : Vs m) (hp : Pre m k m') : Vs m' := by
  induction hp with
  | zero => exact h
  | step _ hg ih => exact hg.vs ih
theorem ev_bits {c n p : Int} (hc : 0 ≤ c ∧ c ≤ 19) (hn : 0 ≤ n ∧ n ≤ 8) (hp : 0 ≤ p ∧ p < 64) : bits .or .u64 (bits .or .u64 c (n * 256)) (p * 65536) = ev c n p := by
  obtain ⟨c, rfl⟩ : ∃ x : Nat, c = (x : Int) := ⟨c.toNat, by omega⟩
  obtain ⟨n, rfl⟩ : ∃ x : Nat, n = (x : Int) := ⟨n.toNat, by omega⟩
  obtain ⟨p, rfl⟩ : ∃ x : Nat, p = (x : Int) := ⟨p.toNat, by omega⟩
  have h1 : bits .or .u64 (c : Int) ((n : Int) * 256) = ((c + n * 256 : Nat) : Int) := or_sh 8 (by omega) (by omega)
  have h2 : bits .or .u64 ((c + n * 256 : Nat) : Int) ((p : Int) * 65536) = ((c + n * 256 + p * 65536 : Nat) : Int) := or_sh 16 (by omega) (by omega)
  rw [h1, h2]
  unfold ev
  omega
end Go.Proofs.Ytidcbboonjenhaa
