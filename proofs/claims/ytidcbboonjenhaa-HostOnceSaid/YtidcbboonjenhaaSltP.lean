/- Slots of a board, plainly: a board is a list of 594 numbers, sixty-six to a slot. -/
import Derived.Test.YtidcbboonjenhaaIa
namespace Go.Proofs.Ytidcbboonjenhaa.Slt
open Go.RowKit Classical
/-- the i-th number -/
def G (l : List Int) (i : Nat) : Int := l.getD i 0
theorem G_get (l : List Int) (i : Nat) (h : i < l.length) : G l i = l[i] := by
  unfold G; rw [List.getD_eq_getElem?_getD, List.getElem?_eq_getElem h]; rfl
theorem G_out (l : List Int) (i : Nat) (h : l.length ≤ i) : G l i = 0 := by
  unfold G; rw [List.getD_eq_getElem?_getD, List.getElem?_eq_none h]; rfl
theorem G_set (l : List Int) (i j : Nat) (v : Int) (h : i < l.length) : G (l.set i v) j = if j = i then v else G l j := by
  unfold G
  rw [List.getD_eq_getElem?_getD, List.getD_eq_getElem?_getD, List.getElem?_set]
  by_cases e : i = j
  · subst e; simp [h]
  · rw [if_neg e, if_neg (Ne.symm e)]
theorem G_ext {a b : List Int} (hl : a.length = b.length) (h : ∀ i, i < a.length → G a i = G b i) : a = b := by
  apply List.ext_getElem hl
  intro i h1 h2
  have := h i h1
  rwa [G_get _ _ h1, G_get _ _ h2] at this
/-- one slot -/
def at_ (l : List Int) (i : Nat) : List Int := (l.drop (i * 66)).take 66
theorem at_len (l : List Int) (hl : l.length = 594) (i : Nat) (hi : i < 9) : (at_ l i).length = 66 := by
  unfold at_; rw [List.length_take, List.length_drop]; omega
theorem G_at (l : List Int) (i j : Nat) (hj : j < 66) : G (at_ l i) j = G l (i * 66 + j) := by
  unfold at_ G
  rw [List.getD_eq_getElem?_getD, List.getD_eq_getElem?_getD, List.getElem?_take, if_pos hj, List.getElem?_drop]
def EndOk (e m : Int) : Prop := 0 ≤ e ∧ e ≤ 3 ∧ 0 ≤ m ∧ m ≤ 65535 ∧ (e = 0 → m = 0)
structure Called (s : List Int) : Prop where
  st : G s 0 ≤ 3
  a1 : 1 ≤ G s 1
  a2 : G s 1 ≤ 127
  e1 : G s 3 ≠ 0
  e0 : G s 2 = 0
  m0 : G s 34 = 0
  ends : ∀ i, 1 ≤ i → i < 32 → EndOk (G s (2 + i)) (G s (34 + i))
  more : (∃ i, 2 ≤ i ∧ i < 32 ∧ G s (2 + i) ≠ 0) ↔ G s 0 = 3
def SlotOk (s : List Int) : Prop := (G s 0 ≤ 1 ∧ 0 ≤ G s 0 ∧ ∀ j, 1 ≤ j → j < 66 → G s j = 0) ∨ (1 < G s 0 ∧ Called s)
structure Ok (l : List Int) : Prop where
  none : ∀ j, j < 66 → G l j = 0
  slot : ∀ i, 1 ≤ i → i < 9 → SlotOk (at_ l i)
  two : ∀ i k, 1 ≤ k → k < i → i < 9 → G l (i * 66 + 1) = 0 ∨ G l (i * 66 + 1) ≠ G l (k * 66 + 1)
/-- what Check tells -/
noncomputable def chk (l : List Int) : Int := if Ok l then 0 else 4
theorem chk_ok {l : List Int} (h : Ok l) : chk l = 0 := if_pos h
theorem chk_bad {l : List Int} (h : ¬ Ok l) : chk l = 4 := if_neg h
theorem chk_zero {l : List Int} : chk l = 0 ↔ Ok l := ⟨fun h => Classical.byContradiction fun n => by rw [chk_bad n] at h; omega, chk_ok⟩
/-- the zeros of a slot behind its state -/
def zs : List Int := List.replicate 65 0
theorem zs_len : zs.length = 65 := List.length_replicate
theorem zero_iff (s : List Int) (hl : s.length = 66) : s = G s 0 :: zs ↔ ∀ j, 1 ≤ j → j < 66 → G s j = 0 := by
  have hz : ∀ v j, 1 ≤ j → j < 66 → G (v :: zs) j = 0 := fun v j h1 h2 => by
    obtain ⟨k, rfl⟩ : ∃ k, j = k + 1 := ⟨j - 1, by omega⟩
    unfold G zs
    rw [List.getD_eq_getElem?_getD, List.getElem?_cons_succ, List.getElem?_replicate, if_pos (by omega)]; rfl
  constructor
  · intro h j h1 h2; rw [h]; exact hz _ j h1 h2
  · intro h
    refine G_ext (by rw [List.length_cons, zs_len, hl]) fun i hi => ?_
    by_cases h0 : i = 0
    · subst h0; rfl
    · rw [h i (by omega) (by omega), hz _ i (by omega) (by omega)]
end Go.Proofs.Ytidcbboonjenhaa.Slt
