/- Requests, plainly: the table, what a number can be, the bytes. -/
import Derived.WalkKit
namespace Go.Proofs.Ytmddfpmchcmgiaa.SetP
open Go.RowKit
structure Row where
  a : Nat
  b : Nat
  vk : Int
  ik : Int
  ln : Int
def rowN : Nat → Option Row
  | 1 => some ⟨128, 0, 0, 0, 2⟩
  | 2 => some ⟨2, 1, 0, 3, 0⟩
  | 3 => some ⟨2, 3, 0, 3, 0⟩
  | 4 => some ⟨0, 5, 4, 0, 0⟩
  | 5 => some ⟨128, 6, 1, 1, (-1)⟩
  | 6 => some ⟨0, 9, 2, 0, 0⟩
  | 7 => some ⟨128, 8, 0, 0, 1⟩
  | 8 => some ⟨163, 0, 0, 5, 4⟩
  | 9 => some ⟨35, 3, 6, 5, 0⟩
  | 10 => some ⟨35, 1, 6, 5, 0⟩
  | 11 => some ⟨33, 255, 0, 2, 0⟩
  | 12 => some ⟨161, 254, 0, 2, 1⟩
  | 13 => some ⟨33, 10, 1, 2, 0⟩
  | 14 => some ⟨33, 9, 7, 2, 1⟩
  | _ => none
def canP (what n : Int) : Prop :=
  (what = 1 ∧ 0 ≤ n ∧ n ≤ 65535) ∨ (what = 2 ∧ 0 ≤ n ∧ n ≤ 255) ∨ (what = 3 ∧ ((0 ≤ n ∧ n ≤ 15) ∨ (128 ≤ n ∧ n ≤ 143))) ∨ (what = 4 ∧ 0 ≤ n ∧ n ≤ 127) ∨
  (what = 5 ∧ 1 ≤ n ∧ n ≤ 15) ∨ (what = 6 ∧ 0 ≤ n ∧ n ≤ 31) ∨ (what = 7 ∧ n = 512) ∨ ((what < 1 ∨ 7 < what) ∧ n = 0)
instance (what n : Int) : Decidable (canP what n) := by unfold canP; infer_instance
def canB (what n : Int) : Bool := decide (canP what n)
end Go.Proofs.Ytmddfpmchcmgiaa.SetP
