/- Requests: what Write tells, at any arguments. -/
import Derived.Test.YtmddfpmchcmgiaaSetG
import Derived.Test.YtmddfpmchcmgiaaSetQ
namespace Go.Proofs.Ytmddfpmchcmgiaa
open Go.RowKit Go.Proofs.Ytmddfpmchcmgiaa.SetP
def txt (A B : Nat) (v i l : Int) : ByteArray := ⟨((tN A B v i l).map fun n => UInt8.ofNat n.toNat).toArray⟩
theorem txt_size (A B : Nat) (v i l : Int) : (txt A B v i l).size = 8 := rfl
theorem txt_first (A B : Nat) (v i l : Int) (hA : A ≤ 255) (h : 0 < (txt A B v i l).size) : ((txt A B v i l)[0]'h).toNat = A := by
  have : (txt A B v i l)[0]'h = UInt8.ofNat (A : Int).toNat := rfl
  rw [this]; simp; omega
def Wr (k v i l : Int) (S : ByteArray) (e : Int) : Prop := ∀ w : World, Calls Try.prog 51 #[askV k v i l] w fun en w' => en = .returned (.tuple #[.string S, .int .i64 e]) ∧ Below w.heap.size w w'
theorem canB_true {q n : Int} : canB q n = true ↔ canP q n := decide_eq_true_iff
theorem canB_false {q n : Int} : canB q n = false ↔ ¬ canP q n := decide_eq_false_iff_not
theorem row_hid {k : Int} {r : Row} (h : rowI k = some r) : Hid (∀ W : World, Calls Try.prog 64 #[.int .i64 k] W fun e w' => e = .returned (.tuple #[rowV r, .bool true]) ∧ Below W.heap.size W w') := by
  have hr := row_range h
  obtain ⟨n, rfl⟩ := Int.eq_ofNat_of_zero_le (show 0 ≤ k by omega)
  unfold rowI at h
  rw [if_pos (by omega)] at h
  exact Lib.hid (row_some n r h)
/-- what Write tells -/
theorem write_split (k v i l : Int) : (¬ Okw k v i l ∧ Wr k v i l ByteArray.empty 1) ∨ (Okw k v i l ∧ ∃ r, rowI k = some r ∧ Wr k v i l (txt r.a r.b v i l) 0) := by
  by_cases hk : 1 ≤ k ∧ k ≤ 14
  · obtain ⟨r, hr⟩ := row_of_range hk
    have HR := row_hid hr
    have hf := row_facts hr
    have hno : (¬ (canP r.vk v ∧ canP r.ik i ∧ (l = r.ln ∨ (r.ln < 0 ∧ canP 1 l)))) → ¬ Okw k v i l := fun h ⟨r', hr', h1, h2, h3⟩ => by
      rw [hr] at hr'; cases hr'; exact h ⟨h1, h2, h3⟩
    have hm : (l == r.ln) = true ∨ ((l == r.ln) = false ∧ r.ln < 0) ∨ ((l == r.ln) = false ∧ 0 ≤ r.ln) := by
      cases e : (l == r.ln)
      · by_cases h0 : r.ln < 0
        · exact Or.inr (Or.inl ⟨rfl, h0⟩)
        · exact Or.inr (Or.inr ⟨rfl, by omega⟩)
      · exact Or.inl rfl
    by_cases h1 : canP r.vk v
    · by_cases h2 : canP r.ik i
      · cases e : (l == r.ln)
        · have e' : l ≠ r.ln := by simpa using e
          by_cases h0 : r.ln < 0
          · by_cases h3 : canP 1 l
            · right
              have := can_bd h3
              exact ⟨⟨r, hr, h1, h2, .inr ⟨h0, h3⟩⟩, r, hr, write_good k v i l r HR hf.1 hf.2.1 (can_bd h1) (can_bd h2) (by omega) (Or.inr ⟨e, h0, canB_true.2 h3⟩) ⟨canB_true.2 h1, canB_true.2 h2⟩⟩
            · exact Or.inl ⟨hno fun ⟨_, _, h⟩ => h.elim e' (fun h => h3 h.2), write_err k v i l r HR hm (Or.inr (Or.inr ⟨canB_true.2 h1, canB_true.2 h2, e, Or.inr ⟨h0, canB_false.2 h3⟩⟩))⟩
          · exact Or.inl ⟨hno fun ⟨_, _, h⟩ => h.elim e' (fun h => h0 h.1), write_err k v i l r HR hm (Or.inr (Or.inr ⟨canB_true.2 h1, canB_true.2 h2, e, Or.inl (by omega)⟩))⟩
        · right
          have e' : l = r.ln := by simpa using e
          exact ⟨⟨r, hr, h1, h2, .inl e'⟩, r, hr, write_good k v i l r HR hf.1 hf.2.1 (can_bd h1) (can_bd h2) (by omega) (Or.inl e) ⟨canB_true.2 h1, canB_true.2 h2⟩⟩
      · exact Or.inl ⟨hno fun h => h2 h.2.1, write_err k v i l r HR hm (Or.inr (Or.inl ⟨canB_true.2 h1, canB_false.2 h2⟩))⟩
    · exact Or.inl ⟨hno fun h => h1 h.1, write_err k v i l r HR hm (Or.inl (canB_false.2 h1))⟩
  · exact Or.inl ⟨fun ⟨r, hr, _⟩ => hk (row_range hr), write_none k v i l (by omega)⟩
end Go.Proofs.Ytmddfpmchcmgiaa
