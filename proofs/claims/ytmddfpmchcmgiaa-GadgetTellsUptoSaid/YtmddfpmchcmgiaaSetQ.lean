/- Requests, plainly: what is asked, its bytes; no two are alike. -/
import Derived.Test.YtmddfpmchcmgiaaSetP
namespace Go.Proofs.Ytmddfpmchcmgiaa.SetP
open Go.RowKit
def rowI (k : Int) : Option Row := if 0 ≤ k then rowN k.toNat else none
theorem row_range {k : Int} {r : Row} (h : rowI k = some r) : 1 ≤ k ∧ k ≤ 14 := by
  unfold rowI at h
  split at h
  · rename_i h0
    obtain ⟨n, rfl⟩ := Int.eq_ofNat_of_zero_le h0
    simp only [Int.toNat_natCast] at h
    match n, h with
    | 0, h => cases h
    | 1, _ | 2, _ | 3, _ | 4, _ | 5, _ | 6, _ | 7, _ | 8, _ | 9, _ | 10, _ | 11, _ | 12, _ | 13, _ | 14, _ => omega
    | n + 15, h => cases h
  · cases h
theorem row_of_range {k : Int} (h : 1 ≤ k ∧ k ≤ 14) : ∃ r, rowI k = some r := by
  obtain ⟨n, rfl⟩ := Int.eq_ofNat_of_zero_le (show 0 ≤ k by omega)
  match n, h with
  | 0, h => omega
  | 1, _ | 2, _ | 3, _ | 4, _ | 5, _ | 6, _ | 7, _ | 8, _ | 9, _ | 10, _ | 11, _ | 12, _ | 13, _ | 14, _ => exact ⟨_, rfl⟩
  | n + 15, h => omega
/-- the asks that can be written -/
def Okw (k v i l : Int) : Prop := ∃ r, rowI k = some r ∧ canP r.vk v ∧ canP r.ik i ∧ (l = r.ln ∨ (r.ln < 0 ∧ canP 1 l))
theorem row_facts {k : Int} {r : Row} (h : rowI k = some r) : r.a ≤ 255 ∧ r.b ≤ 255 ∧ -1 ≤ r.ln ∧ r.ln ≤ 4 ∧ (r.ln < 0 → k = 5) := by
  have hr := row_range h
  obtain ⟨n, rfl⟩ := Int.eq_ofNat_of_zero_le (show 0 ≤ k by omega)
  match n, hr, h with
  | 0, hr, _ => omega
  | 1, _, h | 2, _, h | 3, _, h | 4, _, h | 5, _, h | 6, _, h | 7, _, h | 8, _, h | 9, _, h | 10, _, h | 11, _, h | 12, _, h | 13, _, h | 14, _, h => cases h; decide
  | n + 15, hr, _ => omega
theorem can_bd {q n : Int} (h : canP q n) : 0 ≤ n ∧ n ≤ 65535 := by unfold canP at h; omega
end Go.Proofs.Ytmddfpmchcmgiaa.SetP
