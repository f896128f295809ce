/- A text with a mask laid over its beginning. -/
import Derived.Test.YtbajbdmocnkfmaaCrcP
namespace Go.Proofs.Ytbajbdmocnkfmaa.Od
open Go.Proofs.Ytbajbdmocnkfmaa.CrcP
def od (r m : List UInt8) (j : Nat) : List UInt8 := List.zipWith (· ^^^ ·) (r.take j) (m.take j) ++ r.drop j
def ct (m : List UInt8) (j : Nat) : Nat := (tbits (m.take j)).count true
theorem od_zero (r m : List UInt8) : od r m 0 = r := by simp [od]
theorem ct_zero (m : List UInt8) : ct m 0 = 0 := by simp [ct, tbits]
theorem od_len (r m : List UInt8) (j : Nat) (h1 : j ≤ r.length) (h2 : j ≤ m.length) : (od r m j).length = r.length := by simp [od]; omega
theorem od_get (r m : List UInt8) (j : Nat) (h1 : j < r.length) (h2 : j < m.length) : (od r m j)[j]'(by rw [od_len r m j (by omega) (by omega)]; exact h1) = r[j] := by
  have hl : (List.zipWith (· ^^^ ·) (r.take j) (m.take j)).length = j := by simp; omega
  have e : od r m j = List.zipWith (· ^^^ ·) (r.take j) (m.take j) ++ r.drop j := rfl
  have : (od r m j)[j]? = some r[j] := by
    rw [e, List.getElem?_append_right (by omega), hl, Nat.sub_self, List.getElem?_drop, Nat.add_zero, List.getElem?_eq_getElem h1]
  rw [List.getElem?_eq_getElem (by rw [od_len r m j (by omega) (by omega)]; exact h1)] at this
  exact Option.some.inj this
theorem od_succ (r m : List UInt8) (j : Nat) (h1 : j < r.length) (h2 : j < m.length) : od r m (j + 1) = (od r m j).set j (r[j] ^^^ m[j]) := by
  have hl : (List.zipWith (· ^^^ ·) (r.take j) (m.take j)).length = j := by simp; omega
  unfold od
  rw [List.set_append_right _ _ (by omega), hl, Nat.sub_self, List.take_succ_eq_append_getElem h1, List.take_succ_eq_append_getElem h2, List.zipWith_append (by simp; omega)]
  have hd : r.drop j = r[j] :: r.drop (j + 1) := List.drop_eq_getElem_cons h1
  rw [hd, List.set_cons_zero, List.append_assoc]
  rfl
theorem ct_succ (m : List UInt8) (j : Nat) (h : j < m.length) : ct m (j + 1) = ct m j + pc 64 (m[j]).toNat := by
  unfold ct
  rw [List.take_succ_eq_append_getElem h, tbits_snoc, List.count_append, pc_nb]
  have e2 := pc_up 8 (m[j]).toNat (UInt8.toNat_lt _) 56
  rw [← e2]
theorem ct_le (m : List UInt8) (j : Nat) : ct m j ≤ 8 * j := by
  unfold ct
  have h1 := List.count_le_length (a := true) (l := tbits (m.take j))
  rw [tbits_len] at h1
  have h2 := List.length_take_le j m
  omega
theorem zip_self (l : List UInt8) : List.zipWith (· ^^^ ·) l l = List.replicate l.length (0 : UInt8) := by
  induction l with
  | nil => rfl
  | cons x l ih => rw [List.zipWith_cons_cons, ih, List.length_cons, List.replicate_succ, UInt8.xor_self]
theorem zip_zip : ∀ (a b : List UInt8), a.length = b.length → List.zipWith (· ^^^ ·) a (List.zipWith (· ^^^ ·) a b) = b := by
  intro a; induction a with
  | nil => intro b h; cases b with
    | nil => rfl
    | cons _ _ => simp at h
  | cons x a ih => intro b h; cases b with
    | nil => simp at h
    | cons y b =>
      simp only [List.zipWith_cons_cons]
      rw [ih b (by simpa using h), ← UInt8.xor_assoc, UInt8.xor_self, UInt8.zero_xor]
theorem zeros_count (n : Nat) : (tbits (List.replicate n (0 : UInt8))).count true = 0 := by
  induction n with
  | zero => rfl
  | succ n ih => rw [List.replicate_succ, tbits_cons, List.count_append, ih]; decide
theorem odd_law (r m : List UInt8) (j : Nat) (h1 : j ≤ r.length) (h2 : j ≤ m.length) (hodd : ct m j % 2 = 1) : six (od r m j) ≠ six r := by
  intro he
  have h := parity_law r (od r m j) (od_len r m j h1 h2).symm
  rw [he, Nat.xor_self, pc_zero] at h
  have e : List.zipWith (· ^^^ ·) r (od r m j) = m.take j ++ List.replicate (r.length - j) 0 := by
    have hr : r = r.take j ++ r.drop j := (List.take_append_drop j r).symm
    have hl : (r.take j).length = (List.zipWith (· ^^^ ·) (r.take j) (m.take j)).length := by simp; omega
    unfold od
    rw [show List.zipWith (· ^^^ ·) r (List.zipWith (· ^^^ ·) (r.take j) (m.take j) ++ r.drop j) = List.zipWith (· ^^^ ·) (r.take j ++ r.drop j) (List.zipWith (· ^^^ ·) (r.take j) (m.take j) ++ r.drop j) by rw [← hr]]
    rw [List.zipWith_append hl, zip_zip _ _ (by simp; omega), zip_self, List.length_drop]
  rw [e, tbits_app, List.count_append, zeros_count] at h
  unfold ct at hodd
  omega
end Go.Proofs.Ytbajbdmocnkfmaa.Od
