/- Texts in pieces, and what comes of a transfer, plainly. -/
import Derived.Test.YtafiedhjjnapoaaPipP
import Derived.Lib.Join
namespace Go.Proofs.Ytafiedhjjnapoaa
open Go.RowKit
/-- the bytes of pieces -/
def cat (l : List ByteArray) : List UInt8 := (l.map (·.data.toList)).flatten
theorem cat_cons (a : ByteArray) (l : List ByteArray) : cat (a :: l) = a.data.toList ++ cat l := by simp [cat]
theorem cat_app (a b : List ByteArray) : cat (a ++ b) = cat a ++ cat b := by simp [cat]
theorem cat_nil : cat [] = [] := rfl
theorem cat_one (a : ByteArray) : cat [a] = a.data.toList := by simp [cat]
theorem blen (a : ByteArray) : a.data.toList.length = a.size := by simp
theorem join_cat (l : List ByteArray) : Lib.join (l.map (·.data.toList)) (⟨#[]⟩ : ByteArray).data.toList = cat l := by
  show List.intercalate ([] : List UInt8) (l.map (·.data.toList)) = _
  unfold cat
  generalize l.map (·.data.toList) = m
  induction m with
  | nil => rfl
  | cons x m ih =>
    cases m with
    | nil => simp
    | cons y m => rw [List.intercalate_cons_cons, ih]; simp
def chopN (s : Nat) : Nat → ByteArray → List ByteArray
  | 0, t => [t]
  | n + 1, t => if t.size < s then [t] else t.extract 0 s :: chopN s n (t.extract s t.size)
def chop (s : Nat) (t : ByteArray) : List ByteArray := chopN s t.size t
theorem xsize (t : ByteArray) (a : Nat) (_h : a ≤ t.size) : (t.extract a t.size).size = t.size - a := by simp
theorem chop_fuel (s : Nat) (hs : 1 ≤ s) : ∀ (n m : Nat) (t : ByteArray), t.size ≤ n → t.size ≤ m → chopN s n t = chopN s m t
  | 0, 0, t, _, _ => rfl
  | 0, m + 1, t, h, _ => by unfold chopN; rw [if_pos (by omega)]
  | n + 1, 0, t, _, h => by unfold chopN; rw [if_pos (by omega)]
  | n + 1, m + 1, t, h1, h2 => by
    unfold chopN
    by_cases h : t.size < s
    · rw [if_pos h, if_pos h]
    · rw [if_neg h, if_neg h, chop_fuel s hs n m _ (by rw [xsize _ _ (by omega)]; omega) (by rw [xsize _ _ (by omega)]; omega)]
theorem chop_small {s : Nat} {t : ByteArray} (h : t.size < s) : chop s t = [t] := by
  unfold chop
  cases e : t.size with
  | zero => rfl
  | succ n => unfold chopN; rw [if_pos (by omega)]
theorem chop_big {s : Nat} {t : ByteArray} (hs : 1 ≤ s) (h : s ≤ t.size) : chop s t = t.extract 0 s :: chop s (t.extract s t.size) := by
  unfold chop
  obtain ⟨n, hn⟩ : ∃ n, t.size = n + 1 := ⟨t.size - 1, by omega⟩
  have hx := xsize t s h
  conv => lhs; rw [hn]; unfold chopN
  rw [if_neg (by omega), chop_fuel s hs n (t.extract s t.size).size _ (by omega) (Nat.le_refl _)]
theorem cut_app (t : ByteArray) (s : Nat) (_h : s ≤ t.size) : (t.extract 0 s).data.toList ++ (t.extract s t.size).data.toList = t.data.toList := by
  simp only [ByteArray.data_extract, Array.toList_extract, List.extract_eq_take_drop, List.drop_zero, Nat.sub_zero]
  have : (List.drop s t.data.toList).take (t.size - s) = List.drop s t.data.toList := List.take_of_length_le (by rw [List.length_drop, blen]; omega)
  rw [this, List.take_append_drop]
/-- by strong induction over the length -/
theorem chop_ind {s : Nat} (hs : 1 ≤ s) {P : ByteArray → Prop} (h0 : ∀ t, t.size < s → P t) (h1 : ∀ t, s ≤ t.size → P (t.extract s t.size) → P t) : ∀ t, P t := by
  intro t
  generalize hn : t.size = n
  induction n using Nat.strongRecOn generalizing t with
  | ind n ih =>
    by_cases h : t.size < s
    · exact h0 t h
    · exact h1 t (by omega) (ih _ (by rw [xsize _ _ (by omega)]; omega) _ rfl)
theorem chop_cat {s : Nat} (hs : 1 ≤ s) (t : ByteArray) : cat (chop s t) = t.data.toList := by
  refine chop_ind hs (P := fun t => cat (chop s t) = t.data.toList) (fun t h => ?_) (fun t h ih => ?_) t
  · rw [chop_small h, cat_one]
  · rw [chop_big hs h, cat_cons, ih, cut_app t s h]
theorem chop_len {s : Nat} (hs : 1 ≤ s) (t : ByteArray) : (chop s t).length = t.size / s + 1 := by
  refine chop_ind hs (P := fun t => (chop s t).length = t.size / s + 1) (fun t h => ?_) (fun t h ih => ?_) t
  · rw [chop_small h, Nat.div_eq_of_lt h]; rfl
  · rw [chop_big hs h, List.length_cons, ih, xsize _ _ h, Nat.div_eq_sub_div hs h]
theorem chop_le {s : Nat} (hs : 1 ≤ s) (t : ByteArray) : ∀ x ∈ chop s t, x.size ≤ s := by
  refine chop_ind hs (P := fun t => ∀ x ∈ chop s t, x.size ≤ s) (fun t h => ?_) (fun t h ih => ?_) t
  · rw [chop_small h]; intro x hx; simp at hx; subst hx; omega
  · rw [chop_big hs h]; intro x hx
    rcases List.mem_cons.1 hx with rfl | hx
    · simp; omega
    · exact ih x hx
/-- pieces as they are split: all of s bytes, but the last, that is of fewer -/
def Cut (s : Nat) : List ByteArray → Prop
  | [] => False
  | [x] => x.size < s
  | x :: y :: l => x.size = s ∧ Cut s (y :: l)
theorem chop_Cut {s : Nat} (hs : 1 ≤ s) (t : ByteArray) : Cut s (chop s t) := by
  refine chop_ind hs (P := fun t => Cut s (chop s t)) (fun t h => ?_) (fun t h ih => ?_) t
  · rw [chop_small h]; exact h
  · rw [chop_big hs h]
    cases e : chop s (t.extract s t.size) with
    | nil => have := chop_len hs (t.extract s t.size); rw [e] at this; simp at this
    | cons y l => rw [e] at ih; exact ⟨by simp; omega, ih⟩
theorem ext_app (a b : List UInt8) (s : Nat) (h : a.length = s) : (⟨(a ++ b).toArray⟩ : ByteArray).extract 0 s = ⟨a.toArray⟩ ∧ (⟨(a ++ b).toArray⟩ : ByteArray).extract s (⟨(a ++ b).toArray⟩ : ByteArray).size = ⟨b.toArray⟩ := by
  have hz : (⟨(a ++ b).toArray⟩ : ByteArray).size = a.length + b.length := by show (a ++ b).toArray.size = _; simp
  constructor
  · apply Kt.bytes_eq
    simp only [ByteArray.data_extract, Array.toList_extract, List.extract_eq_take_drop, List.drop_zero, Nat.sub_zero]
    rw [← h]; exact List.take_left
  · apply Kt.bytes_eq
    rw [hz]
    simp only [ByteArray.data_extract, Array.toList_extract, List.extract_eq_take_drop]
    rw [← h, List.drop_left]
    exact List.take_of_length_le (by omega)
theorem chop_of_cut {s : Nat} (hs : 1 ≤ s) : ∀ l : List ByteArray, Cut s l → chop s ⟨(cat l).toArray⟩ = l
  | [], h => h.elim
  | [x], h => by
    have e : (⟨(cat [x]).toArray⟩ : ByteArray) = x := by apply Kt.bytes_eq; rw [cat_one]
    rw [e]; exact chop_small h
  | x :: y :: l, h => by
    have h1 : x.size = s := h.1
    obtain ⟨e1, e2⟩ := ext_app x.data.toList (cat (y :: l)) s (by rw [blen]; exact h1)
    have hz : s ≤ (⟨(cat (x :: y :: l)).toArray⟩ : ByteArray).size := by
      show s ≤ (cat (x :: y :: l)).toArray.size
      rw [List.size_toArray, cat_cons, List.length_append, blen]; omega
    rw [chop_big hs hz, cat_cons, e1, e2, chop_of_cut hs (y :: l) h.2]
end Go.Proofs.Ytafiedhjjnapoaa
