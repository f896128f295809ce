/- Bits, stuffing and levels, plainly. -/
import Derived.Test.YtmnmlnnhngnfbaaDoorKit
import Derived.Lib.SlTrimSet
namespace Go.Proofs.YtmnmlnnhngnfbaaDoor.Lan
open Go.RowKit
/-- all letters are among some -/
def okL (cs l : List UInt8) : Bool := l.all (cs.contains ·)
theorem dropWhile_nil {α : Type} (p : α → Bool) : ∀ l : List α, l.dropWhile p = [] ↔ l.all p = true
  | [] => by simp
  | x :: l => by
    by_cases h : p x = true
    · rw [List.dropWhile_cons_of_pos h, dropWhile_nil p l]; simp [h]
    · rw [List.dropWhile_cons_of_neg h]; simp [h]
theorem trim_nil (l cs : List UInt8) : Lib.trimS l cs = [] ↔ okL cs l = true := by
  unfold Lib.trimS Lib.trimRightS Lib.trimLeftS okL
  rw [dropWhile_nil, List.all_reverse]
  constructor
  · intro h
    rw [← List.all_reverse, ← dropWhile_nil]
    by_cases hn : List.dropWhile (cs.contains ·) l.reverse = []
    · exact hn
    · exfalso
      have h1 := List.head_dropWhile_not (fun x => cs.contains x) hn
      have h2 := List.all_eq_true.1 h _ (List.head_mem hn)
      rw [h1] at h2
      cases h2
  · intro h
    rw [← List.all_reverse, ← dropWhile_nil] at h
    rw [h]; rfl
/-! ### Levels -/
def isLv (v : UInt8) : Prop := v = 74 ∨ v = 75
instance (v : UInt8) : Decidable (isLv v) := inferInstanceAs (Decidable (_ ∨ _))
def oth (v : UInt8) : UInt8 := if v = 74 then 75 else 74
/-- the level behind a bit -/
def lvl (v b : UInt8) : UInt8 := if b = 48 then oth v else v
def turn : UInt8 → List UInt8 → List UInt8
  | _, [] => []
  | v, b :: l => lvl v b :: turn (lvl v b) l
def lastL : UInt8 → List UInt8 → UInt8
  | v, [] => v
  | v, b :: l => lastL (lvl v b) l
theorem turn_len : ∀ (l : List UInt8) (v : UInt8), (turn v l).length = l.length
  | [], _ => rfl
  | b :: l, v => by simp [turn, turn_len l]
theorem turn_app : ∀ (a b : List UInt8) (v : UInt8), turn v (a ++ b) = turn v a ++ turn (lastL v a) b
  | [], _, _ => rfl
  | x :: a, b, v => by simp [turn, lastL, turn_app a b]
theorem turn_last : ∀ (a : List UInt8) (v : UInt8) (h : turn v a ≠ []), (turn v a).getLast h = lastL v a
  | [x], v, _ => rfl
  | x :: y :: a, v, h => by
    have e : turn v (x :: y :: a) = lvl v x :: turn (lvl v x) (y :: a) := rfl
    have hn : turn (lvl v x) (y :: a) ≠ [] := by simp [turn]
    show (lvl v x :: turn (lvl v x) (y :: a)).getLast _ = _
    rw [List.getLast_cons hn, turn_last (y :: a) _ hn]; rfl
theorem lvl_is {v b : UInt8} (h : isLv v) : isLv (lvl v b) := by
  unfold lvl oth
  rcases h with rfl | rfl
  · split
    · exact .inr rfl
    · exact .inl rfl
  · split
    · exact .inl rfl
    · exact .inr rfl
theorem turn_is : ∀ (l : List UInt8) (v : UInt8), isLv v → ∀ x ∈ turn v l, isLv x
  | [], _, _, x, hx => by cases hx
  | b :: l, v, h, x, hx => by
    rcases List.mem_cons.1 hx with rfl | hx
    · exact lvl_is h
    · exact turn_is l _ (lvl_is h) x hx
def unt (v b : UInt8) : UInt8 := if b = v then 49 else 48
def unturn : UInt8 → List UInt8 → List UInt8
  | _, [] => []
  | v, b :: l => unt v b :: unturn b l
theorem unturn_len : ∀ (l : List UInt8) (v : UInt8), (unturn v l).length = l.length
  | [], _ => rfl
  | b :: l, v => by simp [unturn, unturn_len l]
def bit (b : UInt8) : Prop := b = 48 ∨ b = 49
theorem unt_lvl {v b : UInt8} (h : isLv v) (hb : bit b) : unt v (lvl v b) = b := by
  unfold unt lvl oth
  rcases h with rfl | rfl <;> rcases hb with rfl | rfl <;> decide
theorem unturn_turn : ∀ (l : List UInt8) (v : UInt8), isLv v → (∀ b ∈ l, bit b) → unturn v (turn v l) = l
  | [], _, _, _ => rfl
  | b :: l, v, h, hb => by
    show unt v (lvl v b) :: unturn (lvl v b) (turn (lvl v b) l) = b :: l
    rw [unt_lvl h (hb b List.mem_cons_self), unturn_turn l _ (lvl_is h) (fun x hx => hb x (List.mem_cons_of_mem _ hx))]
theorem lvl_unt {v b : UInt8} (h : isLv v) (hb : isLv b) : lvl v (unt v b) = b := by
  unfold unt lvl oth
  rcases h with rfl | rfl <;> rcases hb with rfl | rfl <;> decide
theorem turn_unturn : ∀ (l : List UInt8) (v : UInt8), isLv v → (∀ b ∈ l, isLv b) → turn v (unturn v l) = l
  | [], _, _, _ => rfl
  | b :: l, v, h, hb => by
    have hb1 := hb b List.mem_cons_self
    show lvl v (unt v b) :: turn (lvl v (unt v b)) (unturn b l) = b :: l
    rw [lvl_unt h hb1, turn_unturn l b hb1 (fun x hx => hb x (List.mem_cons_of_mem _ hx))]
/-! ### Stuffing -/
/-- the row so far holds n ones at its end -/
def nxt (n : Nat) (b : UInt8) : Nat := if b = 48 then 0 else n + 1
def stuff : Nat → List UInt8 → List UInt8
  | _, [] => []
  | n, b :: l => if nxt n b = 6 then b :: 48 :: stuff 0 l else b :: stuff (nxt n b) l
/-- what a stuffed row held; none: seven ones in a row, or an end behind six -/
def unstuff : Nat → List UInt8 → Option (List UInt8)
  | n, [] => if n = 6 then none else some []
  | n, b :: l => if n = 6 then (if b = 49 then none else unstuff 0 l) else (unstuff (nxt n b) l).map (b :: ·)
theorem unstuff_stuff : ∀ (l : List UInt8) (n : Nat), n < 6 → unstuff n (stuff n l) = some l
  | [], n, h => by simp [stuff, unstuff]; omega
  | b :: l, n, h => by
    have hn : n ≠ 6 := by omega
    have h1 : nxt n b ≤ 6 := by unfold nxt; split <;> omega
    unfold stuff
    by_cases h6 : nxt n b = 6
    · rw [if_pos h6]
      unfold unstuff
      rw [if_neg hn, h6]
      unfold unstuff
      rw [if_pos rfl, if_neg (by decide), unstuff_stuff l 0 (by omega)]; rfl
    · rw [if_neg h6]
      unfold unstuff
      rw [if_neg hn, unstuff_stuff l _ (by omega)]; rfl
theorem stuff_unstuff : ∀ (l : List UInt8) (n : Nat) (m : List UInt8), n ≤ 6 → (∀ b ∈ l, bit b) → unstuff n l = some m → (if n = 6 then 48 :: stuff 0 m else stuff n m) = l
  | [], n, m, h, _, hu => by
    unfold unstuff at hu
    split at hu
    · cases hu
    · rename_i hn
      injection hu with hu
      subst hu
      rw [if_neg hn]; rfl
  | b :: l, n, m, h, hb, hu => by
    have hb1 := hb b List.mem_cons_self
    have hb2 := fun x hx => hb x (List.mem_cons_of_mem b hx)
    unfold unstuff at hu
    split at hu
    · rename_i hn
      subst hn
      split at hu
      · cases hu
      · rename_i h49
        have e := stuff_unstuff l 0 m (by omega) hb2 hu
        rw [if_neg (by omega)] at e
        rw [if_pos rfl, e]
        rcases hb1 with rfl | rfl
        · rfl
        · exact absurd rfl h49
    · rename_i hn
      rw [if_neg hn]
      have h1 : nxt n b ≤ 6 := by unfold nxt; split <;> omega
      cases hm : unstuff (nxt n b) l with
      | none => rw [hm] at hu; cases hu
      | some m' =>
        rw [hm] at hu
        injection hu with hu
        subst hu
        have e := stuff_unstuff l (nxt n b) m' h1 hb2 hm
        unfold stuff
        by_cases h6 : nxt n b = 6
        · rw [if_pos h6] at e ⊢; rw [e]
        · rw [if_neg h6] at e ⊢; rw [e]
/-! ### What turns -/
theorem unturn_at : ∀ (l : List UInt8) (v : UInt8) (i : Nat) (h : i < l.length), (unturn v l)[i]'(by rw [unturn_len]; exact h) = unt (if _h0 : i = 0 then v else l[i - 1]'(by omega)) l[i]
  | b :: l, v, 0, _ => rfl
  | b :: l, v, 1, h => by
    have := unturn_at l b 0 (by simpa using h)
    exact this
  | b :: l, v, i + 2, h => by
    have := unturn_at l b (i + 1) (by simp only [List.length_cons] at h; omega)
    exact this
def flip (v : UInt8) : UInt8 := v ^^^ 1
theorem flip_table : ∀ n : Fin 256, (isLv (flip (UInt8.ofNat n.val)) ↔ isLv (UInt8.ofNat n.val)) ∧ flip (flip (UInt8.ofNat n.val)) = UInt8.ofNat n.val := by decide +kernel
theorem of_nat (v : UInt8) : UInt8.ofNat v.toNat = v := by simp
theorem flip_is (v : UInt8) : isLv (flip v) ↔ isLv v := by
  have := (flip_table ⟨v.toNat, v.toNat_lt⟩).1
  dsimp only at this
  rwa [of_nat] at this
theorem flip_flip (v : UInt8) : flip (flip v) = v := by
  have := (flip_table ⟨v.toNat, v.toNat_lt⟩).2
  dsimp only at this
  rwa [of_nat] at this
theorem flip_inj {a b : UInt8} (h : flip a = flip b) : a = b := by rw [← flip_flip a, h, flip_flip]
theorem unt_flip (a b : UInt8) : unt (flip a) (flip b) = unt a b := by
  unfold unt
  by_cases h : b = a
  · rw [if_pos h, if_pos (by rw [h])]
  · rw [if_neg h, if_neg (fun e => h (flip_inj e))]
theorem unturn_flip : ∀ (l : List UInt8) (v : UInt8), unturn (flip v) (l.map flip) = unturn v l
  | [], _ => rfl
  | b :: l, v => by
    show unt (flip v) (flip b) :: unturn (flip b) (l.map flip) = unt v b :: unturn b l
    rw [unt_flip, unturn_flip l b]
theorem unt_one {a b : UInt8} (ha : isLv a) (hb : isLv b) : unt (flip a) b ≠ unt a b ∧ unt a (flip b) ≠ unt a b := by
  rcases ha with rfl | rfl <;> rcases hb with rfl | rfl <;> decide
/-- a level that is turned turns its bit and the next one, no other -/
theorem unturn_set {l : List UInt8} {v : UInt8} (hv : isLv v) (hl : ∀ b ∈ l, isLv b) (a : Nat) (ha : a < l.length) (i : Nat) (hi : i < l.length) :
    ((unturn v l)[i]'(by rw [unturn_len]; exact hi) ≠ (unturn v (l.set a (flip l[a])))[i]'(by rw [unturn_len, List.length_set]; exact hi)) ↔ (i = a ∨ (i : Int) - 1 = a) := by
  rw [unturn_at l v i hi, unturn_at (l.set a (flip l[a])) v i (by rw [List.length_set]; exact hi)]
  have hli := hl _ (List.getElem_mem hi)
  by_cases e : i = a
  · subst e
    have hne : i ≠ i - 1 ∨ i = 0 := by omega
    have h1 : (l.set i (flip l[i]))[i]'(by rw [List.length_set]; exact hi) = flip l[i] := List.getElem_set_self _
    rw [h1]
    refine ⟨fun _ => .inl rfl, fun _ h => ?_⟩
    by_cases h0 : i = 0
    · simp only [dif_pos h0] at h
      exact (unt_one hv hli).2 h.symm
    · simp only [dif_neg h0] at h
      rw [List.getElem_set_ne (show i ≠ i - 1 by omega)] at h
      exact (unt_one (hl _ (List.getElem_mem _)) hli).2 h.symm
  · by_cases h0 : i = 0
    · simp only [dif_pos h0]
      rw [List.getElem_set_ne (show a ≠ i by omega)]
      exact ⟨fun h => absurd rfl h, fun h => by omega⟩
    · simp only [dif_neg h0]
      rw [List.getElem_set_ne (show a ≠ i by omega)]
      by_cases h1 : i - 1 = a
      · subst h1
        rw [List.getElem_set_self]
        refine ⟨fun _ => .inr (by omega), fun _ h => (unt_one (hl _ (List.getElem_mem _)) hli).1 h.symm⟩
      · rw [List.getElem_set_ne (show a ≠ i - 1 by omega)]
        exact ⟨fun h => absurd rfl h, fun h => by omega⟩
/-! ### Bits of bytes -/
def bitsOf (b : UInt8) : List UInt8 := (List.range 8).map fun k => UInt8.ofNat (48 + b.toNat / 2 ^ k % 2)
def bitsL (l : List UInt8) : List UInt8 := l.flatMap bitsOf
theorem bitsOf_len (b : UInt8) : (bitsOf b).length = 8 := by simp [bitsOf]
theorem bitsL_len : ∀ l : List UInt8, (bitsL l).length = 8 * l.length
  | [] => rfl
  | b :: l => by
    have := bitsL_len l
    simp only [bitsL, List.flatMap_cons, List.length_append, bitsOf_len, List.length_cons] at this ⊢; omega
theorem bitsL_at : ∀ (l : List UInt8) (i : Nat) (h : i < 8 * l.length), (bitsL l)[i]'(by rw [bitsL_len]; exact h) = UInt8.ofNat (48 + (l[i / 8]'(by omega)).toNat / 2 ^ (i % 8) % 2)
  | b :: l, i, h => by
    have hl : (bitsOf b).length = 8 := bitsOf_len b
    have e : bitsL (b :: l) = bitsOf b ++ bitsL l := rfl
    by_cases h8 : i < 8
    · have h1 : (bitsOf b ++ bitsL l)[i]'(by rw [List.length_append]; omega) = (bitsOf b)[i]'(by omega) := List.getElem_append_left (by omega)
      have h2 : (bitsOf b)[i]'(by omega) = UInt8.ofNat (48 + b.toNat / 2 ^ i % 2) := by simp [bitsOf]
      have q : i / 8 = 0 := by omega
      have r : i % 8 = i := by omega
      refine (h1.trans h2).trans ?_
      simp only [q, r]; rfl
    · have h1 : (bitsOf b ++ bitsL l)[i]'(by rw [List.length_append, bitsL_len]; simp at h; omega) = (bitsL l)[i - 8]'(by rw [bitsL_len]; simp at h; omega) := by
        rw [List.getElem_append_right (by omega)]
        simp only [hl]
      have h2 := bitsL_at l (i - 8) (by simp at h; omega)
      refine (h1.trans h2).trans ?_
      have q : i / 8 = (i - 8) / 8 + 1 := by omega
      have r : i % 8 = (i - 8) % 8 := by omega
      simp only [q, r]; rfl
theorem bitsL_bit (l : List UInt8) : ∀ b ∈ bitsL l, bit b := by
  intro b hb
  simp only [bitsL, bitsOf, List.mem_flatMap, List.mem_map, List.mem_range] at hb
  obtain ⟨x, _, k, _, rfl⟩ := hb
  have : x.toNat / 2 ^ k % 2 = 0 ∨ x.toNat / 2 ^ k % 2 = 1 := by omega
  rcases this with h | h <;> rw [h]
  · exact .inl rfl
  · exact .inr rfl
/-- the first m bits of byte j of a row -/
def acc (row : List UInt8) (j : Nat) : Nat → Nat
  | 0 => 0
  | m + 1 => acc row j m + ((row.getD (8 * j + m) 48).toNat - 48) * 2 ^ m
def bytesN (row : List UInt8) (n : Nat) : List UInt8 := (List.range (row.length / 8)).map fun j => UInt8.ofNat (acc row j (min 8 (n - 8 * j)))
def bytesL (row : List UInt8) : List UInt8 := bytesN row row.length
theorem bytesN_len (row : List UInt8) (n : Nat) : (bytesN row n).length = row.length / 8 := by simp [bytesN]
theorem bytesN_at (row : List UInt8) (n i : Nat) (h : i < row.length / 8) : (bytesN row n)[i]'(by rw [bytesN_len]; exact h) = UInt8.ofNat (acc row i (min 8 (n - 8 * i))) := by simp [bytesN]
theorem acc_lt (row : List UInt8) (j : Nat) (h : ∀ b ∈ row, bit b) : ∀ m, acc row j m < 2 ^ m
  | 0 => by simp [acc]
  | m + 1 => by
    have ih := acc_lt row j h m
    have hb : (row.getD (8 * j + m) 48).toNat - 48 ≤ 1 := by
      rw [List.getD_eq_getElem?_getD]
      cases hq : row[8 * j + m]? with
      | none => simp
      | some x =>
        rcases h x (List.mem_of_getElem? hq) with rfl | rfl <;> simp
    have := Nat.mul_le_mul_right (2 ^ m) hb
    show acc row j m + _ * 2 ^ m < 2 ^ (m + 1)
    rw [Nat.pow_succ]; omega
/-- one bit more -/
theorem bytesN_step (row : List UInt8) (n : Nat) (_h8 : row.length % 8 = 0) (hn : n < row.length) : bytesN row (n + 1) = (bytesN row n).set (n / 8) (UInt8.ofNat (acc row (n / 8) (n % 8) + ((row[n]).toNat - 48) * 2 ^ (n % 8))) := by
  apply List.ext_getElem
  · rw [List.length_set, bytesN_len, bytesN_len]
  · intro i h1 h2
    rw [bytesN_len] at h1
    rw [bytesN_at row (n + 1) i h1]
    by_cases e : n / 8 = i
    · subst e
      rw [List.getElem_set_self]
      have e1 : min 8 (n + 1 - 8 * (n / 8)) = n % 8 + 1 := by omega
      rw [e1]
      show UInt8.ofNat (acc row (n / 8) (n % 8) + ((row.getD (8 * (n / 8) + n % 8) 48).toNat - 48) * 2 ^ (n % 8)) = _
      have e2 : 8 * (n / 8) + n % 8 = n := by omega
      rw [e2, List.getD_eq_getElem?_getD, List.getElem?_eq_getElem hn]; rfl
    · rw [List.getElem_set_ne e, bytesN_at row n i h1]
      congr 2
      omega
theorem acc_bit (row : List UInt8) (j : Nat) (h : ∀ b ∈ row, bit b) : ∀ m k, k < m → acc row j m / 2 ^ k % 2 = (row.getD (8 * j + k) 48).toNat - 48
  | m + 1, k, hk => by
    show (acc row j m + ((row.getD (8 * j + m) 48).toNat - 48) * 2 ^ m) / 2 ^ k % 2 = _
    have hlt := acc_lt row j h m
    by_cases e : k = m
    · subst e
      have hb : (row.getD (8 * j + k) 48).toNat - 48 ≤ 1 := by
        rw [List.getD_eq_getElem?_getD]
        cases hq : row[8 * j + k]? with
        | none => simp
        | some x =>
          rcases h x (List.mem_of_getElem? hq) with rfl | rfl <;> simp
      rw [Nat.add_mul_div_right _ _ (Nat.pow_pos (by omega)), Nat.div_eq_of_lt hlt]; omega
    · have ih := acc_bit row j h m k (by omega)
      obtain ⟨d, rfl⟩ : ∃ d, m = k + 1 + d := ⟨m - k - 1, by omega⟩
      have e2 : ((row.getD (8 * j + (k + 1 + d)) 48).toNat - 48) * 2 ^ (k + 1 + d) = (((row.getD (8 * j + (k + 1 + d)) 48).toNat - 48) * 2 ^ d * 2) * 2 ^ k := by
        rw [Nat.pow_add, Nat.pow_succ]
        simp only [Nat.mul_assoc, Nat.mul_comm, Nat.mul_left_comm]
      rw [e2, Nat.add_mul_div_right _ _ (Nat.pow_pos (by omega)), Nat.add_mul_mod_self_right, ih]
theorem byte_ext {a b : Nat} (ha : a < 256) (hb : b < 256) (h : ∀ k, k < 8 → a / 2 ^ k % 2 = b / 2 ^ k % 2) : a = b := by
  have k0 := h 0 (by omega)
  have k1 := h 1 (by omega)
  have k2 := h 2 (by omega)
  have k3 := h 3 (by omega)
  have k4 := h 4 (by omega)
  have k5 := h 5 (by omega)
  have k6 := h 6 (by omega)
  have k7 := h 7 (by omega)
  simp only [Nat.reducePow] at k0 k1 k2 k3 k4 k5 k6 k7
  omega
theorem bytes_bits (l : List UInt8) : bytesL (bitsL l) = l := by
  have hb := bitsL_bit l
  apply List.ext_getElem
  · unfold bytesL; rw [bytesN_len, bitsL_len]; omega
  · intro i h1 h2
    have hi : i < (bitsL l).length / 8 := by rw [bitsL_len]; omega
    refine (bytesN_at (bitsL l) (bitsL l).length i hi).trans ?_
    have hm : min 8 ((bitsL l).length - 8 * i) = 8 := by rw [bitsL_len]; omega
    rw [hm]
    have hlt := acc_lt (bitsL l) i hb 8
    apply UInt8.toNat_inj.1
    rw [UInt8.toNat_ofNat', Nat.mod_eq_of_lt (by simpa using hlt)]
    refine byte_ext (by simpa using hlt) (l[i]).toNat_lt (fun k hk => ?_)
    have h8 : 8 * i + k < 8 * l.length := by omega
    rw [acc_bit _ _ hb 8 k hk, List.getD_eq_getElem?_getD, List.getElem?_eq_getElem (by rw [bitsL_len]; exact h8), Option.getD_some, bitsL_at l _ h8]
    have e1 : (8 * i + k) / 8 = i := by omega
    have e2 : (8 * i + k) % 8 = k := by omega
    simp only [e1, e2]
    rw [UInt8.toNat_ofNat']
    omega
theorem bits_bytes (row : List UInt8) (h8 : row.length % 8 = 0) (hb : ∀ b ∈ row, bit b) : bitsL (bytesL row) = row := by
  have hl : (bytesL row).length = row.length / 8 := bytesN_len _ _
  apply List.ext_getElem
  · rw [bitsL_len, hl]; omega
  · intro i h1 h2
    rw [bitsL_at _ i (by rw [hl]; omega)]
    have hi : i / 8 < row.length / 8 := by omega
    have e : (bytesL row)[i / 8]'(by rw [hl]; exact hi) = UInt8.ofNat (acc row (i / 8) 8) := by
      refine (bytesN_at row row.length (i / 8) hi).trans ?_
      congr 2
      omega
    rw [e]
    have hlt := acc_lt row (i / 8) hb 8
    have e5 : acc row (i / 8) 8 % 2 ^ 8 = acc row (i / 8) 8 := Nat.mod_eq_of_lt (by simpa using hlt)
    rw [UInt8.toNat_ofNat', e5, acc_bit row (i / 8) hb 8 (i % 8) (by omega), show 8 * (i / 8) + i % 8 = i by omega, List.getD_eq_getElem?_getD, List.getElem?_eq_getElem h2, Option.getD_some]
    rcases hb _ (List.getElem_mem h2) with h | h <;> rw [h] <;> rfl
end Go.Proofs.YtmnmlnnhngnfbaaDoor.Lan
