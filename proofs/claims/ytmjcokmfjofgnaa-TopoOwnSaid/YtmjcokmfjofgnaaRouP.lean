/- Ways, plainly. -/
import Derived.Test.YtmjcokmfjofgnaaKit
namespace Go.Proofs.Ytmjcokmfjofgnaa.Rou
/-- how long the common beginning is -/
def cp : List Int → List Int → Nat
  | x :: a, y :: b => if x = y then cp a b + 1 else 0
  | [], _ => 0
  | _ :: _, [] => 0
theorem cp_nil (a : List Int) : cp a [] = 0 := by cases a <;> rfl
theorem cp_comm : ∀ a b : List Int, cp a b = cp b a
  | [], b => by rw [cp_nil]; rfl
  | x :: a, [] => rfl
  | x :: a, y :: b => by
    show (if x = y then cp a b + 1 else 0) = (if y = x then cp b a + 1 else 0)
    by_cases h : x = y
    · rw [if_pos h, if_pos h.symm, cp_comm a b]
    · rw [if_neg h, if_neg (Ne.symm h)]
theorem cp_left : ∀ a b : List Int, cp a b ≤ a.length
  | [], _ => Nat.le_refl _
  | x :: a, [] => Nat.zero_le _
  | x :: a, y :: b => by
    show (if x = y then cp a b + 1 else 0) ≤ _
    have := cp_left a b
    rw [List.length_cons]
    split <;> omega
theorem cp_right (a b : List Int) : cp a b ≤ b.length := by rw [cp_comm]; exact cp_left b a
theorem cp_self : ∀ a : List Int, cp a a = a.length
  | [] => rfl
  | x :: a => by
    show (if x = x then cp a a + 1 else 0) = _
    rw [if_pos rfl, cp_self a]; rfl
theorem cp_ultra : ∀ a b c : List Int, cp a b ≤ cp a c ∨ cp b c ≤ cp a c
  | [], b, c => .inl (Nat.le_refl _)
  | x :: a, [], c => .inl (Nat.zero_le _)
  | x :: a, y :: b, [] => .inr (by rw [cp_nil]; exact Nat.zero_le _)
  | x :: a, y :: b, z :: c => by
    show (if x = y then cp a b + 1 else 0) ≤ (if x = z then cp a c + 1 else 0) ∨ (if y = z then cp b c + 1 else 0) ≤ (if x = z then cp a c + 1 else 0)
    have ih := cp_ultra a b c
    by_cases h1 : x = y
    · by_cases h2 : y = z
      · subst h1 h2; simp only [if_true]; omega
      · rw [if_neg h2]; exact .inr (Nat.zero_le _)
    · rw [if_neg h1]; exact .inl (Nat.zero_le _)
theorem cp_all : ∀ a b : List Int, cp a b = b.length ↔ b <+: a
  | a, [] => by rw [cp_nil]; simp
  | [], y :: b => by
    constructor
    · intro h; cases h
    · intro h; simp at h
  | x :: a, y :: b => by
    show (if x = y then cp a b + 1 else 0) = _ ↔ _
    rw [List.cons_prefix_cons, List.length_cons, ← cp_all a b]
    by_cases h : x = y
    · rw [if_pos h]; constructor
      · intro q; exact ⟨h.symm, by omega⟩
      · intro q; omega
    · rw [if_neg h]; constructor
      · intro q; omega
      · intro q; exact absurd q.1.symm h
theorem cp_take : ∀ a b : List Int, a.take (cp a b) = b.take (cp a b)
  | [], b => by simp [cp]
  | x :: a, [] => by simp [cp]
  | x :: a, y :: b => by
    show (x :: a).take (if x = y then cp a b + 1 else 0) = (y :: b).take (if x = y then cp a b + 1 else 0)
    by_cases h : x = y
    · rw [if_pos h, List.take_succ_cons, List.take_succ_cons, cp_take a b, h]
    · rw [if_neg h, List.take_zero, List.take_zero]
theorem cp_eq (a b : List Int) (h1 : cp a b = a.length) (h2 : cp a b = b.length) : a = b := by
  have := cp_take a b
  rw [h1, List.take_length, show a.length = b.length by omega, List.take_length] at this
  exact this
/-- how far apart -/
def hops (a b : List Int) : Int := (a.length : Int) + b.length - 2 * cp a b
theorem hops_zero (a b : List Int) : hops a b = 0 ↔ a = b := by
  unfold hops
  have h1 := cp_left a b; have h2 := cp_right a b
  constructor
  · intro h; exact cp_eq a b (by omega) (by omega)
  · rintro rfl; rw [cp_self]; omega
theorem hops_comm (a b : List Int) : hops a b = hops b a := by
  unfold hops; rw [cp_comm a b]; omega
theorem hops_tri (a b c : List Int) : hops a c ≤ hops a b + hops b c := by
  unfold hops
  have h := cp_ultra a b c
  have h1 := cp_right a b; have h2 := cp_left b c
  omega
theorem hops_four (a b c d : List Int) : hops a b + hops c d ≤ max (hops a c + hops b d) (hops a d + hops b c) := by
  unfold hops
  have h1 := cp_ultra a c b
  have h2 := cp_ultra a d b
  have h3 := cp_ultra c a d
  have h4 := cp_ultra c b d
  rw [cp_comm c b] at h1 h4
  rw [cp_comm d b] at h2
  rw [cp_comm c a] at h3
  omega
/-- the order of two ways -/
def ordR : List Int → List Int → Int
  | [], [] => 0
  | [], _ :: _ => -1
  | _ :: _, [] => 1
  | x :: a, y :: b => if x = y then ordR a b else if x < y then -1 else 1
def cmpI (x y : Int) : Int := if x < y then -1 else if y < x then 1 else 0
def ordF (a b : List Int) : Int := match a[cp a b]?, b[cp a b]? with
  | some x, some y => cmpI x y
  | _, _ => cmpI a.length b.length
theorem cmpI_succ (m n : Nat) : cmpI ((m + 1 : Nat) : Int) ((n + 1 : Nat) : Int) = cmpI m n := by
  unfold cmpI
  simp only [Int.natCast_add, Int.add_lt_add_iff_right]
theorem ord_eq : ∀ a b : List Int, ordF a b = ordR a b
  | [], [] => rfl
  | [], y :: b => by
    unfold ordF cmpI ordR
    simp [cp]
    try omega
  | x :: a, [] => by
    unfold ordF cmpI ordR
    simp [cp]
    try omega
  | x :: a, y :: b => by
    by_cases h : x = y
    · have e : cp (x :: a) (y :: b) = cp a b + 1 := if_pos h
      have ih := ord_eq a b
      unfold ordF at ih
      unfold ordF
      rw [e]
      simp only [List.getElem?_cons_succ, List.length_cons]
      rw [cmpI_succ, ih]
      show _ = if x = y then ordR a b else _
      rw [if_pos h]
    · have e : cp (x :: a) (y :: b) = 0 := if_neg h
      unfold ordF
      rw [e]
      simp only [List.getElem?_cons_zero]
      show cmpI x y = if x = y then ordR a b else _
      rw [if_neg h]
      unfold cmpI
      by_cases h2 : x < y
      · rw [if_pos h2, if_pos h2]
      · rw [if_neg h2, if_neg h2, if_pos (by omega)]
theorem ord_vals : ∀ a b : List Int, ordR a b = -1 ∨ ordR a b = 0 ∨ ordR a b = 1
  | [], [] => .inr (.inl rfl)
  | [], _ :: _ => .inl rfl
  | _ :: _, [] => .inr (.inr rfl)
  | x :: a, y :: b => by
    have ih := ord_vals a b
    show (if x = y then ordR a b else if x < y then -1 else 1) = -1 ∨ (if x = y then ordR a b else if x < y then -1 else 1) = 0 ∨ (if x = y then ordR a b else if x < y then -1 else 1) = 1
    split
    · exact ih
    · split
      · exact .inl rfl
      · exact .inr (.inr rfl)
theorem ord_anti : ∀ a b : List Int, ordR a b = -ordR b a
  | [], [] => rfl
  | [], _ :: _ => rfl
  | _ :: _, [] => rfl
  | x :: a, y :: b => by
    have ih := ord_anti a b
    show (if x = y then ordR a b else if x < y then -1 else 1) = -(if y = x then ordR b a else if y < x then -1 else 1)
    by_cases h : x = y
    · rw [if_pos h, if_pos h.symm, ih]
    · rw [if_neg h, if_neg (Ne.symm h)]
      by_cases h2 : x < y
      · rw [if_pos h2, if_neg (by omega)]
      · rw [if_neg h2, if_pos (by omega)]; rfl
theorem ord_zero : ∀ a b : List Int, ordR a b = 0 ↔ a = b
  | [], [] => by simp [ordR]
  | [], _ :: _ => by simp [ordR]
  | _ :: _, [] => by simp [ordR]
  | x :: a, y :: b => by
    have ih := ord_zero a b
    show (if x = y then ordR a b else if x < y then -1 else 1) = 0 ↔ _
    rw [List.cons.injEq, ← ih]
    by_cases h : x = y
    · rw [if_pos h]; simp [h]
    · rw [if_neg h]; simp only [h, false_and, iff_false]
      split <;> omega
theorem ord_trans : ∀ a b c : List Int, ordR a b < 0 → ordR b c < 0 → ordR a c < 0
  | [], [], c, h, _ => by simp [ordR] at h
  | x :: a, [], c, h, _ => by simp [ordR] at h
  | [], y :: b, [], _, h => by simp [ordR] at h
  | [], y :: b, z :: c, _, _ => by simp [ordR]
  | x :: a, y :: b, [], _, h => by simp [ordR] at h
  | x :: a, y :: b, z :: c, h1, h2 => by
    have ih := ord_trans a b c
    replace h1 : (if x = y then ordR a b else if x < y then -1 else 1) < 0 := h1
    replace h2 : (if y = z then ordR b c else if y < z then -1 else 1) < 0 := h2
    show (if x = z then ordR a c else if x < z then -1 else 1) < 0
    by_cases e1 : x = y
    · rw [if_pos e1] at h1
      by_cases e2 : y = z
      · rw [if_pos e2] at h2; rw [if_pos (e1.trans e2)]; exact ih h1 h2
      · rw [if_neg e2] at h2
        rw [if_neg (by rw [e1]; exact e2)]
        by_cases h3 : y < z
        · rw [if_pos (by omega)]; decide
        · rw [if_neg h3] at h2; exact absurd h2 (by decide)
    · rw [if_neg e1] at h1
      by_cases h3 : x < y
      · by_cases e2 : y = z
        · rw [if_neg (by omega), if_pos (by omega)]; decide
        · rw [if_neg e2] at h2
          by_cases h4 : y < z
          · rw [if_neg (by omega), if_pos (by omega)]; decide
          · rw [if_neg h4] at h2; exact absurd h2 (by decide)
      · rw [if_neg h3] at h1; exact absurd h1 (by decide)
theorem ord_under : ∀ a b : List Int, a <+: b → ordR a b ≤ 0
  | [], [], _ => by simp [ordR]
  | [], _ :: _, _ => by simp [ordR]
  | x :: a, [], h => by simp at h
  | x :: a, y :: b, h => by
    obtain ⟨h1, h2⟩ := List.cons_prefix_cons.1 h
    show (if x = y then ordR a b else if x < y then -1 else 1) ≤ 0
    rw [if_pos h1]; exact ord_under a b h2
theorem ord_between : ∀ a b c : List Int, a <+: c → ordR a b < 0 → ordR b c < 0 → a <+: b
  | [], b, c, _, _, _ => List.nil_prefix
  | x :: a, b, [], h, _, _ => by simp at h
  | x :: a, [], z :: c, _, h, _ => by simp [ordR] at h
  | x :: a, y :: b, z :: c, h, h1, h2 => by
    obtain ⟨e, hp⟩ := List.cons_prefix_cons.1 h
    subst e
    replace h1 : (if x = y then ordR a b else if x < y then -1 else 1) < 0 := h1
    replace h2 : (if y = x then ordR b c else if y < x then -1 else 1) < 0 := h2
    by_cases e1 : x = y
    · subst e1
      rw [if_pos rfl] at h1 h2
      exact List.cons_prefix_cons.2 ⟨rfl, ord_between a b c hp h1 h2⟩
    · exfalso
      rw [if_neg e1] at h1
      rw [if_neg (Ne.symm e1)] at h2
      by_cases h3 : x < y
      · rw [if_neg (show ¬ y < x by omega)] at h2; exact absurd h2 (by decide)
      · rw [if_neg h3] at h1; exact absurd h1 (by decide)
/-- what both are under -/
theorem meet_under (a b c : List Int) : (c <+: a ∧ c <+: b) ↔ c <+: a.take (cp a b) := by
  constructor
  · rintro ⟨h1, h2⟩
    have e1 := (cp_all a c).2 h1
    have e2 := (cp_all b c).2 h2
    have h3 := cp_ultra a c b
    rw [cp_comm c b] at h3
    have hc : c.length ≤ cp a b := by omega
    have := List.prefix_iff_eq_take.1 h1
    rw [List.prefix_iff_eq_take, List.take_take, Nat.min_eq_left hc]
    exact this
  · intro h
    refine ⟨h.trans (List.take_prefix _ _), ?_⟩
    rw [cp_take] at h
    exact h.trans (List.take_prefix _ _)
end Go.Proofs.Ytmjcokmfjofgnaa.Rou
