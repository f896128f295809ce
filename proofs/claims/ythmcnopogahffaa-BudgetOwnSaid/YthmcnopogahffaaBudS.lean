/- Sorting in place, plainly: insertions, rotations, symmetric merging. -/
namespace Go.Proofs.Ythmcnopogahffaa.Bud
def at' (l : List Nat) (i : Nat) : Nat := l.getD i 0
def swp (l : List Nat) (i j : Nat) : List Nat := (l.set i (at' l j)).set j (at' l i)
theorem swp_len (l : List Nat) (i j : Nat) : (swp l i j).length = l.length := by simp [swp]
theorem at_set (l : List Nat) (i k x : Nat) (hi : i < l.length) : at' (l.set i x) k = if k = i then x else at' l k := by
  unfold at'
  rw [List.getD_eq_getElem?_getD, List.getElem?_set, List.getD_eq_getElem?_getD]
  by_cases h : i = k
  · subst h; simp [hi]
  · have h2 : ¬ k = i := fun e => h e.symm
    simp [h, h2]
theorem swp_at (l : List Nat) (i j k : Nat) (hi : i < l.length) (hj : j < l.length) : at' (swp l i j) k = if k = j then at' l i else if k = i then at' l j else at' l k := by
  unfold swp
  rw [at_set _ j k _ (by simpa using hj), at_set l i k _ hi]
theorem swp_perm (l : List Nat) (i j : Nat) (hi : i < l.length) (hj : j < l.length) : (swp l i j).Perm l := by
  have h := Array.swap_perm (xs := l.toArray) (i := i) (j := j) (by simpa using hi) (by simpa using hj)
  have h2 := h.toList
  have e : (l.toArray.swap i j (by simpa using hi) (by simpa using hj)).toList = swp l i j := by
    rw [Array.toList_swap]
    unfold swp at'
    simp [hi, hj]
  rw [e] at h2
  simpa using h2
/-- l' is l, turned about within a .. b -/
structure Loc (l l' : List Nat) (a b : Nat) : Prop where
  perm : l'.Perm l
  out : ∀ t, (t < a ∨ b ≤ t) → at' l' t = at' l t
  inn : ∀ t, a ≤ t → t < b → ∃ s, a ≤ s ∧ s < b ∧ at' l' t = at' l s
theorem Loc.len {l l' : List Nat} {a b : Nat} (h : Loc l l' a b) : l'.length = l.length := h.perm.length_eq
theorem Loc.refl (l : List Nat) (a b : Nat) : Loc l l a b := ⟨List.Perm.refl _, fun _ _ => rfl, fun t h1 h2 => ⟨t, h1, h2, rfl⟩⟩
theorem Loc.trans {l l' l'' : List Nat} {a b : Nat} (h : Loc l l' a b) (g : Loc l' l'' a b) : Loc l l'' a b :=
  ⟨g.perm.trans h.perm, fun t ht => (g.out t ht).trans (h.out t ht), fun t h1 h2 => by
    obtain ⟨s, s1, s2, e⟩ := g.inn t h1 h2
    obtain ⟨r, r1, r2, f⟩ := h.inn s s1 s2
    exact ⟨r, r1, r2, e.trans f⟩⟩
theorem Loc.wide {l l' : List Nat} {a b c d : Nat} (h : Loc l l' a b) (h1 : c ≤ a) (h2 : b ≤ d) : Loc l l' c d :=
  ⟨h.perm, fun t ht => h.out t (by omega), fun t t1 t2 => by
    by_cases hh : a ≤ t ∧ t < b
    · obtain ⟨s, s1, s2, e⟩ := h.inn t hh.1 hh.2
      exact ⟨s, by omega, by omega, e⟩
    · exact ⟨t, t1, t2, h.out t (by omega)⟩⟩
theorem swp_loc (l : List Nat) (i j a b : Nat) (hi : i < l.length) (hj : j < l.length) (h1 : a ≤ i ∧ i < b) (h2 : a ≤ j ∧ j < b) : Loc l (swp l i j) a b :=
  ⟨swp_perm l i j hi hj, fun t ht => by rw [swp_at l i j t hi hj, if_neg (by omega), if_neg (by omega)], fun t t1 t2 => by
    rw [swp_at l i j t hi hj]
    by_cases e : t = j
    · exact ⟨i, h1.1, h1.2, by rw [if_pos e]⟩
    · by_cases f : t = i
      · exact ⟨j, h2.1, h2.2, by rw [if_neg e, if_pos f]⟩
      · exact ⟨t, t1, t2, by rw [if_neg e, if_neg f]⟩⟩
section
variable (k : Nat → Int)
def Srt (l : List Nat) (a b : Nat) : Prop := ∀ i j, a ≤ i → i < j → j < b → k (at' l i) ≤ k (at' l j)
/-- an element goes down to its place -/
def bub (a : Nat) : Nat → List Nat → List Nat
  | 0, l => l
  | j + 1, l => if a < j + 1 ∧ k (at' l (j + 1)) < k (at' l j) then bub a j (swp l (j + 1) j) else l
/-- c elements from i on -/
def insl (a : Nat) : Nat → Nat → List Nat → List Nat
  | _, 0, l => l
  | i, c + 1, l => insl a (i + 1) c (bub k a i l)
theorem bub_loc (a i : Nat) : ∀ j (l : List Nat), j ≤ i → i < l.length → Loc l (bub k a j l) a (i + 1)
  | 0, l, _, _ => Loc.refl l _ _
  | j + 1, l, h, hl => by
    unfold bub
    split
    · rename_i hc
      have h1 := swp_loc l (j + 1) j a (i + 1) (by omega) (by omega) (by omega) (by omega)
      exact h1.trans (bub_loc a i j _ (by omega) (by rw [swp_len]; exact hl))
    · exact Loc.refl l _ _
theorem bub_srt (a i : Nat) : ∀ j (l : List Nat), a ≤ j → j ≤ i → i < l.length →
    (∀ x y, a ≤ x → x < y → y ≤ i → x ≠ j → y ≠ j → k (at' l x) ≤ k (at' l y)) → (∀ y, j < y → y ≤ i → k (at' l j) ≤ k (at' l y)) → Srt k (bub k a j l) a (i + 1)
  | 0, l, _, _, _, h1, h2 => fun x y hx hxy hy => by
    by_cases e : x = 0
    · subst e; exact h2 y hxy (by omega)
    · exact h1 x y hx hxy (by omega) e (by omega)
  | j + 1, l, ha, hj, hl, h1, h2 => by
    unfold bub
    split
    · rename_i hc
      have hs := fun t => swp_at l (j + 1) j t (by omega) (by omega)
      refine bub_srt a i j _ (by omega) (by omega) (by rw [swp_len]; exact hl) ?_ ?_
      · intro x y hx hxy hy ex ey
        rw [hs x, hs y, if_neg ex, if_neg ey]
        by_cases fx : x = j + 1
        · rw [if_pos fx, if_neg (by omega)]
          exact h1 j y (by omega) (by omega) hy (by omega) (by omega)
        · rw [if_neg fx]
          by_cases fy : y = j + 1
          · rw [if_pos fy]
            exact h1 x j hx (by omega) (by omega) (by omega) (by omega)
          · rw [if_neg fy]
            exact h1 x y hx hxy hy fx fy
      · intro y hy hyi
        rw [hs j, hs y, if_pos rfl, if_neg (by omega)]
        by_cases fy : y = j + 1
        · rw [if_pos fy]; omega
        · rw [if_neg fy]; exact h2 y (by omega) hyi
    · rename_i hc
      intro x y hx hxy hy
      by_cases ex : x = j + 1
      · subst ex; exact h2 y hxy (by omega)
      · by_cases ey : y = j + 1
        · subst ey
          have h3 : k (at' l j) ≤ k (at' l (j + 1)) := by
            have : ¬ k (at' l (j + 1)) < k (at' l j) := fun h => hc ⟨by omega, h⟩
            omega
          by_cases e2 : x = j
          · subst e2; exact h3
          · have := h1 x j hx (by omega) (by omega) (by omega) (by omega)
            omega
        · exact h1 x y hx hxy (by omega) ex ey
theorem insl_loc (a : Nat) : ∀ c i (l : List Nat), a ≤ i → i + c ≤ l.length → Loc l (insl k a i c l) a (i + c)
  | 0, i, l, _, _ => Loc.refl l _ _
  | c + 1, i, l, ha, hl => by
    unfold insl
    have h1 := bub_loc k a i i l (Nat.le_refl _) (by omega)
    have h2 := insl_loc a c (i + 1) (bub k a i l) (by omega) (by rw [h1.len]; omega)
    have := (h1.wide (Nat.le_refl a) (show i + 1 ≤ i + (c + 1) by omega)).trans (h2.wide (Nat.le_refl a) (by omega))
    exact this
theorem insl_srt (a : Nat) : ∀ c i (l : List Nat), a ≤ i → i + c ≤ l.length → Srt k l a i → Srt k (insl k a i c l) a (i + c)
  | 0, i, l, _, _, h => h
  | c + 1, i, l, ha, hl, h => by
    unfold insl
    have h1 := bub_loc k a i i l (Nat.le_refl _) (by omega)
    have hb := bub_srt k a i i l ha (Nat.le_refl _) (by omega) (fun x y hx hxy hy ex ey => h x y hx hxy (by omega)) (fun y hy hyi => by omega)
    have := insl_srt a c (i + 1) (bub k a i l) (by omega) (by rw [h1.len]; omega) hb
    rw [show i + (c + 1) = i + 1 + c by omega]
    exact this
theorem srt_one (l : List Nat) (a : Nat) : Srt k l a (a + 1) := fun i j h1 h2 h3 => by omega
end
/-- the first place from i to j where P does not hold, if it holds for all ahead of it -/
def bs (P : Nat → Bool) : Nat → Nat → Nat → Nat
  | 0, i, _ => i
  | f + 1, i, j => if i < j then (if P ((i + j) / 2) then bs P f ((i + j) / 2 + 1) j else bs P f i ((i + j) / 2)) else i
theorem bs_spec (P : Nat → Bool) (lo hi : Nat) : ∀ f i j, j - i ≤ f → lo ≤ i → i ≤ j → j ≤ hi → (i = lo ∨ P (i - 1) = true) → (j = hi ∨ P j = false) →
    lo ≤ bs P f i j ∧ bs P f i j ≤ hi ∧ (bs P f i j = lo ∨ P (bs P f i j - 1) = true) ∧ (bs P f i j = hi ∨ P (bs P f i j) = false)
  | 0, i, j, hf, h1, h2, h3, h4, h5 => by
    obtain rfl : i = j := by omega
    exact ⟨h1, h3, h4, h5⟩
  | f + 1, i, j, hf, h1, h2, h3, h4, h5 => by
    unfold bs
    split
    · rename_i hij
      split
      · rename_i hp
        exact bs_spec P lo hi f _ j (by omega) (by omega) (by omega) h3 (.inr (by rw [Nat.add_sub_cancel]; exact hp)) h5
      · rename_i hp
        exact bs_spec P lo hi f i _ (by omega) h1 (by omega) (by omega) h4 (.inr (by simpa using hp))
    · obtain rfl : i = j := by omega
      exact ⟨h1, h3, h4, h5⟩
end Go.Proofs.Ythmcnopogahffaa.Bud
