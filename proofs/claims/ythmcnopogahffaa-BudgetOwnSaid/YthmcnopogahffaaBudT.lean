/- Sorting in place, plainly: rotations, symmetric merging, all of it. -/
import Derived.Test.YthmcnopogahffaaBudS
namespace Go.Proofs.Ythmcnopogahffaa.Bud
def swr (a b : Nat) : Nat → Nat → List Nat → List Nat
  | 0, _, l => l
  | c + 1, i, l => swr a b c (i + 1) (swp l (a + i) (b + i))
theorem swr_loc (a b : Nat) : ∀ c i (l : List Nat), a + c ≤ b → b + i + c ≤ l.length → Loc l (swr a b c i l) (a + i) (b + i + c)
  | 0, i, l, _, _ => Loc.refl l _ _
  | c + 1, i, l, h, hl => by
    unfold swr
    have h1 := swp_loc l (a + i) (b + i) (a + i) (b + i + (c + 1)) (by omega) (by omega) (by omega) (by omega)
    exact h1.trans ((swr_loc a b c (i + 1) _ (by omega) (by rw [swp_len]; omega)).wide (by omega) (by omega))
theorem swr_at (a b : Nat) : ∀ c i (l : List Nat), a + c ≤ b → b + i + c ≤ l.length → ∀ t, at' (swr a b c i l) t =
    if a + i ≤ t ∧ t < a + i + c then at' l (t - a + b) else if b + i ≤ t ∧ t < b + i + c then at' l (t - b + a) else at' l t
  | 0, i, l, _, _, t => by
    unfold swr
    rw [if_neg (by omega), if_neg (by omega)]
  | c + 1, i, l, h, hl, t => by
    unfold swr
    have hs := fun t => swp_at l (a + i) (b + i) t (by omega) (by omega)
    rw [swr_at a b c (i + 1) _ (by omega) (by rw [swp_len]; omega) t, hs, hs, hs]
    by_cases c1 : t = a + i
    · subst c1
      rw [if_neg (by omega), if_neg (by omega), if_neg (by omega), if_pos rfl, if_pos (by omega)]
      exact congrArg _ (by omega)
    · by_cases c2 : t = b + i
      · subst c2
        rw [if_neg (by omega), if_neg (by omega), if_pos rfl, if_neg (by omega), if_pos (by omega)]
        exact congrArg _ (by omega)
      · by_cases c3 : a + i ≤ t ∧ t < a + i + (c + 1)
        · rw [if_pos (by omega), if_neg (by omega), if_neg (by omega), if_pos c3]
        · rw [if_neg (by omega), if_neg c3]
          by_cases c4 : b + i ≤ t ∧ t < b + i + (c + 1)
          · rw [if_pos (by omega), if_neg (by omega), if_neg (by omega), if_pos c4]
          · rw [if_neg (by omega), if_neg c2, if_neg c1, if_neg c4]
/-- two blocks side by side change places; the middle is m -/
def rot (m : Nat) : Nat → Nat → Nat → List Nat → List Nat
  | 0, _, _, l => l
  | f + 1, i, j, l => if i = j then swr (m - i) m i 0 l else if j < i then rot m f (i - j) j (swr (m - i) m j 0 l) else rot m f i (j - i) (swr (m - i) (m + j - i) i 0 l)
theorem rot_loc (m : Nat) : ∀ f i j (l : List Nat), i + j ≤ f → 0 < i → 0 < j → i ≤ m → m + j ≤ l.length → Loc l (rot m f i j l) (m - i) (m + j)
  | 0, i, j, l, h, h1, _, _, _ => by omega
  | f + 1, i, j, l, h, h1, h2, h3, h4 => by
    unfold rot
    split
    · rename_i e
      subst e
      exact (swr_loc (m - i) m i 0 l (by omega) (by omega)).wide (by omega) (by omega)
    · split
      · have h5 := (swr_loc (m - i) m j 0 l (by omega) (by omega)).wide (show m - i ≤ m - i + 0 by omega) (show m + 0 + j ≤ m + j by omega)
        exact h5.trans ((rot_loc m f (i - j) j _ (by omega) (by omega) h2 (by omega) (by rw [h5.len]; omega)).wide (by omega) (Nat.le_refl _))
      · have h5 := (swr_loc (m - i) (m + j - i) i 0 l (by omega) (by omega)).wide (show m - i ≤ m - i + 0 by omega) (show m + j - i + 0 + i ≤ m + j by omega)
        exact h5.trans ((rot_loc m f i (j - i) _ (by omega) h1 (by omega) h3 (by rw [h5.len]; omega)).wide (Nat.le_refl _) (by omega))
theorem rot_at (m : Nat) : ∀ f i j (l : List Nat), i + j ≤ f → 0 < i → 0 < j → i ≤ m → m + j ≤ l.length → ∀ t, at' (rot m f i j l) t =
    if m - i ≤ t ∧ t < m - i + j then at' l (t + i) else if m - i + j ≤ t ∧ t < m + j then at' l (t - j) else at' l t
  | 0, i, j, l, h, h1, _, _, _, _ => by omega
  | f + 1, i, j, l, h, h1, h2, h3, h4, t => by
    unfold rot
    split
    · rename_i e
      subst e
      rw [swr_at (m - i) m i 0 l (by omega) (by omega) t]
      by_cases c1 : m - i ≤ t ∧ t < m - i + i
      · rw [if_pos (by omega), if_pos c1]; exact congrArg _ (by omega)
      · rw [if_neg (by omega), if_neg c1]
        by_cases c2 : m - i + i ≤ t ∧ t < m + i
        · rw [if_pos (by omega), if_pos c2]; exact congrArg _ (by omega)
        · rw [if_neg (by omega), if_neg c2]
    · split
      · have h5 := swr_loc (m - i) m j 0 l (by omega) (by omega)
        have hs := swr_at (m - i) m j 0 l (by omega) (by omega)
        rw [rot_at m f (i - j) j _ (by omega) (by omega) h2 (by omega) (by rw [h5.len]; omega) t, hs, hs, hs]
        by_cases c1 : m - i ≤ t ∧ t < m - i + j
        · rw [if_neg (by omega), if_neg (by omega), if_pos (by omega), if_pos c1]; exact congrArg _ (by omega)
        · rw [if_neg c1]
          by_cases c2 : m - i + j ≤ t ∧ t < m + j
          · rw [if_pos c2]
            by_cases c3 : t < m - i + j + j
            · rw [if_pos (by omega), if_neg (by omega), if_pos (by omega)]; exact congrArg _ (by omega)
            · rw [if_neg (by omega), if_pos (by omega), if_neg (by omega), if_neg (by omega)]
          · rw [if_neg (by omega), if_neg (by omega), if_neg (by omega), if_neg (by omega), if_neg c2]
      · have h5 := swr_loc (m - i) (m + j - i) i 0 l (by omega) (by omega)
        have hs := swr_at (m - i) (m + j - i) i 0 l (by omega) (by omega)
        rw [rot_at m f i (j - i) _ (by omega) h1 (by omega) h3 (by rw [h5.len]; omega) t, hs, hs, hs]
        by_cases c1 : m - i ≤ t ∧ t < m - i + j
        · rw [if_pos c1]
          by_cases c3 : t < m - i + (j - i)
          · rw [if_pos (by omega), if_neg (by omega), if_neg (by omega)]
          · rw [if_neg (by omega), if_pos (by omega), if_pos (by omega)]; exact congrArg _ (by omega)
        · rw [if_neg c1]
          by_cases c2 : m - i + j ≤ t ∧ t < m + j
          · rw [if_neg (by omega), if_neg (by omega), if_neg (by omega), if_pos (by omega), if_pos c2]; exact congrArg _ (by omega)
          · rw [if_neg (by omega), if_neg (by omega), if_neg (by omega), if_neg (by omega), if_neg c2]
/-- up by c places from a on -/
def shU : Nat → Nat → List Nat → List Nat
  | 0, _, l => l
  | c + 1, t, l => shU c (t + 1) (swp l t (t + 1))
/-- down by c places from m on -/
def shD : Nat → Nat → List Nat → List Nat
  | 0, _, l => l
  | c + 1, t, l => shD c (t - 1) (swp l t (t - 1))
theorem shU_loc : ∀ c a (l : List Nat), a + c < l.length → Loc l (shU c a l) a (a + c + 1)
  | 0, a, l, _ => Loc.refl l _ _
  | c + 1, a, l, h => by
    unfold shU
    have h1 := swp_loc l a (a + 1) a (a + (c + 1) + 1) (by omega) (by omega) (by omega) (by omega)
    exact h1.trans ((shU_loc c (a + 1) _ (by rw [swp_len]; omega)).wide (by omega) (by omega))
theorem shU_at : ∀ c a (l : List Nat), a + c < l.length → ∀ t, at' (shU c a l) t = if a ≤ t ∧ t < a + c then at' l (t + 1) else if t = a + c then at' l a else at' l t
  | 0, a, l, _, t => by
    unfold shU
    rw [if_neg (by omega)]
    split
    · rename_i e; rw [e]; rfl
    · rfl
  | c + 1, a, l, h, t => by
    unfold shU
    have hs := fun t => swp_at l a (a + 1) t (by omega) (by omega)
    rw [shU_at c (a + 1) _ (by rw [swp_len]; omega) t, hs, hs, hs]
    by_cases c1 : t = a
    · subst c1
      rw [if_neg (by omega), if_neg (by omega), if_neg (by omega), if_pos rfl, if_pos (by omega)]
    · by_cases c2 : a ≤ t ∧ t < a + (c + 1)
      · rw [if_pos (by omega), if_neg (by omega), if_neg (by omega), if_pos c2]
      · rw [if_neg (by omega), if_neg c2]
        by_cases c3 : t = a + (c + 1)
        · rw [if_pos (by omega), if_pos rfl, if_pos c3]
        · rw [if_neg (by omega), if_neg (by omega), if_neg c1, if_neg c3]
theorem shD_loc : ∀ c m (l : List Nat), c ≤ m → m < l.length → Loc l (shD c m l) (m - c) (m + 1)
  | 0, m, l, _, _ => Loc.refl l _ _
  | c + 1, m, l, h, hl => by
    unfold shD
    have h1 := swp_loc l m (m - 1) (m - (c + 1)) (m + 1) (by omega) (by omega) (by omega) (by omega)
    exact h1.trans ((shD_loc c (m - 1) _ (by omega) (by rw [swp_len]; omega)).wide (by omega) (by omega))
theorem shD_at : ∀ c m (l : List Nat), c ≤ m → m < l.length → ∀ t, at' (shD c m l) t = if t = m - c then at' l m else if m - c < t ∧ t ≤ m then at' l (t - 1) else at' l t
  | 0, m, l, _, _, t => by
    unfold shD
    split
    · rename_i e; rw [e]; rfl
    · rw [if_neg (by omega)]
  | c + 1, m, l, h, hl, t => by
    unfold shD
    have hs := fun t => swp_at l m (m - 1) t (by omega) (by omega)
    rw [shD_at c (m - 1) _ (by omega) (by rw [swp_len]; omega) t, hs, hs, hs]
    by_cases c1 : t = m
    · subst c1
      rw [if_neg (by omega), if_neg (by omega), if_neg (by omega), if_pos rfl, if_neg (by omega), if_pos (by omega)]
    · by_cases c2 : t = m - (c + 1)
      · subst c2
        rw [if_pos (by omega), if_pos rfl, if_pos rfl]
      · rw [if_neg (by omega), if_neg c2]
        by_cases c3 : m - (c + 1) < t ∧ t ≤ m
        · rw [if_pos (by omega), if_neg (by omega), if_neg (by omega), if_pos c3]
        · rw [if_neg (by omega), if_neg (by omega), if_neg c1, if_neg c3]
section
variable (k : Nat → Int)
def P1 (l : List Nat) (x : Nat) (h : Nat) : Bool := decide (k (at' l h) < k (at' l x))
def P2 (l : List Nat) (x : Nat) (h : Nat) : Bool := !decide (k (at' l x) < k (at' l h))
def P3 (l : List Nat) (p : Nat) (c : Nat) : Bool := !decide (k (at' l (p - c)) < k (at' l c))
def sym : Nat → Nat → Nat → Nat → List Nat → List Nat
  | 0, _, _, _, l => l
  | f + 1, a, m, b, l =>
    if m - a = 1 then shU (bs (P1 k l a) (b - m) m b - 1 - a) a l
    else if b - m = 1 then shD (m - bs (P2 k l m) (m - a) a m) m l
    else
      let mid := (a + b) / 2
      let n := mid + m
      let lo := if mid < m then n - b else a
      let hi := if mid < m then mid else m
      let s := bs (P3 k l (n - 1)) (hi - lo) lo hi
      let e := n - s
      let l1 := if s < m ∧ m < e then rot m (e - s) (m - s) (e - m) l else l
      let l2 := if a < s ∧ s < mid then sym f a s mid l1 else l1
      if mid < e ∧ e < b then sym f mid e b l2 else l2
theorem Srt.sub {l : List Nat} {a b c d : Nat} (h : Srt k l a b) (h1 : a ≤ c) (h2 : d ≤ b) : Srt k l c d := fun i j x y z => h i j (by omega) y (by omega)
theorem Srt.same {l l' : List Nat} {a b : Nat} (h : Srt k l a b) (he : ∀ t, a ≤ t → t < b → at' l' t = at' l t) : Srt k l' a b := fun i j x y z => by
  rw [he i (by omega) (by omega), he j (by omega) (by omega)]; exact h i j x y z
theorem Srt.le {l : List Nat} {a b : Nat} (h : Srt k l a b) {i j : Nat} (h1 : a ≤ i) (h2 : i ≤ j) (h3 : j < b) : k (at' l i) ≤ k (at' l j) := by
  by_cases e : i = j
  · subst e; exact Int.le_refl _
  · exact h i j h1 (by omega) h3
theorem sym_spec : ∀ f a m b (l : List Nat), b - a ≤ f → a < m → m < b → b ≤ l.length → Srt k l a m → Srt k l m b → Loc l (sym k f a m b l) a b ∧ Srt k (sym k f a m b l) a b
  | 0, a, m, b, l, h0, h1, h2, _, _, _ => by omega
  | f + 1, a, m, b, l, h0, h1, h2, h3, hA, hB => by
    unfold sym
    split
    · rename_i hm
      obtain ⟨b1, b2, b3, b4⟩ := bs_spec (P1 k l a) m b (b - m) m b (Nat.le_refl _) (Nat.le_refl _) (by omega) (Nat.le_refl _) (.inl rfl) (.inl rfl)
      generalize bs (P1 k l a) (b - m) m b = i at *
      have hl := shU_loc (i - 1 - a) a l (by omega)
      refine ⟨hl.wide (Nat.le_refl _) (by omega), fun x y hx hxy hy => ?_⟩
      rw [shU_at _ a l (by omega), shU_at _ a l (by omega)]
      have below : ∀ t, m ≤ t → t < i → k (at' l t) ≤ k (at' l a) := fun t t1 t2 => by
        have h5 : k (at' l (i - 1)) < k (at' l a) := by
          rcases b3 with e | e
          · omega
          · simpa [P1] using e
        have := Srt.le k hB t1 (show t ≤ i - 1 by omega) (by omega)
        omega
      have above : ∀ t, i ≤ t → t < b → k (at' l a) ≤ k (at' l t) := fun t t1 t2 => by
        have h5 : k (at' l a) ≤ k (at' l i) := by
          rcases b4 with e | e
          · omega
          · have : ¬ k (at' l i) < k (at' l a) := by simpa [P1] using e
            omega
        have := Srt.le k hB b1 t1 t2
        omega
      by_cases x1 : a ≤ x ∧ x < a + (i - 1 - a)
      · rw [if_pos x1]
        by_cases y1 : a ≤ y ∧ y < a + (i - 1 - a)
        · rw [if_pos y1]; exact hB _ _ (by omega) (by omega) (by omega)
        · rw [if_neg y1]
          split
          · exact below _ (by omega) (by omega)
          · exact hB _ _ (by omega) (by omega) (by omega)
      · have ey : (if a ≤ y ∧ y < a + (i - 1 - a) then at' l (y + 1) else if y = a + (i - 1 - a) then at' l a else at' l y) = at' l y := by
          rw [if_neg (by omega), if_neg (by omega)]
        rw [if_neg x1, ey]
        split
        · exact above _ (by omega) (by omega)
        · exact hB _ _ (by omega) (by omega) (by omega)
    split
    · rename_i hm
      obtain ⟨b1, b2, b3, b4⟩ := bs_spec (P2 k l m) a m (m - a) a m (Nat.le_refl _) (Nat.le_refl _) (by omega) (Nat.le_refl _) (.inl rfl) (.inl rfl)
      generalize bs (P2 k l m) (m - a) a m = i at *
      have hl := shD_loc (m - i) m l (by omega) (by omega)
      refine ⟨hl.wide (by omega) (by omega), fun x y hx hxy hy => ?_⟩
      rw [shD_at _ m l (by omega) (by omega), shD_at _ m l (by omega) (by omega)]
      have below : ∀ t, a ≤ t → t < i → k (at' l t) ≤ k (at' l m) := fun t t1 t2 => by
        have h5 : k (at' l (i - 1)) ≤ k (at' l m) := by
          rcases b3 with e | e
          · omega
          · simpa [P2] using e
        have := Srt.le k hA t1 (show t ≤ i - 1 by omega) (by omega)
        omega
      have above : ∀ t, i ≤ t → t < m → k (at' l m) ≤ k (at' l t) := fun t t1 t2 => by
        have h5 : k (at' l m) < k (at' l i) := by
          rcases b4 with e | e
          · omega
          · simpa [P2] using e
        have := Srt.le k hA b1 t1 t2
        omega
      by_cases x1 : x = m - (m - i)
      · rw [if_pos x1, if_neg (by omega), if_pos (by omega)]; exact above _ (by omega) (by omega)
      · rw [if_neg x1]
        by_cases y1 : y = m - (m - i)
        · rw [if_pos y1, if_neg (by omega)]; exact below _ (by omega) (by omega)
        · rw [if_neg y1]
          by_cases x2 : m - (m - i) < x ∧ x ≤ m
          · rw [if_pos x2, if_pos (by omega)]; exact hA _ _ (by omega) (by omega) (by omega)
          · rw [if_neg x2]
            by_cases y2 : m - (m - i) < y ∧ y ≤ m
            · rw [if_pos y2]; exact Srt.le k hA (by omega) (by omega) (by omega)
            · rw [if_neg y2]; exact hA _ _ (by omega) (by omega) (by omega)
    rename_i hm1 hm2
    obtain ⟨mid, hmid⟩ : ∃ mid, mid = (a + b) / 2 := ⟨_, rfl⟩
    rw [← hmid]
    dsimp only
    obtain ⟨lo, hlo⟩ : ∃ lo, lo = if mid < m then mid + m - b else a := ⟨_, rfl⟩
    obtain ⟨hi, hhi⟩ : ∃ hi, hi = if mid < m then mid else m := ⟨_, rfl⟩
    rw [← hlo, ← hhi]
    have hb0 : lo ≤ hi ∧ a ≤ lo ∧ hi ≤ m ∧ hi ≤ mid ∧ (lo = a ∨ mid + m - lo = b) ∧ (hi = m ∨ mid + m - hi = m) ∧ mid + m - lo ≤ b := by
      by_cases c : mid < m
      · rw [if_pos c] at hlo hhi; omega
      · rw [if_neg c] at hlo hhi; omega
    obtain ⟨b1, b2, b3, b4⟩ := bs_spec (P3 k l (mid + m - 1)) lo hi (hi - lo) lo hi (Nat.le_refl _) (Nat.le_refl _) hb0.1 (Nat.le_refl _) (.inl rfl) (.inl rfl)
    generalize bs (P3 k l (mid + m - 1)) (hi - lo) lo hi = s at *
    obtain ⟨e, he⟩ : ∃ e, e = mid + m - s := ⟨_, rfl⟩
    rw [← he]
    have hse : s ≤ m ∧ m ≤ e ∧ e ≤ b ∧ a ≤ s ∧ s ≤ mid ∧ mid ≤ e := by omega
    have hAB : ∀ x y, a ≤ x → x < s → e ≤ y → y < b → k (at' l x) ≤ k (at' l y) := fun x y x1 x2 y1 y2 => by
      have h5 : k (at' l (s - 1)) ≤ k (at' l e) := by
        rcases b3 with q | q
        · omega
        · have : ¬ k (at' l (mid + m - 1 - (s - 1))) < k (at' l (s - 1)) := by simpa [P3] using q
          rw [show mid + m - 1 - (s - 1) = e by omega] at this
          omega
      have h6 := Srt.le k hA x1 (show x ≤ s - 1 by omega) (by omega)
      have h7 := Srt.le k hB hse.2.1 y1 y2
      omega
    have hBA : ∀ x y, m ≤ x → x < e → s ≤ y → y < m → k (at' l x) ≤ k (at' l y) := fun x y x1 x2 y1 y2 => by
      have h5 : k (at' l (e - 1)) < k (at' l s) := by
        rcases b4 with q | q
        · omega
        · have : k (at' l (mid + m - 1 - s)) < k (at' l s) := by simpa [P3] using q
          rw [show mid + m - 1 - s = e - 1 by omega] at this
          exact this
      have h6 := Srt.le k hB x1 (show x ≤ e - 1 by omega) (by omega)
      have h7 := Srt.le k hA hse.2.2.2.1 y1 y2
      omega
    obtain ⟨l1, hl1⟩ : ∃ l1, l1 = if s < m ∧ m < e then rot m (e - s) (m - s) (e - m) l else l := ⟨_, rfl⟩
    rw [← hl1]
    have hat : ∀ t, at' l1 t = if s ≤ t ∧ t < s + (e - m) then at' l (t + (m - s)) else if s + (e - m) ≤ t ∧ t < e then at' l (t - (e - m)) else at' l t := fun t => by
      rw [hl1]
      split
      · rename_i hc
        rw [rot_at m (e - s) (m - s) (e - m) l (by omega) (by omega) (by omega) (by omega) (by omega) t]
        by_cases c1 : s ≤ t ∧ t < s + (e - m)
        · rw [if_pos (by omega), if_pos c1]
        · rw [if_neg (by omega), if_neg c1]
          by_cases c2 : s + (e - m) ≤ t ∧ t < e
          · rw [if_pos (by omega), if_pos c2]
          · rw [if_neg (by omega), if_neg c2]
      · by_cases c1 : s ≤ t ∧ t < s + (e - m)
        · rw [if_pos c1]; exact congrArg _ (by omega)
        · rw [if_neg c1]
          split
          · exact congrArg _ (by omega)
          · rfl
    have hloc : Loc l l1 a b := by
      rw [hl1]
      split
      · exact (rot_loc m (e - s) (m - s) (e - m) l (by omega) (by omega) (by omega) (by omega) (by omega)).wide (by omega) (by omega)
      · exact Loc.refl l _ _
    have hsm : s + (e - m) = mid := by omega
    rw [hsm] at hat
    have S1 : Srt k l1 a s := Srt.same k (hA.sub k (Nat.le_refl _) hse.1) (fun t t1 t2 => by rw [hat t, if_neg (by omega), if_neg (by omega)])
    have S2 : Srt k l1 s mid := fun i j x y z => by
      rw [hat i, hat j, if_pos (by omega), if_pos (by omega)]; exact hB _ _ (by omega) (by omega) (by omega)
    have S3 : Srt k l1 mid e := fun i j x y z => by
      rw [hat i, hat j, if_neg (by omega), if_pos (by omega), if_neg (by omega), if_pos (by omega)]; exact hA _ _ (by omega) (by omega) (by omega)
    have S4 : Srt k l1 e b := Srt.same k (hB.sub k hse.2.1 (Nat.le_refl _)) (fun t t1 t2 => by rw [hat t, if_neg (by omega), if_neg (by omega)])
    have hcross : ∀ x y, a ≤ x → x < mid → mid ≤ y → y < b → k (at' l1 x) ≤ k (at' l1 y) := fun x y x1 x2 y1 y2 => by
      rw [hat x, hat y]
      by_cases cx : s ≤ x
      · rw [if_pos (by omega), if_neg (by omega)]
        by_cases cy : y < e
        · rw [if_pos (by omega)]; exact hBA _ _ (by omega) (by omega) (by omega) (by omega)
        · rw [if_neg (by omega)]; exact hB _ _ (by omega) (by omega) y2
      · rw [if_neg (by omega), if_neg (by omega), if_neg (by omega)]
        by_cases cy : y < e
        · rw [if_pos (by omega)]; exact Srt.le k hA x1 (by omega) (by omega)
        · rw [if_neg (by omega)]; exact hAB _ _ x1 (by omega) (by omega) y2
    obtain ⟨l2, hl2⟩ : ∃ l2, l2 = if a < s ∧ s < mid then sym k f a s mid l1 else l1 := ⟨_, rfl⟩
    rw [← hl2]
    have hlen1 := hloc.len
    have hL2 : Loc l1 l2 a mid ∧ Srt k l2 a mid := by
      rw [hl2]
      split
      · rename_i hc
        exact sym_spec f a s mid l1 (by omega) hc.1 hc.2 (by omega) S1 S2
      · rename_i hc
        refine ⟨Loc.refl _ _ _, ?_⟩
        by_cases q : a = s
        · subst q; exact S2
        · obtain rfl : s = mid := by omega
          exact S1
    have hlen2 := hL2.1.len
    have T3 : Srt k l2 mid e := S3.same k (fun t t1 t2 => hL2.1.out t (by omega))
    have T4 : Srt k l2 e b := S4.same k (fun t t1 t2 => hL2.1.out t (by omega))
    obtain ⟨l3, hl3⟩ : ∃ l3, l3 = if mid < e ∧ e < b then sym k f mid e b l2 else l2 := ⟨_, rfl⟩
    rw [← hl3]
    have hL3 : Loc l2 l3 mid b ∧ Srt k l3 mid b := by
      rw [hl3]
      split
      · rename_i hc
        exact sym_spec f mid e b l2 (by omega) hc.1 hc.2 (by omega) T3 T4
      · rename_i hc
        refine ⟨Loc.refl _ _ _, ?_⟩
        by_cases q : mid = e
        · subst q; exact T4
        · obtain rfl : e = b := by omega
          exact T3
    refine ⟨(hloc.trans (hL2.1.wide (Nat.le_refl _) (by omega))).trans (hL3.1.wide (by omega) (Nat.le_refl _)), fun x y hx hxy hy => ?_⟩
    by_cases cy : y < mid
    · rw [hL3.1.out x (by omega), hL3.1.out y (by omega)]; exact hL2.2 x y hx hxy cy
    · by_cases cx : mid ≤ x
      · exact hL3.2 x y cx hxy hy
      · rw [hL3.1.out x (by omega)]
        obtain ⟨x', p1, p2, p3⟩ := hL2.1.inn x hx (by omega)
        obtain ⟨y', q1, q2, q3⟩ := hL3.1.inn y (by omega) hy
        rw [p3, q3, hL2.1.out y' (by omega)]
        exact hcross x' y' p1 p2 q1 q2
end
end Go.Proofs.Ythmcnopogahffaa.Bud
