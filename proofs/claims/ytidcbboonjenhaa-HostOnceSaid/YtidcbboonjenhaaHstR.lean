/- host: what Do, Work and a deed do is a function. -/
import Derived.Test.YtidcbboonjenhaaHstQ
namespace Go.Proofs.Ytidcbboonjenhaa
open Go.RowKit Classical Go.Proofs.Ytidcbboonjenhaa.Slt
theorem Slt.Conf.fun' {x y z : List Int} {s : Int} (h : Conf x s y) (g : Conf x s z) : y = z := by
  refine G_ext (by rw [h.len, g.len]) fun j hj => ?_
  rw [h.len] at hj
  by_cases j0 : j = 0
  · subst j0; rw [h.st, g.st]
  by_cases j1 : j = 1
  · subst j1; rw [h.ad, g.ad]
  by_cases j2 : j < 34
  · obtain ⟨k, rfl⟩ : ∃ k, j = 2 + k := ⟨j - 2, by omega⟩
    by_cases hk : k < 2
    · rw [(h.low k hk).1, (g.low k hk).1]
    · cases hb : s.toNat.testBit k with
      | false => rw [(h.off k (by omega) (by omega) hb).1, (g.off k (by omega) (by omega) hb).1]
      | true => rw [(h.on k (by omega) (by omega) hb).1, (g.on k (by omega) (by omega) hb).1]
  · obtain ⟨k, rfl⟩ : ∃ k, j = 34 + k := ⟨j - 34, by omega⟩
    by_cases hk : k < 2
    · rw [(h.low k hk).2, (g.low k hk).2]
    · cases hb : s.toNat.testBit k with
      | false => rw [(h.off k (by omega) (by omega) hb).2, (g.off k (by omega) (by omega) hb).2]
      | true => rw [(h.on k (by omega) (by omega) hb).2, (g.on k (by omega) (by omega) hb).2]
theorem Slt.FirstOff.fun' {l : List Int} {i j : Nat} (h : FirstOff l i) (g : FirstOff l j) : i = j := by
  obtain ⟨h1, h2, h3, h4⟩ := h
  obtain ⟨g1, g2, g3, g4⟩ := g
  rcases Nat.lt_trichotomy i j with q | q | q
  · exact absurd h3 (g4 i h1 q)
  · exact q
  · exact absurd g3 (h4 j g1 q)
theorem Slt.Least.fun' {l : List Int} {a b : Nat} (h : Least l a) (g : Least l b) : a = b := by
  obtain ⟨h1, h2, h3⟩ := h
  obtain ⟨g1, g2, g3⟩ := g
  rcases Nat.lt_trichotomy a b with q | q | q
  · obtain ⟨i, hi, e⟩ := g3 a h1 q; exact absurd e (h2 i hi)
  · exact q
  · obtain ⟨i, hi, e⟩ := h3 b g1 q; exact absurd e (g2 i hi)
theorem Slt.Made.fun' {l : List Int} {n : Nat} {k e a : Int} {y z : List Int} (h : Made l n k e a y) (g : Made l n k e a z) : y = z := by
  cases h with
  | off h => cases g with
    | off _ => rfl
    | call _ q _ => omega
    | conf _ q _ => omega
    | ends q => omega
  | call ad h1 h2 => cases g with
    | off q => omega
    | call _ _ g2 => obtain rfl := h2.fun' g2; rfl
    | conf _ q _ => omega
    | ends q => omega
  | conf _ h1 h2 => cases g with
    | off q => omega
    | call _ q _ => omega
    | conf _ _ g2 => exact h2.fun' g2
    | ends q => omega
  | ends h => cases g with
    | off q => omega
    | call _ q _ => omega
    | conf _ q _ => omega
    | ends _ => rfl
theorem Slt.Did.fun' {l : List Int} {k s e a : Int} {x y : List Int} {c d n m : Int} (h : Did l k s e a x c n) (g : Did l k s e a y d m) : x = y ∧ c = d ∧ n = m := by
  by_cases ho : Ok l
  · cases h with
    | bad q => exact absurd ho q
    | noop _ h => cases g <;> first | (exfalso; omega) | exact absurd ho ‹_› | exact ⟨rfl, rfl, rfl⟩
    | enable i _ h1 h2 => cases g with
      | enable j _ _ g2 => obtain rfl := h2.fun' g2; exact ⟨rfl, rfl, rfl⟩
      | full _ _ g2 => exact absurd h2.2.2.1 (g2 i h2.1 h2.2.1)
      | bad q => exact absurd ho q
      | _ => exfalso; omega
    | full _ h1 h2 => cases g with
      | enable j _ _ g2 => exact absurd g2.2.2.1 (h2 j g2.1 g2.2.1)
      | full _ _ _ => exact ⟨rfl, rfl, rfl⟩
      | bad q => exact absurd ho q
      | _ => exfalso; omega
    | trb _ h1 h2 h3 => cases g with
      | trb _ _ _ _ => exact ⟨rfl, rfl, rfl⟩
      | bad q => exact absurd ho q
      | _ => exfalso; omega
    | done p z _ h1 h2 h3 h4 h5 h6 h7 => cases g with
      | done p' z' _ g1 g2 g3 g4 g5 g6 g7 =>
        obtain rfl : p = p' := by omega
        obtain rfl := h7.fun' g7
        exact ⟨rfl, rfl, rfl⟩
      | refused p' _ g1 g2 g3 g4 g5 g6 =>
        obtain rfl : p = p' := by omega
        exact absurd h6 g6
      | bad q => exact absurd ho q
      | _ => exfalso; omega
    | refused p _ h1 h2 h3 h4 h5 h6 => cases g with
      | done p' z' _ g1 g2 g3 g4 g5 g6 g7 =>
        obtain rfl : p = p' := by omega
        exact absurd g6 h6
      | refused p' _ g1 g2 g3 g4 g5 g6 =>
        obtain rfl : p = p' := by omega
        exact ⟨rfl, rfl, rfl⟩
      | bad q => exact absurd ho q
      | _ => exfalso; omega
  · cases h with
    | bad _ => cases g with
      | bad _ => exact ⟨rfl, rfl, rfl⟩
      | _ => exact absurd ‹Ok l› ho
    | _ => exact absurd ‹Ok l› ho
theorem Go1.fun' {m x y : Ms} (h : Go1 m x) (g : Go1 m y) : x = y := by
  cases h with
  | mk u l' c n h1 h2 h3 hd => cases g with
    | mk v l2 d p g1 g2 g3 gd =>
      obtain rfl : u = v := by omega
      obtain ⟨rfl, rfl, rfl⟩ := hd.fun' gd
      rfl
theorem Stop.no {m x : Ms} (h : Stop m) (g : Go1 m x) : False := by
  cases g with
  | mk u l' c n g1 g2 g3 gd =>
    rcases h with h | h
    · rw [g1] at h; cases h
    · rw [g2] at h; cases h
theorem Pre.fun' {m x y : Ms} {k : Nat} (h : Pre m k x) (g : Pre m k y) : x = y := by
  induction k generalizing x y with
  | zero => cases h; cases g; rfl
  | succ k ih => cases h with
    | step h1 h2 => cases g with
      | step g1 g2 => obtain rfl := ih h1 g1; exact h2.fun' g2
theorem Pre.add {m x y : Ms} {j k : Nat} (h : Pre m j x) (g : Pre x k y) : Pre m (j + k) y := by
  induction g with
  | zero => exact h
  | step _ g2 ih => exact .step ih g2
theorem Pre.part {m y : Ms} {j k : Nat} (h : Pre m (j + k) y) : ∃ x, Pre m j x ∧ Pre x k y := by
  induction k generalizing y with
  | zero => exact ⟨y, h, .zero⟩
  | succ k ih => cases h with
    | step h1 h2 => obtain ⟨x, q1, q2⟩ := ih h1; exact ⟨x, q1, .step q2 h2⟩
/-- how far: as many as were asked, or up to the stop -/
theorem run_fun {m x y : Ms} {j k : Nat} {n : Int} (h : Pre m j x) (h2 : (j : Int) = n ∨ ((j : Int) < n ∧ Stop x)) (g : Pre m k y) (g2 : (k : Int) = n ∨ ((k : Int) < n ∧ Stop y)) : j = k ∧ x = y := by
  have one : ∀ {j k : Nat} {x y : Ms}, Pre m j x → Stop x → Pre m k y → j < k → False := fun {j k x y} p s q hlt => by
    obtain ⟨d, rfl⟩ : ∃ d, k = (j + 1) + d := ⟨k - (j + 1), by omega⟩
    obtain ⟨z, q1, _⟩ := q.part
    cases q1 with
    | step q2 q3 => obtain rfl := p.fun' q2; exact s.no q3
  rcases Nat.lt_trichotomy j k with q | q | q
  · rcases h2 with h2 | ⟨_, hs⟩
    · rcases g2 with g2 | ⟨g2, _⟩ <;> exfalso <;> omega
    · exact absurd q fun q => one h hs g q
  · subst q; exact ⟨rfl, h.fun' g⟩
  · rcases g2 with g2 | ⟨_, hs⟩
    · rcases h2 with h2 | ⟨h2, _⟩ <;> exfalso <;> omega
    · exact absurd q fun q => one g hs h q
end Go.Proofs.Ytidcbboonjenhaa
