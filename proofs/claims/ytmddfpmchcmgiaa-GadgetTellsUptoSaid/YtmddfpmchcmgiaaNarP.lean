/- Units read as runes: no program in sight. -/
import Derived.Test.YtmddfpmchcmgiaaUtfP
namespace Go.Proofs.Ytmddfpmchcmgiaa.Utf
open Go.Lib
def hiU (a : Nat) : Bool := decide (55296 ≤ a) && decide (a ≤ 56319)
def loU (b : Nat) : Bool := decide (56320 ≤ b) && decide (b ≤ 57343)
/-- the rune that a loneU unit is -/
def loneU (a : Nat) : Nat := if 55296 ≤ a ∧ a ≤ 57343 then 65533 else a
def pairR (a b : Nat) : Nat := (a - 55296) * 1024 + (b - 56320) + 65536
theorem pairR_def (a b : Nat) : pairR a b = (a - 55296) * 1024 + (b - 56320) + 65536 := rfl
/-- the runes of units -/
def nar : List Nat → List Nat
  | [] => []
  | [a] => [loneU a]
  | a :: b :: r => if hiU a && loU b then pairR a b :: nar r else loneU a :: nar (b :: r)
theorem nar_nil : nar [] = [] := rfl
theorem nar_one (a : Nat) : nar [a] = [loneU a] := rfl
theorem nar_pair {a b : Nat} (r : List Nat) (h : (hiU a && loU b) = true) : nar (a :: b :: r) = pairR a b :: nar r := by
  conv => lhs; unfold nar
  rw [if_pos h]
theorem nar_lone {a b : Nat} (r : List Nat) (h : (hiU a && loU b) = false) : nar (a :: b :: r) = loneU a :: nar (b :: r) := by
  conv => lhs; unfold nar
  rw [if_neg (by rw [h]; decide)]
theorem hi_iff (a : Nat) : hiU a = true ↔ 55296 ≤ a ∧ a ≤ 56319 := by simp [hiU]
theorem lo_iff (a : Nat) : loU a = true ↔ 56320 ≤ a ∧ a ≤ 57343 := by simp [loU]
theorem lone_scalar {a : Nat} (h : a ≤ 65535) : scalar (loneU a) := by unfold loneU scalar; split <;> omega
theorem pair_scalar {a b : Nat} (h : (hiU a && loU b) = true) : scalar (pairR a b) := by
  rw [Bool.and_eq_true, hi_iff, lo_iff] at h
  obtain ⟨x, hx⟩ : ∃ x, a = 55296 + x := ⟨a - 55296, by omega⟩
  obtain ⟨y, hy⟩ : ∃ y, b = 56320 + y := ⟨b - 56320, by omega⟩
  subst hx; subst hy
  rw [pairR_def]; unfold scalar; omega
theorem nar_ind {P : List Nat → Prop} (h0 : P []) (h1 : ∀ a, P [a]) (h2 : ∀ a b r, (hiU a && loU b) = true → P r → P (a :: b :: r)) (h3 : ∀ a b r, (hiU a && loU b) = false → P (b :: r) → P (a :: b :: r)) : ∀ u, P u := by
  intro u
  generalize hn : u.length = n
  induction n using Nat.strongRecOn generalizing u with
  | ind n ih =>
    match u, hn with
    | [], _ => exact h0
    | [a], _ => exact h1 a
    | a :: b :: r, hn =>
      simp only [List.length_cons] at hn
      cases h : hiU a && loU b with
      | true => exact h2 a b r h (ih _ (by omega) r rfl)
      | false => exact h3 a b r h (ih _ (by simp; omega) (b :: r) rfl)
theorem nar_scalar (u : List Nat) : (∀ a ∈ u, a ≤ 65535) → ∀ r ∈ nar u, scalar r := by
  refine nar_ind (P := fun u => (∀ a ∈ u, a ≤ 65535) → ∀ r ∈ nar u, scalar r) ?_ ?_ ?_ ?_ u
  · intro _ r hr; rw [nar_nil] at hr; simp at hr
  · intro a h r hr; rw [nar_one] at hr; simp only [List.mem_singleton] at hr; subst hr; exact lone_scalar (h a (by simp))
  · intro a b t hp ih h r hr
    rw [nar_pair t hp] at hr
    rcases List.mem_cons.1 hr with rfl | hr
    · exact pair_scalar hp
    · exact ih (fun x hx => h x (by simp [hx])) r hr
  · intro a b t hp ih h r hr
    rw [nar_lone t hp] at hr
    rcases List.mem_cons.1 hr with rfl | hr
    · exact lone_scalar (h a (by simp))
    · exact ih (fun x hx => h x (by simp only [List.mem_cons] at hx ⊢; exact .inr hx)) r hr
theorem nar_cnt (u : List Nat) : (∀ a ∈ u, a ≤ 65535) → cnt (nar u) = u.length := by
  refine nar_ind (P := fun u => (∀ a ∈ u, a ≤ 65535) → cnt (nar u) = u.length) ?_ ?_ ?_ ?_ u
  · intro _; rfl
  · intro a h
    have := h a (by simp)
    rw [nar_one]
    simp only [cnt, List.map_cons, List.map_nil, List.sum_cons, List.sum_nil, List.length_cons, List.length_nil]
    rw [if_neg (by unfold loneU; split <;> omega)]; rfl
  · intro a b t hp ih h
    rw [nar_pair t hp]
    have := ih (fun x hx => h x (by simp [hx]))
    rw [Bool.and_eq_true, hi_iff, lo_iff] at hp
    simp only [cnt, List.map_cons, List.sum_cons, List.length_cons] at this ⊢
    rw [if_pos (by rw [pairR_def]; omega), this]; omega
  · intro a b t hp ih h
    rw [nar_lone t hp]
    have h1 := ih (fun x hx => h x (by simp only [List.mem_cons] at hx ⊢; exact .inr hx))
    have h2 := h a (by simp)
    have e : cnt (loneU a :: nar (b :: t)) = (if 65535 < loneU a then 2 else 1) + cnt (nar (b :: t)) := by simp [cnt]
    rw [e, h1, if_neg (by unfold loneU; split <;> omega)]
    simp only [List.length_cons]; omega
/-- runes, by their units, are read as they were -/
theorem nar_units : ∀ rs : List Nat, (∀ r ∈ rs, scalar r) → nar (rs.flatMap units) = rs
  | [], _ => rfl
  | r :: rs, h => by
    have hr := h r (by simp)
    have ih := nar_units rs (fun x hx => h x (by simp [hx]))
    rw [List.flatMap_cons]
    unfold scalar at hr
    by_cases hb : r < 65536
    · have e : units r = [r] := by unfold units; rw [if_pos hb]
      have hl : loneU r = r := by unfold loneU; rw [if_neg (by omega)]
      have hh : hiU r = false := by cases h : hiU r; · rfl
                                    · rw [hi_iff] at h; omega
      rw [e]
      show nar (r :: rs.flatMap units) = _
      cases hu : rs.flatMap units with
      | nil =>
        rw [hu] at ih
        rw [nar_nil] at ih
        rw [nar_one, hl, ← ih]
      | cons b t =>
        rw [nar_lone t (by rw [hh]; rfl), hl, ← hu, ih]
    · have e : units r = [55296 + (r - 65536) / 1024, 56320 + (r - 65536) % 1024] := by unfold units; rw [if_neg hb]
      rw [e]
      show nar (_ :: _ :: rs.flatMap units) = _
      rw [nar_pair _ (by rw [Bool.and_eq_true, hi_iff, lo_iff]; omega), ih]
      congr 1
      rw [pairR_def]; omega
/-- the units of bytes -/
def unitsOf : List UInt8 → List Nat
  | a :: b :: r => (a.toNat + 256 * b.toNat) :: unitsOf r
  | _ => []
theorem unitsOf_le : ∀ l : List UInt8, ∀ a ∈ unitsOf l, a ≤ 65535
  | [], _, h => by simp [unitsOf] at h
  | [_], _, h => by simp [unitsOf] at h
  | a :: b :: r, x, h => by
    have h1 := a.toNat_lt
    have h2 := b.toNat_lt
    rcases List.mem_cons.1 h with rfl | h
    · omega
    · exact unitsOf_le r x h
theorem unitsOf_len : ∀ l : List UInt8, (unitsOf l).length = l.length / 2
  | [] => rfl
  | [_] => by simp [unitsOf]
  | a :: b :: r => by
    have := unitsOf_len r
    simp only [unitsOf, List.length_cons, this]; omega
theorem unitsOf_wide : ∀ us : List Nat, (∀ u ∈ us, u ≤ 65535) → unitsOf (us.flatMap two) = us
  | [], _ => rfl
  | u :: us, h => by
    have hu := h u (by simp)
    rw [List.flatMap_cons]
    show unitsOf (UInt8.ofNat (u % 256) :: UInt8.ofNat (u / 256 % 256) :: us.flatMap two) = _
    simp only [unitsOf]
    rw [unitsOf_wide us (fun x hx => h x (by simp [hx]))]
    congr 1
    simp; omega
theorem units_le {r : Nat} (h : scalar r) : ∀ u ∈ units r, u ≤ 65535 := by
  unfold scalar at h
  intro u hu
  unfold units at hu
  split at hu
  · simp at hu; omega
  · simp at hu; omega
theorem wideR_flat (rs : List Nat) : wideR rs = (rs.flatMap units).flatMap two := by
  unfold wideR un
  rw [List.flatMap_assoc]
/-- what was told of runes is read so -/
theorem nar_wide (rs : List Nat) (h : ∀ r ∈ rs, scalar r) : nar (unitsOf (wideR rs)) = rs := by
  rw [wideR_flat, unitsOf_wide _ (fun u hu => by
    obtain ⟨r, hr, hu⟩ := List.mem_flatMap.1 hu
    exact units_le (h r hr) u hu), nar_units rs h]
end Go.Proofs.Ytmddfpmchcmgiaa.Utf
