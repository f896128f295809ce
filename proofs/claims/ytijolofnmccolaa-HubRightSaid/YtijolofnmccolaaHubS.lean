/- The law HubSticks, plainly: what of the changes is lost. -/
import Derived.Test.YtijolofnmccolaaHubX
namespace Go.Proofs.Ytijolofnmccolaa
open Go.RowKit Go.Proofs.Ytijolofnmccolaa.SetP
def oneN (q : Int) : Nat := if q = 0 then 0 else 1
theorem andNot_self {t : Int} (h : okC t) : bits .andNot .i64 t t = 0 := by
  unfold okC at h
  rcases h with rfl | rfl | rfl | rfl | rfl | rfl | rfl | rfl <;> decide
theorem plugP_sticks {s t : Int} (h : rightP s t) (b : Bool) : bits .andNot .i64 t (plugP s t b).2 = 0 := by
  obtain ⟨h1, h2⟩ := h
  unfold okS at h1
  unfold okC at h2
  rcases h1 with rfl | rfl | rfl | rfl | rfl <;> rcases h2 with rfl | rfl | rfl | rfl | rfl | rfl | rfl | rfl <;> cases b <;> decide
theorem tickP_sticks {s t : Int} (h : rightP s t) : bits .andNot .i64 t (tickP s t).2 = 0 := by
  obtain ⟨h1, h2⟩ := h
  unfold okS at h1
  unfold okC at h2
  rcases h1 with rfl | rfl | rfl | rfl | rfl <;> rcases h2 with rfl | rfl | rfl | rfl | rfl | rfl | rfl | rfl <;> decide
def small (q : Int) : Prop := q = 0 ∨ q = 1 ∨ q = 2 ∨ q = 16
theorem offP_sticks {s t f x y : Int} (h : rightP s t) (hx : offP s t f = some (x, y)) : bits .andNot .i64 y t = 0 ∧ small (bits .andNot .i64 t y) := by
  obtain ⟨_, h2⟩ := h
  unfold okC at h2
  unfold offP at hx
  split at hx
  · cases hx; exact ⟨andNot_self h2, .inl (andNot_self h2)⟩
  split at hx
  · cases hx; exact ⟨andNot_self h2, .inl (andNot_self h2)⟩
  split at hx
  · cases hx
    unfold small
    rcases h2 with rfl | rfl | rfl | rfl | rfl | rfl | rfl | rfl <;> decide
  split at hx
  · cases hx
    unfold small
    rcases h2 with rfl | rfl | rfl | rfl | rfl | rfl | rfl | rfl <;> decide
  split at hx
  · cases hx
    unfold small
    rcases h2 with rfl | rfl | rfl | rfl | rfl | rfl | rfl | rfl <;> decide
  · cases hx
/-- what was lost of the first ports -/
def lostTo (ps b : List Int) : Nat → Nat
  | 0 => 0
  | k + 1 => lostTo ps b k + oneN (bits .andNot .i64 (psT ps k) (psT b k))
theorem lost_step (ps b : List Int) (k : Nat) : lostTo ps b (k + 1) = lostTo ps b k + oneN (bits .andNot .i64 (psT ps k) (psT b k)) := rfl
theorem lost_le (ps b : List Int) : ∀ k, lostTo ps b k ≤ k
  | 0 => Nat.le_refl _
  | k + 1 => by
    have := lost_le ps b k
    rw [lost_step]
    unfold oneN
    split <;> omega
theorem lost_none {ps b : List Int} (h : ∀ k, k < 16 → bits .andNot .i64 (psT ps k) (psT b k) = 0) : ∀ k, k ≤ 16 → lostTo ps b k = 0
  | 0, _ => rfl
  | k + 1, hk => by rw [lost_step, lost_none h k (by omega), h k (by omega)]; rfl
theorem lost_one {ps b : List Int} (i : Nat) (h : ∀ k, k < 16 → k ≠ i → bits .andNot .i64 (psT ps k) (psT b k) = 0) : ∀ k, k ≤ 16 → lostTo ps b k ≤ 1 ∧ (k ≤ i → lostTo ps b k = 0)
  | 0, _ => ⟨Nat.zero_le 1, fun _ => rfl⟩
  | k + 1, hk => by
    obtain ⟨h1, h2⟩ := lost_one i h k (by omega)
    rw [lost_step]
    by_cases e : k = i
    · rw [h2 (by omega)]
      refine ⟨?_, fun _ => by omega⟩
      unfold oneN
      split <;> omega
    · rw [h k (by omega) e]
      exact ⟨h1, fun _ => h2 (by omega)⟩
structure Sticks (ps b : List Int) (s : ByteArray) (n : Int) : Prop where
  back : ∀ k, k < 16 → bits .andNot .i64 (psT b k) (psT ps k) = 0
  few : ∀ k, k < 16 → small (bits .andNot .i64 (psT ps k) (psT b k))
  one : lostTo ps b 16 ≤ 1
  who : lostTo ps b 16 ≠ 0 → n = 0 ∧ ∃ h : 1 < s.size, s[1] = 1
theorem right_at {c : Int} {ps : List Int} (hr : RightH c ps) (k : Nat) (hk : k < 16) : rightP (psS ps k) (psT ps k) := (hr.ok k hk).1
theorem sticks_same {c : Int} {ps b : List Int} (hr : RightH c ps) (h : ∀ k, k < 16 → psT b k = psT ps k) (s : ByteArray) (n : Int) : Sticks ps b s n := by
  have hz : ∀ k, k < 16 → bits .andNot .i64 (psT ps k) (psT b k) = 0 := fun k hk => by rw [h k hk]; exact andNot_self (right_at hr k hk).2
  refine ⟨fun k hk => by rw [h k hk]; exact andNot_self (right_at hr k hk).2, fun k hk => .inl (hz k hk), ?_, fun hne => ?_⟩
  · rw [lost_none hz 16 (Nat.le_refl _)]; decide
  · exact absurd (lost_none hz 16 (Nat.le_refl _)) hne
theorem ten_byte {s : ByteArray} (h : First s 10) : ∃ h : 1 < s.size, s[1] = 1 := by
  obtain ⟨hs, _, _, ⟨r, hr, _, e⟩, _⟩ := h
  have hr' : r = ⟨35, 1, 6, 5, 0⟩ := by
    have : rowI ((10 : Nat) : Int) = some ⟨35, 1, 6, 5, 0⟩ := rfl
    rw [this] at hr; cases hr; rfl
  subst hr'
  refine ⟨by omega, ?_⟩
  have e2 := congrArg (fun z => z.data.toList[1]?) e
  simp only [txt_size] at e2
  have e3 : s.data.toList[1]? = some (s[1]'(by omega)) := by
    rw [List.getElem?_eq_getElem (by simp; omega)]
    rfl
  rw [e3] at e2
  exact (Option.some.inj e2).symm
theorem ctl_sticks {c : Int} {ps b : List Int} {s t : ByteArray} {n : Int} (hr : RightH c ps) (hl : ps.length = 32) (h : Ctl c ps s b t n) : Sticks ps b s n := by
  cases h with
  | on h i hi h1 h2 x hx =>
    have := hr.c2
    refine sticks_same hr (fun k hk => ?_) s _
    by_cases e : k = i
    · subst e; exact (upd_at ps hl k hk _ _).2
    · exact (upd_get ps i k _ _ e).2
  | off h i hi h1 h2 x y hx =>
    have := hr.c2
    have hi16 : i < 16 := by omega
    have key := offP_sticks (right_at hr i hi16) hx
    have at_ : psT (upd ps i x y) i = y := (upd_at ps hl i hi16 x y).2
    have oth : ∀ k, k ≠ i → psT (upd ps i x y) k = psT ps k := fun k e => (upd_get ps i k x y e).2
    have hz : ∀ k, k < 16 → k ≠ i → bits .andNot .i64 (psT ps k) (psT (upd ps i x y) k) = 0 := fun k hk e => by rw [oth k e]; exact andNot_self (right_at hr k hk).2
    refine ⟨fun k hk => ?_, fun k hk => ?_, (lost_one i hz 16 (Nat.le_refl _)).1, fun _ => ⟨rfl, ten_byte h⟩⟩
    · by_cases e : k = i
      · subst e; rw [at_]; exact key.1
      · rw [oth k e]; exact andNot_self (right_at hr k hk).2
    · by_cases e : k = i
      · subst e; rw [at_]; exact key.2
      · exact .inl (hz k hk e)
  | _ => exact sticks_same hr (fun _ _ => rfl) s _
theorem plugR_sticks {c : Int} {ps : List Int} (hr : RightH c ps) (hl : ps.length = 32) (port : Int) (there : Bool) (k : Nat) (hk : k < 16) : bits .andNot .i64 (psT ps k) (psT (plugR c ps port there).1 k) = 0 := by
  have hs := andNot_self (right_at hr k hk).2
  unfold plugR
  rw [if_pos hr]
  by_cases h1 : 1 ≤ port ∧ port ≤ c
  · rw [if_pos h1]
    have := hr.c2
    by_cases h2 : psS ps port.toNat = 0
    · rw [if_pos h2]; exact hs
    · rw [if_neg h2]
      by_cases e : k = port.toNat
      · subst e
        rw [show psT (upd ps port.toNat _ _) port.toNat = _ from (upd_at ps hl _ hk _ _).2]
        exact plugP_sticks (right_at hr _ hk) there
      · rw [show psT (upd ps port.toNat _ _) k = _ from (upd_get ps _ k _ _ e).2]
        exact hs
  · rw [if_neg h1]; exact hs
theorem tickR_sticks {c : Int} {ps : List Int} (hr : RightH c ps) (hl : ps.length = 32) (k : Nat) (hk : k < 16) : bits .andNot .i64 (psT ps k) (psT (tickR c ps).1 k) = 0 := by
  rw [(tickR_yes hr).1, show psT (tick ps) k = _ from (tick_get ps hl k hk).2]
  exact tickP_sticks (right_at hr k hk)
end Go.Proofs.Ytijolofnmccolaa
