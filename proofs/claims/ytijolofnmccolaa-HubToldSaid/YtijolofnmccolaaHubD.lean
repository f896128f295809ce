/- Plug, Tick, Control whole, and twice. -/
import Derived.Test.YtijolofnmccolaaHubB
namespace Go.Proofs.Ytijolofnmccolaa
open Go.RowKit Classical Go.Proofs.Ytijolofnmccolaa.SetP
noncomputable def plugR (c : Int) (ps : List Int) (port : Int) (there : Bool) : List Int × Int :=
  if RightH c ps then (if 1 ≤ port ∧ port ≤ c then (if psS ps port.toNat = 0 then (ps, 8) else (upd ps port.toNat (plugP (psS ps port.toNat) (psT ps port.toNat) there).1 (plugP (psS ps port.toNat) (psT ps port.toNat) there).2, 0)) else (ps, 12)) else (ps, chk c ps)
noncomputable def tickR (c : Int) (ps : List Int) : List Int × Int := if RightH c ps then (tick ps, 0) else (ps, chk c ps)
def CtlAll (c : Int) (ps : List Int) (s : ByteArray) (a : List Int) (t : ByteArray) (n : Int) : Prop := (RightH c ps ∧ Ctl c ps s a t n) ∨ (¬ RightH c ps ∧ a = ps ∧ t = ⟨#[]⟩ ∧ n = chk c ps)
theorem plug_calls (c : Int) (ps : List Int) (hl : ps.length = 32) (hfit : Fit ps) (port : Int) (there : Bool) (w : World) : Calls Try.prog 12 #[HV c ps, .int .i64 port, .bool there] w (Gives c (plugR c ps port there).1 (plugR c ps port there).2 w) := by
  unfold plugR
  by_cases hr : RightH c ps
  · rw [if_pos hr]
    by_cases hp : 1 ≤ port ∧ port ≤ c
    · rw [if_pos hp]
      have hc := hr.c2
      obtain ⟨i, rfl⟩ : ∃ i : Nat, port = i := ⟨port.toNat, by omega⟩
      rw [Int.toNat_natCast]
      have hi : i < 16 := by omega
      have e1 : psS ps i = ps[i * 2]'(by omega) := getD_at _ _ (by omega)
      have e2 : psT ps i = ps[i * 2 + 1]'(by omega) := getD_at _ _ (by omega)
      by_cases h0 : psS ps i = 0
      · rw [if_pos h0]
        exact plug_stall c ps hl hfit i there w hr hp.1 hp.2 hi (by rw [← e1]; exact h0)
      · rw [if_neg h0]
        refine plug_in c ps hl hfit i there (psS ps i) (psT ps i) w hr hp.1 hp.2 hi e1.symm e2.symm ?_
        have := (hr.ok i hi).1.1
        unfold okS at this
        rcases this with h | h | h | h | h
        · exact absurd h h0
        · exact .inl h
        · exact .inr (.inl h)
        · exact .inr (.inr (.inl h))
        · exact .inr (.inr (.inr h))
    · rw [if_neg hp]
      exact plug_none c ps hl hfit port there w hr (by omega)
  · rw [if_neg hr]
    exact plug_bad c ps hl hfit port there w hr
theorem tickR_yes {c : Int} {ps : List Int} (hr : RightH c ps) : (tickR c ps).1 = tick ps ∧ (tickR c ps).2 = 0 := by
  unfold tickR
  generalize tick ps = q
  rw [if_pos hr]; exact ⟨rfl, rfl⟩
theorem tickR_no {c : Int} {ps : List Int} (hr : ¬ RightH c ps) : (tickR c ps).1 = ps ∧ (tickR c ps).2 = chk c ps := by
  unfold tickR
  generalize tick ps = q
  rw [if_neg hr]; exact ⟨rfl, rfl⟩
theorem tick_calls (c : Int) (ps : List Int) (hl : ps.length = 32) (hfit : Fit ps) (w : World) : Calls Try.prog 13 #[HV c ps] w (Gives c (tickR c ps).1 (tickR c ps).2 w) := by
  by_cases hr : RightH c ps
  · rw [(tickR_yes hr).1, (tickR_yes hr).2]; exact tick_good c ps hl hfit w hr
  · rw [(tickR_no hr).1, (tickR_no hr).2]; exact tick_bad c ps hl hfit w hr
theorem ctl_calls (c : Int) (ps : List Int) (hl : ps.length = 32) (hfit : Fit ps) (s : ByteArray) (w : World) : Calls Try.prog 10 #[HV c ps, .string s] w fun e w' => ∃ a t n, CtlAll c ps s a t n ∧ CtlRet c a t n w e w' := by
  by_cases hr : RightH c ps
  · refine (ctl_good c ps hl hfit s w hr).mono ?_
    rintro e w' ⟨a, t, n, h1, h2⟩
    exact ⟨a, t, n, .inl ⟨hr, h1⟩, h2⟩
  · refine (ctl_bad c ps hl hfit s w hr).mono ?_
    intro e w' h
    exact ⟨ps, ⟨#[]⟩, chk c ps, .inr ⟨hr, rfl, rfl, rfl⟩, h⟩
theorem plugR_keeps (c : Int) (ps : List Int) (hl : ps.length = 32) (hfit : Fit ps) (port : Int) (there : Bool) : (plugR c ps port there).1.length = 32 ∧ Fit (plugR c ps port there).1 ∧ (RightH c ps → RightH c (plugR c ps port there).1) := by
  unfold plugR
  by_cases hr : RightH c ps
  · rw [if_pos hr]
    by_cases hp : 1 ≤ port ∧ port ≤ c
    · rw [if_pos hp]
      have hc := hr.c2
      obtain ⟨i, rfl⟩ : ∃ i : Nat, port = i := ⟨port.toNat, by omega⟩
      rw [Int.toNat_natCast]
      by_cases h0 : psS ps i = 0
      · rw [if_pos h0]; exact ⟨hl, hfit, fun h => h⟩
      · rw [if_neg h0]
        have hq := plugP_right (hr.ok i (by omega)).1 h0 there
        exact ⟨by rw [upd_len, hl], fit_upd hfit i (right_bd hq).1 (right_bd hq).2, fun h => right_upd h hl hp.1 hp.2 hq⟩
    · rw [if_neg hp]; exact ⟨hl, hfit, fun h => h⟩
  · rw [if_neg hr]; exact ⟨hl, hfit, fun h => h⟩
theorem plugP_twice {s t : Int} (h : rightP s t) (h0 : s ≠ 0) (b : Bool) : plugP (plugP s t b).1 (plugP s t b).2 b = plugP s t b ∧ (plugP s t b).1 ≠ 0 := by
  obtain ⟨hs, ht⟩ := h
  unfold okS at hs; unfold okC at ht
  rcases hs with rfl | rfl | rfl | rfl | rfl
  · exact absurd rfl h0
  all_goals
    rcases ht with rfl | rfl | rfl | rfl | rfl | rfl | rfl | rfl <;> cases b <;> decide
theorem upd_again (ps : List Int) (i : Nat) (s t : Int) : upd (upd ps i s t) i s t = upd ps i s t := by
  unfold upd
  rw [List.set_comm t s (show i * 2 + 1 ≠ i * 2 by omega), List.set_set, List.set_set]
theorem plugR_twice (c : Int) (ps : List Int) (hl : ps.length = 32) (hfit : Fit ps) (port : Int) (there : Bool) : plugR c (plugR c ps port there).1 port there = plugR c ps port there := by
  have hk := (plugR_keeps c ps hl hfit port there).2.2
  by_cases hr : RightH c ps
  · have hr2 := hk hr
    by_cases hp : 1 ≤ port ∧ port ≤ c
    · have hc := hr.c2
      obtain ⟨i, rfl⟩ : ∃ i : Nat, port = i := ⟨port.toNat, by omega⟩
      by_cases h0 : psS ps i = 0
      · have e : plugR c ps i there = (ps, 8) := by unfold plugR; rw [if_pos hr, if_pos hp, Int.toNat_natCast, if_pos h0]
        rw [e]; exact e
      · have e : plugR c ps i there = (upd ps i (plugP (psS ps i) (psT ps i) there).1 (plugP (psS ps i) (psT ps i) there).2, 0) := by unfold plugR; rw [if_pos hr, if_pos hp, Int.toNat_natCast, if_neg h0]
        rw [e] at hr2 ⊢
        simp only at hr2 ⊢
        obtain ⟨t1, t2⟩ := plugP_twice (hr.ok i (by omega)).1 h0 there
        obtain ⟨g1, g2⟩ := upd_at ps hl i (by omega) (plugP (psS ps i) (psT ps i) there).1 (plugP (psS ps i) (psT ps i) there).2
        generalize hq : plugP (psS ps i) (psT ps i) there = q at *
        have t1' : plugP q.1 q.2 there = q := by
          have : plugP (plugP (psS ps i) (psT ps i) there).1 (plugP (psS ps i) (psT ps i) there).2 there = plugP (psS ps i) (psT ps i) there := t1
          rw [hq] at this; exact this
        have t2' : q.1 ≠ 0 := by
          have : (plugP (psS ps i) (psT ps i) there).1 ≠ 0 := t2
          rw [hq] at this; exact this
        unfold plugR
        rw [if_pos hr2, if_pos hp, Int.toNat_natCast]
        rw [show psS (upd ps i q.1 q.2) i = q.1 from g1, show psT (upd ps i q.1 q.2) i = q.2 from g2, if_neg t2', t1', upd_again]
    · have e : plugR c ps port there = (ps, 12) := by unfold plugR; rw [if_pos hr, if_neg hp]
      rw [e]; exact e
  · have e : plugR c ps port there = (ps, chk c ps) := by unfold plugR; rw [if_neg hr]
    rw [e]; exact e
theorem on_twice {s f x : Int} (h : okS s) (hx : onP s f = some x) : onP x f = some x := by
  unfold onP at hx
  unfold okS at h
  split at hx
  · rename_i hf
    cases hx; subst hf
    rcases h with rfl | rfl | rfl | rfl | rfl <;> decide
  · split at hx
    · rename_i hc
      cases hx
      obtain ⟨rfl, h1⟩ := hc
      rcases h with rfl | rfl | rfl | rfl | rfl
      · exact absurd h1 (by decide)
      · exact absurd h1 (by decide)
      all_goals decide
    · cases hx
theorem off_twice {s t f x y : Int} (h : rightP s t) (hx : offP s t f = some (x, y)) : offP x y f = some (x, y) := by
  obtain ⟨hs, ht⟩ := h
  unfold offP at hx
  unfold okS at hs
  unfold okC at ht
  split at hx
  · rename_i hf; cases hx; subst hf; rcases hs with rfl | rfl | rfl | rfl | rfl <;> rfl
  split at hx
  · rename_i hf; cases hx; subst hf; rfl
  split at hx
  · rename_i hf; cases hx; subst hf; rcases ht with rfl | rfl | rfl | rfl | rfl | rfl | rfl | rfl <;> rfl
  split at hx
  · rename_i hf; cases hx; subst hf; rcases ht with rfl | rfl | rfl | rfl | rfl | rfl | rfl | rfl <;> rfl
  split at hx
  · rename_i hf; cases hx; subst hf; rcases ht with rfl | rfl | rfl | rfl | rfl | rfl | rfl | rfl <;> rfl
  · cases hx
theorem ctl_twice {c : Int} {ps a a' : List Int} {s t t' : ByteArray} {n n' : Int} (hl : ps.length = 32) (h : CtlAll c ps s a t n) (hra : RightH c ps → RightH c a) (g : CtlAll c a s a' t' n') : a' = a ∧ n' = n := by
  rcases h with ⟨hr, h⟩ | ⟨hr, rfl, rfl, rfl⟩
  · have hr2 := hra hr
    rcases g with ⟨_, g⟩ | ⟨hn, _⟩
    · have same (he : a = ps) : a' = a ∧ n' = n := by
        subst he
        obtain ⟨e1, _, e2⟩ := ctl_one h g
        exact ⟨e1.symm, e2.symm⟩
      have h16 {i : Nat} (h2 : (i : Int) ≤ c) : i < 16 := by have := hr.c2; omega
      cases h with
      | on h i hi h1 h2 x hx =>
        obtain ⟨g1, g2⟩ := upd_at ps hl i (h16 h2) x (psT ps i)
        have := Ctl.on (c := c) (ps := upd ps i x (psT ps i)) h i hi h1 h2 x (by
          rw [show psS (upd ps i x (psT ps i)) i = x from g1]
          exact on_twice (hr.ok i (h16 h2)).1.1 hx)
        rw [show psT (upd ps i x (psT ps i)) i = psT ps i from g2, upd_again] at this
        obtain ⟨e1, _, e2⟩ := ctl_one this g
        exact ⟨e1.symm, e2.symm⟩
      | off h i hi h1 h2 x y hx =>
        obtain ⟨g1, g2⟩ := upd_at ps hl i (h16 h2) x y
        have := Ctl.off (c := c) (ps := upd ps i x y) h i hi h1 h2 x y (by
          rw [show psS (upd ps i x y) i = x from g1, show psT (upd ps i x y) i = y from g2]
          exact off_twice (hr.ok i (h16 h2)).1 hx)
        rw [upd_again] at this
        obtain ⟨e1, _, e2⟩ := ctl_one this g
        exact ⟨e1.symm, e2.symm⟩
      | _ => exact same rfl
    · exact absurd hr2 hn
  · rcases g with ⟨hr2, _⟩ | ⟨_, rfl, rfl, rfl⟩
    · exact absurd hr2 hr
    · exact ⟨rfl, rfl⟩
end Go.Proofs.Ytijolofnmccolaa
