/- Slots of a board, plainly: one slot put anew; what a command does. -/
import Derived.Test.YtidcbboonjenhaaSltP
namespace Go.Proofs.Ytidcbboonjenhaa.Slt
open Go.RowKit Classical
/-- the board with slot i as x -/
def put (l : List Int) (i : Nat) (x : List Int) : List Int := l.take (i * 66) ++ x ++ l.drop (i * 66 + 66)
theorem put_len (l : List Int) (hl : l.length = 594) (i : Nat) (hi : i < 9) (x : List Int) (hx : x.length = 66) : (put l i x).length = 594 := by
  unfold put; rw [List.length_append, List.length_append, List.length_take, List.length_drop, hl, hx]; omega
theorem G_app (a b : List Int) (j : Nat) : G (a ++ b) j = if j < a.length then G a j else G b (j - a.length) := by
  unfold G
  simp only [List.getD_eq_getElem?_getD, List.getElem?_append]
  split <;> rfl
theorem G_take (a : List Int) (n j : Nat) (h : j < n) : G (a.take n) j = G a j := by
  unfold G
  rw [List.getD_eq_getElem?_getD, List.getD_eq_getElem?_getD, List.getElem?_take, if_pos h]
theorem G_drop (a : List Int) (n j : Nat) : G (a.drop n) j = G a (n + j) := by
  unfold G
  rw [List.getD_eq_getElem?_getD, List.getD_eq_getElem?_getD, List.getElem?_drop]
theorem G_put (l : List Int) (hl : l.length = 594) (i : Nat) (hi : i < 9) (x : List Int) (hx : x.length = 66) (j : Nat) : G (put l i x) j = if i * 66 ≤ j ∧ j < i * 66 + 66 then G x (j - i * 66) else G l j := by
  unfold put
  have h1 : (l.take (i * 66)).length = i * 66 := by rw [List.length_take]; omega
  rw [G_app, G_app, List.length_append, h1, hx]
  by_cases a : j < i * 66
  · rw [if_pos (by omega), if_pos a, if_neg (by omega), G_take _ _ _ a]
  · by_cases b : j < i * 66 + 66
    · rw [if_pos b, if_neg a, if_pos ⟨by omega, b⟩]
    · rw [if_neg b, if_neg (by omega), G_drop]; congr 1; omega
theorem G_put_in (l : List Int) (hl : l.length = 594) (i : Nat) (hi : i < 9) (x : List Int) (hx : x.length = 66) (j : Nat) (hj : j < 66) : G (put l i x) (i * 66 + j) = G x j := by
  rw [G_put l hl i hi x hx, if_pos ⟨by omega, by omega⟩]; congr 1; omega
theorem G_put_out (l : List Int) (hl : l.length = 594) (i : Nat) (hi : i < 9) (x : List Int) (hx : x.length = 66) (k j : Nat) (hj : j < 66) (hk : k ≠ i) : G (put l i x) (k * 66 + j) = G l (k * 66 + j) := by
  rw [G_put l hl i hi x hx, if_neg (by omega)]
theorem put_set (l : List Int) (hl : l.length = 594) (i : Nat) (hi : i < 9) (x : List Int) (hx : x.length = 66) (j : Nat) (hj : j < 66) (v : Int) : (put l i x).set (i * 66 + j) v = put l i (x.set j v) := by
  refine G_ext (by rw [List.length_set, put_len l hl i hi x hx, put_len l hl i hi _ (by rw [List.length_set, hx])]) fun k hk => ?_
  rw [G_set _ _ _ _ (by rw [put_len l hl i hi x hx]; omega), G_put l hl i hi x hx, G_put l hl i hi _ (by rw [List.length_set, hx])]
  by_cases a : i * 66 ≤ k ∧ k < i * 66 + 66
  · rw [if_pos a, if_pos a, G_set _ _ _ _ (by omega)]
    by_cases b : k = i * 66 + j
    · rw [if_pos b, if_pos (by omega)]
    · rw [if_neg b, if_neg (by omega)]
  · rw [if_neg a, if_neg a, if_neg (by omega)]
theorem put_at (l : List Int) (hl : l.length = 594) (i : Nat) (hi : i < 9) : put l i (at_ l i) = l := by
  have ha := at_len l hl i hi
  refine G_ext (by rw [put_len l hl i hi _ ha, hl]) fun k hk => ?_
  rw [G_put l hl i hi _ ha]
  split
  · next a => rw [G_at _ _ _ (by omega)]; congr 1; omega
  · rfl
theorem put_put (l : List Int) (hl : l.length = 594) (i : Nat) (hi : i < 9) (x y : List Int) (hx : x.length = 66) (hy : y.length = 66) : put (put l i x) i y = put l i y := by
  have hp := put_len l hl i hi x hx
  refine G_ext (by rw [put_len _ hp i hi y hy, put_len l hl i hi y hy]) fun k hk => ?_
  rw [G_put _ hp i hi y hy, G_put l hl i hi y hy]
  split
  · rfl
  · next a => rw [G_put l hl i hi x hx, if_neg a]
theorem at_put (l : List Int) (hl : l.length = 594) (i : Nat) (hi : i < 9) (x : List Int) (hx : x.length = 66) : at_ (put l i x) i = x := by
  have hp := put_len l hl i hi x hx
  refine G_ext (by rw [at_len _ hp i hi, hx]) fun k hk => ?_
  rw [at_len _ hp i hi] at hk
  rw [G_at _ _ _ hk, G_put_in l hl i hi x hx k hk]
theorem at_put_ne (l : List Int) (hl : l.length = 594) (i : Nat) (hi : i < 9) (x : List Int) (hx : x.length = 66) (k : Nat) (hk : k < 9) (hne : k ≠ i) : at_ (put l i x) k = at_ l k := by
  have hp := put_len l hl i hi x hx
  refine G_ext (by rw [at_len _ hp k hk, at_len l hl k hk]) fun j hj => ?_
  rw [at_len _ hp k hk] at hj
  rw [G_at _ _ _ hj, G_at _ _ _ hj, G_put_out l hl i hi x hx k j hj hne]
/-- the first slot that is off -/
def FirstOff (l : List Int) (i : Nat) : Prop := 1 ≤ i ∧ i < 9 ∧ G l (i * 66) = 0 ∧ ∀ j, 1 ≤ j → j < i → G l (j * 66) ≠ 0
def NoneOff (l : List Int) : Prop := ∀ j, 1 ≤ j → j < 9 → G l (j * 66) ≠ 0
/-- the least address from one on that no slot has -/
def Least (l : List Int) (a : Nat) : Prop := 1 ≤ a ∧ (∀ i, i < 9 → G l (i * 66 + 1) ≠ a) ∧ ∀ b : Nat, 1 ≤ b → b < a → ∃ i, i < 9 ∧ G l (i * 66 + 1) = b
/-- a slot that was given an address -/
def called (x : List Int) (a : Int) : List Int := ((x.set 0 2).set 1 a).set 3 1
/-- a slot that was configured -/
structure Conf (x : List Int) (s : Int) (y : List Int) : Prop where
  len : y.length = 66
  st : G y 0 = if s = 0 then 2 else 3
  ad : G y 1 = G x 1
  low : ∀ k, k < 2 → G y (2 + k) = G x (2 + k) ∧ G y (34 + k) = G x (34 + k)
  off : ∀ k, 2 ≤ k → k < 32 → s.toNat.testBit k = false → G y (2 + k) = 0 ∧ G y (34 + k) = 0
  on : ∀ k, 2 ≤ k → k < 32 → s.toNat.testBit k = true → G y (2 + k) = (if G x (2 + k) = 0 then 1 else G x (2 + k)) ∧ G y (34 + k) = G x (34 + k)
/-- what an endpoint's command answers -/
noncomputable def endCode (x : List Int) (k e a : Int) : Int :=
  if e < 1 ∨ 31 < e then 5 else if G x (2 + e.toNat) = 0 then 12
  else if (k = 6 ∧ G x (2 + e.toNat) = 2) ∨ (k = 7 ∧ G x (2 + e.toNat) = 1) then 1
  else if k = 8 ∧ (a < 0 ∨ 65535 < a) then 17
  else if (k = 8 ∧ G x (2 + e.toNat) = 3) ∨ (k = 9 ∧ (G x (2 + e.toNat) = 3 ∨ G x (2 + e.toNat) = 1)) then 1 else 19
noncomputable def endMade (x : List Int) (k e a : Int) : List Int :=
  if k = 6 ∨ k = 7 then x.set (2 + e.toNat) 3 else if k = 8 then x.set (34 + e.toNat) a else x.set (2 + e.toNat) 1
noncomputable def confCode (x : List Int) (a : Int) : Int :=
  if a < 0 ∨ 4294967296 ≤ a ∨ a % 4 ≠ 0 then 17 else if G x 0 = 1 then 19 else 1
/-- what a slot's command answers -/
noncomputable def cmdCode (x : List Int) (k e a : Int) : Int :=
  if G x 0 = 0 then 11 else if k = 3 then 1 else if k = 4 then (if G x 0 = 1 then 1 else 19)
  else if k = 5 then confCode x a else endCode x k e a
/-- what a slot's command makes of it -/
inductive Made (l : List Int) (n : Nat) (k e a : Int) : List Int → Prop
  | off : k = 3 → Made l n k e a (0 :: zs)
  | call (ad : Nat) : k = 4 → Least l ad → Made l n k e a (called (at_ l n) ad)
  | conf (y : List Int) : k = 5 → Conf (at_ l n) a y → Made l n k e a y
  | ends : 6 ≤ k → Made l n k e a (endMade (at_ l n) k e a)
/-- what Do does: the board behind it, the code, the slot -/
inductive Did (l : List Int) (k s e a : Int) : List Int → Int → Int → Prop
  | bad : ¬ Ok l → Did l k s e a l 0 0
  | noop : Ok l → k = 1 → Did l k s e a l 1 0
  | enable (i : Nat) : Ok l → k = 2 → FirstOff l i → Did l k s e a (l.set (i * 66) 1) 1 i
  | full : Ok l → k = 2 → NoneOff l → Did l k s e a l 9 0
  | trb : Ok l → k ≠ 1 → k ≠ 2 → (k < 1 ∨ 9 < k ∨ s < 1 ∨ 8 < s) → Did l k s e a l 5 0
  | done (n : Nat) (y : List Int) : Ok l → 3 ≤ k → k ≤ 9 → s = n → 1 ≤ n → n ≤ 8 → cmdCode (at_ l n) k e a = 1 → Made l n k e a y → Did l k s e a (put l n y) 1 s
  | refused (n : Nat) : Ok l → 3 ≤ k → k ≤ 9 → s = n → 1 ≤ n → n ≤ 8 → cmdCode (at_ l n) k e a ≠ 1 → Did l k s e a l (cmdCode (at_ l n) k e a) s
/-- what Halt does -/
inductive Halted (l : List Int) (s e : Int) : List Int → Prop
  | no : ¬ (Ok l ∧ 1 ≤ s ∧ s ≤ 8 ∧ 1 ≤ e ∧ e ≤ 31 ∧ G l (s.toNat * 66 + 2 + e.toNat) = 1) → Halted l s e l
  | yes : Ok l → 1 ≤ s → s ≤ 8 → 1 ≤ e → e ≤ 31 → G l (s.toNat * 66 + 2 + e.toNat) = 1 → Halted l s e (l.set (s.toNat * 66 + 2 + e.toNat) 2)
/-- of n + 1 numbers under n two are alike -/
theorem pigeon : ∀ (n : Nat) (f : Nat → Nat), (∀ b, b < n + 1 → f b < n) → ∃ b c, b < c ∧ c < n + 1 ∧ f b = f c := by
  intro n
  induction n with
  | zero => intro f h; exact absurd (h 0 (by omega)) (by omega)
  | succ n ih =>
    intro f h
    by_cases hx : ∃ b, b < n + 1 ∧ f b = f (n + 1)
    · obtain ⟨b, h1, h2⟩ := hx; exact ⟨b, n + 1, h1, by omega, h2⟩
    · have hne : ∀ b, b < n + 1 → f b ≠ f (n + 1) := fun b hb e => hx ⟨b, hb, e⟩
      obtain ⟨b, c, h1, h2, h3⟩ := ih (fun b => if f b < f (n + 1) then f b else f b - 1) (fun b hb => by
        have := h b (by omega); have := h (n + 1) (by omega); have := hne b hb
        show (if f b < f (n + 1) then f b else f b - 1) < n
        split <;> omega)
      refine ⟨b, c, h1, by omega, ?_⟩
      have e1 := hne b (by omega); have e2 := hne c (by omega)
      split at h3 <;> split at h3 <;> omega
theorem hit_le {l : List Int} {a : Nat} (h : ∀ b : Nat, 1 ≤ b → b < a → ∃ i, i < 9 ∧ G l (i * 66 + 1) = b) : a ≤ 10 := by
  apply Classical.byContradiction
  intro hn
  let f : Nat → Nat := fun b => if hb : 1 ≤ b + 1 ∧ b + 1 < a then Classical.choose (h (b + 1) hb.1 hb.2) else 0
  obtain ⟨b, c, h1, h2, h3⟩ := pigeon 9 f (fun b hb => by
    show (if hb : 1 ≤ b + 1 ∧ b + 1 < a then Classical.choose (h (b + 1) hb.1 hb.2) else 0) < 9
    rw [dif_pos ⟨by omega, by omega⟩]
    exact (Classical.choose_spec (h (b + 1) (by omega) (by omega))).1)
  have e : ∀ b, b < 10 → G l (f b * 66 + 1) = ((b + 1 : Nat) : Int) := fun b hb => by
    show G l ((if hb : 1 ≤ b + 1 ∧ b + 1 < a then Classical.choose (h (b + 1) hb.1 hb.2) else 0) * 66 + 1) = _
    rw [dif_pos ⟨by omega, by omega⟩]
    exact (Classical.choose_spec (h (b + 1) (by omega) (by omega))).2
  have e1 := e b (by omega); have e2 := e c (by omega)
  rw [h3] at e1
  omega
theorem called_len (x : List Int) (a : Int) : (called x a).length = x.length := by simp [called]
theorem zs_at (v : Int) (j : Nat) (h : 1 ≤ j) : G (v :: zs) j = 0 := by
  obtain ⟨k, rfl⟩ : ∃ k, j = k + 1 := ⟨j - 1, by omega⟩
  unfold G zs
  rw [List.getD_eq_getElem?_getD, List.getElem?_cons_succ, List.getElem?_replicate]; split <;> rfl
theorem zs_ok : SlotOk (0 :: zs) := .inl ⟨by decide, by decide, fun j h _ => zs_at 0 j h⟩
theorem one_ok : SlotOk (1 :: zs) := .inl ⟨by decide, by decide, fun j h _ => zs_at 1 j h⟩
theorem G_called (x : List Int) (hx : x.length = 66) (a : Int) (j : Nat) : G (called x a) j = if j = 3 then 1 else if j = 1 then a else if j = 0 then 2 else G x j := by
  unfold called
  rw [G_set _ _ _ _ (by simp [hx]), G_set _ _ _ _ (by simp [hx]), G_set _ _ _ _ (by omega)]
theorem called_ok (x : List Int) (hx : x.length = 66) (h : SlotOk x) (h1 : G x 0 = 1) (a : Int) (ha : 1 ≤ a) (hb : a ≤ 127) : SlotOk (called x a) := by
  have hz : ∀ j, 1 ≤ j → j < 66 → G x j = 0 := by
    rcases h with ⟨_, _, h⟩ | ⟨h, _⟩
    · exact h
    · omega
  have g : ∀ j, 1 ≤ j → j < 66 → j ≠ 3 → j ≠ 1 → G (called x a) j = 0 := fun j h1 h2 h3 h4 => by
    rw [G_called x hx, if_neg h3, if_neg h4, if_neg (by omega), hz j h1 h2]
  have g0 : G (called x a) 0 = 2 := by rw [G_called x hx]; rfl
  have g1 : G (called x a) 1 = a := by rw [G_called x hx]; rfl
  have g3 : G (called x a) 3 = 1 := by rw [G_called x hx]; rfl
  refine .inr ⟨by rw [g0]; decide, ⟨by rw [g0]; decide, by rw [g1]; exact ha, by rw [g1]; exact hb, by rw [g3]; decide, g 2 (by omega) (by omega) (by omega) (by omega), g 34 (by omega) (by omega) (by omega) (by omega), ?_, ?_⟩⟩
  · intro i i1 i2
    rw [g (34 + i) (by omega) (by omega) (by omega) (by omega)]
    by_cases e : i = 1
    · subst e; rw [g3]; exact ⟨by decide, by decide, by decide, by decide, fun h => absurd h (by decide)⟩
    · rw [g (2 + i) (by omega) (by omega) (by omega) (by omega)]; exact ⟨by decide, by decide, by decide, by decide, fun _ => rfl⟩
  · constructor
    · rintro ⟨i, i1, i2, i3⟩; exact absurd (g (2 + i) (by omega) (by omega) (by omega) (by omega)) i3
    · intro h; rw [g0] at h; omega
theorem bit_some (s : Nat) (hs : s ≠ 0) (h4 : s % 4 = 0) (hlt : s < 4294967296) : ∃ k, 2 ≤ k ∧ k < 32 ∧ s.testBit k = true := by
  apply Classical.byContradiction
  intro hn
  apply hs
  apply Nat.eq_of_testBit_eq
  intro i
  rw [Nat.zero_testBit]
  by_cases a : i < 2
  · have : (s % 2 ^ 2).testBit i = s.testBit i := by rw [Nat.testBit_mod_two_pow]; simp [a]
    rw [← this, show s % 2 ^ 2 = 0 from h4, Nat.zero_testBit]
  · by_cases b : i < 32
    · cases hb : s.testBit i
      · rfl
      · exact absurd ⟨i, by omega, b, hb⟩ hn
    · exact Nat.testBit_lt_two_pow (Nat.lt_of_lt_of_le hlt (by
        have := Nat.pow_le_pow_right (n := 2) (by decide) (show 32 ≤ i by omega)
        exact this))
theorem conf_ok (x : List Int) (_hx : x.length = 66) (h : SlotOk x) (h0 : G x 0 ≠ 0) (s : Int) (hc : confCode x s = 1) (y : List Int) (hy : Conf x s y) : SlotOk y := by
  unfold confCode at hc
  split at hc
  · omega
  next hs =>
  split at hc
  · omega
  next h1 =>
  have hC : Called x := by
    rcases h with ⟨a, b, _⟩ | ⟨_, h⟩
    · omega
    · exact h
  have g0 := hy.st
  have e1 := hy.low 1 (by omega)
  have e0 := hy.low 0 (by omega)
  refine .inr ⟨by rw [g0]; split <;> omega, ⟨by rw [g0]; split <;> omega, by rw [hy.ad]; exact hC.a1, by rw [hy.ad]; exact hC.a2, by rw [e1.1]; exact hC.e1, by rw [e0.1]; exact hC.e0, by rw [e0.2]; exact hC.m0, ?_, ?_⟩⟩
  · intro i i1 i2
    have hE := hC.ends i i1 i2
    by_cases a : i < 2
    · rw [(hy.low i a).1, (hy.low i a).2]; exact hE
    · cases hb : s.toNat.testBit i
      · have := hy.off i (by omega) i2 hb
        rw [this.1, this.2]; exact ⟨by decide, by decide, by decide, by decide, fun _ => rfl⟩
      · have := hy.on i (by omega) i2 hb
        rw [this.1, this.2]
        obtain ⟨q1, q2, q3, q4, q5⟩ := hE
        refine ⟨?_, ?_, q3, q4, ?_⟩ <;> split <;> omega
  · rw [g0]
    constructor
    · rintro ⟨i, i1, i2, i3⟩
      split
      · next hz =>
        subst hz
        exact absurd (hy.off i i1 i2 (by simp)).1 i3
      · rfl
    · intro h3
      have hz : s ≠ 0 := by intro e; rw [if_pos e] at h3; omega
      obtain ⟨k, k1, k2, k3⟩ := bit_some s.toNat (by omega) (by omega) (by omega)
      refine ⟨k, k1, k2, ?_⟩
      rw [(hy.on k k1 k2 k3).1]
      split <;> omega
theorem endMade_len (x : List Int) (k e a : Int) : (endMade x k e a).length = x.length := by
  unfold endMade; split <;> (try split) <;> simp
theorem ends_ok (x : List Int) (hx : x.length = 66) (h : SlotOk x) (_h0 : G x 0 ≠ 0) (k e a : Int) (hc : endCode x k e a = 1) : SlotOk (endMade x k e a) ∧ G (endMade x k e a) 0 = G x 0 ∧ G (endMade x k e a) 1 = G x 1 := by
  unfold endCode at hc
  split at hc
  · omega
  next he =>
  split at hc
  · omega
  next hz =>
  obtain ⟨n, rfl⟩ : ∃ n : Nat, e = n := ⟨e.toNat, by omega⟩
  simp only [Int.toNat_natCast] at hz hc
  have hC : Called x := by
    rcases h with ⟨a, b, h⟩ | ⟨_, h⟩
    · exact absurd (h (2 + n) (by omega) (by omega)) hz
    · exact h
  have hst : 1 < G x 0 := by
    rcases h with ⟨a, b, h⟩ | ⟨h, _⟩
    · exact absurd (h (2 + n) (by omega) (by omega)) hz
    · exact h
  have key : ∀ v, 1 ≤ v → v ≤ 3 → SlotOk (x.set (2 + n) v) ∧ G (x.set (2 + n) v) 0 = G x 0 ∧ G (x.set (2 + n) v) 1 = G x 1 := by
    intro v v1 v2
    have g : ∀ j, G (x.set (2 + n) v) j = if j = 2 + n then v else G x j := fun j => G_set _ _ _ _ (by omega)
    have g0 : G (x.set (2 + n) v) 0 = G x 0 := by rw [g, if_neg (by omega)]
    have g1 : G (x.set (2 + n) v) 1 = G x 1 := by rw [g, if_neg (by omega)]
    refine ⟨.inr ⟨by rw [g0]; exact hst, ⟨by rw [g0]; exact hC.st, by rw [g1]; exact hC.a1, by rw [g1]; exact hC.a2, ?_, ?_, ?_, ?_, ?_⟩⟩, g0, g1⟩
    · rw [g]; split
      · omega
      · exact hC.e1
    · rw [g, if_neg (by omega)]; exact hC.e0
    · rw [g, if_neg (by omega)]; exact hC.m0
    · intro i i1 i2
      have := hC.ends i i1 i2
      rw [g (34 + i), if_neg (by omega), g]
      split
      · next q =>
        obtain rfl : i = n := by omega
        exact ⟨by omega, v2, this.2.2.1, this.2.2.2.1, fun q => absurd q (by omega)⟩
      · exact this
    · rw [g0, ← hC.more]
      constructor
      · rintro ⟨i, i1, i2, i3⟩
        rw [g] at i3
        split at i3
        · next q => obtain rfl : i = n := by omega
                    exact ⟨i, i1, i2, hz⟩
        · exact ⟨i, i1, i2, i3⟩
      · rintro ⟨i, i1, i2, i3⟩
        refine ⟨i, i1, i2, ?_⟩
        rw [g]; split
        · omega
        · exact i3
  unfold endMade
  simp only [Int.toNat_natCast]
  split
  · exact key 3 (by omega) (by omega)
  split
  · next h67 h8 =>
    have hr : ¬ (a < 0 ∨ 65535 < a) := by
      intro q; rw [if_neg (by omega), if_pos ⟨h8, q⟩] at hc; omega
    have g : ∀ j, G (x.set (34 + n) a) j = if j = 34 + n then a else G x j := fun j => G_set _ _ _ _ (by omega)
    have g' : ∀ j, j < 35 → G (x.set (34 + n) a) j = G x j := fun j hj => by rw [g, if_neg (by omega)]
    refine ⟨.inr ⟨by rw [g' 0 (by omega)]; exact hst, ⟨by rw [g' 0 (by omega)]; exact hC.st, by rw [g' 1 (by omega)]; exact hC.a1, by rw [g' 1 (by omega)]; exact hC.a2, by rw [g' 3 (by omega)]; exact hC.e1, by rw [g' 2 (by omega)]; exact hC.e0, by rw [g' 34 (by omega)]; exact hC.m0, ?_, ?_⟩⟩, g' 0 (by omega), g' 1 (by omega)⟩
    · intro i i1 i2
      have := hC.ends i i1 i2
      rw [g' (2 + i) (by omega), g]
      split
      · next q =>
        obtain rfl : i = n := by omega
        exact ⟨this.1, this.2.1, by omega, by omega, fun q => absurd q hz⟩
      · exact this
    · rw [g' 0 (by omega), ← hC.more]
      constructor
      · rintro ⟨i, i1, i2, i3⟩; exact ⟨i, i1, i2, by rw [g' _ (by omega)] at i3; exact i3⟩
      · rintro ⟨i, i1, i2, i3⟩; exact ⟨i, i1, i2, by rw [g' _ (by omega)]; exact i3⟩
  · exact key 1 (by omega) (by omega)
theorem put_ok (l : List Int) (hl : l.length = 594) (h : Ok l) (n : Nat) (n1 : 1 ≤ n) (n2 : n ≤ 8) (y : List Int) (hy : y.length = 66) (hs : SlotOk y) (ha : G y 1 = 0 ∨ ∀ k, 1 ≤ k → k < 9 → k ≠ n → G y 1 ≠ G l (k * 66 + 1)) : Ok (put l n y) := by
  refine ⟨fun j hj => ?_, fun i i1 i2 => ?_, fun i k k1 k2 i2 => ?_⟩
  · rw [G_put l hl n (by omega) y hy, if_neg (by omega)]; exact h.none j hj
  · by_cases e : i = n
    · subst e; rw [at_put l hl i i2 y hy]; exact hs
    · rw [at_put_ne l hl n (by omega) y hy i i2 e]; exact h.slot i i1 i2
  · by_cases e : i = n
    · subst e
      rw [G_put_in l hl i i2 y hy 1 (by omega), G_put_out l hl i i2 y hy k 1 (by omega) (by omega)]
      rcases ha with ha | ha
      · exact .inl ha
      · exact .inr (ha k k1 (by omega) (by omega))
    · rw [G_put_out l hl n (by omega) y hy i 1 (by omega) e]
      by_cases e2 : k = n
      · subst e2
        rw [G_put_in l hl k (by omega) y hy 1 (by omega)]
        rcases ha with ha | ha
        · rw [ha]; exact (Classical.em _)
        · exact .inr fun q => ha i (by omega) i2 e q.symm
      · rw [G_put_out l hl n (by omega) y hy k 1 (by omega) e2]
        exact h.two i k k1 k2 i2
theorem made_len {l : List Int} {n : Nat} {k e a : Int} {y : List Int} (hl : l.length = 594) (hn : n < 9) (h : Made l n k e a y) : y.length = 66 := by
  have := at_len l hl n hn
  cases h with
  | off _ => rw [List.length_cons, zs_len]
  | call ad _ _ => rw [called_len, this]
  | conf _ _ h => exact h.len
  | ends _ => rw [endMade_len, this]
theorem made_ok {l : List Int} {n : Nat} {k e a : Int} {y : List Int} (hl : l.length = 594) (ho : Ok l) (n1 : 1 ≤ n) (n2 : n ≤ 8) (hc : cmdCode (at_ l n) k e a = 1) (h : Made l n k e a y) : Ok (put l n y) := by
  have hx := at_len l hl n (by omega)
  have hs := ho.slot n n1 (by omega)
  have g1 : G (at_ l n) 1 = G l (n * 66 + 1) := G_at l n 1 (by omega)
  have keep : G (at_ l n) 1 = 0 ∨ ∀ k, 1 ≤ k → k < 9 → k ≠ n → G (at_ l n) 1 ≠ G l (k * 66 + 1) := by
    rw [g1]
    by_cases z : G l (n * 66 + 1) = 0
    · exact .inl z
    · refine .inr fun k k1 k2 kn q => ?_
      by_cases lt : k < n
      · rcases ho.two n k k1 lt (by omega) with r | r
        · exact z r
        · exact r q
      · rcases ho.two k n n1 (by omega) k2 with r | r
        · exact z (q.trans r)
        · exact r q.symm
  have hlen := made_len hl (by omega) h
  unfold cmdCode at hc
  split at hc
  · omega
  next h0 =>
  cases h with
  | off _ => exact put_ok l hl ho n n1 n2 _ hlen zs_ok (.inl (by decide))
  | call ad hk hL =>
    rw [if_neg (by omega), if_pos hk] at hc
    have hg : G (at_ l n) 0 = 1 := by
      apply Classical.byContradiction; intro q; rw [if_neg q] at hc; omega
    have := hit_le hL.2.2
    refine put_ok l hl ho n n1 n2 _ hlen (called_ok _ hx hs hg ad (by have := hL.1; omega) (by omega)) (.inr fun k k1 k2 _ => ?_)
    rw [G_called _ hx]
    exact fun q => hL.2.1 k k2 q.symm
  | conf _ hk hC =>
    rw [if_neg (by omega), if_neg (by omega), if_pos hk] at hc
    refine put_ok l hl ho n n1 n2 _ hlen (conf_ok _ hx hs h0 a hc y hC) ?_
    rw [hC.ad]; exact keep
  | ends hk =>
    rw [if_neg (by omega), if_neg (by omega), if_neg (by omega)] at hc
    have := ends_ok _ hx hs h0 k e a hc
    refine put_ok l hl ho n n1 n2 _ hlen this.1 ?_
    rw [this.2.2]; exact keep
theorem off_zero {l : List Int} (hl : l.length = 594) (ho : Ok l) {i : Nat} (i1 : 1 ≤ i) (i2 : i < 9) (hz : G l (i * 66) = 0) : at_ l i = 0 :: zs := by
  have g : G (at_ l i) 0 = 0 := by rw [G_at l i 0 (by omega)]; exact hz
  have := (zero_iff (at_ l i) (at_len l hl i i2)).2 (by
    rcases ho.slot i i1 i2 with ⟨_, _, h⟩ | ⟨h, _⟩
    · exact h
    · omega)
  rwa [g] at this
theorem set_put {l : List Int} (hl : l.length = 594) (ho : Ok l) {i : Nat} (h : FirstOff l i) (v : Int) : l.set (i * 66) v = put l i (v :: zs) := by
  have e := off_zero hl ho h.1 h.2.1 h.2.2.1
  have h2 := put_set l hl i h.2.1 (at_ l i) (at_len l hl i h.2.1) 0 (by omega) v
  rw [put_at l hl i h.2.1, e] at h2
  exact h2
theorem Did.ok {l : List Int} {k s e a : Int} {l' : List Int} {c n : Int} (hl : l.length = 594) (ho : Ok l) (h : Did l k s e a l' c n) : l'.length = 594 ∧ Ok l' := by
  cases h with
  | bad h => exact absurd ho h
  | noop _ _ => exact ⟨hl, ho⟩
  | enable i _ _ hF =>
    rw [set_put hl ho hF]
    exact ⟨put_len l hl i hF.2.1 _ rfl, put_ok l hl ho i hF.1 (by have := hF.2.1; omega) _ rfl one_ok (.inl (by decide))⟩
  | full _ _ _ => exact ⟨hl, ho⟩
  | trb _ _ _ _ => exact ⟨hl, ho⟩
  | done n y _ _ _ _ n1 n2 hc hM => exact ⟨put_len l hl n (by omega) y (made_len hl (by omega) hM), made_ok hl ho n1 n2 hc hM⟩
  | refused _ _ _ _ _ _ _ _ => exact ⟨hl, ho⟩
end Go.Proofs.Ytidcbboonjenhaa.Slt
