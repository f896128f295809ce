/- keys, plainly: what Write writes is read back. -/
import Derived.Test.YtfcmmeapinppaaaKeyT
namespace Go.Proofs.Ytfcmmeapinppaaa
open Go.RowKit
def isMod (c : Fin 256) : Bool := decide (224 ≤ c.val ∧ c.val ≤ 231)
def modB (l : List (Fin 256)) : UInt8 := l.foldl (fun b c => if isMod c then b ||| UInt8.ofNat (2 ^ (c.val - 224)) else b) 0
def restB (l : List (Fin 256)) : List UInt8 := (l.filter fun c => !isMod c).map fun c => UInt8.ofNat c.val
theorem modB_snoc (l : List (Fin 256)) (c : Fin 256) : modB (l ++ [c]) = if isMod c then modB l ||| UInt8.ofNat (2 ^ (c.val - 224)) else modB l := by
  unfold modB; rw [List.foldl_append]; rfl
theorem restB_snoc (l : List (Fin 256)) (c : Fin 256) : restB (l ++ [c]) = if isMod c then restB l else restB l ++ [UInt8.ofNat c.val] := by
  unfold restB
  rw [List.filter_append]
  cases h : isMod c <;> simp [h]
theorem bit8 : ∀ n : Fin 8, ∀ i : Fin 8, (UInt8.ofNat (2 ^ n.val)).toNat.testBit i.val = decide (n.val = i.val) := by decide +kernel
theorem modB_bit (i : Nat) (hi : i < 8) (l : List (Fin 256)) : ∀ b : UInt8, (l.foldl (fun b c => if isMod c then b ||| UInt8.ofNat (2 ^ (c.val - 224)) else b) b).toNat.testBit i = (b.toNat.testBit i || decide (∃ c ∈ l, c.val = 224 + i)) := by
  induction l with
  | nil => intro b; simp
  | cons c l ih =>
    intro b
    rw [List.foldl_cons, ih]
    by_cases h : isMod c = true
    · rw [if_pos h, UInt8.toNat_or, Nat.testBit_or, Bool.or_assoc]
      have hc : 224 ≤ c.val ∧ c.val ≤ 231 := by simpa [isMod] using h
      have := bit8 ⟨c.val - 224, by omega⟩ ⟨i, hi⟩
      dsimp only at this
      rw [this, ← Bool.decide_or]
      refine congrArg _ (decide_eq_decide.2 ⟨fun h => ?_, fun h => ?_⟩)
      · rcases h with h | ⟨x, hx, e⟩
        · exact ⟨c, by simp, by omega⟩
        · exact ⟨x, by simp [hx], e⟩
      · obtain ⟨x, hx, e⟩ := h
        rcases List.mem_cons.1 hx with rfl | hx
        · exact .inl (by omega)
        · exact .inr ⟨x, hx, e⟩
    · rw [if_neg h]
      have hc : ¬ (224 ≤ c.val ∧ c.val ≤ 231) := by simpa [isMod] using h
      refine congrArg _ (decide_eq_decide.2 ⟨fun ⟨x, hx, e⟩ => ⟨x, by simp [hx], e⟩, fun ⟨x, hx, e⟩ => ?_⟩)
      rcases List.mem_cons.1 hx with rfl | hx
      · omega
      · exact ⟨x, hx, e⟩
theorem mods_bit (b : UInt8) (d : Nat) (hd : d < 256) : ∀ k, k ≤ 8 → (mods b k).has d = (decide (224 ≤ d ∧ d < 224 + k) && b.toNat.testBit (d - 224))
  | 0, _ => by
    rw [decide_eq_false (by omega), Bool.false_and, Hd.has_bit]
    have : (Hd.zero.at (d / 64)).toNat = 0 := by
      match d / 64 with
      | 0 => rfl
      | 1 => rfl
      | 2 => rfl
      | _ + 3 => rfl
    show (Hd.zero.at (d / 64)).toNat.testBit _ = false
    rw [this, Nat.zero_testBit]
  | k + 1, hk => by
    have ih := mods_bit b d hd k (by omega)
    unfold mods
    have hb : decide ((b.toNat / 2 ^ k) % 2 = 1) = b.toNat.testBit k := by rw [Nat.testBit_eq_decide_div_mod_eq]
    split
    · rename_i h
      rw [Hd.add_has _ _ _ (by omega) hd, ih]
      rw [decide_eq_true h] at hb
      by_cases e : 224 + k = d
      · rw [decide_eq_true e, decide_eq_true (show 224 ≤ d ∧ d < 224 + (k + 1) by omega), Bool.or_true, Bool.true_and, show d - 224 = k by omega, ← hb]
      · rw [decide_eq_false e, Bool.or_false]
        congr 1
        exact decide_eq_decide.2 ⟨fun h => by omega, fun h => by omega⟩
    · rename_i h
      rw [ih]
      rw [decide_eq_false h] at hb
      by_cases e : 224 + k = d
      · rw [decide_eq_false (show ¬ (224 ≤ d ∧ d < 224 + k) by omega), Bool.false_and, show d - 224 = k by omega, ← hb, Bool.and_false]
      · congr 1
        exact decide_eq_decide.2 ⟨fun h => by omega, fun h => by omega⟩
/-- what Write writes of codes that all are 4 at least -/
def wrS (l : List (Fin 256)) : List UInt8 := if 6 < (restB l).length then [modB l, 0, 1, 1, 1, 1, 1, 1] else modB l :: 0 :: (restB l ++ List.replicate (6 - (restB l).length) 0)
theorem wrS_len (l : List (Fin 256)) : (wrS l).length = 8 := by
  unfold wrS
  split
  · rfl
  · simp; omega
theorem mem_rest (l : List (Fin 256)) (x : UInt8) : x ∈ restB l ↔ ∃ c ∈ l, isMod c = false ∧ x.toNat = c.val := by
  unfold restB
  simp only [List.mem_map, List.mem_filter]
  constructor
  · rintro ⟨c, ⟨hc, hm⟩, rfl⟩
    exact ⟨c, hc, by simpa using hm, Kt.u8n _ c.isLt⟩
  · rintro ⟨c, hc, hm, hx⟩
    exact ⟨c, ⟨hc, by simpa using hm⟩, UInt8.toNat_inj.1 (by rw [Kt.u8n _ c.isLt]; exact hx.symm)⟩
theorem wr_full (l : List (Fin 256)) (h : 6 < (restB l).length) : readR (wrS l) = (Hd.zero, 11) := by
  unfold wrS
  rw [if_pos h]
  show (Rs.run ⟨mods (modB l) 8, false, (0 : UInt8) != 0⟩ [1, 1, 1, 1, 1, 1]).out = _
  have : (Rs.run ⟨mods (modB l) 8, false, (0 : UInt8) != 0⟩ [1, 1, 1, 1, 1, 1]).full = true := by rw [Rs.run_full]; rfl
  unfold Rs.out
  rw [if_pos this]
theorem read8 (a b : UInt8) (l : List UInt8) (h : l.length = 6) : readR (a :: b :: l) = (Rs.run ⟨mods a 8, false, b != 0⟩ l).out := by
  match l, h with
  | [c2, c3, c4, c5, c6, c7], _ => rfl
theorem wr_back (h : Hd) (hok : h.ok) (hn : (restB (codesL h 256)).length ≤ 6) : readR (wrS (codesL h 256)) = (h, 0) := by
  have hmem : ∀ c : Fin 256, c ∈ codesL h 256 ↔ h.has c.val = true := fun c => by
    rw [mem_codes h c 256 (by omega)]
    have := c.isLt
    simp [this]
  have h4 : ∀ c ∈ codesL h 256, 4 ≤ c.val := fun c hc => by
    by_cases e : c.val < 4
    · have := hok _ e
      rw [(hmem c).1 hc] at this
      exact absurd this (by simp)
    · omega
  have hmod : ∀ i, i < 8 → (modB (codesL h 256)).toNat.testBit i = h.has (224 + i) := fun i hi => by
    have := modB_bit i hi (codesL h 256) 0
    rw [show (0 : UInt8).toNat = 0 from rfl, Nat.zero_testBit, Bool.false_or] at this
    refine this.trans ?_
    cases hh : h.has (224 + i) with
    | true => exact decide_eq_true ⟨⟨224 + i, by omega⟩, (hmem _).2 hh, rfl⟩
    | false => exact decide_eq_false (fun ⟨c, hc, e⟩ => by
        have := (hmem c).1 hc
        rw [e, hh] at this
        exact absurd this (by simp))
  unfold wrS
  rw [if_neg (by omega)]
  have hrest := mem_rest (codesL h 256)
  generalize restB (codesL h 256) = R at *
  generalize modB (codesL h 256) = M at *
  rw [read8 _ _ _ (by simp; omega)]
  obtain ⟨l, hl⟩ : ∃ l, R ++ List.replicate (6 - R.length) 0 = l := ⟨_, rfl⟩
  rw [hl]
  have hz : ∀ x : UInt8, x ∈ l → x = 0 ∨ x ∈ R := fun x hx => by
    rw [← hl, List.mem_append] at hx
    rcases hx with hx | hx
    · exact .inr hx
    · exact .inl (List.eq_of_mem_replicate hx)
  have hno : ∀ x : UInt8, x.toNat < 4 → x ≠ 0 → x ∉ l := fun x hx h0 hm => by
    rcases hz x hm with e | hr
    · exact h0 e
    · obtain ⟨c, hc, _, e⟩ := (hrest x).1 hr
      have := h4 c hc
      omega
  have f1 : (Rs.run ⟨mods M 8, false, (0 : UInt8) != 0⟩ l).full = false := by
    rw [Rs.run_full, decide_eq_false (hno 1 (by decide) (by decide))]; rfl
  have f2 : (Rs.run ⟨mods M 8, false, (0 : UInt8) != 0⟩ l).bad = false := by
    rw [Rs.run_bad, decide_eq_false (fun h => h.elim (hno 2 (by decide) (by decide)) (hno 3 (by decide) (by decide)))]; rfl
  have f3 : (Rs.run ⟨mods M 8, false, (0 : UInt8) != 0⟩ l).h = h := by
    refine Hd.ext_has fun d hd => ?_
    rw [Rs.run_has d hd]
    show ((mods M 8).has d || _) = _
    rw [mods_bit M d hd 8 (Nat.le_refl _)]
    by_cases hm : 224 ≤ d ∧ d ≤ 231
    · rw [decide_eq_true (show 224 ≤ d ∧ d < 224 + 8 by omega), Bool.true_and, hmod _ (by omega), show 224 + (d - 224) = d by omega]
      cases hh : h.has d with
      | true => rfl
      | false =>
        rw [Bool.false_or]
        refine decide_eq_false fun ⟨_, x, hx, e⟩ => ?_
        rcases hz x hx with rfl | hr
        · have : (0 : UInt8).toNat = 0 := rfl
          omega
        · obtain ⟨c, hc, hm2, e2⟩ := (hrest x).1 hr
          have : ¬ (224 ≤ c.val ∧ c.val ≤ 231) := by simpa [isMod] using hm2
          omega
    · rw [decide_eq_false (show ¬ (224 ≤ d ∧ d < 224 + 8) by omega), Bool.false_and, Bool.false_or]
      cases hh : h.has d with
      | true =>
        refine decide_eq_true ⟨?_, UInt8.ofNat d, ?_, Kt.u8n _ hd⟩
        · have h5 : 4 ≤ d := h4 ⟨d, hd⟩ ((hmem _).2 hh)
          omega
        · rw [← hl, List.mem_append]
          exact .inl ((hrest _).2 ⟨⟨d, hd⟩, (hmem _).2 hh, by simpa [isMod] using hm, Kt.u8n _ hd⟩)
      | false =>
        refine decide_eq_false fun ⟨h3, x, hx, e⟩ => ?_
        rcases hz x hx with rfl | hr
        · have : (0 : UInt8).toNat = 0 := rfl
          omega
        · obtain ⟨c, hc, hm2, e2⟩ := (hrest x).1 hr
          have := (hmem c).1 hc
          rw [← e2, e, hh] at this
          exact absurd this (by simp)
  unfold Rs.out
  rw [f1, f2, f3]
  rfl
end Go.Proofs.Ytfcmmeapinppaaa
