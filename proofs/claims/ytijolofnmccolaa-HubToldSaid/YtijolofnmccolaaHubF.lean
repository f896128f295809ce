/- The law HubTold, plainly: the bits of the changes, and what is left behind the clearing. -/
import Derived.Test.YtijolofnmccolaaHubX
namespace Go.Proofs.Ytijolofnmccolaa
open Go.RowKit Go.Proofs.Ytijolofnmccolaa.SetP
theorem or8_nat (a b : Nat) (ha : a < 256) (hb : b < 256) : bits .or .u8 (a : Int) (b : Int) = ((a ||| b : Nat) : Int) := by
  have hx : a ||| b < 2 ^ 8 := Nat.or_lt_two_pow (by omega) (by omega)
  show IntKind.u8.wrap ((BitVec.ofInt 8 (a : Int) ||| BitVec.ofInt 8 (b : Int)).toNat : Int) = _
  rw [BitVec.toNat_or, BitVec.ofInt_natCast, BitVec.ofInt_natCast, BitVec.toNat_ofNat, BitVec.toNat_ofNat, Nat.mod_eq_of_lt (by omega), Nat.mod_eq_of_lt (by omega), IntKind.wrap_u8]
  omega
theorem or8_bit (x : Int) (h : 0 ≤ x ∧ x < 256) (j k : Nat) (hj : j < 8) : (bits .or .u8 x ((2 ^ j : Nat) : Int)).toNat.testBit k = (x.toNat.testBit k || decide (j = k)) := by
  obtain ⟨n, rfl⟩ := Int.eq_ofNat_of_zero_le h.1
  have hp : 2 ^ j < 256 := Nat.pow_lt_pow_right (by omega) (show j < 8 from hj)
  rw [or8_nat n (2 ^ j) (by omega) hp, Int.toNat_natCast, Int.toNat_natCast, Nat.testBit_or, Nat.testBit_two_pow]
/-- the bits of the two bytes -/
theorem chB_bits (ps : List Int) : ∀ n, n ≤ 16 → ∀ k, k < 8 → (chB ps n).1.toNat.testBit k = decide (k < n ∧ psT ps k ≠ 0) ∧ (chB ps n).2.toNat.testBit k = decide (k + 8 < n ∧ psT ps (k + 8) ≠ 0)
  | 0, _, k, _ => by simp [chB]
  | n + 1, hn, k, hk => by
    obtain ⟨i1, i2⟩ := chB_bits ps n (by omega) k hk
    have bd := chB_bd ps n
    by_cases h : psT ps n = 0
    · rw [chB_zero h, i1, i2]
      constructor
      · apply decide_eq_decide.2
        constructor
        · rintro ⟨a, b⟩; exact ⟨by omega, b⟩
        · rintro ⟨a, b⟩
          refine ⟨?_, b⟩
          by_cases e : k = n
          · subst e; exact absurd h b
          · omega
      · apply decide_eq_decide.2
        constructor
        · rintro ⟨a, b⟩; exact ⟨by omega, b⟩
        · rintro ⟨a, b⟩
          refine ⟨?_, b⟩
          by_cases e : k + 8 = n
          · subst e; exact absurd h b
          · omega
    · by_cases h8 : n < 8
      · rw [chB_low h h8]
        refine ⟨?_, ?_⟩
        · show (bits .or .u8 (chB ps n).1 _).toNat.testBit k = _
          rw [or8_bit _ bd.1 n k h8, i1]
          by_cases e : n = k
          · subst e; simp [h]
          · simp only [e, decide_false, Bool.or_false]
            apply decide_eq_decide.2
            constructor
            · rintro ⟨a, b⟩; exact ⟨by omega, b⟩
            · rintro ⟨a, b⟩; exact ⟨by omega, b⟩
        · show (chB ps n).2.toNat.testBit k = _
          rw [i2]
          apply decide_eq_decide.2
          constructor
          · rintro ⟨a, b⟩; exact ⟨by omega, b⟩
          · rintro ⟨a, b⟩; exact ⟨by omega, b⟩
      · rw [chB_high h h8]
        refine ⟨?_, ?_⟩
        · show (chB ps n).1.toNat.testBit k = _
          rw [i1]
          apply decide_eq_decide.2
          constructor
          · rintro ⟨a, b⟩; exact ⟨by omega, b⟩
          · rintro ⟨a, b⟩; exact ⟨by omega, b⟩
        · show (bits .or .u8 (chB ps n).2 _).toNat.testBit k = _
          rw [or8_bit _ bd.2 (n - 8) k (by omega), i2]
          by_cases e : k + 8 = n
          · subst e; simp [h]
          · have e' : ¬ n - 8 = k := by omega
            simp only [e', decide_false, Bool.or_false]
            apply decide_eq_decide.2
            constructor
            · rintro ⟨a, b⟩; exact ⟨by omega, b⟩
            · rintro ⟨a, b⟩; exact ⟨by omega, b⟩
/-- the byte that tells of a port -/
def chAt (ps : List Int) (p : Nat) : Int := if p < 8 then (chB ps 16).1 else (chB ps 16).2
theorem chAt_bd (ps : List Int) (p : Nat) : 0 ≤ chAt ps p ∧ chAt ps p < 256 := by
  unfold chAt
  split
  · exact (chB_bd ps 16).1
  · exact (chB_bd ps 16).2
theorem bit_div (n k : Nat) : n / 2 ^ k % 2 = if n.testBit k then 1 else 0 := by
  rw [Nat.testBit_eq_decide_div_mod_eq]
  by_cases h : n / 2 ^ k % 2 = 1
  · simp [h]
  · have : n / 2 ^ k % 2 = 0 := by omega
    simp [this]
theorem chAt_bit (ps : List Int) (p : Nat) (hp : p < 16) : (chAt ps p).toNat / 2 ^ (p % 8) % 2 = if psT ps p = 0 then 0 else 1 := by
  rw [bit_div]
  unfold chAt
  by_cases h : p < 8
  · rw [if_pos h, Nat.mod_eq_of_lt h, (chB_bits ps 16 (Nat.le_refl _) p h).1]
    by_cases e : psT ps p = 0
    · simp [e]
    · simp [e]; omega
  · have e1 : p % 8 = p - 8 := by omega
    have e2 : p - 8 + 8 = p := by omega
    rw [if_neg h, e1, (chB_bits ps 16 (Nat.le_refl _) (p - 8) (by omega)).2, e2]
    by_cases e : psT ps p = 0
    · simp [e]
    · simp [e]; omega
theorem chText_size (c : Int) (ps : List Int) : (chText c ps).size = if c < 8 then 1 else 2 := by
  unfold chText; split <;> rfl
theorem chText_at (c : Int) (ps : List Int) (p : Nat) (h1 : (p : Int) ≤ c) (h2 : p < 16) (hs : p / 8 < (chText c ps).size) : (((chText c ps)[p / 8]'hs).toNat : Int) = chAt ps p := by
  have bd := chB_bd ps 16
  have key : ∀ (t : ByteArray) (h : p / 8 < t.size), t = chText c ps → ((t[p / 8]'h).toNat : Int) = chAt ps p := by
    intro t h e
    unfold chAt
    by_cases h8 : p < 8
    · have hq : p / 8 = 0 := by omega
      rw [if_pos h8]
      unfold chText at e
      split at e <;> (subst e; simp only [hq]; exact byte_of _ bd.1.1 bd.1.2)
    · have hq : p / 8 = 1 := by omega
      rw [if_neg h8]
      unfold chText at e
      rw [if_neg (by omega)] at e
      subst e; simp only [hq]; exact byte_of _ bd.2.1 bd.2.2
  exact key _ hs rfl
/-- how far a change is cleared -/
def clr : Nat → Int → Prop
  | 0, t => okC t
  | 1, t => t = 0 ∨ t = 2 ∨ t = 16 ∨ t = 18
  | 2, t => t = 0 ∨ t = 16
  | _, t => t = 0
def clrV : Nat → Int
  | 0 => 16
  | 1 => 17
  | _ => 20
theorem clr_step (j : Nat) (hj : j < 3) (s t : Int) (h : clr j t) : ∃ y, offP s t (clrV j) = some (s, y) ∧ clr (j + 1) y ∧ okC y := by
  have : j = 0 ∨ j = 1 ∨ j = 2 := by omega
  rcases this with rfl | rfl | rfl
  · refine ⟨bits .andNot .i64 t 1, by unfold offP clrV; rfl, ?_⟩
    simp only [clr, okC] at h
    show clr 1 _ ∧ okC _
    simp only [clr, okC]
    rcases h with rfl | rfl | rfl | rfl | rfl | rfl | rfl | rfl <;> decide
  · refine ⟨bits .andNot .i64 t 2, by unfold offP clrV; rfl, ?_⟩
    simp only [clr] at h
    show clr 2 _ ∧ okC _
    simp only [clr, okC]
    rcases h with rfl | rfl | rfl | rfl <;> decide
  · refine ⟨bits .andNot .i64 t 16, by unfold offP clrV; rfl, ?_⟩
    simp only [clr] at h
    show clr 3 _ ∧ okC _
    simp only [clr, okC]
    rcases h with rfl | rfl <;> decide
/-- the hub while port k is cleared -/
structure Clr (c : Int) (k j : Nat) (ps : List Int) : Prop where
  len : ps.length = 32
  fit : Fit ps
  right : RightH c ps
  low : ∀ i, i < k → psT ps i = 0
  mid : clr j (psT ps k)
theorem Clr.first {c : Int} {ps : List Int} (hl : ps.length = 32) (hf : Fit ps) (hr : RightH c ps) : Clr c 1 0 ps :=
  ⟨hl, hf, hr, fun i hi => by
    obtain rfl : i = 0 := by omega
    exact ((hr.ok 0 (by omega)).2 (.inl rfl)).2, (hr.ok 1 (by omega)).1.2⟩
theorem Clr.next {c : Int} {k : Nat} {ps : List Int} (h : Clr c k 3 ps) (hk : k < 15) : Clr c (k + 1) 0 ps :=
  ⟨h.len, h.fit, h.right, fun i hi => by
    by_cases e : i = k
    · subst e; exact h.mid
    · exact h.low i (by omega), (h.right.ok (k + 1) (by omega)).1.2⟩
theorem Clr.zero {c : Int} {k : Nat} {ps : List Int} (h : Clr c k 3 ps) (hk : (k : Int) = c) (i : Nat) (hi : i < 16) : psT ps i = 0 := by
  by_cases e : i < k
  · exact h.low i e
  by_cases e2 : i = k
  · subst e2; exact h.mid
  · exact ((h.right.ok i hi).2 (.inr (by omega))).2
theorem Clr.step {c : Int} {k j : Nat} {ps : List Int} (h : Clr c k j ps) (h1 : (1 : Int) ≤ k) (h2 : (k : Int) ≤ c) (hj : j < 3) : ∃ b a, Clr c k (j + 1) b ∧ (∀ W, Calls Try.prog 11 #[.int .i64 10, .int .i64 (clrV j), .int .i64 k, .int .i64 0] W fun e w' => e = .returned (.string a) ∧ Below W.heap.size W w') ∧ ∀ W, Calls Try.prog 10 #[HV c ps, .string a] W (CtlRet c b ⟨#[]⟩ 0 W) := by
  have := h.right.c2
  have hk : k < 16 := by omega
  obtain ⟨y, hy, hc, ho⟩ := clr_step j hj (psS ps k) (psT ps k) h.mid
  have hst : rightP (psS ps k) y := ⟨(h.right.ok k hk).1.1, ho⟩
  have hv : 0 ≤ clrV j ∧ clrV j ≤ 31 := by
    have : j = 0 ∨ j = 1 ∨ j = 2 := by omega
    rcases this with rfl | rfl | rfl <;> decide
  have c6 : canP 6 (clrV j) := by unfold canP; omega
  have c5 : canP 5 k := by unfold canP; omega
  have hw : Okw (10 : Nat) (clrV j) k 0 := ⟨⟨35, 1, 6, 5, 0⟩, rfl, c6, c5, .inl rfl⟩
  obtain ⟨f1, f2, f3⟩ := first_txt (r := ⟨35, 1, 6, 5, 0⟩) rfl hw (by omega)
  have hx := Ctl.off (c := c) (ps := ps) f1 k f3 h1 h2 (psS ps k) y (by rw [f2]; exact hy)
  refine ⟨upd ps k (psS ps k) y, txt 35 1 (clrV j) k 0, ⟨by rw [upd_len, h.len], fit_upd h.fit k (right_bd hst).1 (right_bd hst).2, right_upd h.right h.len h1 h2 hst, fun i hi => ?_, ?_⟩, fun W => asked_calls 10 (clrV j) k 0 W ⟨35, 1, 6, 5, 0⟩ rfl hw, fun W => ?_⟩
  · rw [show psT (upd ps k _ _) i = psT ps i from (upd_get ps k i _ _ (by omega)).2]; exact h.low i hi
  · rw [show psT (upd ps k _ _) k = y from (upd_at ps h.len k hk _ _).2]; exact hc
  · refine (ctl_good c ps h.len h.fit _ W h.right).mono ?_
    rintro e W' ⟨a', t', n', g, hg⟩
    obtain ⟨rfl, rfl, rfl⟩ := ctl_one hx g
    exact hg
theorem chText_zero (c : Int) (ps : List Int) (h : ∀ i, i < 16 → psT ps i = 0) : chText c ps = if c < 8 then ⟨#[0]⟩ else ⟨#[0, 0]⟩ := by
  have hz : ∀ n, n ≤ 16 → chB ps n = (0, 0) := by
    intro n
    induction n with
    | zero => intro _; rfl
    | succ n ih => intro hn; rw [chB_zero (h n (by omega)), ih (by omega)]
  unfold chText
  rw [hz 16 (Nat.le_refl _)]
  rfl
end Go.Proofs.Ytijolofnmccolaa
