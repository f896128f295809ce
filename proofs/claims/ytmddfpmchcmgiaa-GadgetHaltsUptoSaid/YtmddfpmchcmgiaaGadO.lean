/- How many bits of a number are 1, walked; a bit set and cleared. -/
import Derived.Test.YtmddfpmchcmgiaaRows
import Derived.Test.YtmddfpmchcmgiaaCrcP
import Derived.Test.YtmddfpmchcmgiaaGadQ
import Derived.Test.YtmddfpmchcmgiaaGen
import Derived.Deep.QuietTactic
namespace Go.Proofs.Ytmddfpmchcmgiaa
open Go.RowKit Go.Proofs.Ytmddfpmchcmgiaa.CrcP
theorem CrcN.clear (m : Nat) (hm : m < 18446744073709551616) (h0 : 0 < m) : Go.bits BinOp.and IntKind.u64 (m : Int) ((m : Int) - 1) = ((m &&& (m - 1) : Nat) : Int) := by
  have e : (m : Int) - 1 = ((m - 1 : Nat) : Int) := by omega
  rw [e]; exact u64_and_nat m (m - 1) hm (by omega)
@[irreducible] def pop (n : Nat) : Nat := pc 64 n
theorem pop_eq (n : Nat) : pop n = pc 64 n := by unfold pop; rfl
theorem pop_le (n : Nat) : pop n ≤ 64 := by rw [pop_eq]; exact pc_le 64 n
theorem pop_step (m : Nat) (h0 : 0 < m) (hm : m < 18446744073709551616) : pop (m &&& (m - 1)) + 1 = pop m := by rw [pop_eq, pop_eq]; exact pc_step 64 m h0 hm
theorem pop_zero : pop 0 = 0 := by rw [pop_eq, pc_zero]
set_option maxHeartbeats 400000 in
theorem ones_calls (x : Int) (n : Nat) (hxn : x = (n : Int)) (hn : n < 18446744073709551616) (w : World) :
    Calls Try.prog 29 #[.int .u64 x] w fun e w' => e = .returned (.int .i64 (pop n : Nat)) ∧ w = w' := by
  subst hxn
  have hP := pop_le n
  generalize hp : pop n = p at *
  have HP := Lib.hid hp; clear hp
  go_enter Try.func29, Try.ntmps29
  go_wp2
  go_loop [0, 3] (fun a b => ∃ (m j : Nat), m < 18446744073709551616 ∧ a = .int .u64 m ∧ b = .int .i64 j ∧ j + pop m = p) (fun a _ => (intOf a).toNat)
  case atStart => exact ⟨n, 0, hn, rfl, rfl, by rw [Nat.zero_add]; exact HP.out⟩
  case round =>
    obtain ⟨m, j, hm, rfl, rfl, hj⟩ := hrel
    have hj2 : j ≤ p := by omega
    have HJ := Lib.hid hj; clear hj
    by_cases h0 : 0 < m
    · have hc := CrcN.clear m hm h0
      have hle : m &&& (m - 1) ≤ m - 1 := Nat.and_le_right
      have hs := Lib.hid (pop_step m h0 hm)
      generalize m &&& (m - 1) = q at *
      go_wp2
      go_round
      case rel => exact ⟨q, j + 1, by omega, rfl, by go_num, by have := HJ.out; have := hs.out; omega⟩
      case measure => simp [intOf]; omega
    · obtain rfl : m = 0 := by omega
      go_wp2
      go_ret
      have := HJ.out
      rw [pop_zero] at this
      exact ⟨Kt.ret_int (by omega), rfl⟩
theorem pc_one : ∀ (K k x y : Nat), k < K → x.testBit k = true → y.testBit k = false → (∀ j, j ≠ k → x.testBit j = y.testBit j) → pc K x = 1 + pc K y
  | K + 1, 0, x, y, _, h1, h2, h3 => by
    have e : x / 2 = y / 2 := by
      apply Nat.eq_of_testBit_eq
      intro j
      rw [← Nat.testBit_succ, ← Nat.testBit_succ]
      exact h3 (j + 1) (by omega)
    have a1 : x % 2 = 1 := by simpa [Nat.testBit_zero] using h1
    have a2 : y % 2 = 0 := by
      have : ¬ y % 2 = 1 := by simpa [Nat.testBit_zero] using h2
      omega
    simp only [pc]
    rw [e, a1, a2]
    omega
  | K + 1, k + 1, x, y, hk, h1, h2, h3 => by
    have h0 := h3 0 (by omega)
    have e : x % 2 = y % 2 := by
      have hh : (x % 2 = 1) ↔ (y % 2 = 1) := by
        simp only [Nat.testBit_zero] at h0
        exact decide_eq_decide.1 h0
      omega
    have := pc_one K k (x / 2) (y / 2) (by omega) (by rw [← Nat.testBit_succ]; exact h1) (by rw [← Nat.testBit_succ]; exact h2) (fun j hj => by
      rw [← Nat.testBit_succ, ← Nat.testBit_succ]; exact h3 (j + 1) (by omega))
    simp only [pc]
    omega
open Go.Proofs.Ytmddfpmchcmgiaa.Gad
theorem set_pop {n k : Nat} (hn : n < 18446744073709551616) (hk : k < 64) : pop (setN n k) = 1 + pop (clrN n k) := by
  rw [pop_eq, pop_eq]
  refine pc_one 64 k _ _ hk ?_ ?_ ?_
  · rw [set_bit n k k hn hk]; simp
  · rw [clr_bit n k k hn hk]; simp
  · intro j hj
    rw [set_bit n k j hn hk, clr_bit n k j hn hk]
    have : decide (k = j) = false := decide_eq_false (fun e => hj e.symm)
    rw [this]; simp
theorem set_lt64 {n k : Nat} (hn : n < 4294967296) (hk : k < 32) : setN n k < 18446744073709551616 := Nat.lt_trans (set_lt n k hn hk) (by decide)
theorem clr_lt64 {n k : Nat} (hn : n < 4294967296) : clrN n k < 18446744073709551616 := Nat.lt_trans (clr_lt n k hn) (by decide)
theorem set_set {n k : Nat} (hn : n < 4294967296) (hk : k < 32) : setN (setN n k) k = setN n k := by
  apply Nat.eq_of_testBit_eq
  intro j
  rw [set_bit _ k j (set_lt64 hn hk) (by omega), set_bit n k j (by omega) (by omega)]
  simp
theorem set_clr {n k : Nat} (hn : n < 4294967296) (hk : k < 32) : setN (clrN n k) k = setN n k := by
  apply Nat.eq_of_testBit_eq
  intro j
  rw [set_bit _ k j (clr_lt64 hn) (by omega), set_bit n k j (by omega) (by omega), clr_bit n k j (by omega) (by omega)]
  by_cases h : k = j <;> simp [h]
theorem clr_set {n k : Nat} (hn : n < 4294967296) (hk : k < 32) : clrN (setN n k) k = clrN n k := by
  apply Nat.eq_of_testBit_eq
  intro j
  rw [clr_bit _ k j (set_lt64 hn hk) (by omega), set_bit n k j (by omega) (by omega), clr_bit n k j (by omega) (by omega)]
  by_cases h : k = j <;> simp [h]
theorem set_ne {n k : Nat} (hn : n < 4294967296) (hk : k < 32) : setN n k ≠ clrN n k := fun e => by
  have h1 := set_bit n k k (by omega) (by omega)
  rw [e, clr_bit n k k (by omega) (by omega)] at h1
  simp at h1
theorem set_or {n k : Nat} (hn : n < 4294967296) (hk : k < 32) : setN n k = n ∨ clrN n k = n := by
  cases hb : n.testBit k with
  | true =>
    left
    apply Nat.eq_of_testBit_eq
    intro j
    rw [set_bit n k j (by omega) (by omega)]
    by_cases h : k = j
    · subst h; simp [hb]
    · simp [h]
  | false =>
    right
    apply Nat.eq_of_testBit_eq
    intro j
    rw [clr_bit n k j (by omega) (by omega)]
    by_cases h : k = j
    · subst h; simp [hb]
    · simp [h]
/-- what two asks about halts tell -/
theorem halts_plain (s : Sh) (g : Gd) (n : Int) (r3 r2 : Option (Int × Int × Int × Int)) (h : (r3 = some (3, 0, n, 0) ∧ r2 = some (2, 0, n, 0) ∧ ((0 ≤ n ∧ n ≤ 15) ∨ (128 ≤ n ∧ n ≤ 143))) ∨ r3 = none ∧ r2 = none) :
    (∃ c, c ≠ 0 ∧ ctl s g r3 = (g, [], c) ∧ ctl s g r2 = (g, [], c)) ∨ ∃ (ad : Int) (m k : Nat), g = ⟨2, ad, m⟩ ∧ m < 4294967296 ∧ k < 32 ∧ ctl s g r3 = (⟨2, ad, setN m k⟩, [], 0) ∧ ctl s g r2 = (⟨2, ad, clrN m k⟩, [], 0) ∧
      ctl s ⟨2, ad, setN m k⟩ r3 = (⟨2, ad, setN m k⟩, [], 0) ∧ ctl s ⟨2, ad, setN m k⟩ r2 = (⟨2, ad, clrN m k⟩, [], 0) ∧ ctl s ⟨2, ad, clrN m k⟩ r3 = (⟨2, ad, setN m k⟩, [], 0) := by
  by_cases h1 : chk s = 0
  case neg => exact .inl ⟨chk s, h1, if_pos h1, if_pos h1⟩
  cases h2 : gOk g with
  | false => exact .inl ⟨1, by decide, by unfold ctl; rw [if_neg (by simp [h1]), if_pos h2], by unfold ctl; rw [if_neg (by simp [h1]), if_pos h2]⟩
  | true =>
    have hc : ∀ (g : Gd) r, gOk g = true → ctl s g r = match r with
        | none => (g, [], 8)
        | some (k, v, i, l) => if 8 ≤ k then (g, [], 12) else if (dod s g k v i l).2.2 ≠ 0 then (g, [], (dod s g k v i l).2.2) else dod s g k v i l := fun g r hg => by
      unfold ctl; rw [if_neg (by simp [h1]), if_neg (by simp [hg])]; cases r <;> rfl
    rcases h with ⟨rfl, rfl, hn⟩ | ⟨rfl, rfl⟩
    · have hal : ∀ g, dod s g 3 0 n 0 = ((haltd s g n true).1, [], (haltd s g n true).2) := fun _ => rfl
      have hbl : ∀ g, dod s g 2 0 n 0 = ((haltd s g n false).1, [], (haltd s g n false).2) := fun _ => rfl
      by_cases hh : g.st = 2 ∧ has s n = true
      · right
        obtain ⟨st, ad, ha⟩ := g
        obtain ⟨rfl, hs⟩ := hh
        have hg2 : 0 ≤ ha ∧ ha < 4294967296 ∧ 1 ≤ ad ∧ ad ≤ 127 := by unfold gOk at h2; simp at h2; omega
        obtain ⟨m, rfl⟩ := Int.eq_ofNat_of_zero_le hg2.1
        have hm : m < 4294967296 := by omega
        have hk := kOf_lt hn
        have gok : ∀ x : Nat, x < 4294967296 → gOk ⟨2, ad, x⟩ = true := fun x hx => by unfold gOk; simp; omega
        have H3 : ∀ x : Nat, x < 4294967296 → ctl s ⟨2, ad, x⟩ (some (3, 0, n, 0)) = (⟨2, ad, setN x (kOf n)⟩, [], 0) := fun x hx => by
          rw [hc _ _ (gok x hx)]
          dsimp only
          rw [if_neg (by decide), hal]
          have : haltd s ⟨2, ad, x⟩ n true = (⟨2, ad, (setN x (kOf n) : Nat)⟩, 0) := if_pos ⟨rfl, hs⟩
          rw [this]; rfl
        have H2 : ∀ x : Nat, x < 4294967296 → ctl s ⟨2, ad, x⟩ (some (2, 0, n, 0)) = (⟨2, ad, clrN x (kOf n)⟩, [], 0) := fun x hx => by
          rw [hc _ _ (gok x hx)]
          dsimp only
          rw [if_neg (by decide), hbl]
          have : haltd s ⟨2, ad, x⟩ n false = (⟨2, ad, (clrN x (kOf n) : Nat)⟩, 0) := if_pos ⟨rfl, hs⟩
          rw [this]; rfl
        have hx := set_lt m (kOf n) hm hk
        have hy := clr_lt m (kOf n) hm
        refine ⟨ad, m, kOf n, rfl, hm, hk, H3 m hm, H2 m hm, ?_, ?_, ?_⟩
        · rw [H3 _ hx, set_set hm hk]
        · rw [H2 _ hx, clr_set hm hk]
        · rw [H3 _ hy, set_clr hm hk]
      · refine .inl ⟨8, by decide, ?_, ?_⟩
        · rw [hc g _ h2]
          dsimp only
          rw [if_neg (by decide), hal]
          have : haltd s g n true = (g, 8) := if_neg hh
          rw [this]; rfl
        · rw [hc g _ h2]
          dsimp only
          rw [if_neg (by decide), hbl]
          have : haltd s g n false = (g, 8) := if_neg hh
          rw [this]; rfl
    · exact .inl ⟨8, by decide, by rw [hc g _ h2], by rw [hc g _ h2]⟩
end Go.Proofs.Ytmddfpmchcmgiaa
