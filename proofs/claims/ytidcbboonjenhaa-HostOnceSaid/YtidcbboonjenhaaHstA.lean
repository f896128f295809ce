/- host: Pack, Unpack walked. -/
import Derived.Test.YtidcbboonjenhaaRngE
import Derived.Test.YtidcbboonjenhaaKit
import Derived.BigQuiet
namespace Go.Proofs.Ytidcbboonjenhaa
open Go.RowKit
def inB (n : Int) (b : Nat) : Bool := decide (0 ≤ n) && decide (n < (2 : Int) ^ b)
set_option maxRecDepth 100000 in
set_option maxHeartbeats 1600000 in
theorem in_calls (n : Int) (b : Nat) (hb : b = 4 ∨ b = 5 ∨ b = 32) (w : World) : Calls Try.prog 21 #[.int .i64 n, .int .i64 (b : Int)] w fun e w' => e = .returned (.bool (inB n b)) ∧ w' = w := by
  by_cases h0 : 0 ≤ n
  · rcases hb with rfl | rfl | rfl
    all_goals
      go_enter Try.func21, Try.ntmps21
      go_wp2_with fail
      go_ret
      exact ⟨by unfold inB; rw [decide_eq_true h0, Bool.true_and]; rfl, rfl⟩
  · have HR : Hid (inB n b = false) := Lib.hid (by unfold inB; rw [decide_eq_false h0]; rfl)
    clear hb
    go_enter Try.func21, Try.ntmps21
    go_wp2_with fail
    go_ret
    exact ⟨by rw [HR.out]; rfl, rfl⟩
def inC (k s e a : Int) : Bool := inB k 4 && inB s 4 && inB e 5 && inB a 32
def pkw (k s e a : Int) : Int := a + e * 4294967296 + s * 137438953472 + k * 2199023255552
theorem inB_bd {n : Int} {b : Nat} (h : inB n b = true) : 0 ≤ n ∧ n < (2 : Int) ^ b := by
  unfold inB at h
  simpa using h
theorem inC_bd {k s e a : Int} (h : inC k s e a = true) : (0 ≤ k ∧ k < 16) ∧ (0 ≤ s ∧ s < 16) ∧ (0 ≤ e ∧ e < 32) ∧ 0 ≤ a ∧ a < 4294967296 := by
  unfold inC at h
  simp only [Bool.and_eq_true] at h
  exact ⟨inB_bd h.1.1.1, inB_bd h.1.1.2, inB_bd h.1.2, inB_bd h.2⟩
def pkR (k s e a : Int) : Value := if inC k s e a then .tuple #[.int .u64 (pkw k s e a), .int .i64 0] else .tuple #[.int .u64 0, .int .i64 1]
theorem or_sh {x m : Nat} (i : Nat) (hx : x < 2 ^ i) (hm : m * 2 ^ i + x < 18446744073709551616) : bits .or .u64 (x : Int) ((m : Int) * ((2 ^ i : Nat) : Int)) = ((x + m * 2 ^ i : Nat) : Int) := by
  rw [← Int.natCast_mul, u64_or_nat _ _ (by omega) (by omega)]
  congr 1
  rw [Nat.or_comm, Nat.mul_comm m, Nat.add_comm]
  exact (Nat.two_pow_add_eq_or_of_lt hx m).symm
theorem pk_bits {k s e a : Int} (hc : inC k s e a = true) : bits .or .u64 (bits .or .u64 (bits .or .u64 a (e * 4294967296)) (s * 137438953472)) (k * 2199023255552) = pkw k s e a := by
  obtain ⟨⟨k0, k1⟩, ⟨s0, s1⟩, ⟨e0, e1⟩, a0, a1⟩ := inC_bd hc
  obtain ⟨k, rfl⟩ : ∃ n : Nat, k = (n : Int) := ⟨k.toNat, by omega⟩
  obtain ⟨s, rfl⟩ : ∃ n : Nat, s = (n : Int) := ⟨s.toNat, by omega⟩
  obtain ⟨e, rfl⟩ : ∃ n : Nat, e = (n : Int) := ⟨e.toNat, by omega⟩
  obtain ⟨a, rfl⟩ : ∃ n : Nat, a = (n : Int) := ⟨a.toNat, by omega⟩
  have h1 : bits .or .u64 (a : Int) ((e : Int) * 4294967296) = ((a + e * 4294967296 : Nat) : Int) := or_sh 32 (by omega) (by omega)
  have h2 : bits .or .u64 ((a + e * 4294967296 : Nat) : Int) ((s : Int) * 137438953472) = ((a + e * 4294967296 + s * 137438953472 : Nat) : Int) := or_sh 37 (by omega) (by omega)
  have h3 : bits .or .u64 ((a + e * 4294967296 + s * 137438953472 : Nat) : Int) ((k : Int) * 2199023255552) = ((a + e * 4294967296 + s * 137438953472 + k * 2199023255552 : Nat) : Int) := or_sh 41 (by omega) (by omega)
  rw [h1, h2, h3]
  unfold pkw
  omega
set_option maxRecDepth 100000 in
set_option maxHeartbeats 3200000 in
theorem pack_calls (k s e a : Int) (w : World) : Calls Try.prog 8 #[.agg #[.int .i64 k, .int .i64 s, .int .i64 e, .int .i64 a]] w fun en w' => en = .returned (pkR k s e a) ∧ Below w.heap.size w w' := by
  have HB := Lib.hid (Kt.balloc (Below.refl _ w) (.cells #[.int .i64 k, .int .i64 s, .int .i64 e, .int .i64 a] 23))
  have HR := Lib.hid (heap_alloc_new w (.cells #[.int .i64 k, .int .i64 s, .int .i64 e, .int .i64 a] 23))
  have H1 := Lib.hid (fun n W => in_calls n 4 (.inl rfl) W)
  have H2 := Lib.hid (fun n W => in_calls n 5 (.inr (.inl rfl)) W)
  have H3 := Lib.hid (fun n W => in_calls n 32 (.inr (.inr rfl)) W)
  have q := fun i => cell_of_row _ _ i _ _ _ HR.out
  go_enter Try.func8, Try.ntmps8
  go_wp2_with fail
  refine (H1.out k _).mono ?_
  rintro _ _ ⟨rfl, rfl⟩
  cases c0 : inB k 4 with
  | false =>
    have HP : Hid (pkR k s e a = .tuple #[.int .u64 0, .int .i64 1]) := Lib.hid (by unfold pkR inC; simp [c0])
    clear c0
    go_wp2_with fail
    go_ret2
    exact ⟨by rw [HP.out]; rfl, HB.out⟩
  | true =>
    go_wp2_with fail
    refine (H1.out s _).mono ?_
    rintro _ _ ⟨rfl, rfl⟩
    cases c1 : inB s 4 with
    | false =>
      have HP : Hid (pkR k s e a = .tuple #[.int .u64 0, .int .i64 1]) := Lib.hid (by unfold pkR inC; simp [c0, c1])
      clear c0 c1
      go_wp2_with fail
      go_ret2
      exact ⟨by rw [HP.out]; rfl, HB.out⟩
    | true =>
      go_wp2_with fail
      refine (H2.out e _).mono ?_
      rintro _ _ ⟨rfl, rfl⟩
      cases c2 : inB e 5 with
      | false =>
        have HP : Hid (pkR k s e a = .tuple #[.int .u64 0, .int .i64 1]) := Lib.hid (by unfold pkR inC; simp [c0, c1, c2])
        clear c0 c1 c2
        go_wp2_with fail
        go_ret2
        exact ⟨by rw [HP.out]; rfl, HB.out⟩
      | true =>
        go_wp2_with fail
        refine (H3.out a _).mono ?_
        rintro _ _ ⟨rfl, rfl⟩
        cases c3 : inB a 32 with
        | false =>
          have HP : Hid (pkR k s e a = .tuple #[.int .u64 0, .int .i64 1]) := Lib.hid (by unfold pkR inC; simp [c0, c1, c2, c3])
          clear c0 c1 c2 c3
          go_wp2_with fail
          go_ret2
          exact ⟨by rw [HP.out]; rfl, HB.out⟩
        | true =>
          have hc : inC k s e a = true := by unfold inC; rw [c0, c1, c2, c3]; rfl
          have HPK := Lib.hid (pk_bits hc)
          have HP : Hid (pkR k s e a = .tuple #[.int .u64 (pkw k s e a), .int .i64 0]) := Lib.hid (by unfold pkR; rw [if_pos hc])
          obtain ⟨⟨k0, k1⟩, ⟨s0, s1⟩, ⟨e0, e1⟩, a0, a1⟩ := inC_bd hc
          clear c0 c1 c2 c3 hc
          go_wp2_with fail
          go_ret2
          exact ⟨by rw [HP.out, ← HPK.out]; rfl, HB.out⟩
theorem and_lo (y i m : Nat) (hm : m = 2 ^ i - 1) (hy : y < 18446744073709551616) (hi : i ≤ 62) : wrap64 (bits .and .u64 (y : Int) (m : Int)) = ((y % 2 ^ i : Nat) : Int) := by
  have hp : (2 : Nat) ^ i ≤ 2 ^ 62 := Nat.pow_le_pow_right (by decide) hi
  have hp0 : 0 < (2 : Nat) ^ i := Nat.two_pow_pos i
  have hlt : y % 2 ^ i < 2 ^ i := Nat.mod_lt _ hp0
  rw [u64_and_nat _ _ hy (by omega), hm, Nat.and_two_pow_sub_one_eq_mod]
  unfold wrap64
  omega
/-- what a word tells -/
def unR (x : Nat) : Value := if x < 35184372088832 then .tuple #[.agg #[.int .i64 ((x / 2199023255552 : Nat) : Int), .int .i64 ((x / 137438953472 % 16 : Nat) : Int), .int .i64 ((x / 4294967296 % 32 : Nat) : Int), .int .i64 ((x % 4294967296 : Nat) : Int)], .int .i64 0] else .tuple #[.agg #[.int .i64 0, .int .i64 0, .int .i64 0, .int .i64 0], .int .i64 4]
set_option maxRecDepth 100000 in
set_option maxHeartbeats 3200000 in
theorem unpack_calls (x : Nat) (hx : x < 18446744073709551616) (w : World) : Calls Try.prog 9 #[.int .u64 (x : Int)] w fun en w' => en = .returned (unR x) ∧ Below w.heap.size w w' := by
  have HB := Lib.hid (Kt.balloc (Below.refl _ w) (.cells #[.int .i64 0, .int .i64 0, .int .i64 0, .int .i64 0] 23))
  have HR := heap_alloc_new w (.cells #[.int .i64 0, .int .i64 0, .int .i64 0, .int .i64 0] 23)
  have q := fun i => cell_of_row _ _ i _ _ _ HR
  have qf := fun i => frozen_of_row _ _ i _ _ HR
  by_cases h : x < 35184372088832
  · have HP := Lib.hid (show unR x = _ from if_pos h)
    have d : x / 35184372088832 = 0 := Nat.div_eq_of_lt h
    clear HR
    have hA := and_lo (x / 137438953472) 4 15 rfl (by omega) (by decide)
    have hB := and_lo (x / 4294967296) 5 31 rfl (by omega) (by decide)
    have hC := and_lo x 32 4294967295 rfl hx (by decide)
    have HA := Lib.hid hA; have HB2 := Lib.hid hB; have HC := Lib.hid hC
    clear hA hB hC
    go_enter Try.func9, Try.ntmps9
    go_wp2_with fail
    have hA : wrap64 (bits BinOp.and IntKind.u64 ((x : Int) / 137438953472) 15) = ((x / 137438953472 % 16 : Nat) : Int) := HA.out
    have hB : wrap64 (bits BinOp.and IntKind.u64 ((x : Int) / 4294967296) 31) = ((x / 4294967296 % 32 : Nat) : Int) := HB2.out
    have hC : wrap64 (bits BinOp.and IntKind.u64 (x : Int) 4294967295) = ((x % 4294967296 : Nat) : Int) := HC.out
    rw [hA, hB, hC]
    refine bodyPost_ret (v := .tuple #[.agg #[.int .i64 ((x / 2199023255552 : Nat) : Int), .int .i64 ((x / 137438953472 % 16 : Nat) : Int), .int .i64 ((x / 4294967296 % 32 : Nat) : Int), .int .i64 ((x % 4294967296 : Nat) : Int)], .int .i64 0]) (by simp [results, Try.results9, go_sem]) rfl ⟨by rw [HP.out], Kt.balloc (Below.refl _ w) _⟩
  · have HP := Lib.hid (show unR x = _ from if_neg h)
    clear HR
    go_enter Try.func9, Try.ntmps9
    go_wp2_with fail
    refine bodyPost_ret (v := .tuple #[.agg #[.int .i64 0, .int .i64 0, .int .i64 0, .int .i64 0], .int .i64 4]) (by simp [results, Try.results9, go_sem]) rfl ⟨by rw [HP.out], Kt.balloc (Below.refl _ w) _⟩
end Go.Proofs.Ytidcbboonjenhaa
