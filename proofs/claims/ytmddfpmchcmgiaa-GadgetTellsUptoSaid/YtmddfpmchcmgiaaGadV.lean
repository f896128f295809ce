/- The document's answer on a gadget: is it right? -/
import Derived.Test.YtmddfpmchcmgiaaGadW
import Derived.Test.YtmddfpmchcmgiaaGen
import Derived.Deep.QuietTactic
import Derived.BigQuiet
namespace Go.Proofs.Ytmddfpmchcmgiaa
open Go.RowKit
def btw (n lo hi : Int) : Bool := decide (lo ≤ n) && decide (n ≤ hi)
set_option maxHeartbeats 400000 in
theorem btw_calls (n lo hi : Int) (w : World) : Calls Try.prog 52 #[.int .i64 n, .int .i64 lo, .int .i64 hi] w fun e w' => e = .returned (.bool (btw n lo hi)) ∧ w' = w := by
  unfold btw
  by_cases h1 : lo ≤ n
  · have e1 : decide (lo ≤ n) = true := decide_eq_true h1
    rw [e1]
    by_cases h2 : n ≤ hi
    · have e2 : decide (n ≤ hi) = true := decide_eq_true h2
      rw [e2]
      clear h1 h2
      go_enter Try.func52, Try.ntmps52
      go_wp2
      go_ret
      exact ⟨rfl, rfl⟩
    · have e2 : decide (n ≤ hi) = false := decide_eq_false h2
      rw [e2]
      clear h1 h2
      go_enter Try.func52, Try.ntmps52
      go_wp2
      go_ret
      exact ⟨rfl, rfl⟩
  · have e1 : decide (lo ≤ n) = false := decide_eq_false h1
    rw [e1]
    clear h1
    go_enter Try.func52, Try.ntmps52
    go_wp2
    go_ret
    exact ⟨rfl, rfl⟩
theorem two_next : ∀ i : Fin 32, wrap64 (((2 ^ i.val : Nat) : Int) * 2) = ((2 ^ (i.val + 1) : Nat) : Int) := by decide +kernel
set_option maxHeartbeats 400000 in
theorem two32 (w : World) : Calls Try.prog 53 #[.int .i64 32] w fun e w' => e = .returned (.int .i64 4294967296) ∧ w' = w := by
  go_enter Try.func53, Try.ntmps53
  go_wp2_with fail
  go_loopw [3, 5] (fun a b wr => ∃ (i n : Nat), i ≤ 32 ∧ n = 2 ^ i ∧ a = .int .i64 n ∧ b = .int .i64 i ∧ wr = w) (fun _ b _ => 32 - (intOf b).toNat)
  case atStart => exact ⟨0, 1, by omega, rfl, rfl, rfl, by trivial⟩
  case round =>
    obtain ⟨i, n, hi, hn, rfl, rfl, rfl⟩ := hrel
    by_cases hlt : i < 32
    · have hz : wrap64 ((n : Int) * 2) = ((2 ^ (i + 1) : Nat) : Int) := by rw [hn]; exact two_next ⟨i, hlt⟩
      have HZ := Lib.hid hz
      have hwk : wrap64 ((i : Int) + 1) = ((i + 1 : Nat) : Int) := by unfold wrap64; omega
      have HWK := Lib.hid hwk
      have hi2 : (i : Int) < 32 := by omega
      clear hz hwk hn
      go_wp2_with fail
      go_roundw
      case rel => exact ⟨i + 1, 2 ^ (i + 1), hlt, rfl, congrArg _ HZ.out, congrArg _ (by first | exact HWK.out | rfl), by trivial⟩
      case measure => (try rw [HWK.out]); exact Nat.sub_lt_sub_left hlt (Nat.lt_succ_self i)
    · obtain rfl : i = 32 := by omega
      obtain rfl : n = 4294967296 := hn
      go_wp2_with fail
      go_ret
      exact ⟨rfl, rfl⟩
set_option maxRecDepth 100000 in
set_option maxHeartbeats 3200000 in
theorem refgd_calls (g : Gd) (w : World) : Calls Try.prog 26 #[gdV g] w fun e w' => e = .returned (.bool (gOk g)) ∧ Below w.heap.size w w' := by
  obtain ⟨st, ad, ha⟩ := g
  have H1 := Lib.hid (btw_calls st 0 2)
  have H2 := Lib.hid (btw_calls ha 0 4294967295)
  have H3 := Lib.hid (btw_calls ad 1 127)
  have HT := Lib.hid two32
  have HG : Hid (gOk ⟨st, ad, ha⟩ = (btw st 0 2 && btw ha 0 4294967295 && (st == 2 || ha == 0) && (st == 0 && ad == 0 || decide (0 < st) && btw ad 1 127))) := Lib.hid (by
    unfold gOk btw
    rw [Bool.eq_iff_iff]
    simp
    omega)
  have HX1 : Hid (btw st 0 2 = true ↔ 0 ≤ st ∧ st ≤ 2) := Lib.hid (by unfold btw; simp)
  unfold gdV
  generalize btw st 0 2 = x1 at *
  generalize btw ha 0 4294967295 = x2 at *
  generalize btw ad 1 127 = x8 at *
  cases x1 with
  | false =>
    rw [HG.out]
    go_enter Try.func26, Try.ntmps26
    go_wp2_with fail
    go_quiet (first | with_reducible exact Calls.quiet_of_same (H1.out _) | with_reducible exact Calls.quiet_of_same (HT.out _) | with_reducible exact Calls.quiet_of_same (H2.out _) | with_reducible exact Calls.quiet_of_same (H3.out _))
    go_wp2_with fail
    go_ret
    exact ⟨rfl, bdrewN (Kt.balloc (Below.refl _ w) _) _⟩
  | true =>
    have hst := HX1.out.1 rfl
    cases x2 with
    | false =>
      rw [HG.out]
      go_enter Try.func26, Try.ntmps26
      go_wp2_with fail
      go_quiet (first | with_reducible exact Calls.quiet_of_same (H1.out _) | with_reducible exact Calls.quiet_of_same (HT.out _) | with_reducible exact Calls.quiet_of_same (H2.out _) | with_reducible exact Calls.quiet_of_same (H3.out _))
      go_wp2_with fail
      go_ret
      exact ⟨rfl, bdrewN (Kt.balloc (Below.refl _ w) _) _⟩
    | true =>
      by_cases c3 : st = 2
      · subst c3
        rw [HG.out]
        go_enter Try.func26, Try.ntmps26
        go_wp2_with fail
        go_quiet (first | with_reducible exact Calls.quiet_of_same (H1.out _) | with_reducible exact Calls.quiet_of_same (HT.out _) | with_reducible exact Calls.quiet_of_same (H2.out _) | with_reducible exact Calls.quiet_of_same (H3.out _))
        go_wp2_with fail
        go_ret
        exact ⟨rfl, bdrewN (Kt.balloc (Below.refl _ w) _) _⟩
      · have e3 : (st == 2) = false := by rw [beq_eq_false_iff_ne]; exact c3
        by_cases c4 : ha = 0
        · subst c4
          by_cases c5 : st = 0
          · subst c5
            by_cases c6 : ad = 0
            · subst c6
              rw [HG.out]
              go_enter Try.func26, Try.ntmps26
              go_wp2_with fail
              go_quiet (first | with_reducible exact Calls.quiet_of_same (H1.out _) | with_reducible exact Calls.quiet_of_same (HT.out _) | with_reducible exact Calls.quiet_of_same (H2.out _) | with_reducible exact Calls.quiet_of_same (H3.out _))
              go_wp2_with fail
              go_ret
              exact ⟨rfl, bdrewN (Kt.balloc (Below.refl _ w) _) _⟩
            · have e6 : (ad == 0) = false := by rw [beq_eq_false_iff_ne]; exact c6
              rw [e6] at HG
              rw [HG.out]
              go_enter Try.func26, Try.ntmps26
              go_wp2_with fail
              go_quiet (first | with_reducible exact Calls.quiet_of_same (H1.out _) | with_reducible exact Calls.quiet_of_same (HT.out _) | with_reducible exact Calls.quiet_of_same (H2.out _) | with_reducible exact Calls.quiet_of_same (H3.out _))
              go_wp2_with fail
              go_ret
              exact ⟨rfl, bdrewN (Kt.balloc (Below.refl _ w) _) _⟩
          · have c7 : st = 1 := by omega
            subst c7
            rw [HG.out]
            go_enter Try.func26, Try.ntmps26
            go_wp2_with fail
            go_quiet (first | with_reducible exact Calls.quiet_of_same (H1.out _) | with_reducible exact Calls.quiet_of_same (HT.out _) | with_reducible exact Calls.quiet_of_same (H2.out _) | with_reducible exact Calls.quiet_of_same (H3.out _))
            go_wp2_with fail
            go_ret
            exact ⟨rfl, bdrewN (Kt.balloc (Below.refl _ w) _) _⟩
        · have e4 : (ha == 0) = false := by rw [beq_eq_false_iff_ne]; exact c4
          rw [e3, e4] at HG
          rw [HG.out]
          go_enter Try.func26, Try.ntmps26
          go_wp2_with fail
          go_quiet (first | with_reducible exact Calls.quiet_of_same (H1.out _) | with_reducible exact Calls.quiet_of_same (HT.out _) | with_reducible exact Calls.quiet_of_same (H2.out _) | with_reducible exact Calls.quiet_of_same (H3.out _))
          go_wp2_with fail
          go_ret
          exact ⟨rfl, bdrewN (Kt.balloc (Below.refl _ w) _) _⟩
end Go.Proofs.Ytmddfpmchcmgiaa
