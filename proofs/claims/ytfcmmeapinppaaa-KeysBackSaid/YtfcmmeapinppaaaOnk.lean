/- How many bits of a number are 1: the helper of the laws, walked. -/
import Derived.Test.YtfcmmeapinppaaaRows
import Derived.Test.YtfcmmeapinppaaaCrcP
import Derived.Test.YtfcmmeapinppaaaKit
import Derived.Deep.QuietTactic
namespace Go.Proofs.Ytfcmmeapinppaaa
open Go.RowKit Go.Proofs.Ytfcmmeapinppaaa.CrcP
theorem CrcN.clear (m : Nat) (hm : m < 18446744073709551616) (h0 : 0 < m) : Go.bits BinOp.and IntKind.u64 (m : Int) ((m : Int) - 1) = ((m &&& (m - 1) : Nat) : Int) := by
  have e : (m : Int) - 1 = ((m - 1 : Nat) : Int) := by omega
  rw [e]; exact u64_and_nat m (m - 1) hm (by omega)
@[irreducible] def pop (n : Nat) : Nat := pc 64 n
theorem pop_eq (n : Nat) : pop n = pc 64 n := by unfold pop; rfl
theorem pop_le (n : Nat) : pop n ≤ 64 := by rw [pop_eq]; exact pc_le 64 n
theorem pop_step (m : Nat) (h0 : 0 < m) (hm : m < 18446744073709551616) : pop (m &&& (m - 1)) + 1 = pop m := by rw [pop_eq, pop_eq]; exact pc_step 64 m h0 hm
theorem pop_zero : pop 0 = 0 := by rw [pop_eq, pc_zero]
set_option maxHeartbeats 400000 in
theorem ones_calls (x : Int) (n : Nat) (hxn : x = (n : Int)) (hn : n < 18446744073709551616) (w : World) :
    Calls Try.prog 12 #[.int .u64 x] w fun e w' => e = .returned (.int .i64 (pop n : Nat)) ∧ w = w' := by
  subst hxn
  have hP := pop_le n
  generalize hp : pop n = p at *
  have HP := Lib.hid hp; clear hp
  go_enter Try.func12, Try.ntmps12
  go_wp2
  go_loop [0, 3] (fun a b => ∃ (m j : Nat), m < 18446744073709551616 ∧ a = .int .u64 m ∧ b = .int .i64 j ∧ j + pop m = p) (fun a _ => (intOf a).toNat)
  case atStart => exact ⟨n, 0, hn, rfl, rfl, by rw [Nat.zero_add]; exact HP.out⟩
  case round =>
    obtain ⟨m, j, hm, rfl, rfl, hj⟩ := hrel
    have hj2 : j ≤ p := by omega
    have HJ := Lib.hid hj; clear hj
    by_cases h0 : 0 < m
    · have hc := CrcN.clear m hm h0
      have hle : m &&& (m - 1) ≤ m - 1 := Nat.and_le_right
      have hs := Lib.hid (pop_step m h0 hm)
      generalize m &&& (m - 1) = q at *
      go_wp2
      go_round
      case rel => exact ⟨q, j + 1, by omega, rfl, by go_num, by have := HJ.out; have := hs.out; omega⟩
      case measure => simp [intOf]; omega
    · obtain rfl : m = 0 := by omega
      go_wp2
      go_ret
      have := HJ.out
      rw [pop_zero] at this
      exact ⟨Kt.ret_int (by omega), rfl⟩
end Go.Proofs.Ytfcmmeapinppaaa
