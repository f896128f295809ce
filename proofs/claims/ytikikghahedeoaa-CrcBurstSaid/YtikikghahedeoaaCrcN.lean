/- The laws of package crc, walked: parity. -/
import Derived.Test.YtikikghahedeoaaCrcL
import Derived.Test.YtikikghahedeoaaKit
import Derived.Deep.QuietTactic
namespace Go.Proofs.Ytikikghahedeoaa
open Go.RowKit Go.Proofs.Ytikikghahedeoaa.CrcP
theorem CrcN.clear (m : Nat) (hm : m < 18446744073709551616) (h0 : 0 < m) : Go.bits BinOp.and IntKind.u64 (m : Int) ((m : Int) - 1) = ((m &&& (m - 1) : Nat) : Int) := by
  have e : (m : Int) - 1 = ((m - 1 : Nat) : Int) := by omega
  rw [e]; exact u64_and_nat m (m - 1) hm (by omega)
@[irreducible] def pop (n : Nat) : Nat := pc 64 n
theorem pop_eq (n : Nat) : pop n = pc 64 n := by unfold pop; rfl
theorem pop_le (n : Nat) : pop n ≤ 64 := by rw [pop_eq]; exact pc_le 64 n
theorem pop_step (m : Nat) (h0 : 0 < m) (hm : m < 18446744073709551616) : pop (m &&& (m - 1)) + 1 = pop m := by rw [pop_eq, pop_eq]; exact pc_step 64 m h0 hm
theorem pop_zero : pop 0 = 0 := by rw [pop_eq, pc_zero]
set_option maxHeartbeats 400000 in
theorem ones_calls (x : Int) (n : Nat) (hxn : x = (n : Int)) (hn : n < 18446744073709551616) (w : World) :
    Calls Try.prog 12 #[.int .u64 x] w fun e w' => e = .returned (.int .i64 (pop n : Nat)) ∧ w = w' := by
  subst hxn
  have hP := pop_le n
  generalize hp : pop n = p at *
  have HP := Lib.hid hp; clear hp
  go_enter Try.func12, Try.ntmps12
  go_wp2
  go_loop [0, 3] (fun a b => ∃ (m j : Nat), m < 18446744073709551616 ∧ a = .int .u64 m ∧ b = .int .i64 j ∧ j + pop m = p) (fun a _ => (intOf a).toNat)
  case atStart => exact ⟨n, 0, hn, rfl, rfl, by rw [Nat.zero_add]; exact HP.out⟩
  case round =>
    obtain ⟨m, j, hm, rfl, rfl, hj⟩ := hrel
    have hj2 : j ≤ p := by omega
    have HJ := Lib.hid hj; clear hj
    by_cases h0 : 0 < m
    · have hc := CrcN.clear m hm h0
      have hle : m &&& (m - 1) ≤ m - 1 := Nat.and_le_right
      have hs := Lib.hid (pop_step m h0 hm)
      generalize m &&& (m - 1) = q at *
      go_wp2
      go_round
      case rel => exact ⟨q, j + 1, by omega, rfl, by go_num, by have := HJ.out; have := hs.out; omega⟩
      case measure => simp [intOf]; omega
    · obtain rfl : m = 0 := by omega
      go_wp2
      go_ret
      have := HJ.out
      rw [pop_zero] at this
      exact ⟨Kt.ret_int (by omega), rfl⟩
theorem CrcN.ones_q (q : Nat) (hq : q < 256) (w : World) : Calls Try.prog 12 #[.int .u64 (IntKind.u64.wrap (q : Int))] w fun e w' => e = .returned (.int .i64 (pop q : Nat)) ∧ w' = w :=
  (ones_calls _ q (IntWalk.u64_in _ (by omega)) (by omega) w).mono fun _ _ ⟨h1, h2⟩ => ⟨h1, h2.symm⟩
theorem CrcN.lives_q (w : World) : Calls Try.prog 9 #[] w fun e w' => e = .returned (.bool true) ∧ w' = w :=
  (lives_calls w).mono fun _ _ ⟨h1, h2⟩ => ⟨h1, h2.symm⟩
theorem CrcN.six_q (s : ByteArray) (hs : s.size ≤ maxLen) (w : World) : Calls Try.prog 11 #[.string s] w fun e w' => e = .returned (.int .u16 (six s.data.toList : Nat)) ∧ w' = w :=
  (sixteen_calls s hs w).mono fun _ _ ⟨h1, h2⟩ => ⟨h1, h2.symm⟩
theorem CrcN.xor8 (a b : UInt8) : Go.bits BinOp.xor IntKind.u8 (a.toNat : Int) (b.toNat : Int) = (((a ^^^ b).toNat : Nat) : Int) := by
  rw [u8_xor_nat _ _ a.toNat_lt b.toNat_lt, UInt8.toNat_xor]
def par (a b : ByteArray) (k : Nat) : Nat := (tbits (List.zipWith (· ^^^ ·) (a.data.toList.take k) (b.data.toList.take k))).count true % 2
theorem par_lt (a b : ByteArray) (k : Nat) : par a b k < 2 := Nat.mod_lt _ (by omega)
theorem par_succ (a b : ByteArray) (k : Nat) (ha : k < a.size) (hb : k < b.size) : par a b (k + 1) = (par a b k + pop (a[k] ^^^ b[k]).toNat) % 2 := by
  rw [pop_eq]; unfold par
  have la : k < a.data.toList.length := by simpa using ha
  have lb : k < b.data.toList.length := by simpa using hb
  rw [Kt.take_snoc a k ha, Kt.take_snoc b k hb, List.zipWith_append (by simp; omega), tbits_app, List.count_append]
  have e : tbits (List.zipWith (· ^^^ ·) [a[k]] [b[k]]) = nb (a[k] ^^^ b[k]).toNat 8 := by simp [tbits]
  have e2 := pc_up 8 (a[k] ^^^ b[k]).toNat (UInt8.toNat_lt _) 56
  rw [e, pc_nb, ← e2]
  show _ = (_ + pc (8 + 56) _) % 2
  omega
theorem CrcN.six_x (s : ByteArray) (X : Nat) (h : six s.data.toList = X) (hs : s.size ≤ maxLen) (w : World) : Calls Try.prog 11 #[.string s] w fun e w' => e = .returned (.int .u16 (X : Nat)) ∧ w' = w := by
  rw [← h]; exact CrcN.six_q s hs w
theorem CrcN.ones_q16 (q : Nat) (hq : q < 65536) (w : World) : Calls Try.prog 12 #[.int .u64 (IntKind.u64.wrap (q : Int))] w fun e w' => e = .returned (.int .i64 (pop q : Nat)) ∧ w' = w :=
  (ones_calls _ q (IntWalk.u64_in _ (by omega)) (by omega) w).mono fun _ _ ⟨h1, h2⟩ => ⟨h1, h2.symm⟩
theorem CrcN.fin (a b : ByteArray) (X Y : Nat) (hX : X = six (a.data.toList.take (min a.size b.size))) (hY : Y = six (b.data.toList.take (min a.size b.size))) :
    par a b (min a.size b.size) = pop (X ^^^ Y) % 2 := by
  rw [hX, hY, pop_eq, parity_law]
  · rfl
  · simp
set_option maxHeartbeats 800000 in
theorem parity_walk0 (a b : ByteArray) (ha : a.size ≤ 140737488351232) (hb : b.size ≤ 140737488351232) (w : World) :
    Calls Try.prog 6 #[.string a, .string b] w fun e w' => e = .returned (.bool true) ∧ Below w.heap.size w w' := by
  go_enter Try.func6, Try.ntmps6
  go_wp2
  all_goals
    go_loopw [6, 7, 14] (fun x y i wr => ∃ (k : Nat), k ≤ min a.size b.size ∧ i = .int .i64 k ∧ x = .int .i64 (par a b k : Nat) ∧ Below w.heap.size w wr) (fun _ _ i _ => min a.size b.size - (intOf i).toNat)
    case atStart => exact ⟨0, Nat.zero_le _, rfl, rfl, Below.refl _ _⟩
    case round =>
      obtain ⟨k, hk, rfl, rfl, hbel⟩ := hrel
      by_cases hlt : k < min a.size b.size
      · have hka : k < a.size := by omega
        have hkb : k < b.size := by omega
        have hx := CrcN.xor8 a[k] b[k]
        have hp := par_lt a b k
        have HS := Lib.hid (par_succ a b k hka hkb)
        have hq := (a[k] ^^^ b[k]).toNat_lt
        have hr := pop_le (a[k] ^^^ b[k]).toNat
        generalize (a[k] ^^^ b[k]).toNat = q at *
        generalize par a b k = pk at *
        have hsum : IntKind.i64.wrap ((pk : Int) + (pop q : Nat)) = (pk : Int) + (pop q : Nat) := IntWalk.i64_in _ (by omega)
        have HQ := Lib.hid (CrcN.ones_q q (by omega))
        go_wp2
        refine wp_region_quiet_lit (by kernel_rfl) (by kernel_rfl) ?_
        iterate 9 quiet_step (fail)
        refine wpQuiet_step (fun K hK => ?_); go_simp; apply Exists.intro; refine ⟨fun _ => ?_, hK _ ?_⟩
        exact Calls.quiet_of_same (v := .int .i64 (pop q : Nat)) (HQ.out _)
        clear hK K
        iterate 2 quiet_step (fail)
        refine wpQuiet_nil ?_; intro _ hw'; obtain ⟨nq, hw''⟩ := hw'; subst hw''
        clear hsum
        go_wp2
        go_roundw
        case rel => exact ⟨k + 1, by omega, by go_num, by rw [HS.out]; go_num, below_drewN hbel _⟩
        case measure => simp [intOf]; omega
      · obtain rfl : k = min a.size b.size := by omega
        obtain ⟨X, hX⟩ : ∃ X, X = six (a.data.toList.take (min a.size b.size)) := ⟨_, rfl⟩
        obtain ⟨Y, hY⟩ : ∃ Y, Y = six (b.data.toList.take (min a.size b.size)) := ⟨_, rfl⟩
        have hX2 : X < 65536 := by rw [hX]; exact more_lt _ _ (by omega)
        have hY2 : Y < 65536 := by rw [hY]; exact more_lt _ _ (by omega)
        have hXY : X ^^^ Y < 65536 := xor_lt (k := 16) hX2 hY2
        have hlaw := Lib.hid (CrcN.fin a b X Y hX hY)
        have HX := Lib.hid hX; clear hX
        have HY := Lib.hid hY; clear hY
        have hx := u16_xor_nat X Y hX2 hY2
        generalize X ^^^ Y = Z at *
        generalize par a b (min a.size b.size) = pk at *
        have hr := pop_le Z
        first | (have g := Nat.le_of_lt h; have E := Lib.hid (Nat.min_eq_right g)) | (have g := Nat.le_of_not_lt h; have E := Lib.hid (Nat.min_eq_left g))
        go_wp2
        refine wp_region_quiet_lit (by kernel_rfl) (by kernel_rfl) ?_
        refine wpQuiet_step (fun K hK => ?_); go_simp; apply Exists.intro; refine ⟨fun _ => ?_, hK _ ?_⟩
        exact Calls.quiet_of_same (v := .bool true) (CrcN.lives_q _)
        clear hK K
        iterate 5 quiet_step (fail)
        refine wpQuiet_step (fun K hK => ?_); go_simp; apply Exists.intro; refine ⟨fun _ => ?_, hK _ ?_⟩
        exact Calls.quiet_of_same (CrcN.six_x _ X (by rw [HX.out, E.out]; first | (simp; done) | (rw [List.take_of_length_le (by simp)])) (by unfold maxLen; simp; omega) _)
        clear hK K
        iterate 3 quiet_step (fail)
        refine wpQuiet_step (fun K hK => ?_); go_simp; apply Exists.intro; refine ⟨fun _ => ?_, hK _ ?_⟩
        exact Calls.quiet_of_same (CrcN.six_x _ Y (by rw [HY.out, E.out]; first | (simp; done) | (rw [List.take_of_length_le (by simp)])) (by unfold maxLen; simp; omega) _)
        clear hK K
        iterate 2 quiet_step (fail)
        refine wpQuiet_step (fun K hK => ?_); go_simp; apply Exists.intro; refine ⟨fun _ => ?_, hK _ ?_⟩
        exact Calls.quiet_of_same (v := .int .i64 (pop Z : Nat)) (CrcN.ones_q16 Z hXY _)
        clear hK K
        iterate 4 quiet_step (fail)
        refine wpQuiet_nil ?_; intro _ hw'; obtain ⟨nq, hw''⟩ := hw'; subst hw''
        go_wp2
        go_ret
        exact ⟨Kt.ret_true (by rw [hlaw.out]; simp [Int.tmod_eq_emod_of_nonneg]), below_drewN hbel _⟩
theorem parity_walk (v0 v1 : Value) (w : World) (r0 : Fr.RdV w reachBytes .string v0) (r1 : Fr.RdV w reachBytes .string v1) :
    Calls Try.prog 6 #[v0, v1] w fun e w' => e = .returned (.bool true) ∧ Below w.heap.size w w' := by
  obtain ⟨a, e0, h0⟩ := r0; cases e0
  obtain ⟨b, e1, h1⟩ := r1; cases e1
  exact parity_walk0 a b h0 h1 w
end Go.Proofs.Ytikikghahedeoaa
