/- The walks of package crc: each function returns what the plain law's functions compute. -/
import Derived.Test.YtmnmlnnhngnfbaaDoorRows
import Derived.Test.YtmnmlnnhngnfbaaDoorCrcP
import Derived.WalkKit
import Derived.WalkSpells
import Derived.WalkLawsBesides
import Derived.Laws.BitsAllLaws
import Derived.Lib.Hide
import Derived.Deep.QuietTactic
import Derived.BigQuiet
namespace Go.Proofs.YtmnmlnnhngnfbaaDoor
open Go.RowKit Go.Proofs.YtmnmlnnhngnfbaaDoor.CrcP

theorem CrcW.odd16 (r : Nat) (h : r < 65536) : (Go.bits BinOp.and IntKind.u16 (r : Int) 1) = ((r % 2 : Nat) : Int) := by
  have := u16_and_nat r 1 h (by omega)
  rw [nat_mask1] at this; exact this
theorem CrcW.odd8 (r : Nat) (h : r < 256) : (Go.bits BinOp.and IntKind.u8 (r : Int) 1) = ((r % 2 : Nat) : Int) := by
  have := u8_and_nat r 1 h (by omega)
  rw [nat_mask1] at this; exact this
theorem CrcW.tb (n k : Nat) : n.testBit k = (n / 2 ^ k % 2 == 1) := by
  rw [Nat.testBit_eq_decide_div_mod_eq, Bool.eq_iff_iff]; simp
theorem CrcW.test16 (r n k : Nat) (hr : r < 65536) (hn : n < 65536) :
    (Go.bits BinOp.and IntKind.u16 (r : Int) 1 != Go.bits BinOp.and IntKind.u16 ((n : Int) / 2 ^ k) 1) = ((r % 2 == 1) != n.testBit k) := by
  have e : ((n : Int) / 2 ^ k) = ((n / 2 ^ k : Nat) : Int) := by simp
  have l : n / 2 ^ k < 65536 := Nat.lt_of_le_of_lt (Nat.div_le_self _ _) hn
  rw [e, CrcW.odd16 r hr, CrcW.odd16 _ l, CrcW.tb]
  rcases Nat.mod_two_eq_zero_or_one r with h | h <;> rcases Nat.mod_two_eq_zero_or_one (n / 2 ^ k) with h' | h' <;> rw [h, h'] <;> rfl

set_option maxHeartbeats 400000 in
theorem feed16 (r c n m : Nat) (hr : r < 65536) (hc : c < 65536) (hn : n < 65536) (hm : m ≤ 16) (w : World) :
    Calls Tryd.prog 74 #[.int .u16 r, .int .u16 c, .int .u16 n, .int .i64 m] w fun e w' => e = .returned (.int .u16 (run c r (nb n m) : Nat)) ∧ w = w' := by
  go_enter Tryd.func74, Tryd.ntmps74
  go_wp2
  go_loop [0, 9, 10, 12] (fun a b x i => ∃ (k : Nat), k ≤ m ∧ i = .int .i64 k ∧ a = .int .u16 (run c r (nb n k) : Nat)) (fun _ _ _ i => m - (intOf i).toNat)
  case atStart => exact ⟨0, Nat.zero_le _, rfl, rfl⟩
  case round =>
    obtain ⟨k, hk, rfl, rfl⟩ := hrel
    by_cases hlt : k < m
    · have hx : run c r (nb n k) < 65536 := run_lt (k := 16) hc _ _ hr
      have hs : run c r (nb n (k + 1)) = st c (run c r (nb n k)) (n.testBit k) := by rw [nb_succ, run_app]; rfl
      have HS := Lib.hid hs; clear hs
      generalize run c r (nb n k) = x at *
      have ht := CrcW.test16 x n k hx hn
      cases hb : ((x % 2 == 1) != n.testBit k)
      · rw [hb] at ht
        have HV := Lib.hid (st_f (c := c) hb); clear hb
        go_wp2
        go_round
        case rel => exact ⟨k + 1, by omega, by go_num, by rw [HS.out, HV.out]; simp⟩
        case measure => simp [intOf]; omega
      · rw [hb] at ht
        have HV := Lib.hid (st_t (c := c) hb); clear hb
        have HX := Lib.hid (u16_xor_nat (x / 2) c (by omega) hc)
        go_wp2
        go_round
        case rel => exact ⟨k + 1, by omega, by go_num, by rw [HS.out, HV.out, ← HX.out]; simp⟩
        case measure => simp [intOf]; omega
    · obtain rfl : k = m := by omega
      go_wp2
      go_ret
      exact ⟨rfl, rfl⟩

theorem CrcW.test8 (r n k : Nat) (hr : r < 256) (hn : n < 65536) :
    (Go.bits BinOp.and IntKind.u8 (r : Int) 1 != Go.bits BinOp.and IntKind.u16 ((n : Int) / 2 ^ k) 1 % 256) = ((r % 2 == 1) != n.testBit k) := by
  have e : ((n : Int) / 2 ^ k) = ((n / 2 ^ k : Nat) : Int) := by simp
  have l : n / 2 ^ k < 65536 := Nat.lt_of_le_of_lt (Nat.div_le_self _ _) hn
  rw [e, CrcW.odd8 r hr, CrcW.odd16 _ l, CrcW.tb]
  rcases Nat.mod_two_eq_zero_or_one r with h | h <;> rcases Nat.mod_two_eq_zero_or_one (n / 2 ^ k) with h' | h' <;> rw [h, h'] <;> rfl

set_option maxHeartbeats 400000 in
theorem feed8 (r' c' n' m' : Int) (r c n m : Nat) (e1 : r' = (r : Int)) (e2 : c' = (c : Int)) (e3 : n' = (n : Int)) (e4 : m' = (m : Int)) (hr : r < 256) (hc : c < 256) (hn : n < 65536) (hm : m ≤ 16) (w : World) :
    Calls Tryd.prog 60 #[.int .u8 r', .int .u8 c', .int .u16 n', .int .i64 m'] w fun e w' => e = .returned (.int .u8 (run c r (nb n m) : Nat)) ∧ w = w' := by
  subst e1 e2 e3 e4
  go_enter Tryd.func60, Tryd.ntmps60
  go_wp2
  go_loop [0, 9, 10, 12] (fun a b x i => ∃ (k : Nat), k ≤ m ∧ i = .int .i64 k ∧ a = .int .u8 (run c r (nb n k) : Nat)) (fun _ _ _ i => m - (intOf i).toNat)
  case atStart => exact ⟨0, Nat.zero_le _, rfl, rfl⟩
  case round =>
    obtain ⟨k, hk, rfl, rfl⟩ := hrel
    by_cases hlt : k < m
    · have hx : run c r (nb n k) < 256 := run_lt (k := 8) hc _ _ hr
      have hs : run c r (nb n (k + 1)) = st c (run c r (nb n k)) (n.testBit k) := by rw [nb_succ, run_app]; rfl
      have HS := Lib.hid hs; clear hs
      generalize run c r (nb n k) = x at *
      have ht := CrcW.test8 x n k hx hn
      cases hb : ((x % 2 == 1) != n.testBit k)
      · rw [hb] at ht
        have HV := Lib.hid (st_f (c := c) hb); clear hb
        go_wp2
        go_round
        case rel => exact ⟨k + 1, by omega, by go_num, by rw [HS.out, HV.out]; simp⟩
        case measure => simp [intOf]; omega
      · rw [hb] at ht
        have HV := Lib.hid (st_t (c := c) hb); clear hb
        have HX := Lib.hid (u8_xor_nat (x / 2) c (by omega) hc)
        go_wp2
        go_round
        case rel => exact ⟨k + 1, by omega, by go_num, by rw [HS.out, HV.out, ← HX.out]; simp⟩
        case measure => simp [intOf]; omega
    · obtain rfl : k = m := by omega
      go_wp2
      go_ret
      exact ⟨rfl, rfl⟩

theorem CrcW.take_snoc (s : ByteArray) (k : Nat) (h : k < s.size) : s.data.toList.take (k + 1) = s.data.toList.take k ++ [s[k]] := by
  rw [List.take_succ_eq_append_getElem (by simpa using h)]; rfl
theorem CrcW.not16 (r : Nat) (hr : r < 65536) : Go.bits BinOp.xor IntKind.u16 IntKind.u16.max (r : Int) = ((r ^^^ 65535 : Nat) : Int) := by
  have e : IntKind.u16.max = ((65535 : Nat) : Int) := by decide
  rw [e, u16_xor_nat 65535 r (by omega) hr, Nat.xor_comm]

set_option maxHeartbeats 400000 in
theorem more_calls (x : Int) (r : Nat) (s : ByteArray) (hxr : x = (r : Int)) (hr : r < 65536) (hs : s.size ≤ maxLen) (w : World) :
    Calls Tryd.prog 59 #[.int .u16 x, .string s] w fun e w' => e = .returned (.int .u16 (more r s.data.toList : Nat)) ∧ w = w' := by
  unfold maxLen at hs
  subst hxr
  have hr' : r ^^^ 65535 < 65536 := xor_lt (k := 16) hr (by decide)
  have HE := Lib.hid (more_eq r s.data.toList)
  have HN := Lib.hid (CrcW.not16 r hr)
  go_enter Tryd.func59, Tryd.ntmps59
  go_wp2
  rw [HN.out]
  generalize r ^^^ 65535 = r0 at *
  go_loop [5, 6, 11] (fun a b i => ∃ (k : Nat), k ≤ s.size ∧ i = .int .i64 k ∧ a = .int .u16 (run 40961 r0 (tbits (s.data.toList.take k)) : Nat)) (fun _ _ i => s.size - (intOf i).toNat)
  case atStart => exact ⟨0, Nat.zero_le _, rfl, rfl⟩
  case round =>
    obtain ⟨k, hk, rfl, rfl⟩ := hrel
    have hx : run 40961 r0 (tbits (s.data.toList.take k)) < 65536 := run_lt (k := 16) (by decide) _ _ hr'
    by_cases hlt : k < s.size
    · have hq : run 40961 r0 (tbits (s.data.toList.take (k + 1))) = run 40961 (run 40961 r0 (tbits (s.data.toList.take k))) (nb s[k].toNat 8) := by
        rw [CrcW.take_snoc s k hlt, tbits_snoc, run_app]
      have HQ := Lib.hid hq; clear hq
      generalize run 40961 r0 (tbits (s.data.toList.take k)) = x at *
      have hb := UInt8.toNat_lt s[k]
      go_wp2_with (go_at_call 74; refine (feed16 x 40961 s[k].toNat 8 hx (by omega) (by omega) (by omega) _).mono ?_; rintro e w' ⟨rfl, rfl⟩)
      go_round
      case rel => exact ⟨k + 1, by omega, by go_num, by rw [HQ.out]⟩
      case measure => simp [intOf]; omega
    · obtain rfl : k = s.size := by omega
      have h1 : s.data.toList.take s.size = s.data.toList := List.take_of_length_le (by simp)
      rw [h1] at hx ⊢
      have HN2 := Lib.hid (CrcW.not16 _ hx)
      go_wp2
      go_ret
      exact ⟨by rw [HE.out, HN2.out]; rfl, rfl⟩

theorem sixteen_calls (s : ByteArray) (hs : s.size ≤ maxLen) (w : World) :
    Calls Tryd.prog 37 #[.string s] w fun e w' => e = .returned (.int .u16 (six s.data.toList : Nat)) ∧ w = w' := by
  have HE := Lib.hid (six_eq s.data.toList)
  go_enter Tryd.func37, Tryd.ntmps37
  go_wp2_with (go_at_call 59; refine (more_calls _ 0 s rfl (by omega) hs _).mono ?_; rintro e w' ⟨rfl, rfl⟩)
  go_ret
  exact ⟨by rw [HE.out]; rfl, rfl⟩

theorem CrcW.not8 (r : Nat) (hr : r < 256) : Go.bits BinOp.xor IntKind.u8 (r : Int) 31 = ((r ^^^ 31 : Nat) : Int) := u8_xor_nat r 31 hr (by omega)
theorem five_calls (x : Int) (n : Nat) (hxn : x = (n : Int)) (hn : n ≤ 2047) (w : World) :
    Calls Tryd.prog 38 #[.int .u16 x] w fun e w' => e = .returned (.tuple #[.int .u8 (five n : Nat), .int .i64 0]) ∧ w = w' := by
  subst hxn
  have hx : run 20 31 (nb n 11) < 256 := run_lt (k := 8) (by decide) _ _ (by decide)
  have HN := Lib.hid (CrcW.not8 _ hx); clear hx
  have HE := Lib.hid (five_eq n)
  go_enter Tryd.func38, Tryd.ntmps38
  go_wp2_with (go_at_call 60; refine (feed8 _ _ _ _ 31 20 n 11 rfl rfl rfl rfl (by omega) (by omega) (by omega) (by omega) _).mono ?_; rintro e w' ⟨rfl, rfl⟩)
  go_ret2
  exact ⟨by rw [HE.out, HN.out]; rfl, rfl⟩
end Go.Proofs.YtmnmlnnhngnfbaaDoor
