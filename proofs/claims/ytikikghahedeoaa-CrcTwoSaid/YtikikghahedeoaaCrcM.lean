/- The laws of package crc, walked: a text with its own sum behind it; tokens. -/
import Derived.Test.YtikikghahedeoaaCrcL
import Derived.Test.YtikikghahedeoaaKit
namespace Go.Proofs.Ytikikghahedeoaa
open Go.RowKit Go.Proofs.Ytikikghahedeoaa.CrcP
set_option maxHeartbeats 400000 in
theorem rest_walk0 (s : ByteArray) (hs : s.size ≤ 140737488351232) (w : World) :
    Calls Try.prog 5 #[.string s] w fun e w' => e = .returned (.bool true) ∧ Below w.heap.size w w' := by
  go_enter Try.func5, Try.ntmps5
  go_wp2_with fail
  refine (sixteen_calls s (by unfold maxLen; omega) _).mono ?_; rintro e w' ⟨rfl, rfl⟩
  have hn : six s.data.toList < 65536 := more_lt _ _ (by omega)
  have hlaw := Lib.hid (rest_law s.data.toList (UInt8.ofNat (six s.data.toList % 256)) (UInt8.ofNat (six s.data.toList / 256)) (Kt.u8n _ (by omega)) (Kt.u8n _ (by omega)))
  generalize six s.data.toList = n at *
  have hc := Kt.conv_back (P := Try.prog) (w.alloc (.cells #[.int .u8 ((n : Int) % 256), .int .u8 ((n : Int) / 256)] 5)) 27 9 5 w.heap.size 0 2 2 [UInt8.ofNat (n % 256), UInt8.ofNat (n / 256)] rfl Try.underlying27 Try.underlying5 Try.underlying9 (by
    intro j hj
    match j, hj with
    | 0, _ => simp
    | 1, _ => simp; omega)
  go_wp2_with fail
  refine (lives_calls _).mono ?_; rintro e w' ⟨rfl, rfl⟩
  go_wp2_with fail
  refine (sixteen_calls _ (by unfold maxLen; rw [ByteArray.size_append]; show s.size + 2 ≤ _; omega) _).mono ?_; rintro e w' ⟨rfl, rfl⟩
  go_wp2_with fail
  go_ret
  refine ⟨Kt.ret_true ?_, (Below.refl _ _).alloc (Nat.le_refl _) _⟩
  have h := hlaw.out
  simp [h]
theorem CrcM.and11 (n : Nat) (h : n < 65536) : Go.bits BinOp.and IntKind.u16 (n : Int) 2047 = ((n % 2048 : Nat) : Int) := by
  have := u16_and_nat n 2047 h (by omega)
  rw [nat_mask11] at this; exact this
set_option maxHeartbeats 400000 in
theorem two_out (n i j : Int) (hn : 0 ≤ n ∧ n ≤ 65535) (h : ¬ (0 ≤ i ∧ i ≤ 15 ∧ 0 ≤ j ∧ j ≤ 15)) (w : World) :
    Calls Try.prog 8 #[.int .u16 n, .int .i64 i, .int .i64 j] w fun e w' => e = .returned (.bool true) ∧ Below w.heap.size w w' := by
  obtain ⟨n, rfl⟩ := Int.eq_ofNat_of_zero_le hn.1
  have hand := CrcM.and11 n (by omega)
  have hm : n % 2048 < 2048 := by omega
  generalize n % 2048 = m at *
  have h5 := five_lt m
  by_cases h1 : i < 0
  · go_enter Try.func8, Try.ntmps8
    go_wp2_with (first | (go_at_call 13; refine (five_calls _ m rfl (by omega) _).mono ?_; rintro e w' ⟨rfl, rfl⟩) | (go_at_call 9; refine (lives_calls _).mono ?_; rintro e w' ⟨rfl, rfl⟩))
    go_ret
    exact ⟨rfl, Below.refl _ _⟩
  by_cases h2 : 15 < i
  · go_enter Try.func8, Try.ntmps8
    go_wp2_with (first | (go_at_call 13; refine (five_calls _ m rfl (by omega) _).mono ?_; rintro e w' ⟨rfl, rfl⟩) | (go_at_call 9; refine (lives_calls _).mono ?_; rintro e w' ⟨rfl, rfl⟩))
    go_ret
    exact ⟨rfl, Below.refl _ _⟩
  by_cases h3 : j < 0
  · go_enter Try.func8, Try.ntmps8
    go_wp2_with (first | (go_at_call 13; refine (five_calls _ m rfl (by omega) _).mono ?_; rintro e w' ⟨rfl, rfl⟩) | (go_at_call 9; refine (lives_calls _).mono ?_; rintro e w' ⟨rfl, rfl⟩))
    go_ret
    exact ⟨rfl, Below.refl _ _⟩
  have h4 : 15 < j := by omega
  go_enter Try.func8, Try.ntmps8
  go_wp2_with (first | (go_at_call 13; refine (five_calls _ m rfl (by omega) _).mono ?_; rintro e w' ⟨rfl, rfl⟩) | (go_at_call 9; refine (lives_calls _).mono ?_; rintro e w' ⟨rfl, rfl⟩))
  go_ret
  exact ⟨rfl, Below.refl _ _⟩
theorem CrcM.word (m f : Nat) (hm : m < 2048) (hf : f < 32) : Go.bits BinOp.or IntKind.u16 (m : Int) ((f : Int) * 2048) = ((m + f * 2048 : Nat) : Int) := by
  have e : (f : Int) * 2048 = ((f * 2048 : Nat) : Int) := by omega
  rw [e, u16_or_nat m (f * 2048) (by omega) (by omega), Nat.or_comm, nat_join 11 (f * 2048) m (by omega) (by omega), Nat.add_comm]
theorem CrcM.pow (i : Nat) (hi : i ≤ 15) : IntKind.u16.wrap (2 ^ i) = ((1 <<< i : Nat) : Int) := by
  have : i = 0 ∨ i = 1 ∨ i = 2 ∨ i = 3 ∨ i = 4 ∨ i = 5 ∨ i = 6 ∨ i = 7 ∨ i = 8 ∨ i = 9 ∨ i = 10 ∨ i = 11 ∨ i = 12 ∨ i = 13 ∨ i = 14 ∨ i = 15 := by omega
  rcases this with rfl | rfl | rfl | rfl | rfl | rfl | rfl | rfl | rfl | rfl | rfl | rfl | rfl | rfl | rfl | rfl <;> decide
theorem CrcM.shl_lt (i : Nat) (hi : i ≤ 15) : 1 <<< i < 65536 := by
  rw [Nat.shiftLeft_eq, Nat.one_mul]
  exact Nat.lt_of_le_of_lt (Nat.pow_le_pow_right (by omega) hi) (by decide)
theorem CrcM.neq {a b : Nat} (h : a ≠ b) : ((a : Int) != (b : Int)) = true := by rw [bne_iff_ne]; omega
set_option maxHeartbeats 800000 in
theorem two_in (n i j : Int) (hn : 0 ≤ n ∧ n ≤ 65535) (h : (0 ≤ i ∧ i ≤ 15 ∧ 0 ≤ j ∧ j ≤ 15)) (w : World) :
    Calls Try.prog 8 #[.int .u16 n, .int .i64 i, .int .i64 j] w fun e w' => e = .returned (.bool true) ∧ Below w.heap.size w w' := by
  obtain ⟨n, rfl⟩ := Int.eq_ofNat_of_zero_le hn.1
  obtain ⟨i, rfl⟩ := Int.eq_ofNat_of_zero_le h.1
  obtain ⟨j, rfl⟩ := Int.eq_ofNat_of_zero_le h.2.2.1
  obtain ⟨_, hi, _, hj⟩ := h
  have hand := CrcM.and11 n (by omega)
  have hm : n % 2048 < 2048 := by omega
  generalize n % 2048 = m at *
  have h5 := five_lt m
  have hw := CrcM.word m (five m) hm h5
  have hi' := CrcM.shl_lt i (by omega)
  have hj' := CrcM.shl_lt j (by omega)
  have hpi := CrcM.pow i (by omega)
  have hpj := CrcM.pow j (by omega)
  have hlaw := Lib.hid (two_law m i j _ hm (by omega) (by omega) rfl)
  have hx : m + five m * 2048 < 65536 := by omega
  generalize hW : m + five m * 2048 = W at *; clear hW
  by_cases hij : i = j
  · subst hij
    rw [if_pos rfl] at hlaw
    generalize hE : 1 <<< i = E at *; clear hE
    have hx1 := u16_xor_nat W E hx hi'
    have hy : W ^^^ E < 65536 := xor_lt (k := 16) hx hi'
    generalize hq : W ^^^ E = q at *
    clear hq
    have ha := CrcM.and11 q hy
    have h6 := five_lt (q % 2048)
    go_enter Try.func8, Try.ntmps8
    go_wp2_with fail
    refine (five_calls _ m rfl (by omega) _).mono ?_; rintro e w' ⟨rfl, rfl⟩
    go_wp2_with fail
    refine (lives_calls _).mono ?_; rintro e w' ⟨rfl, rfl⟩
    go_wp2_with fail
    refine (five_calls _ (q % 2048) (by simp) (by omega) _).mono ?_; rintro e w' ⟨rfl, rfl⟩
    go_wp2_with fail
    go_ret
    refine ⟨Kt.ret_true ?_, Below.refl _ _⟩
    have := CrcM.neq hlaw.out
    simpa using this
  · rw [if_neg hij] at hlaw
    have hij' : ((i : Int) != (j : Int)) = true := by rw [bne_iff_ne]; omega
    have hij2 : ((i : Int) == (j : Int)) = false := by rw [beq_eq_false_iff_ne]; omega
    generalize hE : 1 <<< i = E at *; clear hE
    generalize hG : 1 <<< j = G at *; clear hG
    have hx1 := u16_xor_nat W E hx hi'
    have hy : W ^^^ E < 65536 := xor_lt (k := 16) hx hi'
    rw [← Nat.xor_assoc] at hlaw
    generalize hq : W ^^^ E = q at *
    have hx2 := u16_xor_nat q G hy hj'
    have hz : q ^^^ G < 65536 := xor_lt (k := 16) hy hj'
    clear hq
    generalize hr : q ^^^ G = r at *
    clear hr
    have ha := CrcM.and11 r hz
    have h6 := five_lt (r % 2048)
    go_enter Try.func8, Try.ntmps8
    go_wp2_with fail
    refine (five_calls _ m rfl (by omega) _).mono ?_; rintro e w' ⟨rfl, rfl⟩
    go_wp2_with fail
    refine (lives_calls _).mono ?_; rintro e w' ⟨rfl, rfl⟩
    go_wp2_with fail
    refine (five_calls _ (r % 2048) (by simp) (by omega) _).mono ?_; rintro e w' ⟨rfl, rfl⟩
    go_wp2_with fail
    go_ret
    refine ⟨Kt.ret_true ?_, Below.refl _ _⟩
    have := CrcM.neq hlaw.out
    simpa using this
theorem rest_walk (v0 : Value) (w : World) (r0 : Fr.RdV w reachBytes .string v0) :
    Calls Try.prog 5 #[v0] w fun e w' => e = .returned (.bool true) ∧ Below w.heap.size w w' := by
  obtain ⟨a, e0, h0⟩ := r0; cases e0
  exact rest_walk0 a h0 w
theorem two_walk (v0 v1 v2 : Value) (w : World) (r0 : Fr.RdV w reachBytes (.int .u16) v0) (r1 : Fr.RdV w reachBytes (.int .i64) v1) (r2 : Fr.RdV w reachBytes (.int .i64) v2) :
    Calls Try.prog 8 #[v0, v1, v2] w fun e w' => e = .returned (.bool true) ∧ Below w.heap.size w w' := by
  obtain ⟨n, e0, h0⟩ := r0; cases e0
  obtain ⟨i, e1, h1⟩ := r1; cases e1
  obtain ⟨j, e2, h2⟩ := r2; cases e2
  by_cases h : 0 ≤ i ∧ i ≤ 15 ∧ 0 ≤ j ∧ j ≤ 15
  · exact two_in n i j (Fr.u16_bd h0) h w
  · exact two_out n i j (Fr.u16_bd h0) h w
end Go.Proofs.Ytikikghahedeoaa
