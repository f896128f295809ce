/- The laws of package crc, walked: bits turned in a row. -/
import Derived.Test.YtikikghahedeoaaCrcN
import Derived.StillTailTactics
namespace Go.Proofs.Ytikikghahedeoaa
open Go.RowKit Go.Proofs.Ytikikghahedeoaa.CrcP
set_option maxHeartbeats 800000 in
theorem burst_out (s : ByteArray) (i b : Int) (hs : s.size ≤ 140737488351232) (h : i < 0 ∨ 8 * (s.size : Int) ≤ i ∨ b = 0) (w : World) :
    Calls Try.prog 7 #[.string s, .int .i64 i, .int .u16 b] w fun e w' => e = .returned (.bool true) ∧ Below w.heap.size w w' := by
  by_cases h1 : i < 0
  · go_enter Try.func7, Try.ntmps7
    go_wp2_with (go_at_call 9; refine (lives_calls _).mono ?_; rintro e w' ⟨rfl, rfl⟩)
    go_ret
    exact ⟨rfl, Below.refl _ _⟩
  by_cases h2 : 8 * (s.size : Int) ≤ i
  · go_enter Try.func7, Try.ntmps7
    go_wp2_with (go_at_call 9; refine (lives_calls _).mono ?_; rintro e w' ⟨rfl, rfl⟩)
    go_ret
    exact ⟨rfl, Below.refl _ _⟩
  obtain rfl : b = 0 := by omega
  go_enter Try.func7, Try.ntmps7
  go_wp2_with (go_at_call 9; refine (lives_calls _).mono ?_; rintro e w' ⟨rfl, rfl⟩)
  go_ret
  exact ⟨rfl, Below.refl _ _⟩

def Bits (s t : List UInt8) (pos b k : Nat) : Prop :=
  t.length = s.length ∧ (∀ i, i < 8 * s.length → bitAt t i = (bitAt s i != (decide (pos ≤ i ∧ i < pos + k) && b.testBit (i - pos)))) ∧ ∀ j, j < k → b.testBit j = true → pos + j < 8 * s.length
theorem Bits.zero (s : List UInt8) (pos b : Nat) : Bits s s pos b 0 := by
  refine ⟨rfl, fun i hi => ?_, fun j hj => by omega⟩
  have : decide (pos ≤ i ∧ i < pos + 0) = false := by rw [decide_eq_false_iff_not]; omega
  rw [this]; simp
theorem Bits.keep {s t : List UInt8} {pos b k : Nat} (h : Bits s t pos b k) (hb : b.testBit k = false) : Bits s t pos b (k + 1) := by
  refine ⟨h.1, fun i hi => ?_, fun j hj hjb => ?_⟩
  · rw [h.2.1 i hi]
    by_cases e : i = pos + k
    · subst e
      rw [Nat.add_sub_cancel_left, hb]; simp
    · have : decide (pos ≤ i ∧ i < pos + k) = decide (pos ≤ i ∧ i < pos + (k + 1)) := by rw [decide_eq_decide]; omega
      rw [this]
  · by_cases e : j = k
    · subst e; rw [hb] at hjb; cases hjb
    · exact h.2.2 j (by omega) hjb
theorem Bits.turn {s t : List UInt8} {pos b k : Nat} (h : Bits s t pos b k) (hb : b.testBit k = true) (hp : pos + k < 8 * s.length) : Bits s (turnBit t (pos + k)) pos b (k + 1) := by
  refine ⟨by rw [turn_len, h.1], fun i hi => ?_, fun j hj hjb => ?_⟩
  · rw [turn_bit t (pos + k) (by rw [h.1]; exact hp), h.2.1 i hi]
    by_cases e : i = pos + k
    · subst e
      have h1 : decide (pos ≤ pos + k ∧ pos + k < pos + k) = false := by rw [decide_eq_false_iff_not]; omega
      have h2 : decide (pos ≤ pos + k ∧ pos + k < pos + (k + 1)) = true := by rw [decide_eq_true_iff]; omega
      rw [h1, h2, Nat.add_sub_cancel_left, hb]; simp
    · have : decide (pos ≤ i ∧ i < pos + k) = decide (pos ≤ i ∧ i < pos + (k + 1)) := by rw [decide_eq_decide]; omega
      rw [this]
      have e2 : (i == pos + k) = false := by rw [beq_eq_false_iff_ne]; exact e
      rw [e2]; simp
  · by_cases e : j = k
    · subst e; exact hp
    · exact h.2.2 j (by omega) hjb
theorem CrcB.test (b k : Nat) (hb : b < 65536) : (Go.bits BinOp.and IntKind.u16 ((b : Int) / 2 ^ k) 1 == 1) = b.testBit k := by
  have e : ((b : Int) / 2 ^ k) = ((b / 2 ^ k : Nat) : Int) := by simp
  rw [e, CrcW.odd16 _ (Nat.lt_of_le_of_lt (Nat.div_le_self _ _) hb), CrcW.tb]
  rcases Nat.mod_two_eq_zero_or_one (b / 2 ^ k) with h' | h' <;> rw [h'] <;> rfl
theorem CrcB.turn (x : UInt8) (r : Nat) (hr : r < 8) : Go.bits BinOp.xor IntKind.u8 (x.toNat : Int) (2 ^ r % 256) = (((x ^^^ UInt8.ofNat (1 <<< r)).toNat : Nat) : Int) := by
  have e : ((2 : Int) ^ r) % (256 : Int) = ((UInt8.ofNat (1 <<< r)).toNat : Int) := by
    have : r = 0 ∨ r = 1 ∨ r = 2 ∨ r = 3 ∨ r = 4 ∨ r = 5 ∨ r = 6 ∨ r = 7 := by omega
    rcases this with rfl | rfl | rfl | rfl | rfl | rfl | rfl | rfl <;> decide
  rw [e]; exact CrcN.xor8 _ _
set_option maxHeartbeats 1600000 in
theorem burst_in (s : ByteArray) (i b : Nat) (hs : s.size ≤ 140737488351232) (hi : i < 8 * s.size) (hb0 : b ≠ 0) (hb : b < 65536) (w : World) :
    Calls Try.prog 7 #[.string s, .int .i64 i, .int .u16 b] w fun e w' => e = .returned (.bool true) ∧ Below w.heap.size w w' := by
  have hb1 : ((b : Int) == 0) = false := by rw [beq_eq_false_iff_ne]; omega
  have hk := run_bytes_of_string (P := Try.prog) w 9 27 5 s Try.underlying9 Try.underlying27 Try.underlying5
  go_enter Try.func7, Try.ntmps7
  go_wp2_with (go_at_call 9; refine (lives_calls _).mono ?_; rintro e w' ⟨rfl, rfl⟩)
  have hby := (Kt.Byt.of_string w s (grownCap w s.size 0 5) 5).drew
  have hbel0 : Below w.heap.size w _ := ((Below.refl _ w).alloc (Nat.le_refl _) (.cells (bytesRow s (grownCap w s.size 0 5)) 5 ((bytesRow s (grownCap w s.size 0 5)).size, (bytesRow s (grownCap w s.size 0 5)).size + 1))).drew
  have hcap := grownCap_ge w s.size 0 5
  clear hk
  generalize grownCap w s.size 0 5 = cap at *
  go_loopw [8, 29] (fun x n wr => ∃ (k : Nat) (t : List UInt8), k ≤ 16 ∧ n = .int .i64 k ∧ Kt.Byt wr w.heap.size t ∧ Bits s.data.toList t i b k ∧ Below w.heap.size w wr) (fun _ n _ => 16 - (intOf n).toNat)
  case atStart => exact ⟨0, s.data.toList, by omega, rfl, hby, Bits.zero _ _ _, hbel0⟩
  case round =>
    clear hby hbel0
    obtain ⟨k, t, hk, rfl, hby, hbits, hbel⟩ := hrel
    have hlen : t.length = s.size := by rw [hbits.1]; simp
    have HB := Lib.hid hbits; clear hbits
    by_cases hlt : k < 16
    · have ht := CrcB.test b k hb
      cases hbk : b.testBit k
      · rw [hbk] at ht
        have HK := Lib.hid hbk; clear hbk
        go_wp2
        go_roundw
        case rel => exact ⟨k + 1, t, by omega, by go_num, hby, HB.out.keep HK.out, hbel⟩
        case measure => simp [intOf]; omega
      · rw [hbk] at ht
        have HK := Lib.hid hbk; clear hbk
        by_cases hend : i + k < 8 * s.size
        · have hcell := hby.1 ((i + k) / 8) (by omega)
          have hfz := hby.2 ((i + k) / 8) (by omega)
          have hx : t.getD ((i + k) / 8) 0 = t[(i + k) / 8]'(by omega) := by
            rw [List.getD_eq_getElem?_getD, List.getElem?_eq_getElem (by omega)]; rfl
          generalize t[(i + k) / 8]'(by omega) = x at *
          have HXX := Lib.hid hx; clear hx
          have HY := Lib.hid hby; clear hby
          have hw2 : IntKind.i64.wrap (((i : Int) + (k : Int)).tdiv 8) = (((i + k) / 8 : Nat) : Int) := by
            rw [Int.tdiv_eq_ediv_of_nonneg (by omega), IntWalk.i64_in _ (by omega)]; omega
          have hw3 : ((i : Int) + (k : Int)).tmod 8 = (((i + k) % 8 : Nat) : Int) := by
            rw [Int.tmod_eq_emod_of_nonneg (by omega)]; omega
          have hq1 : (i + k) / 8 < s.size := by omega
          have hr8 : (i + k) % 8 < 8 := by omega
          have HQ := Lib.hid (show turnBit t (i + k) = t.set ((i + k) / 8) ((t.getD ((i + k) / 8) 0) ^^^ UInt8.ofNat (1 <<< ((i + k) % 8))) from rfl)
          generalize (i + k) / 8 = q at *
          generalize (i + k) % 8 = r at *
          have hq0 : (0 : Int) ≤ (q : Int) := by omega
          have hq2 : (q : Int) < (s.size : Int) := by omega
          have hw1 : IntKind.i64.wrap ((i : Int) + (k : Int)) = (i : Int) + (k : Int) := IntWalk.i64_in _ (by omega)
          go_wp2
          refine wp_region_still_tail 14 (by kernel_rfl) (by kernel_rfl) ?_
          simp only [List.take_succ_cons, List.take_zero, List.drop_succ_cons, List.drop_zero]
          change wpStill _ _ wr.drew _ _ _
          iterate 14 still_step
          refine wpStill_nil ?_
          change wpList _ _ _ _ _ wr.drew
          have hcell2 : wr.drew.cell? ⟨w.heap.size, q, none⟩ = some (.int .u8 (x.toNat : Int)) := hcell
          have hfz2 : wr.drew.frozen? ⟨w.heap.size, q, none⟩ = false := hfz
          have HY2 : Hid (Kt.Byt wr.drew w.heap.size t) := HY
          have hbel2 : Below w.heap.size w wr.drew := hbel.drew
          clear hcell hfz HY hbel
          generalize wr.drew = w2 at *
          have hval := Lib.hid (CrcB.turn x r hr8)
          have hql : q < t.length := by omega
          go_wp2
          go_roundw
          case rel =>
            rw [hval.out]
            refine ⟨k + 1, t.set q (x ^^^ UInt8.ofNat (1 <<< r)), by omega, by go_num, HY2.out.set q hql _, ?_, hbel2.setCell (Nat.le_refl _) _⟩
            have h1 := HB.out.turn HK.out (by simpa using hend)
            rw [HQ.out, HXX.out] at h1
            exact h1
          case measure => simp [intOf]; omega
        · go_wp2
          go_ret
          exact ⟨rfl, hbel⟩
    · obtain rfl : k = 16 := by omega
      have hc := hby.back (P := Try.prog) 27 9 5 s.size cap hlen.symm Try.underlying27 Try.underlying5 Try.underlying9
      clear hby
      have hlaw := Lib.hid (burst_law s.data.toList t i b HB.out.1 (by simpa using hi) hb0 hb HB.out.2.2 HB.out.2.1)
      go_wp2_with fail
      refine (sixteen_calls _ (by unfold maxLen; show t.toArray.size ≤ _; simp [hlen]; omega) _).mono ?_; rintro e w' ⟨rfl, rfl⟩
      go_wp2_with fail
      refine (sixteen_calls _ (by unfold maxLen; omega) _).mono ?_; rintro e w' ⟨rfl, rfl⟩
      go_wp2
      go_ret
      refine ⟨Kt.ret_true ?_, hbel⟩
      have h := hlaw.out
      rw [bne_iff_ne]
      intro h2
      exact h (Int.ofNat_inj.1 (by simpa using h2))
theorem burst_walk (v0 v1 v2 : Value) (w : World) (r0 : Fr.RdV w reachBytes .string v0) (r1 : Fr.RdV w reachBytes (.int .i64) v1) (r2 : Fr.RdV w reachBytes (.int .u16) v2) :
    Calls Try.prog 7 #[v0, v1, v2] w fun e w' => e = .returned (.bool true) ∧ Below w.heap.size w w' := by
  obtain ⟨s, e0, h0⟩ := r0; cases e0
  obtain ⟨i, e1, h1⟩ := r1; cases e1
  obtain ⟨b, e2, h2⟩ := r2; cases e2
  obtain ⟨b0, b1⟩ := Fr.u16_bd h2
  by_cases h : i < 0 ∨ 8 * (s.size : Int) ≤ i ∨ b = 0
  · exact burst_out s i b h0 h w
  · obtain ⟨i, rfl⟩ := Int.eq_ofNat_of_zero_le (show 0 ≤ i by omega)
    obtain ⟨b, rfl⟩ := Int.eq_ofNat_of_zero_le b0
    exact burst_in s i b h0 (by omega) (by omega) (by omega) w
end Go.Proofs.Ytikikghahedeoaa
