/- The laws of packets, walked: bits turned in a row. -/
import Derived.Test.YtbajbdmocnkfmaaPktF
import Derived.Test.YtbajbdmocnkfmaaBits
namespace Go.Proofs.Ytbajbdmocnkfmaa
open Go.RowKit Go.Proofs.Ytbajbdmocnkfmaa.CrcP Go.Proofs.Ytbajbdmocnkfmaa.PktP
theorem CrcB.test (b k : Nat) (hb : b < 65536) : (Go.bits BinOp.and IntKind.u16 ((b : Int) / 2 ^ k) 1 == 1) = b.testBit k := by
  have e : ((b : Int) / 2 ^ k) = ((b / 2 ^ k : Nat) : Int) := by simp
  rw [e, CrcW.odd16 _ (Nat.lt_of_le_of_lt (Nat.div_le_self _ _) hb), CrcW.tb]
  rcases Nat.mod_two_eq_zero_or_one (b / 2 ^ k) with h' | h' <;> rw [h'] <;> rfl
theorem CrcB.turn (x : UInt8) (r : Nat) (hr : r < 8) : Go.bits BinOp.xor IntKind.u8 (x.toNat : Int) (2 ^ r % 256) = (((x ^^^ UInt8.ofNat (1 <<< r)).toNat : Nat) : Int) := by
  have e : ((2 : Int) ^ r) % (256 : Int) = ((UInt8.ofNat (1 <<< r)).toNat : Int) := by
    have : r = 0 ∨ r = 1 ∨ r = 2 ∨ r = 3 ∨ r = 4 ∨ r = 5 ∨ r = 6 ∨ r = 7 := by omega
    rcases this with rfl | rfl | rfl | rfl | rfl | rfl | rfl | rfl <;> decide
  rw [e]; exact CrcN.xor8 _ _
set_option maxHeartbeats 1600000 in
theorem burst_bad (k a e f : Int) (d : ByteArray) (i b x : Int) (T : ByteArray) (hT : T.size ≤ 100) (W1 : Hid (∀ W : World, Calls Try.prog 10 #[.agg #[.int .i64 k, .int .i64 a, .int .i64 e, .int .i64 f, .string d]] W fun en w' => en = .returned (.tuple #[.string T, .int .i64 x]) ∧ Below W.heap.size W w'))
    (c : ((x != 0) = true) ∨ ((x != 0) = false ∧ (k != 3) = true ∧ (k != 11) = true) ∨ ((x != 0) = false ∧ (k = 3 ∨ k = 11) ∧ b = 0) ∨ ((x != 0) = false ∧ (k = 3 ∨ k = 11) ∧ (b == 0) = false ∧ i < 8) ∨ ((x != 0) = false ∧ (k = 3 ∨ k = 11) ∧ (b == 0) = false ∧ 8 ≤ i ∧ 8 * (T.size : Int) ≤ i)) (w : World) :
    Calls Try.prog 9 #[.agg #[.int .i64 k, .int .i64 a, .int .i64 e, .int .i64 f, .string d], .int .i64 i, .int .u16 b] w fun en w' => en = .returned (.bool true) ∧ Below w.heap.size w w' := by
  rcases c with c1 | ⟨c1, c2, c3⟩ | ⟨c1, rfl | rfl, rfl⟩ | ⟨c1, rfl | rfl, c3, c4⟩ | ⟨c1, rfl | rfl, c3, c4, c5⟩
  all_goals
    go_enter Try.func9, Try.ntmps9
    go_wp2_with fail
    refine (W1.out _).mono ?_; rintro en w1 ⟨rfl, hb1⟩
    obtain ⟨hc1, hf1⟩ := Kt.bcell hb1
    have hz1 : w.heap.size < w1.heap.size := by have := hb1.size; simp at this; omega
    go_wp2_with fail
    refine (lives_calls _).mono ?_; rintro en w2 ⟨rfl, hb2⟩
    obtain ⟨hc2, hf2⟩ := Kt.bcell hb2
    have hz2 : w.heap.size < w2.heap.size := by have := hb2.size; omega
    go_wp2_with fail
    refine (lives_calls _).mono ?_; rintro en w3 ⟨rfl, hb3⟩
    go_wp2
    go_ret
    exact ⟨rfl, Kt.bthen (Kt.bthen (Kt.bthen (Kt.balloc (Below.refl _ w) _) hb1) hb2) hb3⟩
set_option maxHeartbeats 3200000 in
theorem burst_good (k a e f : Int) (d : ByteArray) (i b : Nat) (T : ByteArray) (hT : T.size ≤ 100) (W1 : Hid (∀ W : World, Calls Try.prog 10 #[.agg #[.int .i64 k, .int .i64 a, .int .i64 e, .int .i64 f, .string d]] W fun en w' => en = .returned (.tuple #[.string T, .int .i64 0]) ∧ Below W.heap.size W w'))
    (hk : k = 3 ∨ k = 11) (hi8 : 8 ≤ i) (hi : i < 8 * T.size) (hb0 : b ≠ 0) (hb : b < 65536)
    (hlaw : ∀ t, Bits T.data.toList t i b 16 → (rd t).2 = 5) (w : World) :
    Calls Try.prog 9 #[.agg #[.int .i64 k, .int .i64 a, .int .i64 e, .int .i64 f, .string d], .int .i64 i, .int .u16 b] w fun en w' => en = .returned (.bool true) ∧ Below w.heap.size w w' := by
  have hk0 := fun wx : World => run_bytes_of_string (P := Try.prog) wx 9 34 5 T Try.underlying9 Try.underlying34 Try.underlying5
  have hb1' : ((b : Int) == 0) = false := by rw [beq_eq_false_iff_ne]; omega
  have HLAW := Lib.hid hlaw; clear hlaw
  have hlen0 := len_size T
  have HL0 := Lib.hid hlen0; clear hlen0
  rcases hk with rfl | rfl
  all_goals
    go_enter Try.func9, Try.ntmps9
    go_wp2_with fail
    refine (W1.out _).mono ?_; rintro en w1 ⟨rfl, hb1⟩
    obtain ⟨hc1, hf1⟩ := Kt.bcell hb1
    have hz1 : w.heap.size < w1.heap.size := by have := hb1.size; simp at this; omega
    go_wp2_with fail
    refine (lives_calls _).mono ?_; rintro en w2 ⟨rfl, hb2⟩
    obtain ⟨hc2, hf2⟩ := Kt.bcell hb2
    have hz2 : w.heap.size < w2.heap.size := by have := hb2.size; omega
    have hB2 := Kt.bthen (Kt.bthen (Kt.balloc (Below.refl _ w) _) hb1) hb2
    have hby := (Kt.Byt.of_string w2 T (grownCap w2 T.size 0 5) 5).drew
    have hbel := (Kt.balloc hB2 (.cells (bytesRow T (grownCap w2 T.size 0 5)) 5 ((bytesRow T (grownCap w2 T.size 0 5)).size, (bytesRow T (grownCap w2 T.size 0 5)).size + 1))).drew
    have hg : w.heap.size ≤ w2.heap.size := hB2.size
    clear hB2 hb1 hb2
    go_wp2_with fail
    clear hk0 hc1 hf1 hz1 hc2 hf2 hz2
    generalize grownCap w2 T.size 0 5 = cap at *
    generalize w2.heap.size = g at *
    generalize (w2.alloc (.cells (bytesRow T cap) 5 ((bytesRow T cap).size, (bytesRow T cap).size + 1))).drew = w3 at *
    go_loopw [10, 50] (fun x n wr => ∃ (k : Nat) (t : List UInt8), k ≤ 16 ∧ n = .int .i64 k ∧ Kt.Byt wr g t ∧ Bits T.data.toList t i b k ∧ Below w.heap.size w wr) (fun _ n _ => 16 - (intOf n).toNat)
    case atStart => exact ⟨0, T.data.toList, by omega, rfl, hby, Bits.zero _ _ _, hbel⟩
    case round =>
      clear hby hbel
      obtain ⟨k, t, hk, rfl, hby, hbits, hbel⟩ := hrel
      have hlen : t.length = T.size := by rw [hbits.1]; exact HL0.out
      have HB := Lib.hid hbits; clear hbits
      by_cases hlt : k < 16
      · have ht := CrcB.test b k hb
        cases hbk : b.testBit k
        · rw [hbk] at ht
          have HK := Lib.hid hbk; clear hbk
          go_wp2
          go_roundw
          case rel => exact ⟨k + 1, t, by omega, by go_num, hby, HB.out.keep HK.out, hbel⟩
          case measure => simp [intOf]; omega
        · rw [hbk] at ht
          have HK := Lib.hid hbk; clear hbk
          by_cases hend : i + k < 8 * T.size
          · have hcell := hby.1 ((i + k) / 8) (by omega)
            have hfz := hby.2 ((i + k) / 8) (by omega)
            have hx : t.getD ((i + k) / 8) 0 = t[(i + k) / 8]'(by omega) := by
              rw [List.getD_eq_getElem?_getD, List.getElem?_eq_getElem (by omega)]; rfl
            generalize t[(i + k) / 8]'(by omega) = x at *
            have HXX := Lib.hid hx; clear hx
            have HY := Lib.hid hby; clear hby
            have hw2 : IntKind.i64.wrap (((i : Int) + (k : Int)).tdiv 8) = (((i + k) / 8 : Nat) : Int) := by
              rw [Int.tdiv_eq_ediv_of_nonneg (by omega), IntWalk.i64_in _ (by omega)]; omega
            have hw3 : ((i : Int) + (k : Int)).tmod 8 = (((i + k) % 8 : Nat) : Int) := by
              rw [Int.tmod_eq_emod_of_nonneg (by omega)]; omega
            have hq1 : (i + k) / 8 < T.size := by omega
            have hr8 : (i + k) % 8 < 8 := by omega
            have HQ := Lib.hid (show turnBit t (i + k) = t.set ((i + k) / 8) ((t.getD ((i + k) / 8) 0) ^^^ UInt8.ofNat (1 <<< ((i + k) % 8))) from rfl)
            generalize (i + k) / 8 = q at *
            generalize (i + k) % 8 = r at *
            have hq0 : (0 : Int) ≤ (q : Int) := by omega
            have hq2 : (q : Int) < (T.size : Int) := by omega
            have hw1 : IntKind.i64.wrap ((i : Int) + (k : Int)) = (i : Int) + (k : Int) := IntWalk.i64_in _ (by omega)
            go_wp2
            refine wp_region_still_tail 14 (by kernel_rfl) (by kernel_rfl) ?_
            simp only [List.take_succ_cons, List.take_zero, List.drop_succ_cons, List.drop_zero]
            change wpStill _ _ wr.drew _ _ _
            iterate 14 still_step
            refine wpStill_nil ?_
            change wpList _ _ _ _ _ wr.drew
            have hcell2 : wr.drew.cell? ⟨g, q, none⟩ = some (.int .u8 (x.toNat : Int)) := hcell
            have hfz2 : wr.drew.frozen? ⟨g, q, none⟩ = false := hfz
            have HY2 : Hid (Kt.Byt wr.drew g t) := HY
            have hbel2 : Below w.heap.size w wr.drew := hbel.drew
            clear hcell hfz HY hbel
            generalize wr.drew = w2 at *
            have hval := Lib.hid (CrcB.turn x r hr8)
            have hql : q < t.length := by omega
            go_wp2
            go_roundw
            case rel =>
              rw [hval.out]
              refine ⟨k + 1, t.set q (x ^^^ UInt8.ofNat (1 <<< r)), by omega, by go_num, HY2.out.set q hql _, ?_, hbel2.setCell hg _⟩
              have h1 := HB.out.turn HK.out (by rw [HL0.out]; exact hend)
              rw [HQ.out, HXX.out] at h1
              exact h1
            case measure => simp [intOf]; omega
          · go_wp2
            go_ret
            exact ⟨rfl, hbel⟩
      · obtain rfl : k = 16 := by omega
        have hc := hby.back (P := Try.prog) 34 9 5 T.size cap hlen.symm Try.underlying34 Try.underlying5 Try.underlying9
        clear hby
        have hrd := HLAW.out t HB.out
        have hlen2 : t.length ≤ 100 := by omega
        go_wp2_with fail
        refine (read_calls ⟨t.toArray⟩ (by unfold maxLen; show t.toArray.size ≤ _; simp; omega) _).mono ?_; rintro en w5 ⟨rfl, hb5⟩
        have hE : (⟨t.toArray⟩ : ByteArray).data.toList = t := by simp
        rw [hE]
        clear hE
        have hB5 : Below w.heap.size w w5 := Kt.bthen hbel hb5
        generalize (rd t).1 = p at *
        unfold rdV
        rw [hrd]
        clear hc hb5 hrd
        go_wp2
        go_ret
        exact ⟨rfl, hB5⟩
theorem burst_walk (v0 v1 v2 : Value) (w : World) (r0 : Fr.RdV w reachBytes (.cat 1 (.int .i64) (.cat 1 (.int .i64) (.cat 1 (.int .i64) (.cat 1 (.int .i64) (.cat 1 .string .nil))))) v0) (r1 : Fr.RdV w reachBytes (.int .i64) v1) (r2 : Fr.RdV w reachBytes (.int .u16) v2) :
    Calls Try.prog 9 #[v0, v1, v2] w fun e w' => e = .returned (.bool true) ∧ Below w.heap.size w w' := by
  obtain ⟨k, a, e, f, d, rfl, _⟩ := parg r0
  obtain ⟨i, e1, _⟩ := r1; cases e1
  obtain ⟨b, e2, hb⟩ := r2; cases e2
  obtain ⟨hb0, hb1⟩ := Fr.u16_bd hb
  by_cases h : Okp ⟨k, a, e, f, d.data.toList⟩
  · have hl := text_len _ h
    have hs : (⟨(text ⟨k, a, e, f, d.data.toList⟩).toArray⟩ : ByteArray).size = (text ⟨k, a, e, f, d.data.toList⟩).length := by show Array.size _ = _; simp
    have hW := Lib.hid (write_good k a e f d h)
    by_cases hk : isData k
    · by_cases h0 : b = 0
      · exact burst_bad k a e f d i b 0 _ (by rw [hs]; omega) hW (Or.inr (Or.inr (Or.inl ⟨rfl, hk, h0⟩))) w
      have hbne : (b == 0) = false := by simpa using h0
      by_cases c8 : i < 8
      · exact burst_bad k a e f d i b 0 _ (by rw [hs]; omega) hW (Or.inr (Or.inr (Or.inr (Or.inl ⟨rfl, hk, hbne, c8⟩)))) w
      by_cases cl : 8 * ((text ⟨k, a, e, f, d.data.toList⟩).length : Int) ≤ i
      · exact burst_bad k a e f d i b 0 _ (by rw [hs]; omega) hW (Or.inr (Or.inr (Or.inr (Or.inr ⟨rfl, hk, hbne, by omega, by rw [hs]; exact cl⟩)))) w
      obtain ⟨i, rfl⟩ := Int.eq_ofNat_of_zero_le (show 0 ≤ i by omega)
      obtain ⟨b, rfl⟩ := Int.eq_ofNat_of_zero_le hb0
      refine burst_good k a e f d i b _ (by rw [hs]; omega) hW hk (by omega) (by rw [hs]; omega) (by omega) (by omega) ?_ w
      intro t ht
      have ht1 : Bits (text ⟨k, a, e, f, d.data.toList⟩) t i b 16 := by simpa using ht
      have ht2 : Bits (head k.toNat :: rest ⟨k, a, e, f, d.data.toList⟩) t i b 16 := ht1
      have h9 : i < 8 * (text ⟨k, a, e, f, d.data.toList⟩).length := by omega
      obtain ⟨r2, rfl, hl2, hs2⟩ := ht2.tail (by omega) h9 (by omega) (by omega)
      exact data_rd ⟨k, a, e, f, d.data.toList⟩ h hk r2 hl2 hs2
    · exact burst_bad k a e f d i b 0 _ (by rw [hs]; omega) hW (Or.inr (Or.inl ⟨rfl, by rw [bne_iff_ne]; unfold isData at hk; omega, by rw [bne_iff_ne]; unfold isData at hk; omega⟩)) w
  · exact burst_bad k a e f d i b _ ByteArray.empty (by decide) (Lib.hid (write_bad k a e f d h)) (Or.inl (by rw [bne_iff_ne]; unfold chk; rw [if_neg h]; split <;> decide)) w
end Go.Proofs.Ytbajbdmocnkfmaa
