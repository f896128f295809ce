/- The laws of packets, walked: a turned bit. -/
import Derived.Test.YtbajbdmocnkfmaaPktL
import Derived.Test.YtbajbdmocnkfmaaOnes
import Derived.StillTailTactics
namespace Go.Proofs.Ytbajbdmocnkfmaa
open Go.RowKit Go.Proofs.Ytbajbdmocnkfmaa.CrcP Go.Proofs.Ytbajbdmocnkfmaa.PktP
theorem PktF.turn (x : UInt8) (r : Nat) (hr : r < 8) : Go.bits BinOp.xor IntKind.u8 (x.toNat : Int) (2 ^ r % 256) = (((x ^^^ UInt8.ofNat (1 <<< r)).toNat : Nat) : Int) := by
  have e : ((2 : Int) ^ r) % (256 : Int) = ((UInt8.ofNat (1 <<< r)).toNat : Int) := by
    have : r = 0 ∨ r = 1 ∨ r = 2 ∨ r = 3 ∨ r = 4 ∨ r = 5 ∨ r = 6 ∨ r = 7 := by omega
    rcases this with rfl | rfl | rfl | rfl | rfl | rfl | rfl | rfl <;> decide
  rw [e]; exact CrcN.xor8 _ _
set_option maxHeartbeats 1600000 in
theorem flip_bad (k a e f : Int) (d : ByteArray) (i x : Int) (T : ByteArray) (hT : T.size ≤ 100) (W1 : Hid (∀ W : World, Calls Try.prog 10 #[.agg #[.int .i64 k, .int .i64 a, .int .i64 e, .int .i64 f, .string d]] W fun en w' => en = .returned (.tuple #[.string T, .int .i64 x]) ∧ Below W.heap.size W w'))
    (c : ((x != 0) = true) ∨ ((x != 0) = false ∧ i < 0) ∨ ((x != 0) = false ∧ 0 ≤ i ∧ 8 * (T.size : Int) ≤ i)) (w : World) :
    Calls Try.prog 6 #[.agg #[.int .i64 k, .int .i64 a, .int .i64 e, .int .i64 f, .string d], .int .i64 i] w fun en w' => en = .returned (.bool true) ∧ Below w.heap.size w w' := by
  rcases c with c1 | ⟨c1, c2⟩ | ⟨c1, c2, c3⟩
  all_goals
    go_enter Try.func6, Try.ntmps6
    go_wp2_with fail
    refine (W1.out _).mono ?_; rintro en w1 ⟨rfl, hb1⟩
    go_wp2_with fail
    refine (lives_calls _).mono ?_; rintro en w2 ⟨rfl, hb2⟩
    go_wp2_with fail
    refine (lives_calls _).mono ?_; rintro en w3 ⟨rfl, hb3⟩
    go_wp2
    go_ret
    exact ⟨rfl, Kt.bthen (Kt.bthen (Kt.bthen (Kt.balloc (Below.refl _ w) _) hb1) hb2) hb3⟩
set_option maxHeartbeats 1600000 in
theorem flip_good (k a e f : Int) (d : ByteArray) (i : Nat) (T : ByteArray) (hT : T.size ≤ 100) (W1 : Hid (∀ W : World, Calls Try.prog 10 #[.agg #[.int .i64 k, .int .i64 a, .int .i64 e, .int .i64 f, .string d]] W fun en w' => en = .returned (.tuple #[.string T, .int .i64 0]) ∧ Below W.heap.size W w'))
    (hi : i < 8 * T.size) (hlaw : (rd (turnBit T.data.toList i)).2 = 4 ∨ (8 ≤ i ∧ (rd (turnBit T.data.toList i)).2 = 5)) (w : World) :
    Calls Try.prog 6 #[.agg #[.int .i64 k, .int .i64 a, .int .i64 e, .int .i64 f, .string d], .int .i64 i] w fun en w' => en = .returned (.bool true) ∧ Below w.heap.size w w' := by
  have hk := fun wx : World => run_bytes_of_string (P := Try.prog) wx 9 34 5 T Try.underlying9 Try.underlying34 Try.underlying5
  go_enter Try.func6, Try.ntmps6
  go_wp2_with fail
  refine (W1.out _).mono ?_; rintro en w1 ⟨rfl, hb1⟩
  go_wp2_with fail
  refine (lives_calls _).mono ?_; rintro en w2 ⟨rfl, hb2⟩
  have hB2 := Kt.bthen (Kt.bthen (Kt.balloc (Below.refl _ w) _) hb1) hb2
  have hby := (Kt.Byt.of_string w2 T (grownCap w2 T.size 0 5) 5).drew
  have hbel := (Kt.balloc hB2 (.cells (bytesRow T (grownCap w2 T.size 0 5)) 5 ((bytesRow T (grownCap w2 T.size 0 5)).size, (bytesRow T (grownCap w2 T.size 0 5)).size + 1))).drew
  have hcap := grownCap_ge w2 T.size 0 5
  have hg : w.heap.size ≤ w2.heap.size := hB2.size
  clear hB2 hb1 hb2
  go_wp2_with fail
  clear hk
  generalize grownCap w2 T.size 0 5 = cap at *
  generalize w2.heap.size = g at *
  generalize (w2.alloc (.cells (bytesRow T cap) 5 ((bytesRow T cap).size, (bytesRow T cap).size + 1))).drew = w3 at *
  have hlen : T.data.toList.length = T.size := len_size T
  generalize hl : T.data.toList = l at *
  clear hl
  have hq1 : i / 8 < l.length := by omega
  have hcell := hby.1 (i / 8) hq1
  have hfz := hby.2 (i / 8) hq1
  have hx : l.getD (i / 8) 0 = l[i / 8]'hq1 := by
    rw [List.getD_eq_getElem?_getD, List.getElem?_eq_getElem hq1]; rfl
  generalize l[i / 8]'hq1 = x at *
  have HQ := Lib.hid (show turnBit l i = l.set (i / 8) ((l.getD (i / 8) 0) ^^^ UInt8.ofNat (1 <<< (i % 8))) from rfl)
  have HXX := Lib.hid hx; clear hx
  have HY := Lib.hid hby; clear hby
  have HL := Lib.hid hlaw; clear hlaw
  have hw2 : (i : Int).tdiv 8 = ((i / 8 : Nat) : Int) := by
    rw [Int.tdiv_eq_ediv_of_nonneg (by omega)]; omega
  have hw4 : IntKind.i64.wrap ((i / 8 : Nat) : Int) = ((i / 8 : Nat) : Int) := IntWalk.i64_in _ (by omega)
  have hw3 : (i : Int).tmod 8 = ((i % 8 : Nat) : Int) := by
    rw [Int.tmod_eq_emod_of_nonneg (by omega)]; omega
  have hr8 : i % 8 < 8 := by omega
  generalize i / 8 = q at *
  generalize i % 8 = r at *
  have hq0 : (0 : Int) ≤ (q : Int) := by omega
  have hq2 : (q : Int) < (T.size : Int) := by omega
  have HVAL := Lib.hid (PktF.turn x r hr8)
  refine wp_region_still_tail 10 (by kernel_rfl) (by kernel_rfl) ?_
  simp only [List.take_succ_cons, List.take_zero, List.drop_succ_cons, List.drop_zero]
  change wpStill _ _ w3.drew _ _ _
  iterate 10 still_step
  refine wpStill_nil ?_
  change wpList _ _ _ _ _ w3.drew
  have hcell2 : w3.drew.cell? ⟨g, q, none⟩ = some (.int .u8 (x.toNat : Int)) := hcell
  have hfz2 : w3.drew.frozen? ⟨g, q, none⟩ = false := hfz
  have HY2 : Hid (Kt.Byt w3.drew g l) := HY
  have hbel2 : Below w.heap.size w w3.drew := hbel.drew
  clear hcell hfz HY hbel
  generalize w3.drew = w4 at *
  have hBy : Kt.Byt (w4.setCell ⟨g, q, none⟩ (.int .u8 (Go.bits BinOp.xor IntKind.u8 (x.toNat : Int) (2 ^ r % 256)))) g (turnBit l i) := by
    rw [HVAL.out, HQ.out, HXX.out]
    exact HY2.out.set q hq1 _
  have hc := hBy.back (P := Try.prog) 34 9 5 T.size cap (by rw [turn_len, hlen]) Try.underlying34 Try.underlying5 Try.underlying9
  clear hBy
  have hsz : (turnBit l i).length ≤ 100 := by rw [turn_len]; omega
  go_wp2_with fail
  generalize turnBit l i = l2 at *
  refine (read_calls ⟨l2.toArray⟩ (by unfold maxLen; show l2.toArray.size ≤ _; simp; omega) _).mono ?_; rintro en w5 ⟨rfl, hb5⟩
  have hE : (⟨l2.toArray⟩ : ByteArray).data.toList = l2 := by simp
  rw [hE]
  clear hE
  have hB5 : Below w.heap.size w w5 := Kt.bthen (hbel2.setCell hg _) hb5
  have hl2 := HL.out
  generalize (rd l2).1 = p at *
  unfold rdV
  rcases hl2 with h4 | ⟨h8, h5⟩
  · rw [h4]
    clear hc hb5
    go_wp2
    go_ret
    exact ⟨rfl, hB5⟩
  · rw [h5]
    clear hc hb5
    have h8' : (8 : Int) ≤ (i : Int) := by omega
    go_wp2
    go_ret
    exact ⟨rfl, hB5⟩
theorem flip_walk (v0 v1 : Value) (w : World) (r0 : Fr.RdV w reachBytes (.cat 1 (.int .i64) (.cat 1 (.int .i64) (.cat 1 (.int .i64) (.cat 1 (.int .i64) (.cat 1 .string .nil))))) v0) (r1 : Fr.RdV w reachBytes (.int .i64) v1) :
    Calls Try.prog 6 #[v0, v1] w fun e w' => e = .returned (.bool true) ∧ Below w.heap.size w w' := by
  obtain ⟨k, a, e, f, d, rfl, _⟩ := parg r0
  obtain ⟨i, e1, _⟩ := r1; cases e1
  by_cases h : Okp ⟨k, a, e, f, d.data.toList⟩
  · have hl := text_len _ h
    have hs : (⟨(text ⟨k, a, e, f, d.data.toList⟩).toArray⟩ : ByteArray).size = (text ⟨k, a, e, f, d.data.toList⟩).length := by show Array.size _ = _; simp
    by_cases c : i < 0 ∨ 8 * ((text ⟨k, a, e, f, d.data.toList⟩).length : Int) ≤ i
    · refine flip_bad k a e f d i 0 _ (by rw [hs]; omega) (Lib.hid (write_good k a e f d h)) (Or.inr ?_) w
      rw [hs]
      by_cases c1 : i < 0
      · exact Or.inl ⟨rfl, c1⟩
      · exact Or.inr ⟨rfl, by omega, by omega⟩
    · obtain ⟨i, rfl⟩ := Int.eq_ofNat_of_zero_le (show 0 ≤ i by omega)
      refine flip_good k a e f d i _ (by rw [hs]; omega) (Lib.hid (write_good k a e f d h)) (by rw [hs]; omega) ?_ w
      have := flip _ h i (by omega)
      simpa using this
  · exact flip_bad k a e f d i _ ByteArray.empty (by decide) (Lib.hid (write_bad k a e f d h)) (Or.inl (by rw [bne_iff_ne]; unfold chk; rw [if_neg h]; split <;> decide)) w
end Go.Proofs.Ytbajbdmocnkfmaa
