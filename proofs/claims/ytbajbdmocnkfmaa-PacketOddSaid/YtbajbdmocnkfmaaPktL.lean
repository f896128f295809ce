/- The laws of packets, walked. -/
import Derived.Test.YtbajbdmocnkfmaaPktU
import Derived.Test.YtbajbdmocnkfmaaFr
namespace Go.Proofs.Ytbajbdmocnkfmaa
open Go.RowKit Go.Proofs.Ytbajbdmocnkfmaa.CrcP Go.Proofs.Ytbajbdmocnkfmaa.PktP
set_option maxHeartbeats 1600000 in
theorem back_good (k a e f : Int) (d : ByteArray) (h : Okp ⟨k, a, e, f, d.data.toList⟩) (w : World) : Calls Try.prog 4 #[.agg #[.int .i64 k, .int .i64 a, .int .i64 e, .int .i64 f, .string d]] w fun en w' => en = .returned (.bool true) ∧ Below w.heap.size w w' := by
  have hb := back _ h
  go_enter Try.func4, Try.ntmps4
  go_wp2_with fail
  refine (write_good _ _ _ _ _ h _).mono ?_; rintro en w1 ⟨rfl, hb1⟩
  obtain ⟨hc1, hf1⟩ := Kt.bcell hb1
  have hz1 : w.heap.size < w1.heap.size := by have := hb1.size; simp at this; omega
  have hlen := text_len _ h
  generalize hT : (⟨(text ⟨k, a, e, f, d.data.toList⟩).toArray⟩ : ByteArray) = T at *
  have hTl : T.data.toList = text ⟨k, a, e, f, d.data.toList⟩ := by rw [← hT]
  rw [← hTl] at hb hlen
  have hTs : T.size ≤ 67 := by rw [← len_size]; exact hlen
  have HB := Lib.hid hb
  clear hT hTl hlen hb
  go_wp2_with fail
  refine (lives_calls _).mono ?_; rintro en w2 ⟨rfl, hb2⟩
  obtain ⟨hc2, hf2⟩ := Kt.bcell hb2
  have hz2 : w.heap.size < w2.heap.size := by have := hb2.size; omega
  go_wp2_with fail
  refine (read_calls T (by unfold maxLen; omega) _).mono ?_; rintro en w3 ⟨rfl, hb3⟩
  obtain ⟨hc3, hf3⟩ := Kt.bcell hb3
  have hz3 : w.heap.size < w3.heap.size := by have := hb3.size; omega
  rw [HB.out]
  unfold rdV pkV
  go_wp2_with fail
  clear hc1 hf1 hc2 hf2 hc3 hf3
  go_ret
  exact ⟨rfl, Kt.balloc (Kt.bthen (Kt.bthen (Kt.bthen (Kt.balloc (Below.refl _ w) _) hb1) hb2) hb3) _⟩
set_option maxHeartbeats 1600000 in
theorem back_bad (k a e f : Int) (d : ByteArray) (h : ¬ Okp ⟨k, a, e, f, d.data.toList⟩) (w : World) : Calls Try.prog 4 #[.agg #[.int .i64 k, .int .i64 a, .int .i64 e, .int .i64 f, .string d]] w fun en w' => en = .returned (.bool true) ∧ Below w.heap.size w w' := by
  have h0 : (chk ⟨k, a, e, f, d.data.toList⟩ != 0) = true := by
    rw [bne_iff_ne]; unfold chk; rw [if_neg h]; split <;> decide
  go_enter Try.func4, Try.ntmps4
  go_wp2_with fail
  refine (write_bad _ _ _ _ _ h _).mono ?_; rintro en w1 ⟨rfl, hb1⟩
  have HC := Lib.hid (rfl : chk ⟨k, a, e, f, d.data.toList⟩ = chk ⟨k, a, e, f, d.data.toList⟩)
  obtain ⟨hc1, hf1⟩ := Kt.bcell hb1
  have hz1 : w.heap.size < w1.heap.size := by have := hb1.size; simp at this; omega
  have HK := check_calls k a e f d
  generalize chk ⟨k, a, e, f, d.data.toList⟩ = c at *
  have HKK := Lib.hid HK; clear HK HC
  go_wp2_with fail
  refine (lives_calls _).mono ?_; rintro en w2 ⟨rfl, hb2⟩
  obtain ⟨hc2, hf2⟩ := Kt.bcell hb2
  have hz2 : w.heap.size < w2.heap.size := by have := hb2.size; omega
  go_wp2_with fail
  refine (lives_calls _).mono ?_; rintro en w3 ⟨rfl, hb3⟩
  obtain ⟨hc3, hf3⟩ := Kt.bcell hb3
  have hz3 : w.heap.size < w3.heap.size := by have := hb3.size; omega
  go_wp2_with fail
  refine (HKK.out _).mono ?_; rintro en w4 ⟨rfl, hb4⟩
  go_wp2
  go_ret
  exact ⟨rfl, Kt.bthen (Kt.bthen (Kt.bthen (Kt.bthen (Kt.balloc (Below.refl _ w) _) hb1) hb2) hb3) hb4⟩
def PArg (v : Value) : Prop := ∃ (k a e f : Int) (d : ByteArray), v = .agg #[.int .i64 k, .int .i64 a, .int .i64 e, .int .i64 f, .string d] ∧ d.size ≤ 140737488351232
theorem parg {w : World} {v : Value} (r : Fr.RdV w reachBytes (.cat 1 (.int .i64) (.cat 1 (.int .i64) (.cat 1 (.int .i64) (.cat 1 (.int .i64) (.cat 1 .string .nil))))) v) : PArg v := by
  obtain ⟨cs, rfl, r⟩ := r
  obtain ⟨_, _, e, _, ⟨k, rfl, _⟩, r1⟩ := Fr.cat_open r
  obtain ⟨_, _, e1, _, ⟨a, rfl, _⟩, r2⟩ := Fr.cat_open r1
  obtain ⟨_, _, e2, _, ⟨en, rfl, _⟩, r3⟩ := Fr.cat_open r2
  obtain ⟨_, _, e3, _, ⟨f, rfl, _⟩, r4⟩ := Fr.cat_open r3
  obtain ⟨_, _, e4, _, ⟨d, rfl, hd⟩, r5⟩ := Fr.cat_open r4
  have e5 : _ = [] := r5
  rw [e1, e2, e3, e4, e5] at e
  exact ⟨k, a, en, f, d, by rw [Fr.arr_of e]; rfl, hd⟩
set_option maxHeartbeats 1600000 in
theorem one_walk0 (s : ByteArray) (hs : s.size ≤ 140737488351232) (w : World) : Calls Try.prog 5 #[.string s] w fun en w' => en = .returned (.bool true) ∧ Below w.heap.size w w' := by
  rcases one s.data.toList with ⟨h1, h2⟩ | ⟨h1, h2, h3⟩
  · generalize (rd s.data.toList).2 = c at *
    have hc : (c != 0) = true := by rw [bne_iff_ne]; exact h2
    have H1 := Lib.hid h1; clear h1 h2
    go_enter Try.func5, Try.ntmps5
    go_wp2_with fail
    refine (read_calls s (by unfold maxLen; omega) _).mono ?_; rintro en w1 ⟨rfl, hb1⟩
    rw [H1.out]
    unfold rdV pkV zero
    go_wp2_with fail
    refine (lives_calls _).mono ?_; rintro en w2 ⟨rfl, hb2⟩
    obtain ⟨hc2, hf2⟩ := Kt.bcell hb2
    have hz2 : w1.heap.size < w2.heap.size := by have := hb2.size; simp at this; omega
    go_wp2_with fail
    refine (lives_calls _).mono ?_; rintro en w3 ⟨rfl, hb3⟩
    obtain ⟨hc3, hf3⟩ := Kt.bcell hb3
    have hz3 : w1.heap.size < w3.heap.size := by have := hb3.size; omega
    go_wp2
    go_ret
    exact ⟨rfl, Kt.bthen (Kt.bthen (Kt.balloc (Kt.bthen (Below.refl _ w) hb1) _) hb2) hb3⟩
  · have hp : rd s.data.toList = ((rd s.data.toList).1, 0) := Prod.ext rfl h1
    generalize (rd s.data.toList).1 = p at *
    obtain ⟨k, a, e, f, d⟩ := p
    obtain ⟨D, hD1, hD2⟩ : ∃ D : ByteArray, D.data.toList = d ∧ (⟨d.toArray⟩ : ByteArray) = D := ⟨⟨d.toArray⟩, by simp, rfl⟩
    have h2' : Okp ⟨k, a, e, f, D.data.toList⟩ := by rw [hD1]; exact h2
    have h3' : (⟨(text ⟨k, a, e, f, D.data.toList⟩).toArray⟩ : ByteArray) = s := Kt.bytes_eq (by rw [hD1, h3])
    have H1 := Lib.hid hp; clear hp h1 h2 h3 hD1
    have H3 := Lib.hid h3'; clear h3'
    have HD := Lib.hid hD2; clear hD2
    go_enter Try.func5, Try.ntmps5
    go_wp2_with fail
    refine (read_calls s (by unfold maxLen; omega) _).mono ?_; rintro en w1 ⟨rfl, hb1⟩
    rw [H1.out]
    unfold rdV pkV
    simp only
    rw [HD.out]
    go_wp2_with fail
    refine (lives_calls _).mono ?_; rintro en w2 ⟨rfl, hb2⟩
    obtain ⟨hc2, hf2⟩ := Kt.bcell hb2
    have hz2 : w1.heap.size < w2.heap.size := by have := hb2.size; simp at this; omega
    go_wp2_with fail
    refine (write_good _ _ _ _ _ h2' _).mono ?_; rintro en w3 ⟨rfl, hb3⟩
    rw [H3.out]
    go_wp2
    go_ret
    exact ⟨rfl, Kt.bthen (Kt.bthen (Kt.balloc (Kt.bthen (Below.refl _ w) hb1) _) hb2) hb3⟩
theorem back_walk (v0 : Value) (w : World) (r0 : Fr.RdV w reachBytes (.cat 1 (.int .i64) (.cat 1 (.int .i64) (.cat 1 (.int .i64) (.cat 1 (.int .i64) (.cat 1 .string .nil))))) v0) :
    Calls Try.prog 4 #[v0] w fun e w' => e = .returned (.bool true) ∧ Below w.heap.size w w' := by
  obtain ⟨k, a, e, f, d, rfl, _⟩ := parg r0
  by_cases h : Okp ⟨k, a, e, f, d.data.toList⟩
  · exact back_good k a e f d h w
  · exact back_bad k a e f d h w
theorem one_walk (v0 : Value) (w : World) (r0 : Fr.RdV w reachBytes .string v0) :
    Calls Try.prog 5 #[v0] w fun e w' => e = .returned (.bool true) ∧ Below w.heap.size w w' := by
  obtain ⟨a, e0, h0⟩ := r0; cases e0
  exact one_walk0 a h0 w
end Go.Proofs.Ytbajbdmocnkfmaa
