/- The laws of packets, walked: no two have one text. -/
import Derived.Test.YtbajbdmocnkfmaaPktL
namespace Go.Proofs.Ytbajbdmocnkfmaa
open Go.RowKit Go.Proofs.Ytbajbdmocnkfmaa.CrcP Go.Proofs.Ytbajbdmocnkfmaa.PktP
theorem PktA.bad {p : Pk} (h : ¬ Okp p) : (chk p != 0) = true := by
  rw [bne_iff_ne]; unfold chk; rw [if_neg h]; split <;> decide
set_option maxHeartbeats 1600000 in
theorem apart_bad (k a e f : Int) (d : ByteArray) (k2 a2 e2 f2 : Int) (d2 : ByteArray) (x y : Int) (T1 T2 : ByteArray) (W1 : Hid (∀ W : World, Calls Try.prog 10 #[.agg #[.int .i64 k, .int .i64 a, .int .i64 e, .int .i64 f, .string d]] W fun en w' => en = .returned (.tuple #[.string T1, .int .i64 x]) ∧ Below W.heap.size W w')) (W2 : Hid (∀ W : World, Calls Try.prog 10 #[.agg #[.int .i64 k2, .int .i64 a2, .int .i64 e2, .int .i64 f2, .string d2]] W fun en w' => en = .returned (.tuple #[.string T2, .int .i64 y]) ∧ Below W.heap.size W w')) (c : ((x != 0) = true) ∨ ((x != 0) = false ∧ (y != 0) = true)) (w : World) : Calls Try.prog 3 #[.agg #[.int .i64 k, .int .i64 a, .int .i64 e, .int .i64 f, .string d], .agg #[.int .i64 k2, .int .i64 a2, .int .i64 e2, .int .i64 f2, .string d2]] w fun en w' => en = .returned (.bool true) ∧ Below w.heap.size w w' := by
  rcases c with c1 | ⟨c1, c2⟩
  all_goals
    go_enter Try.func3, Try.ntmps3
    go_wp2_with fail
    refine (W1.out _).mono ?_; rintro en w1 ⟨rfl, hb1⟩
    obtain ⟨hc1, hf1⟩ := Kt.bcell hb1
    have hz1 : w.heap.size + 1 < w1.heap.size := by have := hb1.size; simp at this; omega
    go_wp2_with fail
    refine (W2.out _).mono ?_; rintro en w2 ⟨rfl, hb2⟩
    go_wp2_with fail
    refine (lives_calls _).mono ?_; rintro en w3 ⟨rfl, hb3⟩
    go_wp2
    go_ret
    exact ⟨rfl, Kt.bthen (Kt.bthen (Kt.bthen (Kt.balloc (Kt.balloc (Below.refl _ w) _) _) hb1) hb2) hb3⟩
theorem PktA.eqb (k a e f : Int) (d : ByteArray) (k2 a2 e2 f2 : Int) (d2 : ByteArray) (h : Okp ⟨k, a, e, f, d.data.toList⟩) (h2 : Okp ⟨k2, a2, e2, f2, d2.data.toList⟩) :
    ((⟨(text ⟨k, a, e, f, d.data.toList⟩).toArray⟩ : ByteArray).toList == (⟨(text ⟨k2, a2, e2, f2, d2.data.toList⟩).toArray⟩ : ByteArray).toList) = decide (k = k2 ∧ a = a2 ∧ e = e2 ∧ f = f2 ∧ d.toList = d2.toList) := by
  rw [Bool.eq_iff_iff, beq_iff_eq, decide_eq_true_iff, PktW.tl, PktW.tl, PktW.tl, PktW.tl]
  have := apart _ _ h h2
  simp only [Pk.mk.injEq] at this
  simpa using this
set_option maxHeartbeats 1600000 in
theorem apart_good (k a e f : Int) (d : ByteArray) (k2 a2 e2 f2 : Int) (d2 : ByteArray) (h : Okp ⟨k, a, e, f, d.data.toList⟩) (h2 : Okp ⟨k2, a2, e2, f2, d2.data.toList⟩) (w : World) : Calls Try.prog 3 #[.agg #[.int .i64 k, .int .i64 a, .int .i64 e, .int .i64 f, .string d], .agg #[.int .i64 k2, .int .i64 a2, .int .i64 e2, .int .i64 f2, .string d2]] w fun en w' => en = .returned (.bool true) ∧ Below w.heap.size w w' := by
  have W1 := Lib.hid (write_good _ _ _ _ _ h)
  have W2 := Lib.hid (write_good _ _ _ _ _ h2)
  have hE := PktA.eqb _ _ _ _ _ _ _ _ _ _ h h2
  generalize (⟨(text ⟨k, a, e, f, d.data.toList⟩).toArray⟩ : ByteArray) = T1 at *
  generalize (⟨(text ⟨k2, a2, e2, f2, d2.data.toList⟩).toArray⟩ : ByteArray) = T2 at *
  have HE := Lib.hid hE; clear hE h h2
  go_enter Try.func3, Try.ntmps3
  go_wp2_with fail
  refine (W1.out _).mono ?_; rintro en w1 ⟨rfl, hb1⟩
  obtain ⟨hc1, hf1⟩ := Kt.bcell hb1
  have hz1 : w.heap.size + 1 < w1.heap.size := by have := hb1.size; simp at this; omega
  have hy1 : w.heap.size < w1.heap.size := by omega
  go_wp2_with fail
  refine (W2.out _).mono ?_; rintro en w2 ⟨rfl, hb2⟩
  obtain ⟨hc2, hf2⟩ := Kt.bcell hb2
  have hz2 : w.heap.size + 1 < w2.heap.size := by have := hb2.size; omega
  have hy2 : w.heap.size < w2.heap.size := by omega
  go_wp2_with fail
  refine (lives_calls _).mono ?_; rintro en w3 ⟨rfl, hb3⟩
  obtain ⟨hc3, hf3⟩ := Kt.bcell hb3
  have hz3 : w.heap.size + 1 < w3.heap.size := by have := hb3.size; omega
  have hy3 : w.heap.size < w3.heap.size := by omega
  go_wp2
  clear hc1 hf1 hc2 hf2 hc3 hf3
  all_goals
    have hB : Below w.heap.size w w3 := Kt.bthen (Kt.bthen (Kt.bthen (Kt.balloc (Kt.balloc (Below.refl _ w) _) _) hb1) hb2) hb3
    clear W1 W2 hb1 hb2 hb3
    go_ret
    refine ⟨Kt.ret_true ?_, hB⟩
    have h := HE.out
    simp_all
theorem apart_walk (v0 v1 : Value) (w : World) (r0 : Fr.RdV w reachBytes (.cat 1 (.int .i64) (.cat 1 (.int .i64) (.cat 1 (.int .i64) (.cat 1 (.int .i64) (.cat 1 .string .nil))))) v0) (r1 : Fr.RdV w reachBytes (.cat 1 (.int .i64) (.cat 1 (.int .i64) (.cat 1 (.int .i64) (.cat 1 (.int .i64) (.cat 1 .string .nil))))) v1) :
    Calls Try.prog 3 #[v0, v1] w fun e w' => e = .returned (.bool true) ∧ Below w.heap.size w w' := by
  obtain ⟨k, a, e, f, d, rfl, _⟩ := parg r0
  obtain ⟨k2, a2, e2, f2, d2, rfl, _⟩ := parg r1
  by_cases h : Okp ⟨k, a, e, f, d.data.toList⟩
  · by_cases h2 : Okp ⟨k2, a2, e2, f2, d2.data.toList⟩
    · exact apart_good k a e f d k2 a2 e2 f2 d2 h h2 w
    · exact apart_bad k a e f d k2 a2 e2 f2 d2 0 _ _ _ (Lib.hid (write_good k a e f d h)) (Lib.hid (write_bad k2 a2 e2 f2 d2 h2)) (Or.inr ⟨rfl, PktA.bad h2⟩) w
  · by_cases h2 : Okp ⟨k2, a2, e2, f2, d2.data.toList⟩
    · exact apart_bad k a e f d k2 a2 e2 f2 d2 _ 0 _ _ (Lib.hid (write_bad k a e f d h)) (Lib.hid (write_good k2 a2 e2 f2 d2 h2)) (Or.inl (PktA.bad h)) w
    · exact apart_bad k a e f d k2 a2 e2 f2 d2 _ _ _ _ (Lib.hid (write_bad k a e f d h)) (Lib.hid (write_bad k2 a2 e2 f2 d2 h2)) (Or.inl (PktA.bad h)) w
end Go.Proofs.Ytbajbdmocnkfmaa
