/- The law on the direction of requests, walked. -/
import Derived.Test.YtbehdmmmfonbkaaSetG
import Derived.Test.YtbehdmmmfonbkaaSetQ
namespace Go.Proofs.Ytbehdmmmfonbkaa
open Go.RowKit Go.Proofs.Ytbehdmmmfonbkaa.SetP
def txt (A B : Nat) (v i l : Int) : ByteArray := ⟨((tN A B v i l).map fun n => UInt8.ofNat n.toNat).toArray⟩
theorem txt_size (A B : Nat) (v i l : Int) : (txt A B v i l).size = 8 := rfl
theorem txt_first (A B : Nat) (v i l : Int) (hA : A ≤ 255) (h : 0 < (txt A B v i l).size) : ((txt A B v i l)[0]'h).toNat = A := by
  have : (txt A B v i l)[0]'h = UInt8.ofNat (A : Int).toNat := rfl
  rw [this]; simp; omega
def Wr (k v i l : Int) (S : ByteArray) (e : Int) : Prop := ∀ w : World, Calls Try.prog 6 #[askV k v i l] w fun en w' => en = .returned (.tuple #[.string S, .int .i64 e]) ∧ Below w.heap.size w w'
theorem canB_true {q n : Int} : canB q n = true ↔ canP q n := decide_eq_true_iff
theorem canB_false {q n : Int} : canB q n = false ↔ ¬ canP q n := decide_eq_false_iff_not
theorem row_hid {k : Int} {r : Row} (h : rowI k = some r) : Hid (∀ W : World, Calls Try.prog 9 #[.int .i64 k] W fun e w' => e = .returned (.tuple #[rowV r, .bool true]) ∧ Below W.heap.size W w') := by
  have hr := row_range h
  obtain ⟨n, rfl⟩ := Int.eq_ofNat_of_zero_le (show 0 ≤ k by omega)
  unfold rowI at h
  rw [if_pos (by omega)] at h
  exact Lib.hid (row_some n r h)
theorem write_total (k v i l : Int) : Wr k v i l ByteArray.empty 1 ∨ ∃ r, rowI k = some r ∧ (l = r.ln ∨ r.ln < 0) ∧ Wr k v i l (txt r.a r.b v i l) 0 := by
  by_cases hk : 1 ≤ k ∧ k ≤ 14
  · obtain ⟨r, hr⟩ := row_of_range hk
    have HR := row_hid hr
    have hf := row_facts hr
    have hm : (l == r.ln) = true ∨ ((l == r.ln) = false ∧ r.ln < 0) ∨ ((l == r.ln) = false ∧ 0 ≤ r.ln) := by
      cases e : (l == r.ln)
      · by_cases h0 : r.ln < 0
        · exact Or.inr (Or.inl ⟨rfl, h0⟩)
        · exact Or.inr (Or.inr ⟨rfl, by omega⟩)
      · exact Or.inl rfl
    by_cases h1 : canP r.vk v
    · by_cases h2 : canP r.ik i
      · cases e : (l == r.ln)
        · have e' : l ≠ r.ln := by simpa using e
          by_cases h0 : r.ln < 0
          · by_cases h3 : canP 1 l
            · right
              have := can_bd h3
              exact ⟨r, hr, Or.inr h0, write_good k v i l r HR hf.1 hf.2.1 (can_bd h1) (can_bd h2) (by omega) (Or.inr ⟨e, h0, canB_true.2 h3⟩) ⟨canB_true.2 h1, canB_true.2 h2⟩⟩
            · exact Or.inl (write_err k v i l r HR hm (Or.inr (Or.inr ⟨canB_true.2 h1, canB_true.2 h2, e, Or.inr ⟨h0, canB_false.2 h3⟩⟩)))
          · exact Or.inl (write_err k v i l r HR hm (Or.inr (Or.inr ⟨canB_true.2 h1, canB_true.2 h2, e, Or.inl (by omega)⟩)))
        · right
          have e' : l = r.ln := by simpa using e
          exact ⟨r, hr, Or.inl e', write_good k v i l r HR hf.1 hf.2.1 (can_bd h1) (can_bd h2) (by omega) (Or.inl e) ⟨canB_true.2 h1, canB_true.2 h2⟩⟩
      · exact Or.inl (write_err k v i l r HR hm (Or.inr (Or.inl ⟨canB_true.2 h1, canB_false.2 h2⟩)))
    · exact Or.inl (write_err k v i l r HR hm (Or.inl (canB_false.2 h1)))
  · exact Or.inl (write_none k v i l (by omega))
set_option maxHeartbeats 400000 in
theorem lives_calls (w : World) : Calls Try.prog 7 #[] w fun e w' => e = .returned (.bool true) ∧ Below w.heap.size w w' := by
  have HW : Hid (Wr 4 5 0 0 ⟨#[0, 5, 5, 0, 0, 0, 0, 0]⟩ 0) := Lib.hid (write_good 4 5 0 0 ⟨0, 5, 4, 0, 0⟩ (row_hid rfl) (by decide) (by decide) (by decide) (by decide) (by decide) (Or.inl rfl) ⟨by decide, by decide⟩)
  go_enter Try.func7, Try.ntmps7
  go_wp2_with fail
  refine (HW.out _).mono ?_; rintro en w1 ⟨rfl, hb1⟩
  go_wp2
  go_ret
  exact ⟨rfl, hb1⟩
set_option maxHeartbeats 800000 in
theorem way_bad (k v i l : Int) (HW : Hid (Wr k v i l ByteArray.empty 1)) (w : World) : Calls Try.prog 4 #[askV k v i l] w fun e w' => e = .returned (.bool true) ∧ Below w.heap.size w w' := by
  unfold askV
  go_enter Try.func4, Try.ntmps4
  go_wp2_with fail
  refine (HW.out _).mono ?_; rintro en w1 ⟨rfl, hb1⟩
  go_wp2_with fail
  refine (lives_calls _).mono ?_; rintro en w2 ⟨rfl, hb2⟩
  go_wp2_with fail
  refine (lives_calls _).mono ?_; rintro en w3 ⟨rfl, hb3⟩
  go_wp2
  go_ret
  exact ⟨rfl, Kt.bthen (Kt.bthen (Kt.bthen (Kt.balloc (Below.refl _ w) _) hb1) hb2) hb3⟩
set_option maxHeartbeats 800000 in
theorem way_1 (v i : Int) (S : ByteArray) (hS : S.size = 8) (h0 : 0 < S.size) (hA : (S[0]'h0).toNat = 128) (HW : Hid (Wr 1 v i 2 S 0)) (w : World) : Calls Try.prog 4 #[askV 1 v i 2] w fun e w' => e = .returned (.bool true) ∧ Below w.heap.size w w' := by
  unfold askV
  go_enter Try.func4, Try.ntmps4
  go_wp2_with fail
  refine (HW.out _).mono ?_; rintro en w1 ⟨rfl, hb1⟩
  obtain ⟨hc1, hf1⟩ := Kt.bcell hb1
  have hz1 : w.heap.size < w1.heap.size := by have := hb1.size; simp at this; omega
  go_wp2_with fail
  refine (lives_calls _).mono ?_; rintro en w2 ⟨rfl, hb2⟩
  obtain ⟨hc2, hf2⟩ := Kt.bcell hb2
  have hB := Kt.bthen (Kt.bthen (Kt.balloc (Below.refl _ w) _) hb1) hb2
  clear hb1 hb2
  go_wp2
  go_ret
  exact ⟨rfl, hB⟩
set_option maxHeartbeats 800000 in
theorem way_2 (v i : Int) (S : ByteArray) (hS : S.size = 8) (h0 : 0 < S.size) (hA : (S[0]'h0).toNat = 2) (HW : Hid (Wr 2 v i 0 S 0)) (w : World) : Calls Try.prog 4 #[askV 2 v i 0] w fun e w' => e = .returned (.bool true) ∧ Below w.heap.size w w' := by
  unfold askV
  go_enter Try.func4, Try.ntmps4
  go_wp2_with fail
  refine (HW.out _).mono ?_; rintro en w1 ⟨rfl, hb1⟩
  obtain ⟨hc1, hf1⟩ := Kt.bcell hb1
  have hz1 : w.heap.size < w1.heap.size := by have := hb1.size; simp at this; omega
  go_wp2_with fail
  refine (lives_calls _).mono ?_; rintro en w2 ⟨rfl, hb2⟩
  obtain ⟨hc2, hf2⟩ := Kt.bcell hb2
  have hB := Kt.bthen (Kt.bthen (Kt.balloc (Below.refl _ w) _) hb1) hb2
  clear hb1 hb2
  go_wp2
  go_ret
  exact ⟨rfl, hB⟩
set_option maxHeartbeats 800000 in
theorem way_3 (v i : Int) (S : ByteArray) (hS : S.size = 8) (h0 : 0 < S.size) (hA : (S[0]'h0).toNat = 2) (HW : Hid (Wr 3 v i 0 S 0)) (w : World) : Calls Try.prog 4 #[askV 3 v i 0] w fun e w' => e = .returned (.bool true) ∧ Below w.heap.size w w' := by
  unfold askV
  go_enter Try.func4, Try.ntmps4
  go_wp2_with fail
  refine (HW.out _).mono ?_; rintro en w1 ⟨rfl, hb1⟩
  obtain ⟨hc1, hf1⟩ := Kt.bcell hb1
  have hz1 : w.heap.size < w1.heap.size := by have := hb1.size; simp at this; omega
  go_wp2_with fail
  refine (lives_calls _).mono ?_; rintro en w2 ⟨rfl, hb2⟩
  obtain ⟨hc2, hf2⟩ := Kt.bcell hb2
  have hB := Kt.bthen (Kt.bthen (Kt.balloc (Below.refl _ w) _) hb1) hb2
  clear hb1 hb2
  go_wp2
  go_ret
  exact ⟨rfl, hB⟩
set_option maxHeartbeats 800000 in
theorem way_4 (v i : Int) (S : ByteArray) (hS : S.size = 8) (h0 : 0 < S.size) (hA : (S[0]'h0).toNat = 0) (HW : Hid (Wr 4 v i 0 S 0)) (w : World) : Calls Try.prog 4 #[askV 4 v i 0] w fun e w' => e = .returned (.bool true) ∧ Below w.heap.size w w' := by
  unfold askV
  go_enter Try.func4, Try.ntmps4
  go_wp2_with fail
  refine (HW.out _).mono ?_; rintro en w1 ⟨rfl, hb1⟩
  obtain ⟨hc1, hf1⟩ := Kt.bcell hb1
  have hz1 : w.heap.size < w1.heap.size := by have := hb1.size; simp at this; omega
  go_wp2_with fail
  refine (lives_calls _).mono ?_; rintro en w2 ⟨rfl, hb2⟩
  obtain ⟨hc2, hf2⟩ := Kt.bcell hb2
  have hB := Kt.bthen (Kt.bthen (Kt.balloc (Below.refl _ w) _) hb1) hb2
  clear hb1 hb2
  go_wp2
  go_ret
  exact ⟨rfl, hB⟩
set_option maxHeartbeats 800000 in
theorem way_5 (v i l : Int) (S : ByteArray) (hS : S.size = 8) (h0 : 0 < S.size) (hA : (S[0]'h0).toNat = 128) (HW : Hid (Wr 5 v i l S 0)) (w : World) : Calls Try.prog 4 #[askV 5 v i l] w fun e w' => e = .returned (.bool true) ∧ Below w.heap.size w w' := by
  unfold askV
  go_enter Try.func4, Try.ntmps4
  go_wp2_with fail
  refine (HW.out _).mono ?_; rintro en w1 ⟨rfl, hb1⟩
  obtain ⟨hc1, hf1⟩ := Kt.bcell hb1
  have hz1 : w.heap.size < w1.heap.size := by have := hb1.size; simp at this; omega
  go_wp2_with fail
  refine (lives_calls _).mono ?_; rintro en w2 ⟨rfl, hb2⟩
  obtain ⟨hc2, hf2⟩ := Kt.bcell hb2
  have hB := Kt.bthen (Kt.bthen (Kt.balloc (Below.refl _ w) _) hb1) hb2
  clear hb1 hb2
  go_wp2
  go_ret
  exact ⟨rfl, hB⟩
set_option maxHeartbeats 800000 in
theorem way_6 (v i : Int) (S : ByteArray) (hS : S.size = 8) (h0 : 0 < S.size) (hA : (S[0]'h0).toNat = 0) (HW : Hid (Wr 6 v i 0 S 0)) (w : World) : Calls Try.prog 4 #[askV 6 v i 0] w fun e w' => e = .returned (.bool true) ∧ Below w.heap.size w w' := by
  unfold askV
  go_enter Try.func4, Try.ntmps4
  go_wp2_with fail
  refine (HW.out _).mono ?_; rintro en w1 ⟨rfl, hb1⟩
  obtain ⟨hc1, hf1⟩ := Kt.bcell hb1
  have hz1 : w.heap.size < w1.heap.size := by have := hb1.size; simp at this; omega
  go_wp2_with fail
  refine (lives_calls _).mono ?_; rintro en w2 ⟨rfl, hb2⟩
  obtain ⟨hc2, hf2⟩ := Kt.bcell hb2
  have hB := Kt.bthen (Kt.bthen (Kt.balloc (Below.refl _ w) _) hb1) hb2
  clear hb1 hb2
  go_wp2
  go_ret
  exact ⟨rfl, hB⟩
set_option maxHeartbeats 800000 in
theorem way_7 (v i : Int) (S : ByteArray) (hS : S.size = 8) (h0 : 0 < S.size) (hA : (S[0]'h0).toNat = 128) (HW : Hid (Wr 7 v i 1 S 0)) (w : World) : Calls Try.prog 4 #[askV 7 v i 1] w fun e w' => e = .returned (.bool true) ∧ Below w.heap.size w w' := by
  unfold askV
  go_enter Try.func4, Try.ntmps4
  go_wp2_with fail
  refine (HW.out _).mono ?_; rintro en w1 ⟨rfl, hb1⟩
  obtain ⟨hc1, hf1⟩ := Kt.bcell hb1
  have hz1 : w.heap.size < w1.heap.size := by have := hb1.size; simp at this; omega
  go_wp2_with fail
  refine (lives_calls _).mono ?_; rintro en w2 ⟨rfl, hb2⟩
  obtain ⟨hc2, hf2⟩ := Kt.bcell hb2
  have hB := Kt.bthen (Kt.bthen (Kt.balloc (Below.refl _ w) _) hb1) hb2
  clear hb1 hb2
  go_wp2
  go_ret
  exact ⟨rfl, hB⟩
set_option maxHeartbeats 800000 in
theorem way_8 (v i : Int) (S : ByteArray) (hS : S.size = 8) (h0 : 0 < S.size) (hA : (S[0]'h0).toNat = 163) (HW : Hid (Wr 8 v i 4 S 0)) (w : World) : Calls Try.prog 4 #[askV 8 v i 4] w fun e w' => e = .returned (.bool true) ∧ Below w.heap.size w w' := by
  unfold askV
  go_enter Try.func4, Try.ntmps4
  go_wp2_with fail
  refine (HW.out _).mono ?_; rintro en w1 ⟨rfl, hb1⟩
  obtain ⟨hc1, hf1⟩ := Kt.bcell hb1
  have hz1 : w.heap.size < w1.heap.size := by have := hb1.size; simp at this; omega
  go_wp2_with fail
  refine (lives_calls _).mono ?_; rintro en w2 ⟨rfl, hb2⟩
  obtain ⟨hc2, hf2⟩ := Kt.bcell hb2
  have hB := Kt.bthen (Kt.bthen (Kt.balloc (Below.refl _ w) _) hb1) hb2
  clear hb1 hb2
  go_wp2
  go_ret
  exact ⟨rfl, hB⟩
set_option maxHeartbeats 800000 in
theorem way_9 (v i : Int) (S : ByteArray) (hS : S.size = 8) (h0 : 0 < S.size) (hA : (S[0]'h0).toNat = 35) (HW : Hid (Wr 9 v i 0 S 0)) (w : World) : Calls Try.prog 4 #[askV 9 v i 0] w fun e w' => e = .returned (.bool true) ∧ Below w.heap.size w w' := by
  unfold askV
  go_enter Try.func4, Try.ntmps4
  go_wp2_with fail
  refine (HW.out _).mono ?_; rintro en w1 ⟨rfl, hb1⟩
  obtain ⟨hc1, hf1⟩ := Kt.bcell hb1
  have hz1 : w.heap.size < w1.heap.size := by have := hb1.size; simp at this; omega
  go_wp2_with fail
  refine (lives_calls _).mono ?_; rintro en w2 ⟨rfl, hb2⟩
  obtain ⟨hc2, hf2⟩ := Kt.bcell hb2
  have hB := Kt.bthen (Kt.bthen (Kt.balloc (Below.refl _ w) _) hb1) hb2
  clear hb1 hb2
  go_wp2
  go_ret
  exact ⟨rfl, hB⟩
set_option maxHeartbeats 800000 in
theorem way_10 (v i : Int) (S : ByteArray) (hS : S.size = 8) (h0 : 0 < S.size) (hA : (S[0]'h0).toNat = 35) (HW : Hid (Wr 10 v i 0 S 0)) (w : World) : Calls Try.prog 4 #[askV 10 v i 0] w fun e w' => e = .returned (.bool true) ∧ Below w.heap.size w w' := by
  unfold askV
  go_enter Try.func4, Try.ntmps4
  go_wp2_with fail
  refine (HW.out _).mono ?_; rintro en w1 ⟨rfl, hb1⟩
  obtain ⟨hc1, hf1⟩ := Kt.bcell hb1
  have hz1 : w.heap.size < w1.heap.size := by have := hb1.size; simp at this; omega
  go_wp2_with fail
  refine (lives_calls _).mono ?_; rintro en w2 ⟨rfl, hb2⟩
  obtain ⟨hc2, hf2⟩ := Kt.bcell hb2
  have hB := Kt.bthen (Kt.bthen (Kt.balloc (Below.refl _ w) _) hb1) hb2
  clear hb1 hb2
  go_wp2
  go_ret
  exact ⟨rfl, hB⟩
set_option maxHeartbeats 800000 in
theorem way_11 (v i : Int) (S : ByteArray) (hS : S.size = 8) (h0 : 0 < S.size) (hA : (S[0]'h0).toNat = 33) (HW : Hid (Wr 11 v i 0 S 0)) (w : World) : Calls Try.prog 4 #[askV 11 v i 0] w fun e w' => e = .returned (.bool true) ∧ Below w.heap.size w w' := by
  unfold askV
  go_enter Try.func4, Try.ntmps4
  go_wp2_with fail
  refine (HW.out _).mono ?_; rintro en w1 ⟨rfl, hb1⟩
  obtain ⟨hc1, hf1⟩ := Kt.bcell hb1
  have hz1 : w.heap.size < w1.heap.size := by have := hb1.size; simp at this; omega
  go_wp2_with fail
  refine (lives_calls _).mono ?_; rintro en w2 ⟨rfl, hb2⟩
  obtain ⟨hc2, hf2⟩ := Kt.bcell hb2
  have hB := Kt.bthen (Kt.bthen (Kt.balloc (Below.refl _ w) _) hb1) hb2
  clear hb1 hb2
  go_wp2
  go_ret
  exact ⟨rfl, hB⟩
set_option maxHeartbeats 800000 in
theorem way_12 (v i : Int) (S : ByteArray) (hS : S.size = 8) (h0 : 0 < S.size) (hA : (S[0]'h0).toNat = 161) (HW : Hid (Wr 12 v i 1 S 0)) (w : World) : Calls Try.prog 4 #[askV 12 v i 1] w fun e w' => e = .returned (.bool true) ∧ Below w.heap.size w w' := by
  unfold askV
  go_enter Try.func4, Try.ntmps4
  go_wp2_with fail
  refine (HW.out _).mono ?_; rintro en w1 ⟨rfl, hb1⟩
  obtain ⟨hc1, hf1⟩ := Kt.bcell hb1
  have hz1 : w.heap.size < w1.heap.size := by have := hb1.size; simp at this; omega
  go_wp2_with fail
  refine (lives_calls _).mono ?_; rintro en w2 ⟨rfl, hb2⟩
  obtain ⟨hc2, hf2⟩ := Kt.bcell hb2
  have hB := Kt.bthen (Kt.bthen (Kt.balloc (Below.refl _ w) _) hb1) hb2
  clear hb1 hb2
  go_wp2
  go_ret
  exact ⟨rfl, hB⟩
set_option maxHeartbeats 800000 in
theorem way_13 (v i : Int) (S : ByteArray) (hS : S.size = 8) (h0 : 0 < S.size) (hA : (S[0]'h0).toNat = 33) (HW : Hid (Wr 13 v i 0 S 0)) (w : World) : Calls Try.prog 4 #[askV 13 v i 0] w fun e w' => e = .returned (.bool true) ∧ Below w.heap.size w w' := by
  unfold askV
  go_enter Try.func4, Try.ntmps4
  go_wp2_with fail
  refine (HW.out _).mono ?_; rintro en w1 ⟨rfl, hb1⟩
  obtain ⟨hc1, hf1⟩ := Kt.bcell hb1
  have hz1 : w.heap.size < w1.heap.size := by have := hb1.size; simp at this; omega
  go_wp2_with fail
  refine (lives_calls _).mono ?_; rintro en w2 ⟨rfl, hb2⟩
  obtain ⟨hc2, hf2⟩ := Kt.bcell hb2
  have hB := Kt.bthen (Kt.bthen (Kt.balloc (Below.refl _ w) _) hb1) hb2
  clear hb1 hb2
  go_wp2
  go_ret
  exact ⟨rfl, hB⟩
set_option maxHeartbeats 800000 in
theorem way_14 (v i : Int) (S : ByteArray) (hS : S.size = 8) (h0 : 0 < S.size) (hA : (S[0]'h0).toNat = 33) (HW : Hid (Wr 14 v i 1 S 0)) (w : World) : Calls Try.prog 4 #[askV 14 v i 1] w fun e w' => e = .returned (.bool true) ∧ Below w.heap.size w w' := by
  unfold askV
  go_enter Try.func4, Try.ntmps4
  go_wp2_with fail
  refine (HW.out _).mono ?_; rintro en w1 ⟨rfl, hb1⟩
  obtain ⟨hc1, hf1⟩ := Kt.bcell hb1
  have hz1 : w.heap.size < w1.heap.size := by have := hb1.size; simp at this; omega
  go_wp2_with fail
  refine (lives_calls _).mono ?_; rintro en w2 ⟨rfl, hb2⟩
  obtain ⟨hc2, hf2⟩ := Kt.bcell hb2
  have hB := Kt.bthen (Kt.bthen (Kt.balloc (Below.refl _ w) _) hb1) hb2
  clear hb1 hb2
  go_wp2
  go_ret
  exact ⟨rfl, hB⟩
theorem way_good (k v i l : Int) (r : Row) (hr : rowI k = some r) (hl : l = r.ln ∨ r.ln < 0) (S : ByteArray) (hS : S.size = 8) (h0 : 0 < S.size) (hA : (S[0]'h0).toNat = r.a) (HW : Hid (Wr k v i l S 0)) (w : World) : Calls Try.prog 4 #[askV k v i l] w fun e w' => e = .returned (.bool true) ∧ Below w.heap.size w w' := by
  have hk := row_range hr
  rcases (by omega : k = 1 ∨ k = 2 ∨ k = 3 ∨ k = 4 ∨ k = 5 ∨ k = 6 ∨ k = 7 ∨ k = 8 ∨ k = 9 ∨ k = 10 ∨ k = 11 ∨ k = 12 ∨ k = 13 ∨ k = 14) with rfl | rfl | rfl | rfl | rfl | rfl | rfl | rfl | rfl | rfl | rfl | rfl | rfl | rfl
  · obtain rfl : r = ⟨128, 0, 0, 0, 2⟩ := Option.some.inj (hr.symm.trans rfl)
    obtain rfl : l = 2 := hl.resolve_right (by decide)
    exact way_1 v i S hS h0 hA HW w
  · obtain rfl : r = ⟨2, 1, 0, 3, 0⟩ := Option.some.inj (hr.symm.trans rfl)
    obtain rfl : l = 0 := hl.resolve_right (by decide)
    exact way_2 v i S hS h0 hA HW w
  · obtain rfl : r = ⟨2, 3, 0, 3, 0⟩ := Option.some.inj (hr.symm.trans rfl)
    obtain rfl : l = 0 := hl.resolve_right (by decide)
    exact way_3 v i S hS h0 hA HW w
  · obtain rfl : r = ⟨0, 5, 4, 0, 0⟩ := Option.some.inj (hr.symm.trans rfl)
    obtain rfl : l = 0 := hl.resolve_right (by decide)
    exact way_4 v i S hS h0 hA HW w
  · obtain rfl : r = ⟨128, 6, 1, 1, -1⟩ := Option.some.inj (hr.symm.trans rfl)
    exact way_5 v i l S hS h0 hA HW w
  · obtain rfl : r = ⟨0, 9, 2, 0, 0⟩ := Option.some.inj (hr.symm.trans rfl)
    obtain rfl : l = 0 := hl.resolve_right (by decide)
    exact way_6 v i S hS h0 hA HW w
  · obtain rfl : r = ⟨128, 8, 0, 0, 1⟩ := Option.some.inj (hr.symm.trans rfl)
    obtain rfl : l = 1 := hl.resolve_right (by decide)
    exact way_7 v i S hS h0 hA HW w
  · obtain rfl : r = ⟨163, 0, 0, 5, 4⟩ := Option.some.inj (hr.symm.trans rfl)
    obtain rfl : l = 4 := hl.resolve_right (by decide)
    exact way_8 v i S hS h0 hA HW w
  · obtain rfl : r = ⟨35, 3, 6, 5, 0⟩ := Option.some.inj (hr.symm.trans rfl)
    obtain rfl : l = 0 := hl.resolve_right (by decide)
    exact way_9 v i S hS h0 hA HW w
  · obtain rfl : r = ⟨35, 1, 6, 5, 0⟩ := Option.some.inj (hr.symm.trans rfl)
    obtain rfl : l = 0 := hl.resolve_right (by decide)
    exact way_10 v i S hS h0 hA HW w
  · obtain rfl : r = ⟨33, 255, 0, 2, 0⟩ := Option.some.inj (hr.symm.trans rfl)
    obtain rfl : l = 0 := hl.resolve_right (by decide)
    exact way_11 v i S hS h0 hA HW w
  · obtain rfl : r = ⟨161, 254, 0, 2, 1⟩ := Option.some.inj (hr.symm.trans rfl)
    obtain rfl : l = 1 := hl.resolve_right (by decide)
    exact way_12 v i S hS h0 hA HW w
  · obtain rfl : r = ⟨33, 10, 1, 2, 0⟩ := Option.some.inj (hr.symm.trans rfl)
    obtain rfl : l = 0 := hl.resolve_right (by decide)
    exact way_13 v i S hS h0 hA HW w
  · obtain rfl : r = ⟨33, 9, 7, 2, 1⟩ := Option.some.inj (hr.symm.trans rfl)
    obtain rfl : l = 1 := hl.resolve_right (by decide)
    exact way_14 v i S hS h0 hA HW w
theorem way_walk (v0 : Value) (w : World) (r0 : Fr.RdV w reachBytes (.cat 1 (.int .i64) (.cat 1 (.int .i64) (.cat 1 (.int .i64) (.cat 1 (.int .i64) .nil)))) v0) :
    Calls Try.prog 4 #[v0] w fun e w' => e = .returned (.bool true) ∧ Below w.heap.size w w' := by
  obtain ⟨cs, rfl, r⟩ := r0
  obtain ⟨_, _, e, _, ⟨k, rfl, _⟩, r1⟩ := Fr.cat_open r
  obtain ⟨_, _, e1, _, ⟨v, rfl, _⟩, r2⟩ := Fr.cat_open r1
  obtain ⟨_, _, e2, _, ⟨i, rfl, _⟩, r3⟩ := Fr.cat_open r2
  obtain ⟨_, _, e3, _, ⟨l, rfl, _⟩, r4⟩ := Fr.cat_open r3
  have e4 : _ = [] := r4
  rw [e1, e2, e3, e4] at e
  rw [Fr.arr_of e]
  rcases write_total k v i l with h | ⟨r, hr, hl, h⟩
  · exact way_bad k v i l (Lib.hid h) w
  · exact way_good k v i l r hr hl _ (txt_size _ _ _ _ _) (by rw [txt_size]; omega) (txt_first _ _ _ _ _ (row_facts hr).1 _) (Lib.hid h) w
end Go.Proofs.Ytbehdmmmfonbkaa
