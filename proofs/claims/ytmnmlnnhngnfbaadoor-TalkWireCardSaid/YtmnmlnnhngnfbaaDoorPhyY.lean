/- phy: Unstuff, with its why. -/
import Derived.Test.YtmnmlnnhngnfbaaDoorPhyQ
import Derived.Test.YtmnmlnnhngnfbaaDoorLanY
import Derived.Test.YtmnmlnnhngnfbaaDoorLanZ
namespace Go.Proofs.YtmnmlnnhngnfbaaDoor
open Go.RowKit Go.Proofs.YtmnmlnnhngnfbaaDoor.Lan Go.Proofs.YtmnmlnnhngnfbaaDoor.Phy
def bt (l : List UInt8) : ByteArray := ⟨l.toArray⟩
theorem bt_list (l : List UInt8) : (bt l).data.toList = l := by simp [bt]
theorem bt_size (l : List UInt8) : (bt l).size = l.length := by simp [bt, ByteArray.size]
theorem bt_app (a b : List UInt8) : bt a ++ bt b = bt (a ++ b) := by
  apply Kt.bytes_eq
  simp [bt]
def unsR (l : List UInt8) : List UInt8 × Int := match unstuff 0 l with | some m => (m, 0) | none => ([], unsE 0 l)
theorem unsR_none {l : List UInt8} (h : unstuff 0 l = none) : unsR l = ([], unsE 0 l) := by unfold unsR; rw [h]
theorem unsR_some {l m : List UInt8} (h : unstuff 0 l = some m) : unsR l = (m, 0) := by unfold unsR; rw [h]
theorem unsE_zero {n : Nat} {b : UInt8} {l : List UInt8} (hn : ¬ n = 6) (h : b = 48) : unsE n (b :: l) = unsE 0 l := by
  rw [unsE]
  unfold nxt
  rw [if_neg hn, if_pos h]
theorem unsE_one {n : Nat} {b : UInt8} {l : List UInt8} (hn : ¬ n = 6) (h : ¬ b = 48) : unsE n (b :: l) = unsE (n + 1) l := by
  rw [unsE]
  unfold nxt
  rw [if_neg hn, if_neg h]
theorem unsE_six {b : UInt8} {l : List UInt8} (h : ¬ b = 49) : unsE 6 (b :: l) = unsE 0 l := by
  rw [unsE, if_pos rfl, if_neg h]
theorem unsE_bad {b : UInt8} {l : List UInt8} (h : b = 49) : unsE 6 (b :: l) = 6 := by
  rw [unsE, if_pos rfl, if_pos h]
set_option maxRecDepth 100000 in
set_option maxHeartbeats 1600000 in
theorem unstuff_calls (s : ByteArray) (w : World) (hs : s.size + 2 ≤ 140737488355328) (hok : okL [48, 49] s.data.toList = true) :
    Calls Tryd.prog 57 #[.string s] w fun e w' => e = .returned (.tuple #[.string (bt (unsR s.data.toList).1), .int .i64 (unsR s.data.toList).2]) ∧ Below w.heap.size w w' := by
  have HIS := Lib.hid (is_calls s ⟨#[48, 49]⟩ w (by omega) (.inl rfl))
  rw [show okL (⟨#[48, 49]⟩ : ByteArray).data.toList s.data.toList = true from hok] at HIS
  have hl : s.data.toList.length = s.size := by simp
  obtain ⟨l, hll⟩ : ∃ l, s.data.toList = l := ⟨_, rfl⟩
  have HLL := Lib.hid hll
  rw [hll] at hl ⊢
  have HL := Lib.hid hl
  clear hok hll hl
  go_enter Tryd.func57, Tryd.ntmps57
  go_wp2_with fail
  refine HIS.out.mono ?_
  rintro e w1 ⟨rfl, hb⟩
  have HB1 := Lib.hid (Kt.balloc hb (.cells #[.pointer none, .slice none 0 0] 51))
  have HBD := Lib.hid (BdB.fresh w1)
  have hgs := hb.size
  clear hb HIS
  go_wp2_with fail
  generalize (w1.alloc (.cells #[.pointer none, .slice none 0 0] 51)) = W at *
  generalize w1.heap.size = g at *
  go_loopw [12, 5] (fun i o wr => ∃ (k n : Nat) (pre : List UInt8), k ≤ s.size ∧ n ≤ 6 ∧ i = .int .i64 k ∧ o = .int .i64 n ∧ Hid (pre.length ≤ k) ∧ Hid (unstuff 0 l = (unstuff n (l.drop k)).map (pre ++ ·)) ∧ Hid (unsE 0 l = unsE n (l.drop k)) ∧ Hid (BdB g pre wr) ∧ Hid (Below w.heap.size w wr)) (fun i _ _ => s.size - (intOf i).toNat)
  case atStart => exact ⟨0, 0, [], Nat.zero_le _, by omega, rfl, rfl, Lib.hid (Nat.le_refl _), Lib.hid (by cases h : unstuff 0 l <;> simp [h]), Lib.hid rfl, HBD, HB1⟩
  case round =>
    clear HBD HB1
    obtain ⟨k, n, pre, hk, hn6, rfl, rfl, HPL, HST, HER, HBD, HB1⟩ := hrel
    by_cases hlt : k < s.size
    · have hkl : k < l.length := by rw [HL.out]; exact hlt
      obtain ⟨b, hb⟩ : ∃ b, s[k] = b := ⟨_, rfl⟩
      have HTK : Hid (l.drop k = b :: l.drop (k + 1)) := Lib.hid (by
        rw [List.drop_eq_getElem_cons hkl, ← hb]
        have := HLL.out
        subst this
        rfl)
      clear hkl
      by_cases h6 : n = 6
      · subst h6
        by_cases h49 : b = 49
        · have e1 : ((b.toNat : Int) == 49) = true := by rw [h49]; rfl
          have HS2 : Hid (unstuff 0 l = none) := Lib.hid (by rw [HST.out, HTK.out, uns_bad h49]; rfl)
          have HE2 : Hid (unsE 0 l = 6) := Lib.hid (by rw [HER.out, HTK.out]; exact unsE_bad h49)
          clear h49
          go_wp2_with fail
          go_ret2
          rw [unsR_none HS2.out, HE2.out]
          exact ⟨rfl, HB1.out⟩
        · have e1 : ((b.toNat : Int) == 49) = false := by
            rw [beq_eq_false_iff_ne]
            intro h
            exact h49 (UInt8.toNat_inj.1 (by show b.toNat = 49; omega))
          have HS2 : Hid (unstuff 0 l = (unstuff 0 (l.drop (k + 1))).map (pre ++ ·)) := Lib.hid (by rw [HST.out, HTK.out, uns_six h49])
          have HE2 : Hid (unsE 0 l = unsE 0 (l.drop (k + 1))) := Lib.hid (by rw [HER.out, HTK.out]; exact unsE_six h49)
          clear h49
          go_wp2_with fail
          go_roundw
          case rel => exact ⟨k + 1, 0, pre, by omega, by omega, by go_num, rfl, Lib.hid (by have := HPL.out; omega), HS2, HE2, HBD, HB1⟩
          case measure => (simp [intOf] <;> omega)
      · have e0 : ((n : Int) == 6) = false := by
          rw [beq_eq_false_iff_ne]
          intro h
          exact h6 (by omega)
        have HWR := Lib.hid (write_b g _ b _ HBD.out (by have := HPL.out; omega))
        go_wp2_with fail
        refine HWR.out.mono ?_
        rintro e w2 ⟨rfl, hbd, hb2⟩
        have HBD2 := Lib.hid hbd
        have HB2 := Lib.hid (HB1.out.trans (hb2.mono hgs))
        clear hbd hb2 HBD HB1 HWR
        by_cases h48 : b = 48
        · have e1 : ((b.toNat : Int) == 48) = true := by rw [h48]; rfl
          have HS2 : Hid (unstuff 0 l = (unstuff 0 (l.drop (k + 1))).map ((pre ++ [b]) ++ ·)) := Lib.hid (by rw [HST.out, HTK.out, uns_zero h6 h48, map_app])
          have HE2 : Hid (unsE 0 l = unsE 0 (l.drop (k + 1))) := Lib.hid (by rw [HER.out, HTK.out]; exact unsE_zero h6 h48)
          clear h48
          go_wp2_with fail
          go_roundw
          case rel => exact ⟨k + 1, 0, pre ++ [b], by omega, by omega, by go_num, rfl, Lib.hid (by have := HPL.out; rw [List.length_append]; simp only [List.length_singleton]; omega), HS2, HE2, HBD2, HB2⟩
          case measure => (simp [intOf] <;> omega)
        · have e1 : ((b.toNat : Int) == 48) = false := by
            rw [beq_eq_false_iff_ne]
            intro h
            exact h48 (UInt8.toNat_inj.1 (by show b.toNat = 48; omega))
          have HS2 : Hid (unstuff 0 l = (unstuff (n + 1) (l.drop (k + 1))).map ((pre ++ [b]) ++ ·)) := Lib.hid (by rw [HST.out, HTK.out, uns_one h6 h48, map_app])
          have HE2 : Hid (unsE 0 l = unsE (n + 1) (l.drop (k + 1))) := Lib.hid (by rw [HER.out, HTK.out]; exact unsE_one h6 h48)
          clear h48
          go_wp2_with fail
          go_roundw
          case rel => exact ⟨k + 1, n + 1, pre ++ [b], by omega, by omega, by go_num, by go_num, Lib.hid (by have := HPL.out; rw [List.length_append]; simp only [List.length_singleton]; omega), HS2, HE2, HBD2, HB2⟩
          case measure => (simp [intOf] <;> omega)
    · obtain rfl : k = s.size := by omega
      have HE2 : Hid (unsE 0 l = 3) := Lib.hid (by rw [HER.out, List.drop_of_length_le (by rw [HL.out]; exact Nat.le_refl _)]; unfold unsE; rfl)
      have HD : Hid (unstuff 0 l = (unstuff n []).map (pre ++ ·)) := Lib.hid (by rw [HST.out, List.drop_of_length_le (by rw [HL.out]; exact Nat.le_refl _)])
      by_cases h6 : n = 6
      · subst h6
        go_wp2_with fail
        go_ret2
        rw [unsR_none (by rw [HD.out]; rfl), HE2.out]
        exact ⟨rfl, HB1.out⟩
      · have e0 : ((n : Int) == 6) = false := by
          rw [beq_eq_false_iff_ne]
          intro h
          exact h6 (by omega)
        have HU : Hid (unstuff n [] = some []) := Lib.hid (if_neg h6)
        have HST2 := Lib.hid (string_b g _ _ HBD.out)
        clear HBD hlt hk h6
        go_wp2_with fail
        refine HST2.out.mono ?_
        rintro e w2 ⟨rfl, hb2⟩
        have HB2 := Lib.hid (HB1.out.trans (hb2.mono hgs))
        clear hb2 HB1 HST2
        go_wp2_with fail
        go_ret2
        rw [unsR_some (m := pre) (by rw [HD.out, HU.out]; simp)]
        exact ⟨rfl, HB2.out⟩
end Go.Proofs.YtmnmlnnhngnfbaaDoor
