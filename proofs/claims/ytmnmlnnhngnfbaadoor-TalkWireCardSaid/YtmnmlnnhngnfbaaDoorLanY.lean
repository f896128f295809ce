/- The walks of lane.Unstuff, lane.Bytes. -/
import Derived.Test.YtmnmlnnhngnfbaaDoorLanX
namespace Go.Proofs.YtmnmlnnhngnfbaaDoor
open Go.RowKit Go.Proofs.YtmnmlnnhngnfbaaDoor.Lan
/-- what Unstuff tells of a row of bits -/
def UnsIs (o : Option (List UInt8)) (x : ByteArray) (c : Int) : Prop := match o with | some m => x = ⟨m.toArray⟩ ∧ c = 0 | none => c = 3 ∨ c = 6
theorem uns_zero {n : Nat} {b : UInt8} {l : List UInt8} (hn : ¬ n = 6) (h : b = 48) : unstuff n (b :: l) = (unstuff 0 l).map (b :: ·) := by
  show (if n = 6 then (if b = 49 then none else unstuff 0 l) else (unstuff (nxt n b) l).map (b :: ·)) = _
  unfold nxt
  rw [if_neg hn, if_pos h]
theorem uns_one {n : Nat} {b : UInt8} {l : List UInt8} (hn : ¬ n = 6) (h : ¬ b = 48) : unstuff n (b :: l) = (unstuff (n + 1) l).map (b :: ·) := by
  show (if n = 6 then (if b = 49 then none else unstuff 0 l) else (unstuff (nxt n b) l).map (b :: ·)) = _
  unfold nxt
  rw [if_neg hn, if_neg h]
theorem uns_six {b : UInt8} {l : List UInt8} (h : ¬ b = 49) : unstuff 6 (b :: l) = unstuff 0 l := by
  show (if 6 = 6 then (if b = 49 then none else unstuff 0 l) else (unstuff (nxt 6 b) l).map (b :: ·)) = _
  rw [if_pos rfl, if_neg h]
theorem uns_bad {b : UInt8} {l : List UInt8} (h : b = 49) : unstuff 6 (b :: l) = none := by
  show (if 6 = 6 then (if b = 49 then none else unstuff 0 l) else (unstuff (nxt 6 b) l).map (b :: ·)) = _
  rw [if_pos rfl, if_pos h]
set_option maxRecDepth 100000 in
theorem unstuff_bad (s : ByteArray) (w : World) (hs : s.size + 2 ≤ 140737488355328) (h : okL [48, 49] s.data.toList = false) :
    Calls Tryd.prog 57 #[.string s] w fun e w' => e = .returned (.tuple #[.string ⟨#[]⟩, .int .i64 1]) ∧ Below w.heap.size w w' := by
  have HIS := Lib.hid (is_calls s ⟨#[48, 49]⟩ w (by omega) (.inl rfl))
  rw [show okL (⟨#[48, 49]⟩ : ByteArray).data.toList s.data.toList = false from h] at HIS
  clear h hs
  go_enter Tryd.func57, Tryd.ntmps57
  go_wp2_with fail
  refine HIS.out.mono ?_
  rintro e w1 ⟨rfl, hb⟩
  have HB := Lib.hid hb
  clear hb
  go_wp2_with fail
  go_ret2
  exact ⟨rfl, HB.out⟩
theorem map_app (p : List UInt8) (b : UInt8) (o : Option (List UInt8)) : (o.map (b :: ·)).map (p ++ ·) = o.map ((p ++ [b]) ++ ·) := by
  cases o with
  | none => rfl
  | some m => simp
set_option maxRecDepth 100000 in
set_option maxHeartbeats 1600000 in
theorem unstuff_good (s : ByteArray) (w : World) (hs : s.size + 2 ≤ 140737488355328) (hok : okL [48, 49] s.data.toList = true) :
    Calls Tryd.prog 57 #[.string s] w fun e w' => ∃ x c, UnsIs (unstuff 0 s.data.toList) x c ∧ e = .returned (.tuple #[.string x, .int .i64 c]) ∧ Below w.heap.size w w' := by
  have HIS := Lib.hid (is_calls s ⟨#[48, 49]⟩ w (by omega) (.inl rfl))
  rw [show okL (⟨#[48, 49]⟩ : ByteArray).data.toList s.data.toList = true from hok] at HIS
  have hl : s.data.toList.length = s.size := by simp
  obtain ⟨l, hll⟩ : ∃ l, s.data.toList = l := ⟨_, rfl⟩
  have HLL := Lib.hid hll
  rw [hll] at hl ⊢
  have HL := Lib.hid hl
  clear hok hll hl
  go_enter Tryd.func57, Tryd.ntmps57
  go_wp2_with fail
  refine HIS.out.mono ?_
  rintro e w1 ⟨rfl, hb⟩
  have HB1 := Lib.hid (Kt.balloc hb (.cells #[.pointer none, .slice none 0 0] 51))
  have HBD := Lib.hid (BdB.fresh w1)
  have hgs := hb.size
  clear hb HIS
  go_wp2_with fail
  generalize (w1.alloc (.cells #[.pointer none, .slice none 0 0] 51)) = W at *
  generalize w1.heap.size = g at *
  go_loopw [12, 5] (fun i o wr => ∃ (k n : Nat) (pre : List UInt8), k ≤ s.size ∧ n ≤ 6 ∧ i = .int .i64 k ∧ o = .int .i64 n ∧ Hid (pre.length ≤ k) ∧ Hid (unstuff 0 l = (unstuff n (l.drop k)).map (pre ++ ·)) ∧ Hid (BdB g pre wr) ∧ Hid (Below w.heap.size w wr)) (fun i _ _ => s.size - (intOf i).toNat)
  case atStart => exact ⟨0, 0, [], Nat.zero_le _, by omega, rfl, rfl, Lib.hid (Nat.le_refl _), Lib.hid (by cases h : unstuff 0 l <;> simp [h]), HBD, HB1⟩
  case round =>
    clear HBD HB1
    obtain ⟨k, n, pre, hk, hn6, rfl, rfl, HPL, HST, HBD, HB1⟩ := hrel
    by_cases hlt : k < s.size
    · have hkl : k < l.length := by rw [HL.out]; exact hlt
      obtain ⟨b, hb⟩ : ∃ b, s[k] = b := ⟨_, rfl⟩
      have HTK : Hid (l.drop k = b :: l.drop (k + 1)) := Lib.hid (by
        rw [List.drop_eq_getElem_cons hkl, ← hb]
        have := HLL.out
        subst this
        rfl)
      clear hkl
      by_cases h6 : n = 6
      · subst h6
        by_cases h49 : b = 49
        · have e1 : ((b.toNat : Int) == 49) = true := by rw [h49]; rfl
          have HS2 : Hid (unstuff 0 l = none) := Lib.hid (by rw [HST.out, HTK.out, uns_bad h49]; rfl)
          clear h49
          go_wp2_with fail
          go_ret2
          exact ⟨⟨#[]⟩, 6, by rw [HS2.out]; exact .inr rfl, rfl, HB1.out⟩
        · have e1 : ((b.toNat : Int) == 49) = false := by
            rw [beq_eq_false_iff_ne]
            intro h
            exact h49 (UInt8.toNat_inj.1 (by show b.toNat = 49; omega))
          have HS2 : Hid (unstuff 0 l = (unstuff 0 (l.drop (k + 1))).map (pre ++ ·)) := Lib.hid (by rw [HST.out, HTK.out, uns_six h49])
          clear h49
          go_wp2_with fail
          go_roundw
          case rel => exact ⟨k + 1, 0, pre, by omega, by omega, by go_num, rfl, Lib.hid (by have := HPL.out; omega), HS2, HBD, HB1⟩
          case measure => (simp [intOf] <;> omega)
      · have e0 : ((n : Int) == 6) = false := by
          rw [beq_eq_false_iff_ne]
          intro h
          exact h6 (by omega)
        have HWR := Lib.hid (write_b g _ b _ HBD.out (by have := HPL.out; omega))
        go_wp2_with fail
        refine HWR.out.mono ?_
        rintro e w2 ⟨rfl, hbd, hb2⟩
        have HBD2 := Lib.hid hbd
        have HB2 := Lib.hid (HB1.out.trans (hb2.mono hgs))
        clear hbd hb2 HBD HB1 HWR
        by_cases h48 : b = 48
        · have e1 : ((b.toNat : Int) == 48) = true := by rw [h48]; rfl
          have HS2 : Hid (unstuff 0 l = (unstuff 0 (l.drop (k + 1))).map ((pre ++ [b]) ++ ·)) := Lib.hid (by rw [HST.out, HTK.out, uns_zero h6 h48, map_app])
          clear h48
          go_wp2_with fail
          go_roundw
          case rel => exact ⟨k + 1, 0, pre ++ [b], by omega, by omega, by go_num, rfl, Lib.hid (by have := HPL.out; rw [List.length_append]; simp only [List.length_singleton]; omega), HS2, HBD2, HB2⟩
          case measure => (simp [intOf] <;> omega)
        · have e1 : ((b.toNat : Int) == 48) = false := by
            rw [beq_eq_false_iff_ne]
            intro h
            exact h48 (UInt8.toNat_inj.1 (by show b.toNat = 48; omega))
          have HS2 : Hid (unstuff 0 l = (unstuff (n + 1) (l.drop (k + 1))).map ((pre ++ [b]) ++ ·)) := Lib.hid (by rw [HST.out, HTK.out, uns_one h6 h48, map_app])
          clear h48
          go_wp2_with fail
          go_roundw
          case rel => exact ⟨k + 1, n + 1, pre ++ [b], by omega, by omega, by go_num, by go_num, Lib.hid (by have := HPL.out; rw [List.length_append]; simp only [List.length_singleton]; omega), HS2, HBD2, HB2⟩
          case measure => (simp [intOf] <;> omega)
    · obtain rfl : k = s.size := by omega
      have HD : Hid (unstuff 0 l = (unstuff n []).map (pre ++ ·)) := Lib.hid (by rw [HST.out, List.drop_of_length_le (by rw [HL.out]; exact Nat.le_refl _)])
      by_cases h6 : n = 6
      · subst h6
        go_wp2_with fail
        go_ret2
        exact ⟨⟨#[]⟩, 3, by rw [HD.out]; exact .inl rfl, rfl, HB1.out⟩
      · have e0 : ((n : Int) == 6) = false := by
          rw [beq_eq_false_iff_ne]
          intro h
          exact h6 (by omega)
        have HU : Hid (unstuff n [] = some []) := Lib.hid (if_neg h6)
        have HST2 := Lib.hid (string_b g _ _ HBD.out)
        clear HBD hlt hk h6
        go_wp2_with fail
        refine HST2.out.mono ?_
        rintro e w2 ⟨rfl, hb2⟩
        have HB2 := Lib.hid (HB1.out.trans (hb2.mono hgs))
        clear hb2 HB1 HST2
        go_wp2_with fail
        go_ret2
        refine ⟨⟨pre.toArray⟩, 0, ?_, rfl, HB2.out⟩
        rw [HD.out, HU.out]
        refine ⟨?_, rfl⟩
        show _ = (⟨(pre ++ []).toArray⟩ : ByteArray)
        rw [List.append_nil]
end Go.Proofs.YtmnmlnnhngnfbaaDoor
