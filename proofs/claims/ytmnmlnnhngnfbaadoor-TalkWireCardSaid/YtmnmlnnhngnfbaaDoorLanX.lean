/- The walks of lane.Bits, lane.Stuff, lane.Unstuff. -/
import Derived.Test.YtmnmlnnhngnfbaaDoorLanW
namespace Go.Proofs.YtmnmlnnhngnfbaaDoor
open Go.RowKit Go.Proofs.YtmnmlnnhngnfbaaDoor.Lan
/-- a builder of bytes in block b -/
def BdB (b : Nat) (l : List UInt8) (w : World) : Prop := Bd b (Lib.byteCells l) w
theorem BdB.fresh (w : World) : BdB w.heap.size [] (w.alloc (.cells #[.pointer none, .slice none 0 0] 51)) := Bd.fresh w
theorem byte_cells_len (l : List UInt8) : (Lib.byteCells l).length = l.length := by simp [Lib.byteCells]
theorem write_b (b : Nat) (l : List UInt8) (c : UInt8) (w : World) (h : BdB b l w) (hlen : l.length + 1 ≤ 140737488355328) :
    Calls Tryd.prog 66 #[.pointer (some ⟨b, 0, none⟩), .int .u8 (c.toNat : Int)] w fun e w' => e = .returned .nilIface ∧ BdB b (l ++ [c]) w' ∧ Below b w w' := by
  refine (write_byte b (Lib.byteCells l) (c.toNat : Int) w h (by rw [byte_cells_len]; exact hlen)).mono ?_
  rintro e w' ⟨rfl, h1, h2⟩
  refine ⟨rfl, ?_, h2⟩
  have e1 : Lib.byteCells (l ++ [c]) = Lib.byteCells l ++ [.int .u8 (c.toNat : Int)] := by simp [Lib.byteCells]
  unfold BdB
  rw [e1]; exact h1
theorem string_b (b : Nat) (l : List UInt8) (w : World) (h : BdB b l w) :
    Calls Tryd.prog 17 #[.pointer (some ⟨b, 0, none⟩)] w fun e w' => e = .returned (.string ⟨l.toArray⟩) ∧ Below b w w' :=
  Tryd.Builder_String_any b b l w (Bd.is h (Nat.le_refl _)) (Nat.le_of_lt h.lt)
/-- bit k of a byte, as the code makes it -/
def bitAt (b : UInt8) (k : Nat) : UInt8 := UInt8.ofNat (48 + b.toNat / 2 ^ k % 2)
theorem bitsOf_take (b : UInt8) (k : Nat) (h : k < 8) : (bitsOf b).take (k + 1) = (bitsOf b).take k ++ [bitAt b k] := by
  rw [List.take_succ_eq_append_getElem (by rw [bitsOf_len]; exact h)]
  simp [bitsOf, bitAt]
theorem bit_table : ∀ n : Fin 256, ∀ m : Fin 8, ((48 : Int) + bits BinOp.and IntKind.u8 (((UInt8.ofNat n.val).toNat : Int) / 2 ^ m.val) 1) % 256 = ((bitAt (UInt8.ofNat n.val) m.val).toNat : Int) := by decide +kernel
theorem bit_is (b : UInt8) (m : Nat) (h : m < 8) : ((48 : Int) + bits BinOp.and IntKind.u8 ((b.toNat : Int) / 2 ^ m) 1) % 256 = ((bitAt b m).toNat : Int) := by
  have := bit_table ⟨b.toNat, b.toNat_lt⟩ ⟨m, h⟩
  dsimp only at this
  rwa [of_nat] at this
theorem bits_snoc (l : List UInt8) (b : UInt8) : bitsL (l ++ [b]) = bitsL l ++ bitsOf b := by simp [bitsL]
set_option maxRecDepth 100000 in
theorem bits_calls (s : ByteArray) (w : World) (hs : s.size * 8 + 8 ≤ 140737488355328) :
    Calls Tryd.prog 45 #[.string s] w fun e w' => e = .returned (.string ⟨(bitsL s.data.toList).toArray⟩) ∧ Below w.heap.size w w' := by
  have hl : s.data.toList.length = s.size := by simp
  obtain ⟨l, hll⟩ : ∃ l, s.data.toList = l := ⟨_, rfl⟩
  have HLL := Lib.hid hll
  rw [hll] at hl ⊢
  have HL := Lib.hid hl
  clear hll hl
  have HBD := Lib.hid (BdB.fresh w)
  have HB1 := Lib.hid (Kt.balloc (Below.refl w.heap.size w) (.cells #[.pointer none, .slice none 0 0] 51))
  go_enter Tryd.func45, Tryd.ntmps45
  go_wp2_with fail
  generalize (w.alloc (.cells #[.pointer none, .slice none 0 0] 51)) = W at *
  generalize hg : w.heap.size = g at *
  have HG := Lib.hid hg
  clear hg
  go_loopw [8] (fun i wr => ∃ (k : Nat), k ≤ s.size ∧ i = .int .i64 k ∧ Hid (BdB g (bitsL (l.take k)) wr) ∧ Hid (Below g w wr)) (fun i _ => s.size - (intOf i).toNat)
  case atStart => exact ⟨0, Nat.zero_le _, rfl, Lib.hid (by simpa [bitsL] using HBD.out), HB1⟩
  case round =>
    clear HBD HB1
    obtain ⟨k, hk, rfl, HBD, HB1⟩ := hrel
    by_cases hlt : k < s.size
    · have hkl : k < l.length := by rw [HL.out]; exact hlt
      obtain ⟨b, hb⟩ : ∃ b, s[k] = b := ⟨_, rfl⟩
      have HTK : Hid (l.take (k + 1) = l.take k ++ [b]) := Lib.hid (by
        have h2 := List.take_succ_eq_append_getElem hkl
        rw [h2, ← hb]
        have := HLL.out
        subst this
        rfl)
      have HLEN : Hid ((bitsL (l.take k)).length = 8 * k) := Lib.hid (by rw [bitsL_len, List.length_take]; omega)
      generalize hW : bitsL (l.take k) = pre at *
      have HPRE := Lib.hid hW
      clear hkl hW
      go_wp2_with fail
      go_loopw [11] (fun j wr => ∃ (m : Nat), m ≤ 8 ∧ j = .int .i64 m ∧ Hid (BdB g (pre ++ (bitsOf b).take m) wr) ∧ Hid (Below g w wr)) (fun j _ => 8 - (intOf j).toNat)
      case atStart => exact ⟨0, Nat.zero_le _, rfl, Lib.hid (by simpa using HBD.out), HB1⟩
      case round =>
        clear HBD HB1
        obtain ⟨m, hm, rfl, HBD, HB1⟩ := hrel
        by_cases h8 : m < 8
        · have HWR := Lib.hid (write_b g _ (bitAt b m) _ HBD.out (by rw [List.length_append, HLEN.out, List.length_take, bitsOf_len]; omega))
          have HT := Lib.hid (bitsOf_take b m h8)
          go_wp2_with fail
          rw [bit_is b m h8]
          refine HWR.out.mono ?_
          rintro e w2 ⟨rfl, hbd, hb2⟩
          have HBD2 := Lib.hid hbd
          have HB2 := Lib.hid (HB1.out.trans hb2)
          clear hbd hb2 HBD HB1 HWR
          go_wp2_with fail
          go_roundw
          case rel => exact ⟨m + 1, by omega, by go_num, Lib.hid (by rw [HT.out, ← List.append_assoc]; exact HBD2.out), HB2⟩
          case measure => (simp [intOf] <;> omega)
        · obtain rfl : m = 8 := by omega
          have HF : Hid (bitsL (l.take (k + 1)) = pre ++ (bitsOf b).take 8) := Lib.hid (by
            rw [HTK.out, bits_snoc, HPRE.out, List.take_of_length_le (by rw [bitsOf_len]; exact Nat.le_refl _)])
          go_wp2_with fail
          go_roundw
          case rel => exact ⟨k + 1, by omega, by go_num, Lib.hid (by rw [HF.out]; exact HBD.out), HB1⟩
          case measure => (simp [intOf] <;> omega)
    · obtain rfl : k = s.size := by omega
      have HST := Lib.hid (string_b g _ _ HBD.out)
      rw [List.take_of_length_le (by rw [HL.out]; exact Nat.le_refl _)] at HST
      clear HBD hlt hk
      go_wp2_with fail
      refine HST.out.mono ?_
      rintro e w2 ⟨rfl, hb2⟩
      have HB2 := Lib.hid (HB1.out.trans hb2)
      clear hb2 HB1 HST
      go_wp2_with fail
      go_ret
      exact ⟨rfl, by rw [HG.out]; exact HB2.out⟩
def stuffR (s : ByteArray) : ByteArray × Int := if okL [48, 49] s.data.toList = true then (⟨(stuff 0 s.data.toList).toArray⟩, 0) else (⟨#[]⟩, 1)
set_option maxRecDepth 100000 in
theorem stuff_bad (s : ByteArray) (w : World) (hs : s.size ≤ 9223372036854775807) (h : okL [48, 49] s.data.toList = false) :
    Calls Tryd.prog 44 #[.string s] w fun e w' => e = .returned (.tuple #[.string ⟨#[]⟩, .int .i64 1]) ∧ Below w.heap.size w w' := by
  have HIS := Lib.hid (is_calls s ⟨#[48, 49]⟩ w (by omega) (.inl rfl))
  rw [show okL (⟨#[48, 49]⟩ : ByteArray).data.toList s.data.toList = false from h] at HIS
  clear h hs
  go_enter Tryd.func44, Tryd.ntmps44
  go_wp2_with fail
  refine HIS.out.mono ?_
  rintro e w1 ⟨rfl, hb⟩
  have HB := Lib.hid hb
  clear hb
  go_wp2_with fail
  go_ret2
  exact ⟨rfl, HB.out⟩
theorem stuff_zero {n : Nat} {b : UInt8} {l : List UInt8} (h : b = 48) : stuff n (b :: l) = b :: stuff 0 l := by
  show (if nxt n b = 6 then b :: 48 :: stuff 0 l else b :: stuff (nxt n b) l) = _
  unfold nxt
  rw [if_pos h, if_neg (by decide)]
theorem stuff_six {b : UInt8} {l : List UInt8} (h : ¬ b = 48) : stuff 5 (b :: l) = b :: 48 :: stuff 0 l := by
  show (if nxt 5 b = 6 then b :: 48 :: stuff 0 l else b :: stuff (nxt 5 b) l) = _
  unfold nxt
  rw [if_neg h, if_pos rfl]
theorem stuff_less {n : Nat} {b : UInt8} {l : List UInt8} (h : ¬ b = 48) (h6 : ¬ n + 1 = 6) : stuff n (b :: l) = b :: stuff (n + 1) l := by
  show (if nxt n b = 6 then b :: 48 :: stuff 0 l else b :: stuff (nxt n b) l) = _
  unfold nxt
  rw [if_neg h, if_neg h6]
theorem stuff_len (n : Nat) (b : UInt8) (l : List UInt8) : 1 ≤ (stuff n (b :: l)).length := by
  show 1 ≤ (if nxt n b = 6 then b :: 48 :: stuff 0 l else b :: stuff (nxt n b) l).length
  split <;> simp
set_option maxRecDepth 100000 in
set_option maxHeartbeats 1600000 in
theorem stuff_good (s : ByteArray) (w : World) (hs0 : s.size ≤ 9223372036854775806) (hs : (stuff 0 s.data.toList).length ≤ 140737488355328) (hok : okL [48, 49] s.data.toList = true) :
    Calls Tryd.prog 44 #[.string s] w fun e w' => e = .returned (.tuple #[.string ⟨(stuff 0 s.data.toList).toArray⟩, .int .i64 0]) ∧ Below w.heap.size w w' := by
  have HIS := Lib.hid (is_calls s ⟨#[48, 49]⟩ w (by omega) (.inl rfl))
  rw [show okL (⟨#[48, 49]⟩ : ByteArray).data.toList s.data.toList = true from hok] at HIS
  have hl : s.data.toList.length = s.size := by simp
  obtain ⟨l, hll⟩ : ∃ l, s.data.toList = l := ⟨_, rfl⟩
  have HLL := Lib.hid hll
  rw [hll] at hl hs ⊢
  have HL := Lib.hid hl
  have HS := Lib.hid hs
  clear hok hll hl hs
  go_enter Tryd.func44, Tryd.ntmps44
  go_wp2_with fail
  refine HIS.out.mono ?_
  rintro e w1 ⟨rfl, hb⟩
  have HB1 := Lib.hid (Kt.balloc hb (.cells #[.pointer none, .slice none 0 0] 51))
  have HBD := Lib.hid (BdB.fresh w1)
  have hgs := hb.size
  clear hb HIS
  go_wp2_with fail
  generalize (w1.alloc (.cells #[.pointer none, .slice none 0 0] 51)) = W at *
  generalize w1.heap.size = g at *
  go_loopw [12, 5] (fun i o wr => ∃ (k n : Nat) (pre : List UInt8), k ≤ s.size ∧ n ≤ 5 ∧ i = .int .i64 k ∧ o = .int .i64 n ∧ Hid (stuff 0 l = pre ++ stuff n (l.drop k)) ∧ Hid (BdB g pre wr) ∧ Hid (Below w.heap.size w wr)) (fun i _ _ => s.size - (intOf i).toNat)
  case atStart => exact ⟨0, 0, [], Nat.zero_le _, by omega, rfl, rfl, Lib.hid rfl, HBD, HB1⟩
  case round =>
    clear HBD HB1
    obtain ⟨k, n, pre, hk, hn5, rfl, rfl, HST, HBD, HB1⟩ := hrel
    by_cases hlt : k < s.size
    · have hkl : k < l.length := by rw [HL.out]; exact hlt
      obtain ⟨b, hb⟩ : ∃ b, s[k] = b := ⟨_, rfl⟩
      have HTK : Hid (l.drop k = b :: l.drop (k + 1)) := Lib.hid (by
        rw [List.drop_eq_getElem_cons hkl, ← hb]
        have := HLL.out
        subst this
        rfl)
      have HWR := Lib.hid (write_b g _ b _ HBD.out (by have h1 := HS.out; rw [HST.out, HTK.out, List.length_append] at h1; have h2 := stuff_len n b (l.drop (k + 1)); omega))
      clear hkl
      go_wp2_with fail
      refine HWR.out.mono ?_
      rintro e w2 ⟨rfl, hbd, hb2⟩
      have HBD2 := Lib.hid hbd
      have HB2 := Lib.hid (HB1.out.trans (hb2.mono hgs))
      clear hbd hb2 HBD HB1 HWR
      by_cases h48 : b = 48
      · have e1 : ((b.toNat : Int) == 48) = true := by rw [h48]; rfl
        have HS2 : Hid (stuff 0 l = (pre ++ [b]) ++ stuff 0 (l.drop (k + 1))) := Lib.hid (by rw [HST.out, HTK.out, stuff_zero h48, List.append_assoc]; rfl)
        clear h48
        go_wp2_with fail
        go_roundw
        case rel => exact ⟨k + 1, 0, pre ++ [b], by omega, by omega, by go_num, rfl, HS2, HBD2, HB2⟩
        case measure => (simp [intOf] <;> omega)
      · have e1 : ((b.toNat : Int) == 48) = false := by
          rw [beq_eq_false_iff_ne]
          intro h
          exact h48 (UInt8.toNat_inj.1 (by show b.toNat = 48; omega))
        by_cases h6 : n + 1 = 6
        · obtain rfl : n = 5 := by omega
          have HS2 : Hid (stuff 0 l = (pre ++ [b] ++ [48]) ++ stuff 0 (l.drop (k + 1))) := Lib.hid (by rw [HST.out, HTK.out, stuff_six h48, List.append_assoc, List.append_assoc]; rfl)
          have HWR := Lib.hid (write_b g _ 48 _ HBD2.out (by have h1 := HS.out; rw [HS2.out, List.length_append, List.length_append] at h1; simp only [List.length_singleton] at h1; omega))
          clear h48 h6
          go_wp2_with fail
          refine HWR.out.mono ?_
          rintro e w3 ⟨rfl, hbd, hb2⟩
          have HBD3 := Lib.hid hbd
          have HB3 := Lib.hid (HB2.out.trans (hb2.mono hgs))
          clear hbd hb2 HBD2 HB2 HWR
          go_wp2_with fail
          go_roundw
          case rel => exact ⟨k + 1, 0, pre ++ [b] ++ [48], by omega, by omega, by go_num, rfl, HS2, HBD3, HB3⟩
          case measure => (simp [intOf] <;> omega)
        · have e2 : (((n : Int) + 1) == 6) = false := by
            rw [beq_eq_false_iff_ne]
            intro h
            exact h6 (by omega)
          have HS2 : Hid (stuff 0 l = (pre ++ [b]) ++ stuff (n + 1) (l.drop (k + 1))) := Lib.hid (by rw [HST.out, HTK.out, stuff_less h48 h6, List.append_assoc]; rfl)
          clear h48
          go_wp2_with fail
          go_roundw
          case rel => exact ⟨k + 1, n + 1, pre ++ [b], by omega, by omega, by go_num, by go_num, HS2, HBD2, HB2⟩
          case measure => (simp [intOf] <;> omega)
    · obtain rfl : k = s.size := by omega
      have HST2 := Lib.hid (string_b g _ _ HBD.out)
      have hp : pre = stuff 0 l := by
        rw [HST.out, List.drop_of_length_le (by rw [HL.out]; exact Nat.le_refl _)]
        simp [stuff]
      rw [hp] at HST2
      clear HBD hlt hk hp
      go_wp2_with fail
      refine HST2.out.mono ?_
      rintro e w2 ⟨rfl, hb2⟩
      have HB2 := Lib.hid (HB1.out.trans (hb2.mono hgs))
      clear hb2 HB1 HST2
      go_wp2_with fail
      go_ret2
      exact ⟨rfl, HB2.out⟩
theorem stuff_calls (s : ByteArray) (w : World) (hs0 : s.size ≤ 9223372036854775806) (hs : (stuff 0 s.data.toList).length ≤ 140737488355328) :
    Calls Tryd.prog 44 #[.string s] w fun e w' => e = .returned (.tuple #[.string (stuffR s).1, .int .i64 (stuffR s).2]) ∧ Below w.heap.size w w' := by
  unfold stuffR
  by_cases h : okL [48, 49] s.data.toList = true
  · rw [if_pos h]; exact stuff_good s w hs0 hs h
  · rw [if_neg h]; exact stuff_bad s w (by omega) (by simpa using h)
end Go.Proofs.YtmnmlnnhngnfbaaDoor
