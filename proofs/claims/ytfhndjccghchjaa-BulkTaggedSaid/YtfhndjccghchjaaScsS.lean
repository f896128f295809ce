/- The law ScsiSense, walked. -/
import Derived.Test.YtfhndjccghchjaaScsK
import Derived.Deep.CutBlock
import Derived.StillTactics
import Derived.BigQuiet
namespace Go.Proofs.Ytfhndjccghchjaa
open Go.RowKit Go.Proofs.Ytfhndjccghchjaa.Scs
theorem sdisk_true (A A' : Option Addr) (cap cap' : Nat) (bs : List ByteArray) (s : Int) (w : World) (h : DkA w A cap bs) (h' : DkA w A' cap' bs) (hn : bs.length ≤ 140737488355328) :
    Calls Try.prog 18 #[dkV A cap bs s, dkV A' cap' bs s] w fun e w' => e = .returned (.bool true) ∧ Below w.heap.size w w' := by
  have H1 := Lib.hid h
  have H2 := Lib.hid h'
  clear h h'
  unfold dkV
  go_enter Try.func18, Try.ntmps18
  go_wp2_with fail
  have hb0 := Kt.balloc (Kt.balloc (Below.refl _ w) (.cells #[.slice A bs.length cap, .int .i64 s] 38)) (.cells #[.slice A' bs.length cap', .int .i64 s] 38)
  refine (eqs_true A A' cap cap' bs _ (H1.out.on hb0) (H2.out.on hb0) hn).mono ?_
  rintro e w1 ⟨rfl, hb⟩
  have HB := Lib.hid (Kt.bthen hb0 hb)
  clear hb hb0
  go_wp2_with fail
  go_ret
  exact ⟨rfl, HB.out⟩
theorem lt_of_row {w : World} {b : Nat} {o : Obj} (h : w.heap[b]? = some o) : b < w.heap.size := by
  rcases Nat.lt_or_ge b w.heap.size with q | q
  · exact q
  · rw [Array.getElem?_eq_none q] at h; cases h
/-- a disk by what lies behind it -/
theorem DoIs.open {bs : List ByteArray} {s : Int} {c d : ByteArray} {w : World} {e : Ending} {w' : World} (h : DoIs bs s c d w e w') : ∃ A cap, e = .returned (.tuple #[dkV A cap (did bs s c d).1 (did bs s c d).2.1, .string (did bs s c d).2.2.1, .int .i64 (did bs s c d).2.2.2]) ∧ DkA w' A cap (did bs s c d).1 ∧ Below w.heap.size w w' := by
  obtain ⟨A, cap, e1, hl, hs, hb⟩ := h
  exact ⟨A, cap, e1, by rw [← hl] at hs; exact Kt.Ar.of_sl hs, hb⟩
set_option maxRecDepth 100000 in
set_option maxHeartbeats 3200000 in
theorem sense_calls (bs : List ByteArray) (s : Int) (c d : ByteArray) (A : Option Addr) (cap : Nat) (w : World) (h : DkA w A cap bs) (hn : bs.length ≤ 8796093022208) :
    Calls Try.prog 5 #[dkV A cap bs s, .string c, .string d] w fun e w' => e = .returned (.bool true) ∧ Below w.heap.size w w' := by
  have HA := Lib.hid h
  have HN := Lib.hid hn
  clear h hn
  by_cases hok : OkD bs s
  · obtain ⟨ho, hcs⟩ := did_ok hok c d
    obtain ⟨bs1, s1, o, code, hd⟩ : ∃ b t o code, did bs s c d = (b, t, o, code) := ⟨_, _, _, _, rfl⟩
    rw [hd] at ho hcs
    have hd1 := did_sense ho ByteArray.empty
    have hd2 := did_sense (ho.with (.inl rfl)) ByteArray.empty
    have HD := Lib.hid hd
    have HD1 := Lib.hid hd1
    have HD2 := Lib.hid hd2
    have hs := ho.sn
    obtain ⟨z12, z2⟩ := sense_bt 0 (.inl rfl)
    obtain ⟨x12, x2⟩ := sense_bt s1 hs
    have hl1 := ho.n2
    clear hd hd1 hd2 ho
    obtain ⟨T, hT⟩ : ∃ T, senseT s1 = T := ⟨_, rfl⟩
    obtain ⟨T0, hT0⟩ : ∃ T, senseT 0 = T := ⟨_, rfl⟩
    have hz : T.size = 18 := by rw [← hT]; rfl
    have hz0 : T0.size = 18 := by rw [← hT0]; rfl
    rw [hT] at x12 x2 HD1
    rw [hT0] at z12 z2 HD2
    clear hT hT0
    have h12 : 12 < T.size := by rw [hz]; decide
    have h2 : 2 < T.size := by rw [hz]; decide
    have i12 : ((T[12]'h12).toNat : Int) = s1 := by rw [← bt_get]; exact x12
    have i2 : (T[2]'h2).toNat = if s1 = 0 then 0 else 5 := by rw [← bt_get]; exact x2
    have j12 : ((T0[12]'(by omega)).toNat : Int) = 0 := by rw [← bt_get]; exact z12
    have j2 : ((T0[2]'(by omega)).toNat : Int) = 0 := by rw [← bt_get, z2]; rfl
    have hz1 : (12 : Int) < T.size := by omega
    have hz2 : (2 : Int) < T.size := by omega
    have hz3 : (12 : Int) < T0.size := by omega
    have hz4 : (2 : Int) < T0.size := by omega
    have hzz : (T.size : Int) = 18 := by omega
    have hzz0 : (T0.size : Int) = 18 := by omega
    have HL := Lib.hid hl1
    clear x12 x2 z12 z2 hl1
    unfold dkV
    go_enter Try.func5, Try.ntmps5
    go_wp2_with fail
    refine (Do_calls bs s c d A cap _ (HA.out.on ?_) HN.out).mono ?_
    · exact Kt.balloc (Below.refl _ w) _
    rintro e w2 hdo
    obtain ⟨A2, cap2, rfl, hda, hb⟩ := hdo.open
    rw [HD.out] at hda ⊢
    have HB := Lib.hid (Kt.bthen (Kt.balloc (Below.refl _ w) _) hb)
    have HA2 := Lib.hid hda
    clear hdo hda hb
    unfold dkV
    rcases hcs with ⟨rfl, rfl⟩ | ⟨rfl, hs1⟩
    · have I2 : Hid ((T[2]'h2).toNat = 0) := Lib.hid (by rw [i2]; rfl)
      clear i2
      have HA2 := HA2
      go_wp2_with fail
      refine (slives_calls _).mono ?_
      rintro e w3 ⟨rfl, hb⟩
      have HR2 := Lib.hid (Kt.box1 hb)
      have hal := Kt.bthen (Kt.balloc (Below.refl _ w2) _) hb
      have HB3 := Lib.hid (Kt.bthen HB.out hal)
      have HA3 := Lib.hid (HA2.out.on hal)
      have q2 := fun i => cell_of_row _ _ i _ _ _ HR2.out
      clear hb HB HA2
      go_wp2_with fail
      refine (Do_calls bs1 0 sc ByteArray.empty A2 cap2 _ HA3.out (by have := HL.out; omega)).mono ?_
      rintro e w4 hdo
      obtain ⟨A4, cap4, rfl, hda, hb⟩ := hdo.open
      rw [HD1.out] at hda ⊢
      have HB4 := Lib.hid (Kt.bthen HB3.out hb)
      have HA4 := Lib.hid hda
      have HR4 := Lib.hid (Kt.row_on hb HR2.out)
      clear hdo hda hb q2 HR2 HB3 HA3
      unfold dkV
      have q4 := fun i => cell_of_row _ _ i _ _ _ HR4.out
      go_wp2_with fail
      have hal := Kt.balloc (Below.refl _ w4) (.cells #[.slice A4 bs1.length cap4, .int .i64 0] 38)
      refine (Do_calls bs1 0 sc ByteArray.empty A4 cap4 _ (HA4.out.on hal) (by have := HL.out; omega)).mono ?_
      rintro e w5 hdo
      obtain ⟨A5, cap5, rfl, hda, hb⟩ := hdo.open
      rw [HD2.out] at hda ⊢
      have HB5 := Lib.hid (Kt.bthen HB4.out (Kt.bthen hal hb))
      have HR5 := Lib.hid (Kt.row_on (Kt.bthen hal hb) HR4.out)
      have HR6 := Lib.hid (Kt.box1 hb)
      clear hdo hda hb q4 HR4 HB4 HA4
      unfold dkV
      have q5 := fun i => cell_of_row _ _ i _ _ _ HR5.out
      have q6 := fun i => cell_of_row _ _ i _ _ _ HR6.out
      have lt2 : w2.heap.size < w5.heap.size := lt_of_row HR5.out
      have lt4 : w4.heap.size < w5.heap.size := lt_of_row HR6.out
      go_wp2_with fail
      go_quiet (fail)
      go_wp2_with fail
      go_ret
      exact ⟨by rw [I2.out]; rfl, bdrewN (Kt.bthen HB5.out (Kt.balloc (Below.refl _ w5) _)) _⟩
    · have hne : s1 ≠ 0 := by omega
      have I2 : Hid ((T[2]'h2).toNat = 5) := Lib.hid (by rw [i2, if_neg hne])
      have f12 : (s1 == 0) = false := by rw [beq_eq_false_iff_ne]; exact hne
      have w12 : IntKind.i64.wrap s1 = s1 := by rcases hs1 with rfl | rfl | rfl <;> rfl
      clear i2 hs hs1 hne
      go_wp2_with fail
      refine (slives_calls _).mono ?_
      rintro e w3 ⟨rfl, hb⟩
      have HR2 := Lib.hid (Kt.box1 hb)
      have hal := Kt.bthen (Kt.balloc (Below.refl _ w2) _) hb
      have HB3 := Lib.hid (Kt.bthen HB.out hal)
      have HA3 := Lib.hid (HA2.out.on hal)
      have q2 := fun i => cell_of_row _ _ i _ _ _ HR2.out
      clear hb HB HA2
      go_wp2_with fail
      refine (Do_calls bs1 _ sc ByteArray.empty A2 cap2 _ HA3.out (by have := HL.out; omega)).mono ?_
      rintro e w4 hdo
      obtain ⟨A4, cap4, rfl, hda, hb⟩ := hdo.open
      rw [HD1.out] at hda ⊢
      have HB4 := Lib.hid (Kt.bthen HB3.out hb)
      have HA4 := Lib.hid hda
      have HR4 := Lib.hid (Kt.row_on hb HR2.out)
      clear hdo hda hb q2 HR2 HB3 HA3
      unfold dkV
      have q4 := fun i => cell_of_row _ _ i _ _ _ HR4.out
      go_wp2_with fail
      have hal := Kt.balloc (Below.refl _ w4) (.cells #[.slice A4 bs1.length cap4, .int .i64 0] 38)
      refine (Do_calls bs1 0 sc ByteArray.empty A4 cap4 _ (HA4.out.on hal) (by have := HL.out; omega)).mono ?_
      rintro e w5 hdo
      obtain ⟨A5, cap5, rfl, hda, hb⟩ := hdo.open
      rw [HD2.out] at hda ⊢
      have HB5 := Lib.hid (Kt.bthen HB4.out (Kt.bthen hal hb))
      have HR5 := Lib.hid (Kt.row_on (Kt.bthen hal hb) HR4.out)
      have HR6 := Lib.hid (Kt.box1 hb)
      clear hdo hda hb q4 HR4 HB4 HA4
      unfold dkV
      have q5 := fun i => cell_of_row _ _ i _ _ _ HR5.out
      have q6 := fun i => cell_of_row _ _ i _ _ _ HR6.out
      have lt2 : w2.heap.size < w5.heap.size := lt_of_row HR5.out
      have lt4 : w4.heap.size < w5.heap.size := lt_of_row HR6.out
      go_wp2_with fail
      go_quiet (fail)
      go_wp2_with fail
      go_ret
      exact ⟨by rw [I2.out]; rfl, bdrewN (Kt.bthen HB5.out (Kt.balloc (Below.refl _ w5) _)) _⟩
  · obtain ⟨hd, h0, h14⟩ := did_bad hok c d
    have HD := Lib.hid hd
    have f0 : (chkD bs s != 0) = true := by rw [bne_iff_ne]; exact h0
    have f14 : (chkD bs s != 14) = true := by rw [bne_iff_ne]; exact h14
    clear hd h0 h14 hok
    unfold dkV
    go_enter Try.func5, Try.ntmps5
    go_wp2_with fail
    refine (Do_calls bs s c d A cap _ (HA.out.on ?_) HN.out).mono ?_
    · exact Kt.balloc (Below.refl _ w) _
    rintro e w2 hdo
    obtain ⟨A2, cap2, rfl, hda, hb⟩ := hdo.open
    rw [HD.out] at hda ⊢
    have HB := Lib.hid (Kt.bthen (Kt.balloc (Below.refl _ w) _) hb)
    have HA2 := Lib.hid hda
    have HR := Lib.hid (Kt.box1 hb)
    clear hdo hda hb
    unfold dkV
    go_wp2_with fail
    refine (slives_calls _).mono ?_
    rintro e w3 ⟨rfl, hb⟩
    have HR2 := Lib.hid (Kt.box1 hb)
    have hal := Kt.bthen (Kt.balloc (Below.refl _ w2) _) hb
    have HRd := Lib.hid (Kt.row_on hal HR.out)
    have HB3 := Lib.hid (Kt.bthen HB.out hal)
    have HA3 := Lib.hid (HA2.out.on hal)
    clear hb hal HR HB HA2 HD
    go_wp2_with fail
    refine (slives_calls _).mono ?_
    rintro e w4 ⟨rfl, hb⟩
    have HRd4 := Lib.hid (Kt.row_on hb HRd.out)
    have HR4 := Lib.hid (Kt.row_on hb HR2.out)
    have HB4 := Lib.hid (Kt.bthen HB3.out hb)
    have HA4 := Lib.hid (HA3.out.on hb)
    have HAd := Lib.hid (HA.out.on HB4.out)
    have q := fun i => cell_of_row _ _ i _ _ _ HRd4.out
    have q2 := fun i => cell_of_row _ _ i _ _ _ HR4.out
    clear hb HRd HR2 HB3 HA3
    go_wp2_with fail
    refine (sdisk_true A2 A cap2 cap bs s w4 HA4.out HAd.out (by have := HN.out; omega)).mono ?_
    rintro e w5 ⟨rfl, hb⟩
    have HB5 := Lib.hid (Kt.bthen HB4.out hb)
    clear hb
    go_wp2_with fail
    go_ret
    exact ⟨rfl, HB5.out⟩
theorem sense_walk (v0 v1 v2 : Value) (w : World) (r0 : Fr.RdV w reachBytes (.cat 1 (.slice 1 .string) (.cat 1 (.int .i64) .nil)) v0) (r1 : Fr.RdV w reachBytes .string v1) (r2 : Fr.RdV w reachBytes .string v2)
    (m1 : ∀ (cs : Array Value) a l c, v0 = .agg cs → (cs.toList.drop 0).take 1 = [.slice a l c] → l * Try.prog.bytesOf 9 ≤ reachBytes) :
    Calls Try.prog 5 #[v0, v1, v2] w fun e w' => e = .returned (.bool true) ∧ Below w.heap.size w w' := by
  obtain ⟨A, cap, bs, s, rfl, hd⟩ := dk_of r0
  obtain ⟨c, e1, _⟩ := r1; cases e1
  obtain ⟨d, e2, _⟩ := r2; cases e2
  have hby : Try.prog.bytesOf 9 = 16 := by kernel_rfl
  have hR : reachBytes ≤ 140737488355328 := by unfold reachBytes; omega
  have b1 := m1 _ A bs.length cap rfl rfl
  rw [hby] at b1
  exact sense_calls bs s c d A cap w hd (by omega)
end Go.Proofs.Ytfhndjccghchjaa
