/- DescOne. -/
import Derived.Test.YtmddfpmchcmgiaaDscX
namespace Go.Proofs.Ytmddfpmchcmgiaa
open Go.RowKit Go.Proofs.Ytmddfpmchcmgiaa.Dsc
theorem rcfg_zero {s : List UInt8} (h : (rCfg s).2 ≠ 0) : (rCfg s).1 = zeroC := by
  by_cases h0 : (spl s).1 = 0
  · unfold rCfg at h ⊢
    rw [if_pos h0] at h ⊢
    cases hl : (spl s).2 with
    | nil => rfl
    | cons x l =>
      rw [hl] at h
      dsimp only at h ⊢
      by_cases h9 : x.length ≠ 9
      · rw [if_pos h9]
      · rw [if_neg h9] at h ⊢
        cases ha : addsF [] l with
        | none => rfl
        | some fs =>
          rw [ha] at h
          dsimp only at h ⊢
          by_cases hw : wCfg ⟨at' x 5, at' x 6, at' x 7, at' x 8, fs⟩ = (s, 0)
          · rw [if_pos hw] at h
            exact absurd rfl h
          · rw [if_neg hw]
  · unfold rCfg
    rw [if_neg h0]
theorem zero_rd (W : World) (A : Option Addr) (c : Nat) : CRd W (.agg #[.int .i64 0, .int .i64 0, .int .i64 0, .int .i64 0, .slice A 0 c]) zeroC :=
  ⟨.slice A 0 c, [], rfl, ⟨rfl, A, c, rfl, Nat.zero_le _, fun h => absurd h (Nat.lt_irrefl _)⟩, rfl, fun _i h => absurd h (Nat.not_lt_zero _)⟩
set_option maxRecDepth 100000 in
set_option maxHeartbeats 3200000 in
theorem one_calls (hwd : WDev) (s t : List UInt8) (w : World) : Calls Try.prog 7 #[.string (bs' s), .string (bs' t)] w fun e w' => e = .returned (.bool true) ∧ Below w.heap.size w w' := by
  have HRD := Lib.hid (rdev_calls hwd s)
  have HRC := Lib.hid (rcfg_calls t)
  have HLV := Lib.hid lives_calls
  obtain ⟨D, dc, hd⟩ : ∃ D dc, rDev s = (D, dc) := ⟨_, _, rfl⟩
  obtain ⟨C, cc, hcc⟩ : ∃ C cc, rCfg t = (C, cc) := ⟨_, _, rfl⟩
  have HD := Lib.hid hd
  have HC := Lib.hid hcc
  have HWD := Lib.hid (hwd D)
  rw [hd] at HRD
  dsimp only at HRD
  obtain ⟨S, hS⟩ : ∃ S, bs' s = S := ⟨_, rfl⟩
  obtain ⟨T, hT⟩ : ∃ T, bs' t = T := ⟨_, rfl⟩
  rw [hS] at HRD ⊢
  rw [hT] at HRC ⊢
  have HS := Lib.hid hS
  have HT := Lib.hid hT
  clear hd hcc hS hT
  go_enter Try.func7, Try.ntmps7
  go_wp2_with fail
  refine (HRD.out _).mono ?_
  rintro e w1 ⟨rfl, hb1⟩
  have HB1 := Lib.hid hb1
  clear hb1 HRD
  unfold dV
  by_cases hdc : dc = 0
  · subst hdc
    have HW1 := Lib.hid (dev_one HD.out)
    have hn00 : ((0 : Int) == 0) = true := rfl
    go_wp2_with fail
    unfold dV at HWD
    refine (HWD.out _).mono ?_
    rintro e w2 ⟨rfl, hb2⟩
    have HBK := Lib.hid (HB1.out.trans ((Kt.bthen (Kt.balloc (Below.refl _ w1) _) hb2).mono HB1.out.size))
    rw [HW1.out]
    dsimp only
    rw [HS.out]
    have hst : (S.toList == S.toList) = true := by simp
    clear hb2
    go_wp2_with fail
    refine (HRC.out _).mono ?_
    rintro e w2 ⟨⟨V, fl, rfl, hfl, hfo⟩, hb2⟩
    rw [HC.out] at hfl ⊢
    dsimp only at hfl ⊢
    obtain ⟨VA, vc, rfl, _, _⟩ := hfo.sl.form
    have HB2 := Lib.hid (HBK.out.trans (hb2.mono HBK.out.size))
    have hcrd := hfo.crd C.va C.nm C.at_ C.pw
    rw [hfl] at hcrd
    have HCR : Hid (CRd w2 (.agg #[.int .i64 C.va, .int .i64 C.nm, .int .i64 C.at_, .int .i64 C.pw, .slice VA fl.length vc]) C) := Lib.hid hcrd
    clear hcrd hfo hb2 hfl
    by_cases hc : cc = 0
    · subst hc
      have HW := Lib.hid (cfg_one HC.out)
      have hn00 : ((0 : Int) != 0) = false := rfl
      go_wp2_with fail
      refine (wcfg_calls C _ _ (HCR.out.on (Kt.balloc (Below.refl _ w2) _))).mono ?_
      rintro e w3 ⟨rfl, hb3⟩
      have HB3 := Lib.hid (HB2.out.trans ((Kt.bthen (Kt.balloc (Below.refl _ w2) _) hb3).mono HB2.out.size))
      rw [HW.out]
      dsimp only
      rw [HT.out]
      clear hb3
      go_wp2_with fail
      refine (HLV.out _).mono ?_
      rintro e w4 ⟨rfl, hb4⟩
      have HB4 := Lib.hid (Kt.bthen HB3.out hb4)
      have hst : (T.toList == T.toList) = true := by simp
      clear hb4
      go_wp2_with fail
      go_ret
      exact ⟨rfl, HB4.out⟩
    · have hz : C = zeroC := by
        have h := rcfg_zero (s := t) (by rw [HC.out]; exact hc)
        rw [HC.out] at h
        exact h
      subst hz
      have hne : (cc != 0) = true := by rw [bne_iff_ne]; exact hc
      clear hc
      have HA := Lib.hid (Kt.balloc (Below.refl _ w2) (.cells #[.int .i64 0, .int .i64 0, .int .i64 0, .int .i64 0, .slice VA fl.length vc] 24))
      have HRA := Lib.hid (heap_alloc_new w2 (.cells #[.int .i64 0, .int .i64 0, .int .i64 0, .int .i64 0, .slice VA fl.length vc] 24))
      dsimp only [zeroC]
      go_wp2_with fail
      refine (HLV.out _).mono ?_
      rintro e w3 ⟨rfl, hb3⟩
      have hrow := Kt.row_on hb3 HRA.out
      have q := fun i => cell_of_row _ _ i _ _ _ hrow
      have HCR3 := Lib.hid ((HCR.out.on HA.out).on hb3)
      have HB3 := Lib.hid (HB2.out.trans ((Kt.bthen HA.out hb3).mono HB2.out.size))
      clear hb3 hrow
      go_wp2_with fail
      refine (same_calls zeroC _ _ w3 HCR3.out (zero_rd w3 none 0) (Nat.zero_le _) (fun f hf => by cases hf)).mono ?_
      rintro e w4 ⟨rfl, hb4⟩
      have HB4 := Lib.hid (Kt.bthen HB3.out hb4)
      clear hb4
      go_wp2_with fail
      go_ret
      exact ⟨rfl, HB4.out⟩
  · have hne0 : (dc == 0) = false := by rw [beq_eq_false_iff_ne]; exact hdc
    have HBK := Lib.hid (Kt.balloc HB1.out (.cells #[.int .i64 D.usb, .int .i64 D.cls, .int .i64 D.sub, .int .i64 D.pro, .int .i64 D.m0, .int .i64 D.ven, .int .i64 D.prd, .int .i64 D.rel, .int .i64 D.mak, .int .i64 D.nam, .int .i64 D.ser, .int .i64 D.cfs] 46))
    clear hdc HWD
    go_wp2_with fail
    refine (HRC.out _).mono ?_
    rintro e w2 ⟨⟨V, fl, rfl, hfl, hfo⟩, hb2⟩
    rw [HC.out] at hfl ⊢
    dsimp only at hfl ⊢
    obtain ⟨VA, vc, rfl, _, _⟩ := hfo.sl.form
    have HB2 := Lib.hid (HBK.out.trans (hb2.mono HBK.out.size))
    have hcrd := hfo.crd C.va C.nm C.at_ C.pw
    rw [hfl] at hcrd
    have HCR : Hid (CRd w2 (.agg #[.int .i64 C.va, .int .i64 C.nm, .int .i64 C.at_, .int .i64 C.pw, .slice VA fl.length vc]) C) := Lib.hid hcrd
    clear hcrd hfo hb2 hfl
    by_cases hc : cc = 0
    · subst hc
      have HW := Lib.hid (cfg_one HC.out)
      have hn00 : ((0 : Int) != 0) = false := rfl
      go_wp2_with fail
      refine (wcfg_calls C _ _ (HCR.out.on (Kt.balloc (Below.refl _ w2) _))).mono ?_
      rintro e w3 ⟨rfl, hb3⟩
      have HB3 := Lib.hid (HB2.out.trans ((Kt.bthen (Kt.balloc (Below.refl _ w2) _) hb3).mono HB2.out.size))
      rw [HW.out]
      dsimp only
      rw [HT.out]
      clear hb3
      go_wp2_with fail
      refine (HLV.out _).mono ?_
      rintro e w4 ⟨rfl, hb4⟩
      have HB4 := Lib.hid (Kt.bthen HB3.out hb4)
      have hst : (T.toList == T.toList) = true := by simp
      clear hb4
      go_wp2_with fail
      go_ret
      exact ⟨rfl, HB4.out⟩
    · have hz : C = zeroC := by
        have h := rcfg_zero (s := t) (by rw [HC.out]; exact hc)
        rw [HC.out] at h
        exact h
      subst hz
      have hne : (cc != 0) = true := by rw [bne_iff_ne]; exact hc
      clear hc
      have HA := Lib.hid (Kt.balloc (Below.refl _ w2) (.cells #[.int .i64 0, .int .i64 0, .int .i64 0, .int .i64 0, .slice VA fl.length vc] 24))
      have HRA := Lib.hid (heap_alloc_new w2 (.cells #[.int .i64 0, .int .i64 0, .int .i64 0, .int .i64 0, .slice VA fl.length vc] 24))
      dsimp only [zeroC]
      go_wp2_with fail
      refine (HLV.out _).mono ?_
      rintro e w3 ⟨rfl, hb3⟩
      have hrow := Kt.row_on hb3 HRA.out
      have q := fun i => cell_of_row _ _ i _ _ _ hrow
      have HCR3 := Lib.hid ((HCR.out.on HA.out).on hb3)
      have HB3 := Lib.hid (HB2.out.trans ((Kt.bthen HA.out hb3).mono HB2.out.size))
      clear hb3 hrow
      go_wp2_with fail
      refine (same_calls zeroC _ _ w3 HCR3.out (zero_rd w3 none 0) (Nat.zero_le _) (fun f hf => by cases hf)).mono ?_
      rintro e w4 ⟨rfl, hb4⟩
      have HB4 := Lib.hid (Kt.bthen HB3.out hb4)
      clear hb4
      go_wp2_with fail
      go_ret
      exact ⟨rfl, HB4.out⟩
end Go.Proofs.Ytmddfpmchcmgiaa
