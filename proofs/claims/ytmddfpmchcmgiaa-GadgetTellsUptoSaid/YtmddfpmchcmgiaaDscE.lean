/- DescCut. -/
import Derived.Test.YtmddfpmchcmgiaaDscD
namespace Go.Proofs.Ytmddfpmchcmgiaa
open Go.RowKit Go.Proofs.Ytmddfpmchcmgiaa.Dsc
theorem wcfg_cases (c : Cf) : (cfgC c = 0 ∧ wCfg c = (cfgT c, 0)) ∨ (cfgC c ≠ 0 ∧ wCfg c = ([], cfgC c)) := by
  unfold wCfg
  by_cases h : cfgC c = 0
  · exact .inl ⟨h, if_pos h⟩
  · exact .inr ⟨h, if_neg h⟩
theorem rcode (s : List UInt8) (e : Ending) (w : World) (B : Nat) (h : ReadOut B s e w) : ∃ v, e = .returned (.tuple #[v, .int .i64 (rCfg s).2]) := by
  obtain ⟨V, l, h, _, _⟩ := h
  exact ⟨_, h⟩
theorem bs_take (t : List UInt8) (n : Nat) : (bs' t).extract 0 n = bs' (t.take n) := by
  apply Kt.bytes_eq
  simp [bs', ByteArray.data_extract]
set_option maxRecDepth 100000 in
set_option maxHeartbeats 1600000 in
theorem cut_calls (c : Cf) (v : Value) (k : Int) (w : World) (h : CRd w v c) : Calls Try.prog 4 #[v, .int .i64 k] w fun e w' => e = .returned (.bool true) ∧ Below w.heap.size w w' := by
  have HV := Lib.hid h
  obtain ⟨F, css, rfl, hF, hcl, hcr⟩ := h
  obtain ⟨FA, fc, rfl, _, _⟩ := hF.form
  have HWC := Lib.hid (fun W (hW : Below w.heap.size w W) => wcfg_calls c _ W (HV.out.on hW))
  have HLV := Lib.hid lives_calls
  have HRC := Lib.hid rcfg_calls
  clear hF hcl hcr
  go_enter Try.func4, Try.ntmps4
  go_wp2_with fail
  refine (HWC.out _ (Kt.balloc (Below.refl _ _) _)).mono ?_
  rintro e w1 ⟨rfl, hb1⟩
  have HB1 := Lib.hid (Kt.bthen (Kt.balloc (Below.refl _ _) _) hb1)
  clear HWC hb1
  rcases wcfg_cases c with ⟨hc, hw⟩ | ⟨hc, hw⟩
  · rw [hw]
    dsimp only
    have HC := Lib.hid hc
    have hz := bs_size (cfgT c)
    obtain ⟨S, hS⟩ : ∃ S, bs' (cfgT c) = S := ⟨_, rfl⟩
    rw [hS] at hz ⊢
    have hle : S.size ≤ 413 := by rw [hz]; exact cfgT_len hc
    clear hw hc
    go_wp2_with fail
    refine (HLV.out _).mono ?_
    rintro e w2 ⟨rfl, hb2⟩
    have HB2 := Lib.hid (Kt.bthen HB1.out hb2)
    clear hb2
    by_cases k0 : k < 0
    · go_wp2_with fail
      refine (HLV.out _).mono ?_
      rintro e w3 ⟨rfl, hb3⟩
      have HB3 := Lib.hid (Kt.bthen HB2.out hb3)
      clear hb3
      go_wp2_with fail
      go_ret
      exact ⟨rfl, HB3.out⟩
    · by_cases k1 : (S.size : Int) ≤ k
      · go_wp2_with fail
        refine (HLV.out _).mono ?_
        rintro e w3 ⟨rfl, hb3⟩
        have HB3 := Lib.hid (Kt.bthen HB2.out hb3)
        clear hb3
        go_wp2_with fail
        go_ret
        exact ⟨rfl, HB3.out⟩
      · obtain ⟨n, rfl⟩ := Int.eq_ofNat_of_zero_le (Int.not_lt.1 k0)
        have hex : S.extract 0 n = bs' ((cfgT c).take n) := by rw [← hS, bs_take]
        have HCO := Lib.hid (cfg_cut HC.out (n := n) (by rw [← hz]; omega))
        go_wp2_with fail
        refine (HRC.out _ _).mono ?_
        rintro e w3 ⟨⟨V, l, rfl, _, _⟩, hb3⟩
        have HB3 := Lib.hid (Kt.bthen HB2.out hb3)
        clear hb3
        obtain ⟨cd, hcd⟩ : ∃ cd, (rCfg ((cfgT c).take n)).2 = cd := ⟨_, rfl⟩
        have hcc := HCO.out
        rw [hcd] at hcc ⊢
        obtain ⟨c', hc'⟩ : ∃ c', (rCfg ((cfgT c).take n)).1 = c' := ⟨_, rfl⟩
        rw [hc']
        clear HCO
        rcases hcc with rfl | rfl
        · go_wp2_with fail
          go_ret
          exact ⟨rfl, HB3.out⟩
        · go_wp2_with fail
          go_ret
          exact ⟨rfl, HB3.out⟩
  · rw [hw]
    have hne : (cfgC c != 0) = true := by rw [bne_iff_ne]; exact hc
    dsimp only
    go_wp2_with fail
    refine (HLV.out _).mono ?_
    rintro e w2 ⟨rfl, hb2⟩
    have HB2 := Lib.hid (Kt.bthen HB1.out hb2)
    clear hb2
    go_wp2_with fail
    refine (HLV.out _).mono ?_
    rintro e w3 ⟨rfl, hb3⟩
    have HB3 := Lib.hid (Kt.bthen HB2.out hb3)
    clear hb3
    go_wp2_with fail
    go_ret
    exact ⟨rfl, HB3.out⟩
theorem cut_walk (v0 v1 : Value) (w : World) (r0 : Fr.RdV w reachBytes cfgS v0) (r1 : Fr.RdV w reachBytes (.int .i64) v1) :
    Calls Try.prog 4 #[v0, v1] w fun e w' => e = .returned (.bool true) ∧ Below w.heap.size w w' := by
  obtain ⟨c, hc, _⟩ := cfg_rd r0
  obtain ⟨k, hk, _⟩ := r1
  injection hk with hk _
  subst hk
  exact cut_calls c v0 k w hc
end Go.Proofs.Ytmddfpmchcmgiaa
