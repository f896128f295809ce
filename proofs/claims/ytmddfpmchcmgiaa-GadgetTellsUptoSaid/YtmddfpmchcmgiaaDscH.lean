/- desc.WriteConfig: whatever the configuration. -/
import Derived.Test.YtmddfpmchcmgiaaDscG
namespace Go.Proofs.Ytmddfpmchcmgiaa
open Go.RowKit Go.Proofs.Ytmddfpmchcmgiaa.Dsc Go.Maps
set_option maxRecDepth 100000 in
theorem wcfg_many (c : Cf) (F : Value) (FA : Option Addr) (fc : Nat) (w : World) (hF : F = .slice FA c.fs.length fc) (hh : headC c) (h4 : ¬ c.fs.length ≤ 4) :
    Calls Try.prog 13 #[cfgV c F] w fun e w' => e = .returned (.tuple #[.string (bs' (wCfg c).1), .int .i64 (wCfg c).2]) ∧ Below w.heap.size w w' := by
  subst hF
  obtain ⟨v1, v2, v3⟩ := (cfg_head c).1 hh
  have HB := Lib.hid (fun W V (hV : Kt.Ar W V 1 3 (ics [c.nm, c.at_, c.pw])) => bytesB_calls V [c.nm, c.at_, c.pw] W hV (by simp))
  rw [v3] at HB
  have i1 : ¬ c.va < 1 := by omega
  have i2 : ¬ 255 < c.va := by omega
  have i3 : (4 : Int) < c.fs.length := by omega
  have HWC : Hid (wCfg c = ([], 2)) := Lib.hid (by
    have : cfgC c = 2 := by unfold cfgC; rw [if_pos hh, if_pos (by omega)]
    unfold wCfg
    rw [this]; rfl)
  clear v1 v2 v3 hh h4
  go_enter Try.func13, Try.ntmps13
  dsimp only [cfgV]
  go_wp2_with fail
  refine (HB.out _ _ (Kt.Ar.new' (w.alloc (.cells #[.int .i64 c.va, .int .i64 c.nm, .int .i64 c.at_, .int .i64 c.pw, .slice FA c.fs.length fc] 24)) #[.int .i64 c.nm, .int .i64 c.at_, .int .i64 c.pw] 3 3 1 (w.heap.size + 1) (World.size_alloc w _) rfl)).mono ?_
  rintro e w1 ⟨rfl, rfl⟩
  go_wp2_with fail
  go_ret2
  rw [HWC.out]
  exact ⟨rfl, Kt.balloc (Kt.balloc (Below.refl _ _) _) _⟩
set_option maxRecDepth 100000 in
theorem wcfg_bad (c : Cf) (F : Value) (w : World) (hh : ¬ headC c) :
    Calls Try.prog 13 #[cfgV c F] w fun e w' => e = .returned (.tuple #[.string (bs' (wCfg c).1), .int .i64 (wCfg c).2]) ∧ Below w.heap.size w w' := by
  have HWC : Hid (wCfg c = ([], 1)) := Lib.hid (by
    have : cfgC c = 1 := by unfold cfgC; rw [if_neg hh]
    unfold wCfg
    rw [this]; rfl)
  have hq : ¬ (1 ≤ c.va ∧ c.va ≤ 255 ∧ inB 255 [c.nm, c.at_, c.pw] = true) := fun q => hh ((cfg_head c).2 q)
  by_cases i1 : c.va < 1
  · clear hq hh
    go_enter Try.func13, Try.ntmps13
    dsimp only [cfgV]
    go_wp2_with fail
    go_ret2
    rw [HWC.out]
    exact ⟨rfl, Kt.balloc (Below.refl _ _) _⟩
  · by_cases i2 : 255 < c.va
    · clear hq hh
      go_enter Try.func13, Try.ntmps13
      dsimp only [cfgV]
      go_wp2_with fail
      go_ret2
      rw [HWC.out]
      exact ⟨rfl, Kt.balloc (Below.refl _ _) _⟩
    · have v3 : inB 255 [c.nm, c.at_, c.pw] = false := by
        cases h : inB 255 [c.nm, c.at_, c.pw] with
        | false => rfl
        | true => exact absurd ⟨by omega, by omega, h⟩ hq
      have HB := Lib.hid (fun W V (hV : Kt.Ar W V 1 3 (ics [c.nm, c.at_, c.pw])) => bytesB_calls V [c.nm, c.at_, c.pw] W hV (by simp))
      rw [v3] at HB
      clear hq hh v3
      go_enter Try.func13, Try.ntmps13
      dsimp only [cfgV]
      go_wp2_with fail
      refine (HB.out _ _ (Kt.Ar.new' (w.alloc (.cells #[.int .i64 c.va, .int .i64 c.nm, .int .i64 c.at_, .int .i64 c.pw, F] 24)) #[.int .i64 c.nm, .int .i64 c.at_, .int .i64 c.pw] 3 3 1 (w.heap.size + 1) (World.size_alloc w _) rfl)).mono ?_
      rintro e w1 ⟨rfl, rfl⟩
      go_wp2_with fail
      go_ret2
      rw [HWC.out]
      exact ⟨rfl, Kt.balloc (Kt.balloc (Below.refl _ _) _) _⟩
/-- WriteConfig: the plain writer's answer, whatever the configuration -/
theorem wcfg_calls (c : Cf) (v : Value) (w : World) (h : CRd w v c) :
    Calls Try.prog 13 #[v] w fun e w' => e = .returned (.tuple #[.string (bs' (wCfg c).1), .int .i64 (wCfg c).2]) ∧ Below w.heap.size w w' := by
  obtain ⟨F, cs, rfl, hF, hcl, hcr⟩ := h
  obtain ⟨FA, fc, rfl, _, _⟩ := hF.form
  by_cases hh : headC c
  · by_cases h4 : c.fs.length ≤ 4
    · exact wcfg_main c FA fc cs w hF hcl hcr hh h4
    · exact wcfg_many c _ FA fc w rfl hh h4
  · exact wcfg_bad c _ w hh
end Go.Proofs.Ytmddfpmchcmgiaa
