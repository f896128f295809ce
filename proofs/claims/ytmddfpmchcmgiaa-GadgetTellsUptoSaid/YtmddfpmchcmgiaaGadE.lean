/- halt walked. -/
import Derived.Test.YtmddfpmchcmgiaaGadH
import Derived.Test.YtmddfpmchcmgiaaGadQ
import Derived.Test.YtmddfpmchcmgiaaGen
namespace Go.Proofs.Ytmddfpmchcmgiaa
open Go.RowKit Go.Proofs.Ytmddfpmchcmgiaa.Dsc Go.Proofs.Ytmddfpmchcmgiaa.Gad
theorem i64_andNot_nat (a b : Nat) (ha : a < 9223372036854775808) (hb : b < 9223372036854775808) : bits .andNot .i64 (a : Int) (b : Int) = ((a &&& (18446744073709551615 - b) : Nat) : Int) := by
  have hx : a &&& (18446744073709551615 - b) ≤ a := Nat.and_le_left
  show IntKind.i64.wrap ((BitVec.ofInt 64 (a : Int) &&& ~~~BitVec.ofInt 64 (b : Int)).toNat : Int) = _
  rw [BitVec.toNat_and, BitVec.toNat_not, ofInt_u64 a (by omega), ofInt_u64 b (by omega), IntKind.wrap_i64]
  have e : 2 ^ 64 - 1 - b = 18446744073709551615 - b := by omega
  rw [e]
  omega
theorem and15 (e : Int) (h : (0 ≤ e ∧ e ≤ 15) ∨ (128 ≤ e ∧ e ≤ 143)) : bits .and .i64 e 15 = e % 16 := by
  obtain ⟨n, rfl⟩ := Int.eq_ofNat_of_zero_le (show 0 ≤ e by omega)
  have := Kt.i64_and_nat n 15 (by omega) (by decide)
  have e2 : n &&& 15 = n % 16 := Nat.and_two_pow_sub_one_eq_mod n 4
  rw [e2] at this
  exact this.trans (by omega)
theorem kHi {e : Int} {k : Nat} (hk : e % 16 = (k : Int)) (hk2 : k < 16) (h : 128 ≤ e) : wrap64 (wrap64 (2 ^ k) * 65536) = ((2 ^ kOf e : Nat) : Int) := by
  have key : ∀ k : Fin 16, wrap64 (wrap64 (2 ^ k.val) * 65536) = ((2 ^ (k.val + 16) : Nat) : Int) := by decide +kernel
  have e1 : kOf e = k + 16 := by unfold kOf; rw [if_pos h]; omega
  rw [e1]; exact key ⟨k, hk2⟩
theorem kLo {e : Int} {k : Nat} (hk : e % 16 = (k : Int)) (hk2 : k < 16) (h : ¬ 128 ≤ e) : wrap64 (2 ^ k) = ((2 ^ kOf e : Nat) : Int) := by
  have key : ∀ k : Fin 16, wrap64 (2 ^ k.val) = ((2 ^ k.val : Nat) : Int) := by decide +kernel
  have e1 : kOf e = k := by unfold kOf; rw [if_neg h]; omega
  rw [e1]; exact key ⟨k, hk2⟩
theorem clrI {n k : Nat} {B : Int} (hB : B = ((2 ^ k : Nat) : Int)) (hn : n < 4294967296) (hk : k < 32) : bits .andNot .i64 (n : Int) B = (clrN n k : Nat) := by
  have h1 : (2 : Nat) ^ k < 2 ^ 32 := Nat.pow_lt_pow_right (by decide) hk
  rw [hB]; exact i64_andNot_nat n (2 ^ k) (by omega) (by omega)
theorem setI {n k : Nat} {B : Int} (hB : B = ((2 ^ k : Nat) : Int)) (hn : n < 4294967296) (hk : k < 32) : bits .or .i64 (bits .andNot .i64 (n : Int) B) B = (setN n k : Nat) := by
  have h1 : (2 : Nat) ^ k < 2 ^ 32 := Nat.pow_lt_pow_right (by decide) hk
  have h2 := clr_lt n k hn
  rw [clrI hB hn hk, hB]; exact Kt.i64_or_nat (clrN n k) (2 ^ k) (by omega) (by omega)
set_option maxRecDepth 100000 in
set_option maxHeartbeats 3200000 in
theorem halt_calls (s : Sh) (F T : Value) (g : Gd) (e : Int) (on : Bool) (b : Nat) (w : World) (hr : w.heap[b]? = some (.cells (thR s F T g) 99 (0, 0)))
    (hc : CRd w (.agg #[.int .i64 s.cfg.va, .int .i64 s.cfg.nm, .int .i64 s.cfg.at_, .int .i64 s.cfg.pw, F]) s.cfg) (hok : cfgC s.cfg = 0) (he : (0 ≤ e ∧ e ≤ 15) ∨ (128 ≤ e ∧ e ≤ 143)) (hg : 0 ≤ g.ha ∧ g.ha < 4294967296) :
    Calls Try.prog 63 #[.pointer (some ⟨b, 0, none⟩), .int .i64 e, .bool on] w fun e' w' => e' = .returned (.int .i64 (haltd s g e on).2) ∧ w'.heap[b]? = some (.cells (thR s F T (haltd s g e on).1) 99 (0, 0)) ∧ Below b w w' := by
  have HR := Lib.hid hr
  have HHC := Lib.hid (has_calls s F T g e b w hr hc hok)
  have HLT := Lib.hid (Array.getElem?_eq_some_iff.1 hr).1
  have HE := Lib.hid he
  have q := fun i => cell_of_row _ _ i _ _ _ hr
  obtain ⟨st, ad, ha⟩ := g
  obtain ⟨n, rfl⟩ := Int.eq_ofNat_of_zero_le (show 0 ≤ ha from hg.1)
  have HN : Hid (n < 4294967296) := Lib.hid (by have := hg.2; dsimp only at this; omega)
  unfold thR at q
  dsimp only at q
  clear hr hc hok he hg
  by_cases c1 : st = 2
  case neg =>
    have HD : Hid (haltd s ⟨st, ad, n⟩ e on = (⟨st, ad, n⟩, 8)) := Lib.hid (if_neg fun h => c1 h.1)
    have e1 : (st != 2) = true := by rw [bne_iff_ne]; exact c1
    clear c1
    go_enter Try.func63, Try.ntmps63
    go_wp2_with fail
    go_ret
    rw [HD.out]
    exact ⟨rfl, HR.out, Below.refl _ _⟩
  subst c1
  cases hh : has s e with
  | false =>
    have HD : Hid (haltd s ⟨2, ad, n⟩ e on = (⟨2, ad, n⟩, 8)) := Lib.hid (if_neg fun h => by rw [hh] at h; exact absurd h.2 (by decide))
    rw [hh] at HHC
    go_enter Try.func63, Try.ntmps63
    go_wp2_with fail
    refine HHC.out.mono ?_
    rintro e' w1 ⟨rfl, hb1⟩
    have HB1 := Lib.hid hb1
    clear hb1
    go_wp2_with fail
    go_ret
    rw [HD.out]
    exact ⟨rfl, Kt.row_on HB1.out HR.out, HB1.out.mono (Nat.le_of_lt HLT.out)⟩
  | true =>
    have HD : Hid (haltd s ⟨2, ad, n⟩ e on = (⟨2, ad, ((if on then setN n (kOf e) else clrN n (kOf e) : Nat) : Int)⟩, 0)) := Lib.hid (if_pos ⟨rfl, hh⟩)
    rw [hh] at HHC
    have h15 := and15 e HE.out
    obtain ⟨k, hk, hk2⟩ : ∃ k : Nat, e % 16 = (k : Int) ∧ k < 16 := ⟨(e % 16).toNat, by omega, by omega⟩
    rw [hk] at h15
    go_enter Try.func63, Try.ntmps63
    go_wp2_with fail
    refine HHC.out.mono ?_
    rintro e' w1 ⟨rfl, hb1⟩
    have HB1 := Lib.hid hb1
    clear hb1
    have HR1 := Lib.hid (Kt.row_on HB1.out HR.out)
    have q1 := fun i => cell_of_row _ _ i _ _ _ HR1.out
    have qf := fun i => frozen_of_row _ _ i _ _ HR1.out
    unfold thR at q1
    dsimp only at q1
    have HK := Lib.hid (kOf_lt HE.out)
    clear q HR HHC
    by_cases h128 : 128 ≤ e
    · have HV := Lib.hid (kHi hk hk2 h128)
      have hcl := clrI HV.out HN.out HK.out
      have hse := setI HV.out HN.out HK.out
      have HCL := Lib.hid hcl
      have HSE := Lib.hid hse
      clear hcl hse hk
      cases on with
      | true =>
        go_wp2_with fail
        go_ret
        rw [HD.out]
        refine ⟨rfl, ?_, ?_⟩
        · rw [HSE.out]
          exact heap_setCell_same _ _ _ _ _ _ (heap_setCell_same _ _ _ _ _ _ HR1.out)
        · exact ((HB1.out.mono (Nat.le_of_lt HLT.out)).setCell (p := ⟨b, 20, none⟩) (Nat.le_refl _) _).setCell (p := ⟨b, 20, none⟩) (Nat.le_refl _) _
      | false =>
        go_wp2_with fail
        go_ret
        rw [HD.out]
        refine ⟨rfl, ?_, ?_⟩
        · rw [HCL.out]
          exact heap_setCell_same _ _ _ _ _ _ HR1.out
        · exact (HB1.out.mono (Nat.le_of_lt HLT.out)).setCell (p := ⟨b, 20, none⟩) (Nat.le_refl _) _
    · have HV := Lib.hid (kLo hk hk2 h128)
      have HCL := Lib.hid (clrI HV.out HN.out HK.out)
      have HSE := Lib.hid (setI HV.out HN.out HK.out)
      clear hk
      cases on with
      | true =>
        go_wp2_with fail
        go_ret
        rw [HD.out]
        refine ⟨rfl, ?_, ?_⟩
        · rw [HSE.out]
          exact heap_setCell_same _ _ _ _ _ _ (heap_setCell_same _ _ _ _ _ _ HR1.out)
        · exact ((HB1.out.mono (Nat.le_of_lt HLT.out)).setCell (p := ⟨b, 20, none⟩) (Nat.le_refl _) _).setCell (p := ⟨b, 20, none⟩) (Nat.le_refl _) _
      | false =>
        go_wp2_with fail
        go_ret
        rw [HD.out]
        refine ⟨rfl, ?_, ?_⟩
        · rw [HCL.out]
          exact heap_setCell_same _ _ _ _ _ _ HR1.out
        · exact (HB1.out.mono (Nat.le_of_lt HLT.out)).setCell (p := ⟨b, 20, none⟩) (Nat.le_refl _) _
end Go.Proofs.Ytmddfpmchcmgiaa
