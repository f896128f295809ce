/- describe walked. -/
import Derived.Test.YtmddfpmchcmgiaaGadR
import Derived.Test.YtmddfpmchcmgiaaDscH
import Derived.Test.YtmddfpmchcmgiaaDscN
namespace Go.Proofs.Ytmddfpmchcmgiaa
open Go.RowKit Go.Proofs.Ytmddfpmchcmgiaa.Dsc Go.Proofs.Ytmddfpmchcmgiaa.Gad Go.Proofs.Ytmddfpmchcmgiaa.Utf
def thR (s : Sh) (F T : Value) (g : Gd) : Array Value := #[.int .i64 s.dev.usb, .int .i64 s.dev.cls, .int .i64 s.dev.sub, .int .i64 s.dev.pro, .int .i64 s.dev.m0, .int .i64 s.dev.ven, .int .i64 s.dev.prd, .int .i64 s.dev.rel, .int .i64 s.dev.mak, .int .i64 s.dev.nam, .int .i64 s.dev.ser, .int .i64 s.dev.cfs,
    .int .i64 s.cfg.va, .int .i64 s.cfg.nm, .int .i64 s.cfg.at_, .int .i64 s.cfg.pw, F, T, .int .i64 g.st, .int .i64 g.ad, .int .i64 g.ha]
theorem text_calls (t : List UInt8) (ht : t.length ≤ 35184372088832) (w : World) : Calls Try.prog 54 #[.string (bs' t)] w fun e w' => e = .returned (.tuple #[.string (bs' (txT t)), .int .i64 (txC t)]) ∧ Below w.heap.size w w' := by
  by_cases h : (wide t).length ≤ 252
  · have := write_ok (bs' t) (by rw [bs_size]; exact ht) w (by rw [bs_list]; exact h)
    rw [bs_list] at this
    unfold txT txC
    rw [if_pos h, if_pos h]
    exact this
  · have := write_no (bs' t) (by rw [bs_size]; exact ht) w (by rw [bs_list]; exact h)
    unfold txT txC
    rw [if_neg h, if_neg h]
    exact this
set_option maxRecDepth 100000 in
set_option maxHeartbeats 1600000 in
theorem describe_calls (hwd : WDev) (s : Sh) (F T : Value) (g : Gd) (value : Int) (b : Nat) (w : World) (hr : w.heap[b]? = some (.cells (thR s F T g) 99 (0, 0)))
    (hc : CRd w (.agg #[.int .i64 s.cfg.va, .int .i64 s.cfg.nm, .int .i64 s.cfg.at_, .int .i64 s.cfg.pw, F]) s.cfg) (hT : Kt.Ar w T 1 s.tx.length (xcells s.tx)) (hb : ∀ t ∈ s.tx, t.length ≤ 35184372088832) (hv : 0 ≤ value ∧ value ≤ 65535) :
    Calls Try.prog 61 #[.pointer (some ⟨b, 0, none⟩), .int .i64 value] w fun e w' => e = .returned (.tuple #[.string (bs' (descr s value).1), .int .i64 (descr s value).2]) ∧ Below w.heap.size w w' := by
  have HC := Lib.hid hc
  obtain ⟨F', css, hF', hF, _⟩ := hc
  injection hF' with hF'
  have e5 : F = F' := by
    have := congrArg (fun a : Array Value => a[4]?) hF'
    simpa using this
  subst e5
  obtain ⟨FA, fc, rfl, _, _⟩ := hF.form
  obtain ⟨TA, tc, rfl, _, hTc⟩ := hT.form
  have HTC := Lib.hid hTc
  have HBT := Lib.hid hb
  have q := fun i => cell_of_row _ _ i _ _ _ hr
  unfold thR at q
  have hz : wrap64 (value - 768) = value - 768 := by unfold wrap64; omega
  clear hr hF hF' hT hTc hb
  by_cases c1 : value = 256
  · have HD : Hid (descr s value = wDev s.dev) := Lib.hid (if_pos c1)
    subst c1
    have hd := Lib.hid (hwd s.dev w)
    unfold dV at hd
    go_enter Try.func61, Try.ntmps61
    go_wp2_with fail
    refine hd.out.mono ?_
    rintro e w1 ⟨rfl, hb1⟩
    have HB1 := Lib.hid hb1
    clear hb1
    go_wp2_with fail
    go_ret2
    rw [HD.out]
    exact ⟨rfl, HB1.out⟩
  · have e1 : (value == 256) = false := by rw [beq_eq_false_iff_ne]; exact c1
    by_cases c2 : value = 512
    · have HD : Hid (descr s value = wCfg s.cfg) := Lib.hid (by unfold descr; rw [if_neg c1, if_pos c2])
      subst c2
      have hd := Lib.hid (wcfg_calls s.cfg _ w HC.out)
      clear c1 e1
      go_enter Try.func61, Try.ntmps61
      go_wp2_with fail
      refine hd.out.mono ?_
      rintro e w1 ⟨rfl, hb1⟩
      have HB1 := Lib.hid hb1
      clear hb1
      go_wp2_with fail
      go_ret2
      rw [HD.out]
      exact ⟨rfl, HB1.out⟩
    · have e2 : (value == 512) = false := by rw [beq_eq_false_iff_ne]; exact c2
      by_cases c3 : value = 768
      · have HD : Hid (descr s value = ([4, 3, 9, 4], 0)) := Lib.hid (by unfold descr; rw [if_neg c1, if_neg c2, if_pos c3])
        subst c3
        clear c1 c2 e1 e2
        go_enter Try.func61, Try.ntmps61
        go_wp2_with fail
        go_ret2
        rw [HD.out]
        exact ⟨rfl, Below.refl _ _⟩
      · have e3 : (value - 768 == 0) = false := by rw [beq_eq_false_iff_ne]; omega
        by_cases c4 : 769 ≤ value ∧ value - 768 ≤ s.tx.length
        · obtain ⟨k, hk⟩ : ∃ k : Nat, value = k + 769 := ⟨(value - 769).toNat, by omega⟩
          have hlt : k < s.tx.length := by omega
          obtain ⟨tb, tq, rfl, htb, hcell⟩ := HTC.out (Nat.lt_of_le_of_lt (Nat.zero_le _) hlt)
          have hx : w.cell? ⟨tb, tq + k, none⟩ = some (.string (bs' s.tx[k])) := (hcell k (by unfold xcells; rw [List.length_map]; exact hlt)).trans (by unfold xcells; rw [List.getElem_map])
          have hg : s.tx.getD (value - 769).toNat [] = s.tx[k] := by
            rw [show (value - 769).toNat = k by omega, List.getD_eq_getElem?_getD, List.getElem?_eq_getElem hlt]; rfl
          have HD : Hid (descr s value = (txT s.tx[k], txC s.tx[k])) := Lib.hid (by unfold descr; rw [if_neg c1, if_neg c2, if_neg c3, if_pos c4, hg])
          have hd := Lib.hid (text_calls s.tx[k] (HBT.out _ (List.getElem_mem _)) w)
          obtain ⟨X, hX⟩ : ∃ X, s.tx[k] = X := ⟨_, rfl⟩
          rw [hX] at hx HD hd
          have hz2 : wrap64 (value - 768) = (k : Int) + 1 := by rw [hz]; omega
          have hz3 : wrap64 ((k : Int) + 1 - 1) = (k : Int) := by unfold wrap64; omega
          have e4 : decide ((1 : Int) ≤ (k : Int) + 1) = true := decide_eq_true (by omega)
          have e5 : decide ((k : Int) + 1 ≤ s.tx.length) = true := decide_eq_true (by omega)
          have e6 : ((k : Int) + 1 == 0) = false := by rw [beq_eq_false_iff_ne]; omega
          clear hcell hg hz c1 c2 c3 c4 hX HBT HTC
          subst hk
          go_enter Try.func61, Try.ntmps61
          go_wp2_with fail
          refine hd.out.mono ?_
          rintro e w1 ⟨rfl, hb1⟩
          have HB1 := Lib.hid hb1
          clear hb1
          go_wp2_with fail
          go_ret2
          rw [HD.out]
          exact ⟨rfl, HB1.out⟩
        · have HD : Hid (descr s value = ([], 8)) := Lib.hid (by unfold descr; rw [if_neg c1, if_neg c2, if_neg c3, if_neg c4])
          have hcase : (1 : Int) ≤ value - 768 ∧ ¬ (value - 768 ≤ (s.tx.length : Int)) ∨ ¬ (1 : Int) ≤ value - 768 := by omega
          clear c1 c2 c3 c4
          rcases hcase with ⟨x1, x2⟩ | x1
          · go_enter Try.func61, Try.ntmps61
            go_wp2_with fail
            go_ret2
            rw [HD.out]
            exact ⟨rfl, Below.refl _ _⟩
          · go_enter Try.func61, Try.ntmps61
            go_wp2_with fail
            go_ret2
            rw [HD.out]
            exact ⟨rfl, Below.refl _ _⟩
set_option maxRecDepth 100000 in
set_option maxHeartbeats 1600000 in
theorem configure_calls (s : Sh) (F T : Value) (g : Gd) (value : Int) (b : Nat) (w : World) (hr : w.heap[b]? = some (.cells (thR s F T g) 99 (0, 0))) :
    Calls Try.prog 62 #[.pointer (some ⟨b, 0, none⟩), .int .i64 value] w fun e w' => e = .returned (.int .i64 (conf s g value).2) ∧ w'.heap[b]? = some (.cells (thR s F T (conf s g value).1) 99 (0, 0)) ∧ Below b w w' := by
  have HR := Lib.hid hr
  have q := fun i => cell_of_row _ _ i _ _ _ hr
  have qf := fun i => frozen_of_row _ _ i _ _ hr
  unfold thR at q
  clear hr
  obtain ⟨st, ad, ha⟩ := g
  dsimp only at q
  by_cases c1 : st = 0
  · have HD : Hid (conf s ⟨st, ad, ha⟩ value = (⟨st, ad, ha⟩, 8)) := Lib.hid (if_pos c1)
    have e1 : (st == 0) = true := by rw [beq_iff_eq]; exact c1
    clear c1
    go_enter Try.func62, Try.ntmps62
    go_wp2_with fail
    go_ret
    rw [HD.out]
    exact ⟨rfl, HR.out, Below.refl _ _⟩
  · have e1 : (st == 0) = false := by rw [beq_eq_false_iff_ne]; exact c1
    by_cases c2 : value = 0
    · have HD : Hid (conf s ⟨st, ad, ha⟩ value = (⟨1, ad, 0⟩, 0)) := Lib.hid (by unfold conf; rw [if_neg c1, if_pos c2])
      have e2 : (value == 0) = true := by rw [beq_iff_eq]; exact c2
      clear c1 c2
      go_enter Try.func62, Try.ntmps62
      go_wp2_with fail
      go_ret
      rw [HD.out]
      refine ⟨rfl, ?_, ?_⟩
      · exact heap_setCell_same _ _ _ _ _ _ (heap_setCell_same _ _ _ _ _ _ HR.out)
      · exact ((Below.refl b w).setCell (p := ⟨b, 18, none⟩) (Nat.le_refl _) _).setCell (p := ⟨b, 20, none⟩) (Nat.le_refl _) _
    · have e2 : (value == 0) = false := by rw [beq_eq_false_iff_ne]; exact c2
      by_cases c3 : value = s.cfg.va
      · have HD : Hid (conf s ⟨st, ad, ha⟩ value = (⟨2, ad, 0⟩, 0)) := Lib.hid (by unfold conf; rw [if_neg c1, if_neg c2, if_pos c3])
        have e3 : (value == s.cfg.va) = true := by rw [beq_iff_eq]; exact c3
        clear c1 c2 c3
        go_enter Try.func62, Try.ntmps62
        go_wp2_with fail
        go_ret
        rw [HD.out]
        refine ⟨rfl, ?_, ?_⟩
        · exact heap_setCell_same _ _ _ _ _ _ (heap_setCell_same _ _ _ _ _ _ HR.out)
        · exact ((Below.refl b w).setCell (p := ⟨b, 18, none⟩) (Nat.le_refl _) _).setCell (p := ⟨b, 20, none⟩) (Nat.le_refl _) _
      · have HD : Hid (conf s ⟨st, ad, ha⟩ value = (⟨st, ad, ha⟩, 8)) := Lib.hid (by unfold conf; rw [if_neg c1, if_neg c2, if_neg c3])
        have e3 : (value == s.cfg.va) = false := by rw [beq_eq_false_iff_ne]; exact c3
        clear c1 c2 c3
        go_enter Try.func62, Try.ntmps62
        go_wp2_with fail
        go_ret
        rw [HD.out]
        exact ⟨rfl, HR.out, Below.refl _ _⟩
end Go.Proofs.Ytmddfpmchcmgiaa
