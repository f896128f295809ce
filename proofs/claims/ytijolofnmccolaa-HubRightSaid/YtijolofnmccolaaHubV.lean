/- The document's answer on hubs: is it right? -/
import Derived.Test.YtijolofnmccolaaHubS
namespace Go.Proofs.Ytijolofnmccolaa
open Go.RowKit Go.Proofs.Ytijolofnmccolaa.SetP
noncomputable def btwB (n lo hi : Int) : Bool := decide (lo ≤ n ∧ n ≤ hi)
theorem btwB_yes {n lo hi : Int} (h1 : lo ≤ n) (h2 : n ≤ hi) : btwB n lo hi = true := decide_eq_true ⟨h1, h2⟩
theorem btwB_no {n lo hi : Int} (h : ¬ (lo ≤ n ∧ n ≤ hi)) : btwB n lo hi = false := decide_eq_false h
set_option maxHeartbeats 400000 in
theorem between_calls (n lo hi : Int) (w : World) : Calls Try.prog 21 #[.int .i64 n, .int .i64 lo, .int .i64 hi] w fun e w' => e = .returned (.bool (btwB n lo hi)) ∧ w = w' := by
  by_cases h1 : lo ≤ n
  · by_cases h2 : n ≤ hi
    · rw [btwB_yes h1 h2]
      have e1 : decide (lo ≤ n) = true := decide_eq_true h1
      have e2 : decide (n ≤ hi) = true := decide_eq_true h2
      clear h1 h2
      go_enter Try.func21, Try.ntmps21
      go_wp2
      go_ret
      exact ⟨rfl, rfl⟩
    · rw [btwB_no (by omega)]
      have e1 : decide (lo ≤ n) = true := decide_eq_true h1
      have e2 : decide (n ≤ hi) = false := decide_eq_false h2
      clear h1 h2
      go_enter Try.func21, Try.ntmps21
      go_wp2
      go_ret
      exact ⟨rfl, rfl⟩
  · rw [btwB_no (by omega)]
    have e1 : decide (lo ≤ n) = false := decide_eq_false h1
    clear h1
    go_enter Try.func21, Try.ntmps21
    go_wp2
    go_ret
    exact ⟨rfl, rfl⟩
noncomputable def stB (s : Int) : Bool := @decide (okS s) (Classical.propDecidable _)
noncomputable def cgB (t : Int) : Bool := @decide (okC t) (Classical.propDecidable _)
theorem stB_iff {s : Int} : stB s = true ↔ okS s := by unfold stB; exact @decide_eq_true_iff _ (Classical.propDecidable _)
theorem cgB_iff {s : Int} : cgB s = true ↔ okC s := by unfold cgB; exact @decide_eq_true_iff _ (Classical.propDecidable _)
set_option maxHeartbeats 400000 in
theorem status_calls (s : Int) (w : World) : Calls Try.prog 22 #[.int .i64 s] w fun e w' => e = .returned (.bool (stB s)) ∧ w = w' := by
  by_cases h : okS s
  · rw [stB_iff.2 h]
    unfold okS at h
    rcases h with rfl | rfl | rfl | rfl | rfl
    all_goals
      go_enter Try.func22, Try.ntmps22
      go_wp2
      go_ret
      exact ⟨rfl, rfl⟩
  · have e : stB s = false := by
      cases hb : stB s with
      | false => rfl
      | true => exact absurd (stB_iff.1 hb) h
    rw [e]
    unfold okS at h
    have e1 : (s == 0) = false := beq_eq_false_iff_ne.2 (by omega)
    have e2 : (s == 256) = false := beq_eq_false_iff_ne.2 (by omega)
    have e3 : (s == 257) = false := beq_eq_false_iff_ne.2 (by omega)
    have e4 : (s == 259) = false := beq_eq_false_iff_ne.2 (by omega)
    have e5 : (s == 273) = false := beq_eq_false_iff_ne.2 (by omega)
    clear h e
    go_enter Try.func22, Try.ntmps22
    go_wp2
    go_ret
    exact ⟨rfl, rfl⟩
theorem cgB_eq (t : Int) : cgB t = (btwB t 0 3 || btwB t 16 19) := by
  rw [Bool.eq_iff_iff, cgB_iff, Bool.or_eq_true]
  unfold btwB okC
  rw [decide_eq_true_iff, decide_eq_true_iff]
  omega
set_option maxHeartbeats 400000 in
theorem changed_calls (t : Int) (w : World) : Calls Try.prog 23 #[.int .i64 t] w fun e w' => e = .returned (.bool (cgB t)) ∧ w = w' := by
  have H1 := Lib.hid (between_calls t 0 3)
  have H2 := Lib.hid (between_calls t 16 19)
  rw [cgB_eq]
  generalize btwB t 0 3 = a at *
  generalize btwB t 16 19 = b at *
  go_enter Try.func23, Try.ntmps23
  go_wp2_with fail
  refine (H1.out _).mono ?_
  rintro en w1 ⟨rfl, rfl⟩
  cases a with
  | true =>
    go_wp2_with fail
    go_ret
    exact ⟨rfl, rfl⟩
  | false =>
    go_wp2_with fail
    refine (H2.out _).mono ?_
    rintro en w1 ⟨rfl, rfl⟩
    go_wp2_with fail
    go_ret
    exact ⟨rfl, rfl⟩
def RefIs (c : Int) (ps : List Int) (w : World) (e : Ending) (w' : World) : Prop := ∃ n : Int, e = .returned (.int .i64 n) ∧ (n = 0 ↔ RightH c ps) ∧ Below w.heap.size w w'
set_option maxHeartbeats 1600000 in
theorem ref_calls (c : Int) (ps : List Int) (hl : ps.length = 32) (hfit : Fit ps) (w : World) : Calls Try.prog 14 #[HV c ps] w (RefIs c ps w) := by
  have hbox0 : HBox w.heap.size c ps (w.alloc (.cells (Kt.ia .i64 (c :: ps)) 26)) := heap_alloc_new w _
  have hc0 := hbox0.count
  have hr0 := hbox0.ports hl
  have hs0 := ports_size ps hl
  have HBX := Lib.hid hbox0; clear hbox0
  have HIX := Lib.hid (port_index ps hl)
  unfold HV
  go_enter Try.func14, Try.ntmps14
  go_wp2_with fail
  refine (between_calls _ _ _ _).mono ?_
  rintro en w1 ⟨rfl, rfl⟩
  by_cases hcc : 1 ≤ c ∧ c ≤ 15
  rotate_left
  · rw [btwB_no hcc]
    have HN := Lib.hid (show ¬ RightH c ps from fun r => hcc ⟨r.c1, r.c2⟩)
    clear hcc
    go_wp2_with fail
    go_ret
    exact ⟨1, rfl, ⟨fun h => absurd h (by omega), fun h => absurd h HN.out⟩, Kt.balloc (Below.refl _ w) _⟩
  rw [btwB_yes hcc.1 hcc.2]
  have HCC := Lib.hid hcc
  clear hcc
  go_wp2_with (refine wpList_load_mid rfl 24 (.tmp 9) rfl w.heap.size 1 rfl _ _ hr0 Try.underlying24 rfl hs0 ?_)
  go_loopw [11] (fun i wr => ∃ k : Nat, k ≤ 16 ∧ i = .int .i64 k ∧ Hid (∀ j, j < k → okAt c ps j) ∧ HBox w.heap.size c ps wr ∧ Below w.heap.size w wr) (fun i _ => 16 - (intOf i).toNat)
  case atStart => exact ⟨0, by omega, rfl, Lib.hid fun j h => absurd h (by omega), HBX.out, Kt.balloc (Below.refl _ w) _⟩
  case round =>
    clear hc0 hr0 hs0
    obtain ⟨k, hk, rfl, HF, hbox, hbel⟩ := hrel
    by_cases hlt : k < 16
    · have hix := HIX.out k hlt
      have HS := Lib.hid (show ps.getD (k * 2) 0 = ps[k * 2]'(by omega) ∧ ps.getD (k * 2 + 1) 0 = ps[k * 2 + 1]'(by omega) by
        rw [List.getD_eq_getElem?_getD, List.getD_eq_getElem?_getD, List.getElem?_eq_getElem (show k * 2 < ps.length by omega), List.getElem?_eq_getElem (show k * 2 + 1 < ps.length by omega)]; exact ⟨rfl, rfl⟩)
      generalize ps[k * 2]'(by omega) = s at *
      generalize ps[k * 2 + 1]'(by omega) = t at *
      have hc := hbox.count
      have hsz : w.heap.size < wr.heap.size := (Array.getElem?_eq_some_iff.1 hbox).1
      have hcA : (wr.alloc (.cells #[.int .i64 s, .int .i64 t] 23)).cell? ⟨w.heap.size, 0, none⟩ = some (.int .i64 c) := (World.cell?_alloc_lt _ _ _ hsz).trans hc
      have hboxA : HBox w.heap.size c ps (wr.alloc (.cells #[.int .i64 s, .int .i64 t] 23)) := (Below.heap_alloc _ _ _ hsz).trans hbox
      have hbelA : Below w.heap.size w (wr.alloc (.cells #[.int .i64 s, .int .i64 t] 23)) := Kt.balloc hbel _
      have HBXA := Lib.hid hboxA; clear hboxA hbox
      have HNO := Lib.hid (show ¬ okAt c ps k → ¬ RightH c ps from fun a b => a (b.ok k hlt))
      have HOK := Lib.hid (show okAt c ps k ↔ (rightP s t ∧ ((k = 0 ∨ c < k) → s = 0 ∧ t = 0)) by unfold okAt; rw [HS.out.1, HS.out.2])
      go_wp2_with fail
      refine (status_calls _ _).mono ?_
      rintro en w1 ⟨rfl, rfl⟩
      cases hst : stB s with
      | false =>
        have HN := Lib.hid (HNO.out fun a => by have := stB_iff.2 (HOK.out.1 a).1.1; rw [hst] at this; cases this)
        clear hst
        go_wp2_with fail
        go_ret
        exact ⟨4, rfl, ⟨fun h => absurd h (by omega), fun h => absurd h HN.out⟩, hbelA⟩
      | true =>
        have H1 := Lib.hid (stB_iff.1 hst)
        clear hst
        go_wp2_with fail
        refine (changed_calls _ _).mono ?_
        rintro en w1 ⟨rfl, rfl⟩
        cases hct : cgB t with
        | false =>
          have HN := Lib.hid (HNO.out fun a => by have := cgB_iff.2 (HOK.out.1 a).1.2; rw [hct] at this; cases this)
          clear hct
          go_wp2_with fail
          go_ret
          exact ⟨4, rfl, ⟨fun h => absurd h (by omega), fun h => absurd h HN.out⟩, hbelA⟩
        | true =>
          have H2 := Lib.hid (cgB_iff.1 hct)
          clear hct
          go_wp2_with fail
          refine (between_calls _ _ _ _).mono ?_
          rintro en w1 ⟨rfl, rfl⟩
          by_cases hkc : (1 : Int) ≤ k ∧ (k : Int) ≤ c
          · rw [btwB_yes hkc.1 hkc.2]
            have HNX := Lib.hid (show ∀ j, j < k + 1 → okAt c ps j from fun j hj => by
              by_cases e : j = k
              · subst e; exact HOK.out.2 ⟨⟨H1.out, H2.out⟩, fun h => by omega⟩
              · exact HF.out j (by omega))
            clear hkc
            go_wp2_with fail
            go_roundw
            case rel => exact ⟨k + 1, by omega, by go_num, HNX, HBXA.out, hbelA⟩
            case measure => (simp [intOf] <;> omega)
          · rw [btwB_no hkc]
            have HOUT : Hid (k = 0 ∨ c < k) := Lib.hid (by omega)
            clear hkc
            have HB : Hid (0 ≤ s ∧ s ≤ 273 ∧ 0 ≤ t ∧ t ≤ 19) := Lib.hid (by have := H1.out; have := H2.out; unfold okS okC at *; omega)
            obtain ⟨q1, q2, q3, q4⟩ := HB.out
            by_cases hz : s + t = 0
            · obtain rfl : s = 0 := by omega
              obtain rfl : t = 0 := by omega
              have HNX := Lib.hid (show ∀ j, j < k + 1 → okAt c ps j from fun j hj => by
                by_cases e : j = k
                · subst e; exact HOK.out.2 ⟨⟨H1.out, H2.out⟩, fun h => ⟨rfl, rfl⟩⟩
                · exact HF.out j (by omega))
              clear q1 q2 q3 q4 hz
              go_wp2_with fail
              go_roundw
              case rel => exact ⟨k + 1, by omega, by go_num, HNX, HBXA.out, hbelA⟩
              case measure => (simp [intOf] <;> omega)
            · have e9 : (s + t != 0) = true := by rw [bne_iff_ne]; exact hz
              have HN := Lib.hid (HNO.out fun a => by have := (HOK.out.1 a).2 HOUT.out; omega)
              clear hz
              go_wp2_with fail
              go_ret
              exact ⟨4, rfl, ⟨fun h => absurd h (by omega), fun h => absurd h HN.out⟩, hbelA⟩
    · obtain rfl : k = 16 := by omega
      have HR := Lib.hid (show RightH c ps from ⟨HCC.out.1, HCC.out.2, HF.out⟩)
      go_wp2_with fail
      go_ret
      exact ⟨0, rfl, ⟨fun _ => HR.out, fun _ => rfl⟩, hbel⟩
end Go.Proofs.Ytijolofnmccolaa
