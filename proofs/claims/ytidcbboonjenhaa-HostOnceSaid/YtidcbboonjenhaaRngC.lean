/- The walks of package ring: Check. -/
import Derived.Test.YtidcbboonjenhaaRngW
namespace Go.Proofs.Ytidcbboonjenhaa
open Go.RowKit
theorem bit_calls (b : Int) (w : World) : Calls Try.prog 53 #[.int .i64 b] w fun e w' => e = .returned (.bool (bitB b)) ∧ w = w' := by
  by_cases h : b = 0
  · subst h
    go_enter Try.func53, Try.ntmps53
    go_wp2
    go_ret
    exact ⟨rfl, rfl⟩
  · have h0 : (b == 0) = false := beq_eq_false_iff_ne.2 h
    have e : bitB b = (b == 1) := by unfold bitB; rw [h0]; rfl
    rw [e]
    clear e h
    go_enter Try.func53, Try.ntmps53
    go_wp2
    go_ret
    exact ⟨rfl, rfl⟩
theorem at_calls (n : Nat) (k : Int) (b : Nat) (w : World) (hn : n ≤ 1048576) (hc : w.cell? ⟨b, 0, none⟩ = some (.int .i64 n)) :
    Calls Try.prog 54 #[.int .i64 k, .pointer (some ⟨b, 0, none⟩)] w fun e w' => e = .returned (.bool (atB n k)) ∧ w = w' := by
  by_cases h : 0 ≤ k
  · have e : atB n k = decide (k < (n : Int) - 1) := by unfold atB; rw [decide_eq_true h]; rfl
    rw [e]
    go_enter Try.func54, Try.ntmps54
    go_wp2
    go_ret
    exact ⟨rfl, rfl⟩
  · have h0 : decide (0 ≤ k) = false := decide_eq_false h
    have e : atB n k = false := by unfold atB; rw [h0]; rfl
    rw [e]
    go_enter Try.func54, Try.ntmps54
    go_wp2
    go_ret
    exact ⟨rfl, rfl⟩
/-- what Check leaves -/
def Chk (r : Rg) (w : World) (e : Ending) (w' : World) : Prop := ∃ n : Int, e = .returned (.int .i64 n) ∧ (n = 0 ↔ Right r) ∧ Below w.heap.size w w'
set_option maxHeartbeats 800000 in
theorem check_size (V : Value) (r : Rg) (w : World) (h : RA w V r) (hn : r.cs.length ≤ 1048576) (hs : (r.cs.length : Int) < 3 ∨ (3 ≤ (r.cs.length : Int) ∧ (64 : Int) < r.cs.length)) : Calls Try.prog 45 #[V] w (Chk r w) := by
  obtain ⟨C, rfl, hC⟩ := h
  obtain ⟨A, c, rfl, _, _⟩ := hC.form
  have HN := Lib.hid (show ¬ Right r from fun hr => by have := hr.lo; have := hr.hi; omega)
  unfold rgV
  clear hC
  rcases hs with hs | ⟨hs, hs2⟩
  all_goals
    go_enter Try.func45, Try.ntmps45
    go_wp2_with fail
    go_ret
    refine ⟨1, rfl, ⟨fun h => absurd h (by omega), fun h => absurd h HN.out⟩, ?_⟩
    repeat (first | exact Below.refl _ _ | refine Kt.bset ?_ (by simp) _ | refine Kt.balloc ?_ _)
def Fine (r : Rg) (k : Nat) : Prop := ∀ i (h : i < r.cs.length), i < k → fineC r.cs.length i r.cs[i] = true
set_option maxHeartbeats 1600000 in
theorem check_main (V : Value) (r : Rg) (w : World) (h : RA w V r) (hlo : 3 ≤ r.cs.length) (hhi : r.cs.length ≤ 64) : Calls Try.prog 45 #[V] w (Chk r w) := by
  obtain ⟨C, rfl, hC⟩ := h
  have hC0 := hC
  obtain ⟨A, c, rfl, hcl, hcells⟩ := hC.form
  obtain ⟨b, o, rfl, hb, hcell⟩ := hcells (by omega)
  have HCELL := Lib.hid hcell; clear hcell
  unfold rgV
  clear hC hcells
  have d1 : (3 : Int) ≤ r.cs.length := by omega
  have d2 : (r.cs.length : Int) ≤ 64 := by omega
  go_enter Try.func45, Try.ntmps45
  go_wp2_with fail
  go_loopw [21] (fun i wr => ∃ k : Nat, k ≤ r.cs.length ∧ i = .int .i64 k ∧ Fine r k ∧ wr.heap[w.heap.size]? = some (.cells #[.slice (some ⟨b, o, none⟩) r.cs.length c, .int .i64 r.pa, .int .i64 r.pb, .int .i64 r.ga, .int .i64 r.gb, .int .i64 r.sn] 37 (0, 0)) ∧ wr.heap[w.heap.size + 1]? = some (.cells #[.int .i64 r.cs.length] 3 (0, 0)) ∧ Below w.heap.size w wr) (fun i _ => r.cs.length - (intOf i).toNat)
  case atStart => exact ⟨0, Nat.zero_le _, rfl, fun i _ h => absurd h (by omega), (Kt.box2 (Below.refl _ _)).1, (Kt.box2 (Below.refl _ _)).2, Kt.balloc (Kt.balloc (Below.refl _ w) _) _⟩
  case round =>
    obtain ⟨k, hk, rfl, hfine, r0, r1, hbel⟩ := hrel
    have HF := Lib.hid hfine; clear hfine
    have c0 := fun i => cell_of_row _ _ i _ _ _ r0
    have f0 := fun i => frozen_of_row _ _ i _ _ r0
    have c1 := fun i => cell_of_row _ _ i _ _ _ r1
    have f1 := fun i => frozen_of_row _ _ i _ _ r1
    have hz : w.heap.size + 1 < wr.heap.size := (Array.getElem?_eq_some_iff.1 r1).1
    by_cases hlt : k < r.cs.length
    · obtain ⟨x, hx⟩ : ∃ x, x = r.cs[k] := ⟨_, rfl⟩
      obtain ⟨x1, x2, x3⟩ := x
      have g : ∀ j (hj : j < 3), wr.cell? ⟨b, o + (k * 3 + j), none⟩ = (cv (x1, x2, x3))[j]? := fun j hj => by
        rw [hbel.cell (p := ⟨b, o + (k * 3 + j), none⟩) hb, HCELL.out (k * 3 + j) (by rw [cvs_len]; omega), ← List.getElem?_eq_getElem, cvs_get _ _ _ hj, List.getElem?_eq_getElem hlt, ← hx]; rfl
      have g0 : wr.cell? ⟨b, o + k * 3, none⟩ = some (.int .u64 x1) := g 0 (by omega)
      have g1 : wr.cell? ⟨b, o + k * 3 + 1, none⟩ = some (.int .i64 x2) := g 1 (by omega)
      have g2 : wr.cell? ⟨b, o + k * 3 + 2, none⟩ = some (.bool x3) := g 2 (by omega)
      clear g
      have HX := Lib.hid hx; clear hx
      by_cases hk1 : k + 1 = r.cs.length
      · have he : ((k : Int) == (r.cs.length : Int) - 1) = true := by rw [beq_iff_eq]; omega
        cases x3 with
        | false =>
          have HN := Lib.hid (show ¬ Right r from fun hr => by have := hr.fine k hlt; rw [← HX.out] at this; simp [fineC] at this; omega)
          go_wp2_with fail
          go_ret
          refine ⟨4, rfl, ⟨fun h => absurd h (by omega), fun h => absurd h HN.out⟩, ?_⟩
          repeat (first | exact hbel | refine Kt.bset ?_ (by simp) _ | refine Kt.balloc ?_ _)
        | true =>
          have HG := Lib.hid (show fineC r.cs.length k r.cs[k] = bitB x2 by rw [← HX.out]; simp [fineC]; omega)
          go_wp2_with fail
          refine (bit_calls x2 _).mono ?_
          rintro en w' ⟨rfl, rfl⟩
          cases hbit : bitB x2 with
          | true =>
            have HG2 := Lib.hid (HG.out.trans hbit); clear hbit
            go_wp2_with fail
            go_roundw
            case rel =>
              refine ⟨k + 1, by omega, by go_num, fun i hi hik => ?_, ?_, ?_, ?_⟩
              · by_cases e : i = k
                · subst e; exact HG2.out
                · exact HF.out i hi (by omega)
              · exact (Below.heap_alloc _ _ _ (by omega)).trans r0
              · exact (Below.heap_alloc _ _ _ (by omega)).trans r1
              · repeat (first | exact hbel | refine Kt.bset ?_ (by simp) _ | refine Kt.balloc ?_ _)
            case measure => simp [intOf]; omega
          | false =>
            have HN := Lib.hid (show ¬ Right r from fun hr => by have h1 := hr.fine k hlt; rw [HG.out, hbit] at h1; cases h1); clear hbit
            go_wp2_with fail
            go_ret
            refine ⟨4, rfl, ⟨fun h => absurd h (by omega), fun h => absurd h HN.out⟩, ?_⟩
            repeat (first | exact hbel | refine Kt.bset ?_ (by simp) _ | refine Kt.balloc ?_ _)
      · have he : ((k : Int) == (r.cs.length : Int) - 1) = false := by rw [beq_eq_false_iff_ne]; omega
        cases x3 with
        | true =>
          have HN := Lib.hid (show ¬ Right r from fun hr => by have := hr.fine k hlt; rw [← HX.out] at this; simp [fineC] at this; omega)
          go_wp2_with fail
          go_ret
          refine ⟨4, rfl, ⟨fun h => absurd h (by omega), fun h => absurd h HN.out⟩, ?_⟩
          repeat (first | exact hbel | refine Kt.bset ?_ (by simp) _ | refine Kt.balloc ?_ _)
        | false =>
          have HG := Lib.hid (show fineC r.cs.length k r.cs[k] = bitB x2 by rw [← HX.out]; simp [fineC]; omega)
          go_wp2_with fail
          refine (bit_calls x2 _).mono ?_
          rintro en w' ⟨rfl, rfl⟩
          cases hbit : bitB x2 with
          | true =>
            have HG2 := Lib.hid (HG.out.trans hbit); clear hbit
            go_wp2_with fail
            go_roundw
            case rel =>
              refine ⟨k + 1, by omega, by go_num, fun i hi hik => ?_, ?_, ?_, ?_⟩
              · by_cases e : i = k
                · subst e; exact HG2.out
                · exact HF.out i hi (by omega)
              · exact (Below.heap_alloc _ _ _ (by omega)).trans r0
              · exact (Below.heap_alloc _ _ _ (by omega)).trans r1
              · repeat (first | exact hbel | refine Kt.bset ?_ (by simp) _ | refine Kt.balloc ?_ _)
            case measure => simp [intOf]; omega
          | false =>
            have HN := Lib.hid (show ¬ Right r from fun hr => by have h1 := hr.fine k hlt; rw [HG.out, hbit] at h1; cases h1); clear hbit
            go_wp2_with fail
            go_ret
            refine ⟨4, rfl, ⟨fun h => absurd h (by omega), fun h => absurd h HN.out⟩, ?_⟩
            repeat (first | exact hbel | refine Kt.bset ?_ (by simp) _ | refine Kt.balloc ?_ _)
    · obtain rfl : k = r.cs.length := by omega
      have hn1 : r.cs.length - 1 < r.cs.length := by omega
      obtain ⟨x, hx⟩ : ∃ x, x = r.cs[r.cs.length - 1] := ⟨_, rfl⟩
      obtain ⟨x1, x2, x3⟩ := x
      have g0 : wr.cell? ⟨b, o + (r.cs.length - 1) * 3, none⟩ = some (.int .u64 x1) := by
        have h := HCELL.out ((r.cs.length - 1) * 3 + 0) (by rw [cvs_len]; omega)
        rw [← List.getElem?_eq_getElem, cvs_get _ _ _ (by omega), List.getElem?_eq_getElem hn1, ← hx] at h
        rw [hbel.cell (p := ⟨b, o + (r.cs.length - 1) * 3, none⟩) hb]
        exact h
      have HX := Lib.hid hx; clear hx
      have e1 : ((r.cs.length : Int) - 1).toNat = r.cs.length - 1 := by omega
      go_wp2_with fail
      refine (bit_calls _ _).mono ?_
      rintro en w' ⟨rfl, rfl⟩
      cases h1 : bitB r.pb with
      | false =>
        have HN := Lib.hid (show ¬ Right r from fun hr => by have h := hr.pb; rw [h1] at h; cases h)
        go_wp2_with fail
        go_ret
        refine ⟨4, rfl, ⟨fun h => absurd h (by omega), fun h => absurd h HN.out⟩, ?_⟩
        repeat (first | exact hbel | refine Kt.bset ?_ (by simp) _ | refine Kt.balloc ?_ _)
      | true =>
        have H1 := Lib.hid h1; clear h1
        go_wp2_with fail
        refine (bit_calls _ _).mono ?_
        rintro en w' ⟨rfl, rfl⟩
        cases h2 : bitB r.gb with
        | false =>
          have HN := Lib.hid (show ¬ Right r from fun hr => by have h := hr.gb; rw [h2] at h; cases h)
          go_wp2_with fail
          go_ret
          refine ⟨4, rfl, ⟨fun h => absurd h (by omega), fun h => absurd h HN.out⟩, ?_⟩
          repeat (first | exact hbel | refine Kt.bset ?_ (by simp) _ | refine Kt.balloc ?_ _)
        | true =>
          have H2 := Lib.hid h2; clear h2
          by_cases hz0 : x1 = 0
          · subst hz0
            go_wp2_with fail
            refine (at_calls r.cs.length _ _ _ (by omega) (c1 0)).mono ?_
            rintro en w' ⟨rfl, rfl⟩
            cases h3 : atB r.cs.length r.pa with
            | false =>
              have HN := Lib.hid (show ¬ Right r from fun hr => by have h := hr.pa; simp [atB] at h3; omega)
              go_wp2_with fail
              go_ret
              refine ⟨4, rfl, ⟨fun h => absurd h (by omega), fun h => absurd h HN.out⟩, ?_⟩
              repeat (first | exact hbel | refine Kt.bset ?_ (by simp) _ | refine Kt.balloc ?_ _)
            | true =>
              have H3 := Lib.hid h3; clear h3
              go_wp2_with fail
              refine (at_calls r.cs.length _ _ _ (by omega) (c1 0)).mono ?_
              rintro en w' ⟨rfl, rfl⟩
              cases h4 : atB r.cs.length r.ga with
              | false =>
                have HN := Lib.hid (show ¬ Right r from fun hr => by have h := hr.ga; simp [atB] at h4; omega)
                go_wp2_with fail
                go_ret
                refine ⟨4, rfl, ⟨fun h => absurd h (by omega), fun h => absurd h HN.out⟩, ?_⟩
                repeat (first | exact hbel | refine Kt.bset ?_ (by simp) _ | refine Kt.balloc ?_ _)
              | true =>
                have H4 := Lib.hid h4; clear h4
                go_wp2_with fail
                refine (at_calls r.cs.length _ _ _ (by omega) (c1 0)).mono ?_
                rintro en w' ⟨rfl, rfl⟩
                cases h5 : atB r.cs.length r.sn with
                | false =>
                  have HN := Lib.hid (show ¬ Right r from fun hr => by have h := hr.sn; simp [atB] at h5; omega)
                  go_wp2_with fail
                  go_ret
                  refine ⟨4, rfl, ⟨fun h => absurd h (by omega), fun h => absurd h HN.out⟩, ?_⟩
                  repeat (first | exact hbel | refine Kt.bset ?_ (by simp) _ | refine Kt.balloc ?_ _)
                | true =>
                  have H5 := Lib.hid h5; clear h5
                  have HR := Lib.hid (show Right r from ⟨hlo, hhi, fun i hi => HF.out i hi hi, H1.out, H2.out, by rw [List.getElem?_eq_getElem hn1, ← HX.out]; rfl, by have := H3.out; simp [atB] at this; omega, by have := H4.out; simp [atB] at this; omega, by have := H5.out; simp [atB] at this; omega⟩)
                  go_wp2_with fail
                  go_ret
                  exact ⟨0, rfl, ⟨fun _ => HR.out, fun _ => rfl⟩, hbel⟩
          · have hz1 : (x1 != 0) = true := by rw [bne_iff_ne]; exact hz0
            have HN := Lib.hid (show ¬ Right r from fun hr => by have h := hr.zero; rw [List.getElem?_eq_getElem hn1, ← HX.out] at h; simp at h; exact hz0 h)
            go_wp2_with fail
            go_ret
            refine ⟨4, rfl, ⟨fun h => absurd h (by omega), fun h => absurd h HN.out⟩, ?_⟩
            repeat (first | exact hbel | refine Kt.bset ?_ (by simp) _ | refine Kt.balloc ?_ _)
theorem rchk_calls (V : Value) (r : Rg) (w : World) (h : RA w V r) (hn : r.cs.length ≤ 1048576) : Calls Try.prog 45 #[V] w (Chk r w) := by
  by_cases h1 : 3 ≤ r.cs.length
  · by_cases h2 : r.cs.length ≤ 64
    · exact check_main V r w h h1 h2
    · exact check_size V r w h hn (.inr ⟨by omega, by omega⟩)
  · exact check_size V r w h hn (.inl (by omega))
theorem check_right (V : Value) (r : Rg) (w : World) (h : RA w V r) (hr : Right r) : Calls Try.prog 45 #[V] w fun e w' => e = .returned (.int .i64 0) ∧ Below w.heap.size w w' :=
  (check_main V r w h hr.lo hr.hi).mono fun e w' ⟨n, h1, h2, h3⟩ => ⟨by rw [h1, h2.2 hr], h3⟩
end Go.Proofs.Ytidcbboonjenhaa
