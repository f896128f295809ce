/- The laws of package strike, walked: Three. -/
import Derived.Test.YtfkbphfmchjacaaStkM
namespace Go.Proofs.Ytfkbphfmchjacaa
open Go.RowKit
theorem backC_take {fs : List Int} {k : Nat} (hk : k < fs.length) : backC (fs.take (k + 1)) = if fs[k] = 1 then 0 else if fs[k] = 4 then backC (fs.take k) else backC (fs.take k) + 1 := by
  rw [List.take_succ_eq_append_getElem hk, backC_snoc]
set_option maxHeartbeats 1600000 in
theorem three_walk (v0 v1 v2 : Value) (w : World) (r0 : Fr.RdV w reachBytes .string v0) (r1 : Fr.RdV w reachBytes (.int .i64) v1) (r2 : Fr.RdV w reachBytes (.slice 1 (.int .i64)) v2) :
    Calls Try.prog 4 #[v0, v1, v2] w fun e w' => e = .returned (.bool true) ∧ Below w.heap.size w w' := by
  obtain ⟨t, e, ht⟩ := r0; cases e
  obtain ⟨s, e, hs⟩ := r1; cases e
  obtain ⟨fs, hfl, _, hU⟩ := Kt.ar_ints r2
  have HC := Lib.hid (carry_calls t s fs v2 w hU)
  obtain ⟨UA, uc, rfl, huc, hcells⟩ := hU.form
  have HCELLS := Lib.hid hcells
  clear hU hcells
  go_enter Try.func4, Try.ntmps4
  go_wp2_with fail
  refine HC.out.mono ?_
  rintro en w1 (⟨hok, rfl, hb⟩ | ⟨hno, n, hn, rfl, hb⟩)
  · have HOK := Lib.hid hok
    have s1 := hok.s1
    have h1000 := hok.f
    have HT := Lib.hid (told_of hok)
    have HR := Lib.hid (car_res (show 1 ≤ s.toNat by omega) t fs)
    obtain ⟨R, hR⟩ : ∃ R, carF (p0 (chop s.toNat t)) 0 0 fs = R := ⟨_, rfl⟩
    rw [hR] at HT HR ⊢
    clear hR hok
    obtain ⟨code, got, done, used, e, hT⟩ := HT.out
    rw [e]
    have HE : Hid (R.1 = code ∧ R.2.2 = used) := Lib.hid (by unfold carOf carV at e; simp at e; exact ⟨e.1, by omega⟩)
    clear HT hT e
    have hus : used ≤ fs.length := by have := HR.out.hi; rw [HE.out.2] at this; omega
    go_wp2_with fail
    refine (lives_calls _).mono ?_
    rintro en w2 ⟨rfl, hb2⟩
    have hrow := Kt.box1 hb2
    have hc := fun i => cell_of_row _ _ i _ _ _ hrow
    have hbb := Kt.bthen (Kt.balloc hb _) hb2
    have hz2 : w1.heap.size < w2.heap.size := by have := hb2.size; rw [World.size_alloc] at this; omega
    clear hb2 hb
    by_cases h10 : code = 10
    · subst h10
      have HU1 : Hid (used = fs.length) := Lib.hid (by rw [← HE.out.2, HR.out.time HE.out.1]; omega)
      obtain rfl := HU1.out
      go_wp2_with fail
      refine (lives_calls _).mono ?_
      rintro en w3 ⟨rfl, hb3⟩
      have hrow3 := Kt.row_on hb3 hrow
      have hc3 := fun i => cell_of_row _ _ i _ _ _ hrow3
      clear hc
      go_wp2_with fail
      go_ret
      exact ⟨rfl, Kt.bthen hbb hb3⟩
    · have HU : Hid (1 ≤ used) := Lib.hid (by have := HR.out.one (by rw [HE.out.1]; exact h10); rw [HE.out.2] at this; omega)
      have h10b : (code == 10) = false := by rw [beq_eq_false_iff_ne]; exact h10
      obtain ⟨u, hu⟩ : ∃ u, used = u + 1 := ⟨used - 1, by have := HU.out; omega⟩
      subst hu
      have hlt : u < fs.length := by omega
      obtain ⟨f, hf, hl8, hl0, hl9, hn8⟩ := HR.out.last (by rw [HE.out.1]; exact h10)
      rw [HE.out.1] at hl8 hl0 hl9 hn8
      rw [HE.out.2, show u + 1 - 0 - 1 = u by omega] at hf
      obtain ⟨tb, tq, rfl, htb, htx⟩ := HCELLS.out (by omega)
      have HX : Hid (∀ k (hk : k < fs.length), w2.cell? ⟨tb, tq + k, none⟩ = some (.int .i64 fs[k])) := Lib.hid fun k hk => (hbb.cell (p := ⟨tb, tq + k, none⟩) htb).trans ((htx k (by simpa using hk)).trans (by simp))
      have hcell : w2.cell? ⟨tb, tq + u, none⟩ = some (.int .i64 f) := by rw [HX.out u hlt, (List.getElem?_eq_some_iff.1 hf).2]
      clear htx
      have HF := Lib.hid hf
      clear hf h10
      have hcode := HR.out.code
      rw [HE.out.1] at hcode
      have h10c : (code == 10) = false := h10b
      have H8 := Lib.hid hl8; have H0 := Lib.hid hl0; have H9 := Lib.hid hl9
      clear hl8 hl0 hl9 hn8
      rcases hcode with rfl | rfl | rfl | rfl
      · obtain rfl := H0.out rfl
        go_wp2_with fail
        go_ret
        exact ⟨rfl, hbb⟩
      · obtain rfl := H8.out rfl
        go_wp2_with fail
        go_ret
        exact ⟨rfl, hbb⟩
      · have HLAST := Lib.hid (H9.out rfl)
        have HB : Hid (backC (fs.take (u + 1)) = 3) := Lib.hid (by
          have h := HR.out.bus HE.out.1
          rw [HE.out.2, show u + 1 - 0 = u + 1 by omega, errs_back] at h
          · omega
          · intro g hg
            obtain ⟨i, hi, rfl⟩ := List.mem_iff_getElem.1 hg
            rw [List.length_take] at hi
            rw [List.getElem_take]
            have h1 := HOK.out.all i (by omega)
            have h2 : fs[i]'(by omega) ≠ 5 := by
              by_cases e : i = u
              · subst e
                rw [(List.getElem?_eq_some_iff.1 HF.out).2]
                have := HLAST.out; omega
              · exact HR.out.no5 i _ (by rw [HE.out.2]; omega) (List.getElem?_eq_getElem (by omega))
            unfold fated at h1
            omega)
        go_wp2_with fail
        go_loop [10, 11] (fun nn ii => ∃ (j n : Nat), j ≤ u + 1 ∧ ii = .int .i64 ((j : Int) - 1) ∧ nn = .int .i64 n ∧ n ≤ 3 ∧ Hid (n + backC (fs.take j) = 3)) (fun _ ii => (intOf ii + 1).toNat)
        case atStart => exact ⟨u + 1, 0, Nat.le_refl _, by go_num, rfl, by omega, Lib.hid (by have := HB.out; omega)⟩
        case round =>
          obtain ⟨j, n, hj, rfl, rfl, hn3, HINV⟩ := hrel
          cases j with
          | zero =>
            have : n = 3 := by have := HINV.out; simp [backC] at this; exact this
            subst this
            have e0 : ((0 : Nat) : Int) - 1 = -1 := by decide
            rw [e0]
            rcases HLAST.out with rfl | rfl
            all_goals
              go_wp2_with fail
              go_ret
              exact ⟨rfl, hbb⟩
          | succ m =>
            have hm : m < fs.length := by omega
            have hcm := HX.out m hm
            have HBT := Lib.hid (backC_take hm)
            have e0 : ((m + 1 : Nat) : Int) - 1 = m := by omega
            rw [e0]
            generalize fs[m] = g at *
            by_cases g1 : g = 1
            · subst g1
              have : n = 3 := by have := HINV.out; rw [HBT.out, if_pos rfl] at this; omega
              subst this
              rcases HLAST.out with rfl | rfl
              all_goals
                go_wp2_with fail
                go_ret
                exact ⟨rfl, hbb⟩
            · have g1b : (g != 1) = true := by rw [bne_iff_ne]; exact g1
              by_cases g4 : g = 4
              · subst g4
                have HN := Lib.hid (show n + backC (fs.take m) = 3 by have := HINV.out; rw [HBT.out, if_neg (by decide), if_pos rfl] at this; exact this)
                go_wp2_with fail
                go_round
                case rel => exact ⟨m, n, by omega, rfl, rfl, hn3, HN⟩
                case measure => (simp [intOf] <;> omega)
              · have g4b : (g != 4) = true := by rw [bne_iff_ne]; exact g4
                have HN := Lib.hid (show n + 1 + backC (fs.take m) = 3 by have := HINV.out; rw [HBT.out, if_neg g1, if_neg g4] at this; omega)
                clear g1 g4
                go_wp2_with fail
                go_round
                case rel => exact ⟨m, n + 1, by omega, rfl, by go_num, by have := HN.out; omega, HN⟩
                case measure => (simp [intOf] <;> omega)
      · simp at h10c
  · have hne : (n != 0) = true := by rw [bne_iff_ne]; exact hn
    clear hn
    unfold carV
    go_wp2_with fail
    refine (lives_calls _).mono ?_
    rintro en w2 ⟨rfl, hb2⟩
    have hbb := Kt.bthen (Kt.balloc hb _) hb2
    clear hb2
    go_wp2_with fail
    refine (lives_calls _).mono ?_
    rintro en w3 ⟨rfl, hb3⟩
    go_wp2_with fail
    go_ret
    exact ⟨rfl, Kt.bthen hbb hb3⟩
end Go.Proofs.Ytfkbphfmchjacaa
