/- The laws of package strike, walked: Well. -/
import Derived.Test.YtfkbphfmchjacaaStkL
namespace Go.Proofs.Ytfkbphfmchjacaa
open Go.RowKit
/-- no strikes till here -/
structure Clm (fs : List Int) (k : Nat) (row good : Int) : Prop where
  rowE : row = (fs.take k).foldl errs 0
  goodE : good = goods (fs.take k)
  no5 : ∀ f ∈ fs.take k, f ≠ 5
  no3 : ∀ j, j < k → (fs.take (j + 1)).foldl errs 0 ≠ 3
  lo : 0 ≤ row
  hi : row ≤ 2
theorem goods_snoc (l : List Int) (f : Int) : goods (l ++ [f]) = goods l + if f = 1 then 1 else 0 := by
  unfold goods
  by_cases h : f = 1
  · simp [h]
  · simp [h]
theorem goods_le (l : List Int) : goods l ≤ l.length := List.length_filter_le _ _
theorem Clm.next {fs : List Int} {k : Nat} {row good : Int} (h : Clm fs k row good) (hk : k < fs.length) (h5 : fs[k] ≠ 5) (r : Int) (hr : errs row fs[k] = r) (h3 : r ≠ 3) : Clm fs (k + 1) r (good + if fs[k] = 1 then 1 else 0) := by
  have e : (fs.take (k + 1)).foldl errs 0 = r := by
    rw [List.take_succ_eq_append_getElem hk, List.foldl_append, ← h.rowE]; exact hr
  have hl := h.lo
  have hh := h.hi
  refine ⟨e.symm, ?_, ?_, fun j hj => ?_, ?_, ?_⟩
  · rw [List.take_succ_eq_append_getElem hk, goods_snoc, h.goodE]; split <;> simp
  · rw [List.take_succ_eq_append_getElem hk]
    intro f hf
    rcases List.mem_append.1 hf with hf | hf
    · exact h.no5 f hf
    · simp at hf; rw [hf]; exact h5
  · by_cases ej : j = k
    · subst ej; rw [e]; exact h3
    · exact h.no3 j (by omega)
  · rw [← hr]; unfold errs; split
    · omega
    · split <;> omega
  · rw [← hr] at h3 ⊢; unfold errs at *; split at h3
    · rename_i c; rw [if_pos c]; omega
    · rename_i c; rw [if_neg c]; split <;> omega
theorem calm0 (fs : List Int) : Clm fs 0 0 0 := ⟨rfl, rfl, by simp, fun j hj => absurd hj (by omega), by omega, by omega⟩
set_option maxHeartbeats 1600000 in
theorem well_walk (v0 v1 v2 : Value) (w : World) (r0 : Fr.RdV w reachBytes .string v0) (r1 : Fr.RdV w reachBytes (.int .i64) v1) (r2 : Fr.RdV w reachBytes (.slice 1 (.int .i64)) v2) :
    Calls Try.prog 3 #[v0, v1, v2] w fun e w' => e = .returned (.bool true) ∧ Below w.heap.size w w' := by
  obtain ⟨t, e, ht⟩ := r0; cases e
  obtain ⟨s, e, hs⟩ := r1; cases e
  obtain ⟨fs, hfl, _, hU⟩ := Kt.ar_ints r2
  have HC := Lib.hid (carry_calls t s fs v2 w hU)
  obtain ⟨UA, uc, rfl, _, hcells⟩ := hU.form
  have HCELLS := Lib.hid hcells
  clear hU hcells
  go_enter Try.func3, Try.ntmps3
  go_wp2_with fail
  refine HC.out.mono ?_
  rintro en w1 (⟨hok, rfl, hb⟩ | ⟨hno, n, hn, rfl, hb⟩)
  · have HOK := Lib.hid hok
    have s1 := hok.s1
    have s2 := hok.s2
    have tz := hok.tz
    have h1000 := hok.f
    obtain ⟨s, rfl⟩ : ∃ m : Nat, s = m := ⟨s.toNat, by omega⟩
    have HT := Lib.hid (told_of hok)
    have HR := Lib.hid (car_res (show 1 ≤ s by omega) t fs)
    have HN := Lib.hid (chop_len (show 1 ≤ s by omega) t)
    have HW := Lib.hid (carF_well (chop s t) fs (p0 (chop s t)) 0 0 0 0 (inv_start _) (by rw [HN.out]; exact Nat.succ_pos _))
    rw [Int.toNat_natCast] at HT
    rw [Int.toNat_natCast]
    obtain ⟨R, hR⟩ : ∃ R, carF (p0 (chop s t)) 0 0 fs = R := ⟨_, rfl⟩
    rw [hR] at HT HR HW ⊢
    clear hR hok
    obtain ⟨code, got, done, used, e, hT⟩ := HT.out
    rw [e]
    have HE : Hid (code = R.1 ∧ used = R.2.2) := Lib.hid (by unfold carOf carV at e; simp at e; exact ⟨e.1.symm, by omega⟩)
    have HTO := Lib.hid hT
    clear HT hT e
    go_wp2_with fail
    refine (lives_calls _).mono ?_
    rintro en w2 ⟨rfl, hb2⟩
    have hrow := Kt.box1 hb2
    have hc := fun i => cell_of_row _ _ i _ _ _ hrow
    have hbb := Kt.bthen (Kt.balloc hb _) hb2
    clear hb2 hrow hb
    go_wp2_with fail
    go_loop [9, 10, 29] (fun r g i => ∃ (k : Nat) (row good : Int), k ≤ fs.length ∧ i = .int .i64 k ∧ r = .int .i64 row ∧ g = .int .i64 good ∧ 0 ≤ good ∧ good ≤ k ∧ Hid (Clm fs k row good)) (fun _ _ i => fs.length - (intOf i).toNat)
    case atStart => exact ⟨0, 0, 0, Nat.zero_le _, rfl, rfl, rfl, by omega, by omega, Lib.hid (calm0 fs)⟩
    case round =>
      obtain ⟨k, row, good, hk, rfl, rfl, rfl, hg0, hgk, HCA⟩ := hrel
      have hr0 := HCA.out.lo
      have hr2 := HCA.out.hi
      by_cases hlt : k < fs.length
      · obtain ⟨tb, tq, rfl, htb, htx⟩ := HCELLS.out (by omega)
        have hcell : w2.cell? ⟨tb, tq + k, none⟩ = some (.int .i64 fs[k]) := (hbb.cell (p := ⟨tb, tq + k, none⟩) htb).trans ((htx k (by simpa using hlt)).trans (by simp))
        clear htx
        have hft := HOK.out.all k hlt
        have HNX := Lib.hid (fun h5 r hr h3 => HCA.out.next hlt h5 r hr h3)
        generalize fs[k] = f at *
        have hf : f = 1 ∨ f = 2 ∨ f = 3 ∨ f = 4 ∨ f = 5 := by obtain ⟨a, b⟩ := hft; omega
        clear hft
        rcases hf with rfl | rfl | rfl | rfl | rfl
        · go_wp2_with fail
          go_round
          case rel => exact ⟨k + 1, 0, good + 1, by omega, by go_num, rfl, rfl, by omega, by omega, Lib.hid (HNX.out (by omega) 0 (by simp [errs]) (by omega))⟩
          case measure => simp [intOf]; omega
        · by_cases h3 : row = 2
          · subst h3
            go_wp2_with fail
            go_ret
            exact ⟨rfl, hbb⟩
          · have h4 : (row + 1 == 3) = false := by rw [beq_eq_false_iff_ne]; omega
            go_wp2_with fail
            go_round
            case rel => exact ⟨k + 1, row + 1, good, by omega, by go_num, rfl, rfl, by omega, by omega, Lib.hid (by simpa using HNX.out (by omega) (row + 1) (by simp [errs]) (by omega))⟩
            case measure => simp [intOf]; omega
        · by_cases h3 : row = 2
          · subst h3
            go_wp2_with fail
            go_ret
            exact ⟨rfl, hbb⟩
          · have h4 : (row + 1 == 3) = false := by rw [beq_eq_false_iff_ne]; omega
            go_wp2_with fail
            go_round
            case rel => exact ⟨k + 1, row + 1, good, by omega, by go_num, rfl, rfl, by omega, by omega, Lib.hid (by simpa using HNX.out (by omega) (row + 1) (by simp [errs]) (by omega))⟩
            case measure => simp [intOf]; omega
        · have h4 : (row == 3) = false := by rw [beq_eq_false_iff_ne]; omega
          go_wp2_with fail
          go_round
          case rel => exact ⟨k + 1, row, good, by omega, by go_num, rfl, rfl, by omega, by omega, Lib.hid (by simpa using HNX.out (by omega) row (by simp [errs]) (by omega))⟩
          case measure => simp [intOf]; omega
        · go_wp2_with fail
          go_ret
          exact ⟨rfl, hbb⟩
      · obtain rfl : k = fs.length := by omega
        have HG : Hid (good = goods fs) := Lib.hid (by have := HCA.out.goodE; rwa [List.take_length] at this)
        have HCW := Lib.hid (HW.out (by have := HCA.out.no5; rwa [List.take_length] at this) (fun k hk => HCA.out.no3 k hk))
        have hq1 : (t.size : Int) / s = ((t.size / s : Nat) : Int) := by omega
        have hq3 : t.size / s ≤ t.size := Nat.div_le_self _ _
        have HN2 := HN
        generalize t.size / s = q at *
        by_cases hgq : good < (q : Int) + 1
        · have HC1 : Hid (R.1 = 10) := Lib.hid (HCW.out.2 (by rw [HN.out]; have := HG.out; omega))
          have HU1 : Hid (used = fs.length) := Lib.hid (by rw [HE.out.2, HR.out.time HC1.out]; omega)
          obtain rfl : code = 10 := HE.out.1.trans HC1.out
          obtain rfl := HU1.out
          go_wp2_with fail
          go_ret
          exact ⟨rfl, hbb⟩
        · have HC1 : Hid (R.1 = 0) := Lib.hid (HCW.out.1 (by rw [HN.out]; have := HG.out; omega))
          obtain rfl : code = 0 := HE.out.1.trans HC1.out
          obtain ⟨rfl, rfl⟩ := HTO.out.ok rfl
          have hge : (q : Int) + 1 ≤ good := by omega
          go_wp2_with fail
          go_ret
          exact ⟨rfl, hbb⟩
  · have hne : (n != 0) = true := by rw [bne_iff_ne]; exact hn
    clear hn
    unfold carV
    go_wp2_with fail
    refine (lives_calls _).mono ?_
    rintro en w2 ⟨rfl, hb2⟩
    have hbb := Kt.bthen (Kt.balloc hb _) hb2
    clear hb2
    go_wp2_with fail
    refine (lives_calls _).mono ?_
    rintro en w3 ⟨rfl, hb3⟩
    go_wp2_with fail
    go_ret
    exact ⟨rfl, Kt.bthen hbb hb3⟩
end Go.Proofs.Ytfkbphfmchjacaa
