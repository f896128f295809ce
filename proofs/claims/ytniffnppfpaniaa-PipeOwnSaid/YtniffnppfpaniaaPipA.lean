/- The law of as many good fates as texts, walked: PipeAll. -/
import Derived.Test.YtniffnppfpaniaaPipV
namespace Go.Proofs.Ytniffnppfpaniaa
open Go.RowKit
theorem inv_of (ts : List ByteArray) (fs : List Int) : ∀ k, ∃ told got, Inv ts (runF (p0 ts) (fs.take k)) told got := fun k => by
  obtain ⟨g, h⟩ := run_from ts (fs.take k)
  exact ⟨_, g, h⟩
theorem first_bad : ∀ fs : List Int, (∀ k (hk : k < fs.length), fated fs[k]) ∨ ∃ m, ∃ hm : m < fs.length, ¬ fated fs[m] ∧ ∀ k (hk : k < fs.length), k < m → fated fs[k]
  | [] => .inl (fun k hk => absurd hk (by simp))
  | f :: fs => by
    by_cases h : fated f
    · rcases first_bad fs with h1 | ⟨m, hm, h1, h2⟩
      · refine .inl (fun k hk => ?_)
        cases k with
        | zero => exact h
        | succ k => exact h1 k (by simpa using hk)
      · refine .inr ⟨m + 1, by simpa using hm, h1, fun k hk hlt => ?_⟩
        cases k with
        | zero => exact h
        | succ k => exact h2 k (by simpa using hk) (by omega)
    · exact .inr ⟨0, by simp, h, fun k _ hk => absurd hk (by omega)⟩
/-- what Run does, whatever it is handed -/
theorem run_total (V U : Value) (ts : List ByteArray) (fs : List Int) (w : World) (hV : Kt.Ar w V 1 ts.length (sts ts)) (hU : Kt.Ar w U 1 fs.length (ics fs)) :
    (ts.length ≤ 200 ∧ Calls Try.prog 8 #[V, U] w (Gives w (runF (p0 ts) fs))) ∨ ∃ n, (n = 1 ∨ n = 2) ∧ Calls Try.prog 8 #[V, U] w (Fails w n) := by
  by_cases h1 : ts.length ≤ 200
  · by_cases h2 : fs.length ≤ 1000
    · rcases first_bad fs with h3 | ⟨m, hm, hb, h3⟩
      · exact .inl ⟨h1, run_good V U ts fs w hV hU (by omega) (by omega) (inv_of ts fs) h3⟩
      · exact .inr ⟨1, .inl rfl, run_bad V U ts fs w hV hU (by omega) (by omega) (inv_of ts fs) m hm hb h3⟩
    · exact .inr ⟨2, .inr rfl, run_many V U fs.length ts (ics fs) w hV hU (by omega) (by omega)⟩
  · exact .inr ⟨2, .inr rfl, run_large V U ts.length fs.length ts (ics fs) w hV hU (by omega)⟩
theorem goods_take (fs : List Int) (k : Nat) (hk : k < fs.length) : goods (fs.take (k + 1)) = goods (fs.take k) + (if fs[k] = 1 then 1 else 0) := by
  rw [List.take_succ_eq_append_getElem hk]
  unfold goods
  rw [List.filter_append, List.length_append]
  by_cases h : fs[k] = 1 <;> simp [h]
theorem goods_le (fs : List Int) : goods fs ≤ fs.length := List.length_filter_le _ _
set_option maxHeartbeats 1600000 in
theorem all_no (V U : Value) (fs : List Int) (n : Int) (hn : n = 1 ∨ n = 2) (w : World) (hU : Kt.Ar w U 1 fs.length (ics fs)) (hm : fs.length ≤ 140737488355328) (HR : Hid (Calls Try.prog 8 #[V, U] w (Fails w n))) :
    Calls Try.prog 4 #[V, U] w fun e w' => e = .returned (.bool true) ∧ Below w.heap.size w w' := by
  obtain ⟨A, c, rfl, hAc, hcells⟩ := hU.form
  have HM := Lib.hid hm; clear hm
  have hn0 : (n != 0) = true := by rcases hn with rfl | rfl <;> rfl
  clear hU
  go_enter Try.func4, Try.ntmps4
  go_wp2_with fail
  refine HR.out.mono ?_
  rintro en w1 ⟨rfl, hb⟩
  unfold zeroP
  have hB1 := Kt.balloc hb (.cells #[.int .i64 0, .int .i64 0, .slice none 0 0, .slice none 0 0] 25)
  go_wp2_with fail
  generalize w1.alloc (.cells #[.int .i64 0, .int .i64 0, .slice none 0 0, .slice none 0 0] 25) = W1 at *
  go_loop [18, 7] (fun i g => ∃ k : Nat, k ≤ fs.length ∧ i = .int .i64 k ∧ g = .int .i64 (goods (fs.take k))) (fun i _ => fs.length - (intOf i).toNat)
  case atStart => exact ⟨0, Nat.zero_le _, rfl, rfl⟩
  case round =>
    obtain ⟨k, hk, rfl, rfl⟩ := hrel
    have hg := goods_le (fs.take k)
    rw [List.length_take] at hg
    have hkm : goods (fs.take k) ≤ 140737488355328 ∧ k ≤ 140737488355328 := by have := HM.out; omega
    clear hg
    by_cases hlt : k < fs.length
    · obtain ⟨tb, tq, rfl, htb, htx⟩ := hcells (by omega)
      have hcell : W1.cell? ⟨tb, tq + k, none⟩ = some (.int .i64 fs[k]) := (hB1.cell (p := ⟨tb, tq + k, none⟩) htb).trans ((htx k (by rw [ics_len]; exact hlt)).trans (by simp [ics]))
      have HG := Lib.hid (goods_take fs k hlt)
      have HCELLS := Lib.hid htx; clear htx hcells
      generalize goods (fs.take k) = g at *
      generalize fs[k] = f at *
      obtain ⟨hg1, hk1⟩ := hkm
      by_cases hf : f = 1
      · subst hf
        go_wp2_with fail
        go_round
        case rel => exact ⟨k + 1, by omega, by go_num, by rw [HG.out]; simp⟩
        case measure => simp [intOf]; omega
      · have hf : (f == 1) = false := by rw [beq_eq_false_iff_ne]; exact hf
        go_wp2_with fail
        go_round
        case rel => exact ⟨k + 1, by omega, by go_num, by rw [HG.out]; simp [show f ≠ 1 from by simpa using hf]⟩
        case measure => simp [intOf]; omega
    · obtain rfl : k = fs.length := by omega
      go_wp2_with fail
      refine (lives_calls _).mono ?_; rintro en w3 ⟨rfl, hb3⟩
      go_wp2_with fail
      refine (lives_calls _).mono ?_; rintro en w4 ⟨rfl, hb4⟩
      go_wp2_with fail
      go_ret
      exact ⟨rfl, Kt.bthen (Kt.bthen hB1 hb3) hb4⟩
set_option maxHeartbeats 1600000 in
theorem all_yes (V U : Value) (ts : List ByteArray) (fs : List Int) (p : St) (got : Nat) (w : World) (hV : Kt.Ar w V 1 ts.length (sts ts)) (hU : Kt.Ar w U 1 fs.length (ics fs)) (hm : fs.length ≤ 140737488355328) (hn : ts.length ≤ 200) (hI : Inv ts p (min (goods fs) ts.length) got) (HR : Hid (Calls Try.prog 8 #[V, U] w (Gives w p))) :
    Calls Try.prog 4 #[V, U] w fun e w' => e = .returned (.bool true) ∧ Below w.heap.size w w' := by
  have gV := hV
  obtain ⟨VA, vc, rfl, _, _⟩ := hV.form
  obtain ⟨A, c, rfl, hAc, hcells⟩ := hU.form
  have HM := Lib.hid hm; clear hm
  have HL := Lib.hid hI.llen
  have HGS := Lib.hid (show goods fs ≥ ts.length → p.gs = ts from fun h => by
    have h1 := hI.le; have h2 := hI.gn
    rw [hI.gs, show got = ts.length by omega, List.take_length])
  clear hU hV hI
  go_enter Try.func4, Try.ntmps4
  go_wp2_with fail
  refine HR.out.mono ?_
  rintro en w1 ⟨v, rfl, ⟨L, G, rfl, hL, hG⟩, hb⟩
  obtain ⟨LA, Lc, rfl, _, _⟩ := hL.form
  obtain ⟨GA, Gc, rfl, _, _⟩ := hG.form
  have hB1 := Kt.balloc hb (.cells #[.int .i64 p.s, .int .i64 p.t, .slice LA p.ls.length Lc, .slice GA p.gs.length Gc] 25)
  have hrow := heap_alloc_new w1 (.cells #[.int .i64 p.s, .int .i64 p.t, .slice LA p.ls.length Lc, .slice GA p.gs.length Gc] 25)
  have aG := (Kt.Ar.of_sl hG).on (Kt.balloc (Below.refl _ w1) (.cells #[.int .i64 p.s, .int .i64 p.t, .slice LA p.ls.length Lc, .slice GA p.gs.length Gc] 25))
  clear hL hG
  go_wp2_with fail
  have hzz : w1.heap.size < (w1.alloc (.cells #[.int .i64 p.s, .int .i64 p.t, .slice LA p.ls.length Lc, .slice GA p.gs.length Gc] 25)).heap.size := by simp
  generalize w1.alloc (.cells #[.int .i64 p.s, .int .i64 p.t, .slice LA p.ls.length Lc, .slice GA p.gs.length Gc] 25) = W1 at *
  go_loop [18, 7] (fun i g => ∃ k : Nat, k ≤ fs.length ∧ i = .int .i64 k ∧ g = .int .i64 (goods (fs.take k))) (fun i _ => fs.length - (intOf i).toNat)
  case atStart => exact ⟨0, Nat.zero_le _, rfl, rfl⟩
  case round =>
    obtain ⟨k, hk, rfl, rfl⟩ := hrel
    have hg := goods_le (fs.take k)
    rw [List.length_take] at hg
    have hkm : goods (fs.take k) ≤ 140737488355328 ∧ k ≤ 140737488355328 := by have := HM.out; omega
    clear hg
    by_cases hlt : k < fs.length
    · obtain ⟨tb, tq, rfl, htb, htx⟩ := hcells (by omega)
      have hcell : W1.cell? ⟨tb, tq + k, none⟩ = some (.int .i64 fs[k]) := (hB1.cell (p := ⟨tb, tq + k, none⟩) htb).trans ((htx k (by rw [ics_len]; exact hlt)).trans (by simp [ics]))
      have HG := Lib.hid (goods_take fs k hlt)
      have HCELLS := Lib.hid htx; clear htx hcells
      generalize goods (fs.take k) = g at *
      generalize fs[k] = f at *
      obtain ⟨hg1, hk1⟩ := hkm
      by_cases hf : f = 1
      · subst hf
        go_wp2_with fail
        go_round
        case rel => exact ⟨k + 1, by omega, by go_num, by rw [HG.out]; simp⟩
        case measure => simp [intOf]; omega
      · have hf : (f == 1) = false := by rw [beq_eq_false_iff_ne]; exact hf
        go_wp2_with fail
        go_round
        case rel => exact ⟨k + 1, by omega, by go_num, by rw [HG.out]; simp [show f ≠ 1 from by simpa using hf]⟩
        case measure => simp [intOf]; omega
    · obtain rfl : k = fs.length := by omega
      rw [List.take_length] at *
      generalize hgo : goods fs = g at *
      have HGO := Lib.hid hgo; clear hgo
      obtain ⟨hg1, _⟩ := hkm
      go_wp2_with fail
      refine (lives_calls _).mono ?_; rintro en w3 ⟨rfl, hb3⟩
      have row3 := (hb3.block _ hzz).trans hrow
      have hc := fun i => cell_of_row _ _ i _ _ _ row3
      have aG3 := aG.on hb3
      have aV3 := (gV.on hB1).on hb3
      have hB3 := Kt.bthen hB1 hb3
      clear aG gV hrow hb3 hB1
      by_cases hge : ts.length ≤ g
      · have hl0 : p.ls.length = 0 := by rw [HL.out]; omega
        have hl1 : ((p.ls.length : Int) == 0) = true := by rw [hl0]; rfl
        have HL0 := Lib.hid hl0; clear hl0
        have hgs := HGS.out (by omega)
        have hgi : (ts.length : Int) ≤ g := by omega
        have HG2 := Lib.hid hgs; clear hgs
        go_wp2_with fail
        refine (equal_true _ _ p.gs.length p.gs _ rfl aG3 (by rw [HG2.out]; exact aV3) (by rw [HG2.out]; omega)).mono ?_
        rintro en w5 ⟨rfl, hb5⟩
        go_wp2_with fail
        go_ret
        exact ⟨rfl, Kt.bthen hB3 hb5⟩
      · have hgi : (g : Int) < ts.length := by omega
        have hl1 : ((p.ls.length : Int) == (ts.length : Int) - g) = true := by rw [beq_iff_eq, HL.out]; omega
        go_wp2_with fail
        go_ret
        exact ⟨rfl, hB3⟩
theorem all_walk (v0 v1 : Value) (w : World) (r0 : Fr.RdV w reachBytes (.slice 1 .string) v0) (r1 : Fr.RdV w reachBytes (.slice 1 (.int .i64)) v1) :
    Calls Try.prog 4 #[v0, v1] w fun e w' => e = .returned (.bool true) ∧ Below w.heap.size w w' := by
  obtain ⟨ts, _, _, hV⟩ := Kt.ar_strs r0
  obtain ⟨fs, hb, _, hU⟩ := Kt.ar_ints r1
  have hm : fs.length ≤ 140737488355328 := Nat.le_trans hb (by decide)
  rcases run_total v0 v1 ts fs w hV hU with ⟨hn, h⟩ | ⟨n, hn, h⟩
  · obtain ⟨got, hI⟩ := run_from ts fs
    exact all_yes v0 v1 ts fs _ got w hV hU hm hn hI (Lib.hid h)
  · exact all_no v0 v1 fs n hn w hU hm (Lib.hid h)
end Go.Proofs.Ytniffnppfpaniaa
