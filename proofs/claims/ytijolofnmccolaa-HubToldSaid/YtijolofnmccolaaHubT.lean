/- The walks of package hub: Tick. -/
import Derived.Test.YtijolofnmccolaaHubL
namespace Go.Proofs.Ytijolofnmccolaa
open Go.RowKit
def tickP (s t : Int) : Int × Int := if s = 273 then (259, bits .or .i64 t 16) else (s, t)
/-- the first k ports have ticked -/
def tickTo (ps : List Int) : Nat → List Int
  | 0 => ps
  | k + 1 => upd (tickTo ps k) k (tickP (ps.getD (k * 2) 0) (ps.getD (k * 2 + 1) 0)).1 (tickP (ps.getD (k * 2) 0) (ps.getD (k * 2 + 1) 0)).2
theorem tickTo_len (ps : List Int) : ∀ k, (tickTo ps k).length = ps.length
  | 0 => rfl
  | k + 1 => by unfold tickTo; rw [upd_len, tickTo_len ps k]
theorem upd_get (ps : List Int) (i j : Nat) (s t : Int) (h : j ≠ i) : (upd ps i s t).getD (j * 2) 0 = ps.getD (j * 2) 0 ∧ (upd ps i s t).getD (j * 2 + 1) 0 = ps.getD (j * 2 + 1) 0 := by
  unfold upd
  simp only [List.getD_eq_getElem?_getD]
  rw [List.getElem?_set_ne (by omega), List.getElem?_set_ne (by omega), List.getElem?_set_ne (by omega), List.getElem?_set_ne (by omega)]
  exact ⟨rfl, rfl⟩
theorem upd_at (ps : List Int) (hl : ps.length = 32) (i : Nat) (hi : i < 16) (s t : Int) : (upd ps i s t).getD (i * 2) 0 = s ∧ (upd ps i s t).getD (i * 2 + 1) 0 = t := by
  unfold upd
  simp only [List.getD_eq_getElem?_getD]
  rw [List.getElem?_set_ne (by omega), List.getElem?_set_self (by omega), List.getElem?_set_self (by rw [List.length_set]; omega)]
  exact ⟨rfl, rfl⟩
theorem tickTo_get (ps : List Int) (hl : ps.length = 32) : ∀ k, k ≤ 16 → ∀ j, (tickTo ps k).getD (j * 2) 0 = (if j < k then (tickP (ps.getD (j * 2) 0) (ps.getD (j * 2 + 1) 0)).1 else ps.getD (j * 2) 0) ∧ (tickTo ps k).getD (j * 2 + 1) 0 = (if j < k then (tickP (ps.getD (j * 2) 0) (ps.getD (j * 2 + 1) 0)).2 else ps.getD (j * 2 + 1) 0)
  | 0, _, j => by simp [tickTo]
  | k + 1, hk, j => by
    unfold tickTo
    by_cases e : j = k
    · subst e
      obtain ⟨h1, h2⟩ := upd_at (tickTo ps j) (by rw [tickTo_len, hl]) j (by omega) (tickP (ps.getD (j * 2) 0) (ps.getD (j * 2 + 1) 0)).1 (tickP (ps.getD (j * 2) 0) (ps.getD (j * 2 + 1) 0)).2
      rw [h1, h2, if_pos (by omega), if_pos (by omega)]
      exact ⟨rfl, rfl⟩
    · obtain ⟨h1, h2⟩ := upd_get (tickTo ps k) k j (tickP (ps.getD (k * 2) 0) (ps.getD (k * 2 + 1) 0)).1 (tickP (ps.getD (k * 2) 0) (ps.getD (k * 2 + 1) 0)).2 e
      obtain ⟨h3, h4⟩ := tickTo_get ps hl k (by omega) j
      rw [h1, h2, h3, h4]
      by_cases hj : j < k
      · rw [if_pos hj, if_pos hj, if_pos (by omega), if_pos (by omega)]; exact ⟨rfl, rfl⟩
      · rw [if_neg hj, if_neg hj, if_neg (by omega), if_neg (by omega)]; exact ⟨rfl, rfl⟩
theorem getD_at (ps : List Int) (i : Nat) (h : i < ps.length) : ps.getD i 0 = ps[i] := by
  rw [List.getD_eq_getElem?_getD, List.getElem?_eq_getElem h]; rfl
/-- the hub behind a tick -/
def tick (ps : List Int) : List Int := tickTo ps 16
set_option maxHeartbeats 1600000 in
theorem tick_bad (c : Int) (ps : List Int) (hl : ps.length = 32) (hfit : Fit ps) (w : World) (h : ¬ RightH c ps) : Calls Try.prog 13 #[HV c ps] w (Gives c ps (chk c ps) w) := by
  have T0 := TwoH.start w c ps
  have HC := Lib.hid (fun W => check_calls c ps hl hfit W)
  have HN := Lib.hid h; clear h
  unfold HV
  go_enter Try.func13, Try.ntmps13
  go_upto_region 1 with (fail)
  rw [zeros_lit]
  generalize ((w.alloc (.cells (Kt.ia .i64 (c :: ps)) 26)).alloc (.cells (Kt.ia .i64 (0 :: zs)) 26)) = W at *
  go_wp2_with (refine load_hub rfl (.tmp 1) rfl w.heap.size rfl c ps hl T0.b0 ?_)
  refine (HC.out _).mono ?_
  rintro en w1 ⟨n, rfl, hn, hb1⟩
  have T1 := T0.on hb1
  have HNZ : Hid (n ≠ 0) := Lib.hid fun e => HN.out (hn.1.1 e)
  have hnz : (n != 0) = true := by rw [bne_iff_ne]; exact HNZ.out
  have HNC : Hid (n = chk c ps) := Lib.hid hn.2
  clear hn
  go_wp2_with (first
    | (refine load_hub rfl (.tmp 1) rfl w.heap.size rfl c ps hl T1.b0 ?_)
    | (refine store_hub rfl (.tmp 2) (.tmp 11) rfl (w.heap.size + 1) rfl c ps hl rfl 0 zs zs_len T1.b1 ?_
       intro W2 hW2 hk2 hb2))
  refine bodyPost_ret (v := .tuple #[HV c ps, .int .i64 n]) (by simp [results, Try.results13, asAddr, ld_hub hW2 hl]) rfl ⟨by rw [HNC.out], T1.bel.trans (hb2 _ (by omega))⟩
set_option maxHeartbeats 1600000 in
theorem tick_good (c : Int) (ps : List Int) (hl : ps.length = 32) (hfit : Fit ps) (w : World) (h : RightH c ps) : Calls Try.prog 13 #[HV c ps] w (Gives c (tick ps) 0 w) := by
  have T0 := TwoH.start w c ps
  have HC := Lib.hid (fun W => check_calls c ps hl hfit W)
  have HR := Lib.hid h; clear h
  unfold HV
  go_enter Try.func13, Try.ntmps13
  go_upto_region 1 with (fail)
  rw [zeros_lit]
  generalize ((w.alloc (.cells (Kt.ia .i64 (c :: ps)) 26)).alloc (.cells (Kt.ia .i64 (0 :: zs)) 26)) = W at *
  go_wp2_with (refine load_hub rfl (.tmp 1) rfl w.heap.size rfl c ps hl T0.b0 ?_)
  refine (HC.out _).mono ?_
  rintro en w1 ⟨n, rfl, hn, hb1⟩
  obtain rfl : n = 0 := hn.1.2 HR.out
  have T1 := T0.on hb1
  clear hn hb1 T0
  go_wp2_with fail
  go_loopw [13] (fun i wr => ∃ k : Nat, k ≤ 16 ∧ i = .int .i64 k ∧ TwoH w wr c (tickTo ps k)) (fun i _ => 16 - (intOf i).toNat)
  case atStart => exact ⟨0, by omega, rfl, T1⟩
  case round =>
    clear T1
    obtain ⟨k, hk, rfl, T⟩ := hrel
    have hlt2 := (tickTo_len ps k).trans hl
    by_cases hlt : k < 16
    · have hfree := T.b0.free
      have hsz := T.size
      obtain ⟨hps, hpt⟩ := T.b0.port hlt2 k hlt
      obtain ⟨g1, g2⟩ := tickTo_get ps hl k hk k
      rw [if_neg (by omega), getD_at _ _ (by omega), getD_at _ _ (by omega)] at g1 g2
      rw [g1] at hps
      rw [g2] at hpt
      have hok := (HR.out.ok k hlt).1.1
      rw [getD_at _ _ (by omega)] at hok
      have HTK : Hid (tickTo ps (k + 1) = upd (tickTo ps k) k (tickP (ps[k * 2]'(by omega)) (ps[k * 2 + 1]'(by omega))).1 (tickP (ps[k * 2]'(by omega)) (ps[k * 2 + 1]'(by omega))).2) := Lib.hid (by
        show upd _ _ _ _ = _
        rw [getD_at _ _ (by omega), getD_at _ _ (by omega)])
      have HSAME : Hid (upd (tickTo ps k) k (ps[k * 2]'(by omega)) (ps[k * 2 + 1]'(by omega)) = tickTo ps k) := Lib.hid (by
        rw [← g1, ← g2]; exact upd_same _ hlt2 k hlt)
      clear g1 g2
      generalize ps[k * 2]'(by omega) = s at *
      generalize ps[k * 2 + 1]'(by omega) = t at *
      unfold okS at hok
      have ek : (k : Int) < 16 := by omega
      rcases hok with rfl | rfl | rfl | rfl | rfl
      rotate_left 4
      · have k1 : bits .or .i64 (bits .andNot .i64 273 16) 2 = 259 := by decide
        have TN : TwoH w ((wr.setCell ⟨w.heap.size, 1 + k * 2, none⟩ (.int .i64 259)).setCell ⟨w.heap.size, 1 + k * 2 + 1, none⟩ (.int .i64 (bits .or .i64 t 16))) c (tickTo ps (k + 1)) := by
          rw [HTK.out]
          exact ⟨(T.b0.setS k 259).setT k _, (T.b1.other (by simp) _).other (by simp) _, Kt.bset (Kt.bset T.bel (by simp) _) (by simp) _⟩
        go_wp2_with fail
        go_roundw
        case rel => exact ⟨k + 1, by omega, by go_num, TN⟩
        case measure => (simp [intOf] <;> omega)
      all_goals
        have TN : TwoH w wr c (tickTo ps (k + 1)) := by
          rw [HTK.out]; exact HSAME.out.symm ▸ T
        go_wp2_with fail
        go_roundw
        case rel => exact ⟨k + 1, by omega, by go_num, TN⟩
        case measure => (simp [intOf] <;> omega)
    · obtain rfl : k = 16 := by omega
      have HT : Hid (tick ps = tickTo ps 16) := Lib.hid rfl
      rw [HT.out]
      go_wp2_with (first
        | (refine load_hub rfl (.tmp 1) rfl w.heap.size rfl c _ hlt2 T.b0 ?_)
        | (refine store_hub rfl (.tmp 2) (.tmp 42) rfl (w.heap.size + 1) rfl c _ hlt2 rfl 0 zs zs_len T.b1 ?_
           intro W2 hW2 hk2 hb2))
      exact bodyPost_ret (v := .tuple #[HV c (tickTo ps 16), .int .i64 0]) (by simp [results, Try.results13, asAddr, ld_hub hW2 hlt2]) rfl ⟨by rw [HT.out], T.bel.trans (hb2 _ (by omega))⟩
end Go.Proofs.Ytijolofnmccolaa
