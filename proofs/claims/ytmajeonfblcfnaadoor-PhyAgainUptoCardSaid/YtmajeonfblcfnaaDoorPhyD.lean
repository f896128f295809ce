/- wired: texts on a wire. -/
import Derived.Test.YtmajeonfblcfnaaDoorPhyE
namespace Go.Proofs.YtmajeonfblcfnaaDoor
open Go.RowKit Go.Proofs.YtmajeonfblcfnaaDoor.Lan Go.Proofs.YtmajeonfblcfnaaDoor.Phy
def strs (ls : List (List UInt8)) : List Value := ls.map fun l => Value.string (bt l)
theorem wire_take {n k : Nat} {ls : List (List UInt8)} (h : k < ls.length) : wire n (ls.take (k + 1)) = wire n (ls.take k) ++ (if okS ls[k] then List.replicate n 74 ++ (levs ls[k] ++ endL) else []) := by
  rw [List.take_succ_eq_append_getElem h, wire_snoc]
theorem want_take {k : Nat} {ls : List (List UInt8)} (h : k < ls.length) : want (ls.take (k + 1)) = want (ls.take k) ++ (if okS ls[k] then [(ls[k], 0)] else []) := by
  rw [List.take_succ_eq_append_getElem h, want_snoc]
set_option maxHeartbeats 1600000 in
theorem wired_calls (v : Value) (n : Nat) (ls : List (List UInt8)) (w : World) (h : Kt.Ar w v 1 ls.length (strs ls)) (hn : n ≤ 50) (hm : ls.length ≤ 50) (hsz : ∀ s ∈ ls, s.length ≤ 9223372036854775807) :
    Calls Tryd.prog 15 #[v, .string (bt (List.replicate n 74))] w fun e w' => ∃ A c, e = .returned (.tuple #[.string (bt (wire n ls)), .slice A (want ls).length c]) ∧
      Kt.Sl w' w.heap.size 34 2 (.slice A (want ls).length c) (want ls).length (hcells (want ls)) ∧ Below w.heap.size w w' := by
  obtain ⟨A0, c0, rfl, _, hx⟩ := h.form
  have HX := Lib.hid hx
  have HSZ := Lib.hid hsz
  have HNM := Lib.hid (And.intro hn hm)
  have hm' : ls.length ≤ 1099511627776 := by omega
  obtain ⟨R, hR⟩ : ∃ x, bt (List.replicate n 74) = x := ⟨_, rfl⟩
  have hRs : R.size = n := by rw [← hR, bt_size, List.length_replicate]
  have HR := Lib.hid hR
  have HRS := Lib.hid hRs
  rw [hR]
  have HBD0 := Lib.hid (BdB.fresh w)
  have HB0 := Lib.hid (Kt.balloc (Below.refl w.heap.size w) (.cells #[.pointer none, .slice none 0 0] 49))
  generalize hL : ls.length = L at *
  have HLL := Lib.hid hL
  clear h hx hsz hn hm hR hRs hL
  go_enter Tryd.func15, Tryd.ntmps15
  go_wp2_with fail
  generalize hW : (w.alloc (.cells #[.pointer none, .slice none 0 0] 49)) = W at *
  have hWs : W.heap.size = w.heap.size + 1 := by rw [← hW, World.size_alloc]
  have HWS := Lib.hid hWs
  clear hW hWs
  go_loopw [7, 14] (fun vo vi wr => ∃ (k m co : Nat) (A : Option Addr), k ≤ L ∧ vi = .int .i64 k ∧ vo = .slice A m co ∧ Hid (m = (want (ls.take k)).length) ∧ Hid (BdB w.heap.size (wire n (ls.take k)) wr) ∧
    Hid (Kt.Sl wr (w.heap.size + 1) 34 2 vo m (hcells (want (ls.take k)))) ∧ Hid (Below w.heap.size w wr)) (fun _ vi _ => L - (intOf vi).toNat)
  case atStart => exact ⟨0, 0, 0, none, Nat.zero_le _, rfl, rfl, Lib.hid rfl, HBD0, Lib.hid (Kt.Sl.nil _ _ _ _), HB0⟩
  case round =>
    clear HBD0 HB0
    obtain ⟨k, m, co, A, hk, rfl, rfl, HM, HBD, HSL, HB⟩ := hrel
    by_cases hlt : k < L
    · have hkl : k < ls.length := by rw [HLL.out]; exact hlt
      obtain ⟨b, o, rfl, hb0, hc⟩ := HX.out (by omega)
      obtain ⟨s, hs⟩ : ∃ s, ls[k] = s := ⟨_, rfl⟩
      have hcell : wr.cell? ⟨b, o + k, none⟩ = some (.string (bt s)) := by
        have h1 := hc k (by unfold strs; rw [List.length_map]; exact hkl)
        rw [show (strs ls)[k]'(by unfold strs; rw [List.length_map]; exact hkl) = .string (bt s) by unfold strs; rw [List.getElem_map, hs]] at h1
        exact (HB.out.cell (p := ⟨b, o + k, none⟩) hb0).trans h1
      have HWT := Lib.hid (wire_take (n := n) hkl)
      have HWN := Lib.hid (want_take hkl)
      rw [hs] at HWT HWN
      have HSC := Lib.hid (fun W => send_calls s W (HSZ.out s (by rw [← hs]; exact List.getElem_mem ..)))
      have HWL := Lib.hid (show (wire n (ls.take k)).length ≤ 100000 by
        have h1 := wire_len n (ls.take k)
        rw [List.length_take] at h1
        have h2 : min k ls.length * (n + 759) ≤ 50 * 809 := Nat.mul_le_mul (by have := HNM.out.2; omega) (by have := HNM.out.1; omega)
        omega)
      have HML := Lib.hid (show (want (ls.take k)).length ≤ 50 by
        have h1 := want_len (ls.take k)
        rw [List.length_take] at h1
        have := HNM.out.2
        omega)
      clear hc hkl hs
      by_cases hok : okS s = true
      · have hsend := okS_send hok
        rw [hsend] at HSC
        rw [if_pos hok] at HWT HWN
        have h80 : s.length ≤ 80 := by
          unfold okS at hok
          simp only [Bool.and_eq_true, decide_eq_true_eq] at hok
          exact hok.2
        have hll := levs_len h80
        dsimp only at HSC
        obtain ⟨T, hT⟩ : ∃ x, bt (levs s ++ endL) = x := ⟨_, rfl⟩
        obtain ⟨S, hS⟩ : ∃ x, bt s = x := ⟨_, rfl⟩
        have hTs : T.size ≤ 800 := by rw [← hT, bt_size, List.length_append]; show _ + 3 ≤ _; omega
        have z1 : ¬ 9223372036854775807 < R.size + T.size := by have := HRS.out; have := HNM.out.1; omega
        have HRT : Hid (R ++ T = bt (List.replicate n 74 ++ (levs s ++ endL))) := Lib.hid (by rw [← hT, ← HR.out, bt_app])
        have HXL : Hid ((wire n (ls.take k)).length + (List.replicate n 74 ++ (levs s ++ endL)).length ≤ 140737488355328) := Lib.hid (by
          have := HWL.out
          have h3 : endL.length = 3 := rfl
          have := HNM.out.1
          rw [List.length_append, List.length_append, List.length_replicate, h3]; omega)
        have HS := Lib.hid hS
        rw [hT, hS] at HSC
        rw [hS] at hcell
        clear hok hsend h80 hll hT hS hTs HWL
        go_wp2_with fail
        refine (HSC.out _).mono ?_; rintro e w1 ⟨rfl, hb1⟩
        have HB1 := Lib.hid (Kt.bthen HB.out hb1)
        have HBD1 : Hid (BdB w.heap.size (wire n (ls.take k)) w1) := Lib.hid (bd_on HBD.out hb1)
        have HSL1 := Lib.hid (HSL.out.on hb1)
        clear hb1 HB HBD HSL HSC
        go_wp2_with fail
        rw [HRT.out]
        refine (write_s _ _ _ _ HBD1.out HXL.out).mono ?_; rintro e w2 ⟨rfl, hbd2, hb2, hk2⟩
        rw [← HWT.out] at hbd2
        have HBD2 := Lib.hid hbd2
        have HB2 := Lib.hid (HB1.out.trans hb2)
        have HSL2 := Lib.hid (sl_others HSL1.out (Nat.lt_succ_self _) (by decide) hk2)
        have HZ2 := Lib.hid (hbd2.lt)
        clear hbd2 hb2 hk2 HBD1 HB1 HSL1
        go_wp2_with (refine Kt.append_sl _ (by rfl) (.tmp 29) (.tmp 32) 30 rfl (w.heap.size + 1) 34 (.agg #[.string ByteArray.empty, .int .i64 0]) 2 24 hear_info Tryd.underlying30 rfl (by decide) _ _ _ rfl (HSL2.out.alloc _) ⟨w2.heap.size, 0, none⟩ 1 1 [.string S, .int .i64 0] rfl rfl (Kt.new_cells w2 #[.string S, .int .i64 0] _) (by simp [Value.oneCell']) (by have := HM.out; have := HML.out; unfold maxLen; omega) (by have := HM.out; have := HML.out; omega) (by have := HZ2.out; rw [World.size_alloc]; omega) ?_; intro A2 c2 w6 hs6 hb6 hz6 hk6 hl6)
        go_roundw
        case rel =>
          refine ⟨k + 1, m + 1, c2, A2, by omega, by go_num, rfl, Lib.hid (by rw [HWN.out, List.length_append, HM.out]; rfl), Lib.hid (bd_keep (bd_alloc HBD2.out _) (HSL2.out.alloc _) (Nat.lt_succ_self _) (by decide) hk6), Lib.hid (by rw [HWN.out, hcells_app, ← HS.out] at *; exact hs6), Lib.hid ((Kt.balloc HB2.out _).trans (hb6.mono (Nat.le_succ _)))⟩
        case measure => (simp [intOf] <;> omega)
      · have hok' : okS s = false := by simpa using hok
        have e1 : ((sendP s).2 != 0) = true := by rw [bne_iff_ne]; exact okS_not hok'
        rw [if_neg hok, List.append_nil] at HWT HWN
        obtain ⟨E, hE⟩ : ∃ x, (sendP s).2 = x := ⟨_, rfl⟩
        obtain ⟨T, hT⟩ : ∃ x, bt (sendP s).1 = x := ⟨_, rfl⟩
        obtain ⟨S, hS⟩ : ∃ x, bt s = x := ⟨_, rfl⟩
        rw [hE, hT, hS] at HSC
        rw [hE] at e1
        rw [hS] at hcell
        clear hok hok' hE hT hS
        go_wp2_with fail
        refine (HSC.out _).mono ?_; rintro e w1 ⟨rfl, hb1⟩
        have HB1 := Lib.hid (Kt.bthen HB.out hb1)
        have HBD1 : Hid (BdB w.heap.size (wire n (ls.take k)) w1) := Lib.hid (bd_on HBD.out hb1)
        have HSL1 := Lib.hid (HSL.out.on hb1)
        clear hb1 HB HBD HSL HSC
        go_wp2_with fail
        go_roundw
        case rel => exact ⟨k + 1, m, co, A, by omega, by go_num, rfl, Lib.hid (by rw [HWN.out]; exact HM.out), Lib.hid (by rw [HWT.out]; exact HBD1.out), Lib.hid (by rw [HWN.out]; exact HSL1.out), HB1⟩
        case measure => (simp [intOf] <;> omega)
    · obtain rfl : k = L := by omega
      have hT : ls.take k = ls := by rw [List.take_of_length_le]; rw [HLL.out]; exact Nat.le_refl _
      rw [hT] at HM HBD HSL
      have HSC := Lib.hid (string_k _ _ _ HBD.out)
      clear hT HBD
      go_wp2_with fail
      refine HSC.out.mono ?_; rintro e w1 ⟨rfl, hb1, hk1⟩
      have HB1 := Lib.hid (HB.out.trans hb1)
      have HSL1 := Lib.hid (sl_others HSL.out (Nat.lt_succ_self _) (by decide) hk1)
      clear hb1 hk1 HB HSL HSC
      go_wp2_with fail
      go_ret2
      obtain rfl := HM.out
      exact ⟨A, co, rfl, HSL1.out.mono (Nat.le_succ _), HB1.out⟩
end Go.Proofs.YtmajeonfblcfnaaDoor
