/- host: valid walked. -/
import Derived.Test.YtidcbboonjenhaaHstC
namespace Go.Proofs.Ytidcbboonjenhaa
open Go.RowKit Classical Go.Proofs.Ytidcbboonjenhaa.Slt
set_option maxHeartbeats 800000 in
theorem rchk_sizeL (V : Value) (r : Rg) (w : World) (h : RA w V r) (_hn : r.cs.length ≤ 140737488355328) (hs : (r.cs.length : Int) < 3 ∨ (3 ≤ (r.cs.length : Int) ∧ (64 : Int) < r.cs.length)) : Calls Try.prog 45 #[V] w (Chk r w) := by
  obtain ⟨C, rfl, hC⟩ := h
  obtain ⟨A, c, rfl, _, _⟩ := hC.form
  have HN := Lib.hid (show ¬ Right r from fun hr => by have := hr.lo; have := hr.hi; omega)
  unfold rgV
  clear hC
  rcases hs with hs | ⟨hs, hs2⟩
  all_goals
    go_enter Try.func45, Try.ntmps45
    go_wp2_with fail
    go_ret
    refine ⟨1, rfl, ⟨fun h => absurd h (by omega), fun h => absurd h HN.out⟩, ?_⟩
    repeat (first | exact Below.refl _ _ | refine Kt.bset ?_ (by simp) _ | refine Kt.balloc ?_ _)
theorem rchk_callsL (V : Value) (r : Rg) (w : World) (h : RA w V r) (hn : r.cs.length ≤ 140737488355328) : Calls Try.prog 45 #[V] w (Chk r w) := by
  by_cases h1 : 3 ≤ r.cs.length
  · by_cases h2 : r.cs.length ≤ 64
    · exact check_main V r w h h1 h2
    · exact rchk_sizeL V r w h hn (.inr ⟨by omega, by omega⟩)
  · exact rchk_sizeL V r w h hn (.inl (by omega))
theorem MA.ra {W : World} {M : Mv} (h : MA W M) : RA W (rgV M.C M.r) M.r := ⟨M.C, rfl, h.c⟩
theorem MA.rb {W : World} {M : Mv} (h : MA W M) : RA W (rgV M.E M.v) M.v := ⟨M.E, rfl, h.e⟩
/-- the words are words -/
def Wf (cs : List RC) : Prop := ∀ c ∈ cs, 0 ≤ c.1 ∧ c.1 < 18446744073709551616
structure Vl (M : Mv) : Prop where
  r : Right M.r
  v : Right M.v
  b : Ok M.l
  cw : ∀ c ∈ M.r.cs, c.1 < 35184372088832
  ew : ∀ c ∈ M.v.cs, c.1 < 16777216
def VlIs (M : Mv) (w : World) (en : Ending) (w' : World) : Prop := ∃ q, en = .returned (.bool q) ∧ (q = true ↔ Vl M) ∧ Below w.heap.size w w'
theorem ar_cell {w : World} {A : Option Addr} {c n : Nat} {l : List RC} (h : Kt.Ar w (.slice A n c) 3 n (cvs l)) (hn : l.length = n) (k : Nat) (hk : k < l.length) : ∃ b o, A = some ⟨b, o, none⟩ ∧ b < w.heap.size ∧ w.cell? ⟨b, o + k * 3, none⟩ = some (.int .u64 l[k].1) ∧ w.cell? ⟨b, o + k * 3 + 1, none⟩ = some (.int .i64 l[k].2.1) ∧ w.cell? ⟨b, o + k * 3 + 2, none⟩ = some (.bool l[k].2.2) := by
  obtain ⟨_, _, e, _, hx⟩ := h.form
  cases e
  obtain ⟨b, o, rfl, hb, hc⟩ := hx (by omega)
  have g : ∀ j (hj : j < 3), w.cell? ⟨b, o + (k * 3 + j), none⟩ = (cv l[k])[j]? := fun j hj => by
    rw [hc (k * 3 + j) (by rw [cvs_len]; omega), ← List.getElem?_eq_getElem, cvs_get _ _ _ hj, List.getElem?_eq_getElem hk]; rfl
  exact ⟨b, o, rfl, hb, g 0 (by decide), g 1 (by decide), g 2 (by decide)⟩
section
variable {ops : Array Oper} {rest : List Oper} {o : Oper} {a : Act} {w : World} {Q : Exit → Act → World → Prop}
theorem load_r1_g (hgd : Region.wanted o (yielded ops a.tmps) = true) (x : Operand) (ho : o.op = .load 37 x) (g : Nat) (hx : a.eval x = .pointer (some ⟨g, 6, none⟩)) (M : Mv) (hb : Mb g M w)
    (h : wpList Try.prog ops Q rest (a.put o.dst (rgV M.E M.v)) w) : wpList Try.prog ops Q (o :: rest) a w := by
  refine BigFrame.wpList_want hgd fun K hK => ?_
  exact wp_load_mid 37 x ho g 6 hx (rc M.E M.v) _ (range_of hb.r1) Try.underlying37 rfl size_ring (hK _ _ h)
theorem load_bd_g (hgd : Region.wanted o (yielded ops a.tmps) = true) (x : Operand) (ho : o.op = .load 43 x) (g : Nat) (hx : a.eval x = .pointer (some ⟨g, 12, none⟩)) (M : Mv) (hb : Mb g M w) (hk : Mk M)
    (h : wpList Try.prog ops Q rest (a.put o.dst (.agg (Kt.ia .i64 M.l))) w) : wpList Try.prog ops Q (o :: rest) a w := by
  refine BigFrame.wpList_want hgd fun K hK => ?_
  exact wp_load_mid 43 x ho g 12 hx (M.l.map (Value.int .i64)) _ (range_of hb.bd) Try.underlying43 rfl (by rw [List.length_map, hk.l]; exact size_board) (hK _ _ h)
end
theorem ok_of_chk {l : List Int} : chk l = 0 ↔ Ok l := by
  unfold chk
  split <;> rename_i h
  · exact ⟨fun _ => h, fun _ => rfl⟩
  · exact ⟨fun x => (by cases x), fun x => absurd x h⟩
theorem unR_ok {x : Nat} (h : x < 35184372088832) : ∃ k s e a : Int, unR x = .tuple #[.agg #[.int .i64 k, .int .i64 s, .int .i64 e, .int .i64 a], .int .i64 0] := ⟨_, _, _, _, if_pos h⟩
theorem unR_no {x : Nat} (h : ¬ x < 35184372088832) : unR x = .tuple #[.agg #[.int .i64 0, .int .i64 0, .int .i64 0, .int .i64 0], .int .i64 4] := if_neg h
theorem i47 {k n : Nat} (h : k < n) (hn : n ≤ 140737488355328) : wrap64 ((k : Int) + 1) = ((k + 1 : Nat) : Int) := by unfold wrap64; omega
theorem lt_intk {p n : Nat} (h : p < n) : (p : Int) < n := by omega
theorem meas_up {k n : Nat} (h : k < n) : n - (intOf (.int .i64 ((k + 1 : Nat) : Int))).toNat < n - (intOf (.int .i64 (k : Int))).toNat := by simp [intOf]; omega
set_option maxRecDepth 100000 in
set_option maxHeartbeats 6400000 in
theorem valid_calls (M : Mv) (w : World) (hM : MA w M) (h1 : M.r.cs.length ≤ 140737488355328) (h2 : M.v.cs.length ≤ 140737488355328) (hw : Wf M.r.cs) (hw2 : Wf M.v.cs) : Calls Try.prog 27 #[.agg (mA M)] w (VlIs M w) := by
  have HM := Lib.hid hM; have HW := Lib.hid hw; have HW2 := Lib.hid hw2; have H1 := Lib.hid h1; have H2 := Lib.hid h2
  have HB := Lib.hid (Kt.balloc (Below.refl _ w) (.cells (mA M) 45))
  have HR := Lib.hid (show Mb w.heap.size M (w.alloc (.cells (mA M) 45)) from heap_alloc_new w _)
  have HC1 := Lib.hid (fun W (hb : Below w.heap.size w W) => rchk_callsL (rgV M.C M.r) M.r W (hM.on hb).ra h1)
  have HC2 := Lib.hid (fun W (hb : Below w.heap.size w W) => rchk_callsL (rgV M.E M.v) M.v W (hM.on hb).rb h2)
  have HC3 := Lib.hid (fun W => check_calls M.l hM.k.l W)
  have hk := hM.k
  clear hM hw hw2 h1 h2
  go_enter Try.func27, Try.ntmps27
  go_upto_region 1 with (fail)
  refine Kt.fold (fun W => Mb w.heap.size M W ∧ Below w.heap.size w W) ⟨HR.out, HB.out⟩ ?_
  clear HR HB
  rintro W1 ⟨hr, hb⟩
  have HR := Lib.hid hr; have HB := Lib.hid hb
  have b0 := hr
  clear hr hb
  go_wp2_with (refine load_r0 rfl (.tmp 9) rfl w.heap.size rfl M b0 ?_)
  refine (HC1.out W1 HB.out).mono ?_
  rintro _ W2 ⟨n, rfl, hn, hb⟩
  have HN := Lib.hid hn
  have HB2 := Lib.hid (Kt.bthen HB.out hb)
  have b2 := b0.on hb
  clear hb hn b0 HB
  by_cases n0 : n = 0
  · subst n0
    have HRR := Lib.hid (HN.out.1 rfl)
    clear HN
    go_wp2_with (refine load_r1_g (by rfl) (.tmp 14) rfl w.heap.size rfl M b2 ?_)
    refine (HC2.out W2 HB2.out).mono ?_
    rintro _ W3 ⟨n, rfl, hn, hb⟩
    have HN := Lib.hid hn
    have HB3 := Lib.hid (Kt.bthen HB2.out hb)
    have b3 := b2.on hb
    clear hb hn b2 HB2
    by_cases n0 : n = 0
    · subst n0
      have HRV := Lib.hid (HN.out.1 rfl)
      clear HN
      go_wp2_with (refine load_bd_g (by rfl) (.tmp 20) rfl w.heap.size rfl M b3 hk ?_)
      refine (HC3.out W3).mono ?_
      rintro _ W4 ⟨rfl, hb⟩
      have HB4 := Lib.hid (Kt.bthen HB3.out hb)
      have b4 := b3.on hb
      clear hb b3 HB3
      by_cases c0 : chk M.l = 0
      · have HOK := Lib.hid (ok_of_chk.1 c0)
        rw [c0]
        clear c0
        obtain ⟨CA, cc, hC, _, _⟩ := HM.out.c.form
        obtain ⟨EA, ec, hE, _, _⟩ := HM.out.e.form
        obtain ⟨n, hn⟩ : ∃ n, n = M.r.cs.length := ⟨_, rfl⟩
        obtain ⟨m, hm⟩ : ∃ m, m = M.v.cs.length := ⟨_, rfl⟩
        rw [← hn] at hC
        rw [← hm] at hE
        have HAC : Hid (Kt.Ar w (.slice CA n cc) 3 n (cvs M.r.cs)) := Lib.hid (by rw [← hC, hn]; exact HM.out.c)
        have HAE : Hid (Kt.Ar w (.slice EA m ec) 3 m (cvs M.v.cs)) := Lib.hid (by rw [← hE, hm]; exact HM.out.e)
        have HN := Lib.hid hn; have HMM := Lib.hid hm
        have HE := Lib.hid hE
        have HN47 : Hid (n ≤ 140737488355328) := Lib.hid (by rw [hn]; exact H1.out)
        have HM47 : Hid (m ≤ 140737488355328) := Lib.hid (by rw [hm]; exact H2.out)
        have q0 : W4.cell? ⟨w.heap.size, 0, none⟩ = some (.slice CA n cc) := (b4.cell 0).trans (by rw [← hC]; rfl)
        have HB0 := Lib.hid b4
        clear hn hm hC hE b4 hk HM
        go_wp2_with fail
        clear q0
        go_loopw [29] (fun vi wr => ∃ k : Nat, Hid (k ≤ n) ∧ vi = .int .i64 k ∧ Hid (∀ j (h : j < M.r.cs.length), j < k → M.r.cs[j].1 < 35184372088832) ∧ Hid (Mb w.heap.size M wr) ∧ Hid (Below w.heap.size w wr)) (fun vi _ => n - (intOf vi).toNat)
        case atStart => exact ⟨0, Lib.hid (Nat.zero_le _), rfl, Lib.hid (fun j _ h => absurd h (Nat.not_lt_zero _)), HB0, HB4⟩
        case round =>
          clear HB0 HB4
          obtain ⟨k, HK, rfl, HA, HB0, HB4⟩ := hrel
          by_cases hlt : k < n
          · have t1 := lt_intk hlt
            have hkl : k < M.r.cs.length := by rw [← HN.out]; exact hlt
            obtain ⟨b, o, rfl, _, x1, x2, x3⟩ := ar_cell (HAC.out.on HB4.out) HN.out.symm k hkl
            have hwf := HW.out _ (List.getElem_mem hkl)
            have hw := i47 hlt HN47.out
            have HWK := Lib.hid hw
            have HLT := Lib.hid hlt
            obtain ⟨X, hX⟩ : ∃ X : Nat, M.r.cs[k].1 = (X : Int) := ⟨M.r.cs[k].1.toNat, (Int.toNat_of_nonneg hwf.1).symm⟩
            have HX := Lib.hid (show X = (M.r.cs[k]'hkl).1.toNat by rw [hX]; rfl)
            have HXI : Hid (∀ h : k < M.r.cs.length, (M.r.cs[k]'h).1 = (X : Int)) := Lib.hid (fun _ => hX)
            have hX64 : X < 18446744073709551616 := by have := hwf.2; rw [hX] at this; omega
            rw [hX] at x1
            have HU := Lib.hid (fun W => unpack_calls X hX64 W)
            generalize (M.r.cs[k]'hkl).2.1 = Y at x2
            generalize (M.r.cs[k]'hkl).2.2 = Z at x3
            clear hw hlt hkl hwf hX hX64 HX
            go_upto_region 6 with (fail)
            refine Kt.fold (fun W => Mb w.heap.size M W ∧ Below w.heap.size w W ∧ W.heap[wr.heap.size]? = some (.cells #[.int .u64 (X : Int), .int .i64 Y, .bool Z] 96 (0, 0))) ⟨HB0.out.on (Kt.balloc (Below.refl _ _) _), Kt.balloc HB4.out _, heap_alloc_new wr _⟩ ?_
            rintro W5 ⟨hb0, hb4, hrw⟩
            have HB05 := Lib.hid hb0; have HB5 := Lib.hid hb4
            have q := fun i => cell_of_row _ _ i _ _ _ hrw
            clear hb0 hb4 hrw x1 x2 x3 HB0 HB4
            go_wp2_with fail
            refine (HU.out W5).mono ?_
            rintro _ W6 ⟨rfl, hb⟩
            have HB06 := Lib.hid (HB05.out.on hb)
            have HB6 := Lib.hid (Kt.bthen HB5.out hb)
            clear hb HB05 HB5 q HU
            by_cases hx : X < 35184372088832
            · obtain ⟨k1, s1, e1, a1, hu⟩ := unR_ok hx
              rw [hu]
              have HAN : Hid (∀ j (h : j < M.r.cs.length), j < k + 1 → M.r.cs[j].1 < 35184372088832) := Lib.hid (fun j h hj => by
                by_cases e : j = k
                · subst e; rw [HXI.out h]; omega
                · exact HA.out j h (by omega))
              have HB07 := Lib.hid (HB06.out.on (Kt.balloc (Below.refl _ W6) (.cells #[.int .i64 k1, .int .i64 s1, .int .i64 e1, .int .i64 a1] 23)))
              have HB7 := Lib.hid (Kt.balloc HB6.out (.cells #[.int .i64 k1, .int .i64 s1, .int .i64 e1, .int .i64 a1] 23))
              clear hu hx HA HB06 HB6
              go_wp2_with fail
              go_roundw
              case rel => exact ⟨k + 1, HLT, congrArg _ (by first | rfl | exact HWK.out), HAN, HB07, HB7⟩
              case measure => (try rw [HWK.out]); exact meas_up HLT.out
            · rw [unR_no hx]
              have HNV : Hid (¬ Vl M) := Lib.hid (fun h => by
                have hkl : k < M.r.cs.length := by rw [← HN.out]; exact HLT.out
                have := h.cw _ (List.getElem_mem hkl)
                rw [HXI.out hkl] at this
                omega)
              have HB7 := Lib.hid (Kt.balloc HB6.out (.cells #[.int .i64 0, .int .i64 0, .int .i64 0, .int .i64 0] 23))
              clear hx HA HB6 HB06
              go_wp2_with fail
              go_ret
              exact ⟨_, rfl, ⟨fun h => (by cases h), fun h => absurd h HNV.out⟩, HB7.out⟩
          · have t1 : ¬ (k : Int) < n := fun h => hlt (Int.ofNat_lt.1 h)
            have HCW : Hid (∀ c ∈ M.r.cs, c.1 < 35184372088832) := Lib.hid (fun c hc => by
              obtain ⟨j, hj, rfl⟩ := List.mem_iff_getElem.1 hc
              exact HA.out j hj (by have := HN.out; omega))
            have q0 : wr.cell? ⟨w.heap.size, 6, none⟩ = some (.slice EA m ec) := (HB0.out.cell 6).trans (by rw [← HE.out]; rfl)
            clear hlt HA
            go_wp2_with fail
            clear q0
            go_loopw [46] (fun vi wq => ∃ j : Nat, Hid (j ≤ m) ∧ vi = .int .i64 j ∧ Hid (∀ i (h : i < M.v.cs.length), i < j → M.v.cs[i].1 < 16777216) ∧ Hid (Below w.heap.size w wq)) (fun vi _ => m - (intOf vi).toNat)
            case atStart => exact ⟨0, Lib.hid (Nat.zero_le _), rfl, Lib.hid (fun i _ h => absurd h (Nat.not_lt_zero _)), HB4⟩
            case round =>
              clear HB4 HB0
              obtain ⟨j, HJ, rfl, HA, HB4⟩ := hrel
              by_cases hlt : j < m
              · have t2 := lt_intk hlt
                have hjl : j < M.v.cs.length := by rw [← HMM.out]; exact hlt
                obtain ⟨b, o, rfl, _, x1, x2, x3⟩ := ar_cell (HAE.out.on HB4.out) HMM.out.symm j hjl
                have hw := i47 hlt HM47.out
                have HWK := Lib.hid hw
                have HLT := Lib.hid hlt
                obtain ⟨X, hX⟩ : ∃ X : Int, M.v.cs[j].1 = X := ⟨_, rfl⟩
                have HXI : Hid (∀ h : j < M.v.cs.length, (M.v.cs[j]'h).1 = X) := Lib.hid (fun _ => hX)
                rw [hX] at x1
                generalize (M.v.cs[j]'hjl).2.1 = Y at x2
                generalize (M.v.cs[j]'hjl).2.2 = Z at x3
                have HB5 := Lib.hid (Kt.balloc HB4.out (.cells #[.int .u64 X, .int .i64 Y, .bool Z] 96))
                clear hw hlt hjl hX
                by_cases hx : 16777216 ≤ X
                · have HNV : Hid (¬ Vl M) := Lib.hid (fun h => by
                    have hjl : j < M.v.cs.length := by rw [← HMM.out]; exact HLT.out
                    have := h.ew _ (List.getElem_mem hjl)
                    rw [HXI.out hjl] at this
                    omega)
                  go_wp2_with fail
                  go_ret
                  exact ⟨_, rfl, ⟨fun h => (by cases h), fun h => absurd h HNV.out⟩, HB5.out⟩
                · have HAN : Hid (∀ i (h : i < M.v.cs.length), i < j + 1 → M.v.cs[i].1 < 16777216) := Lib.hid (fun i h hi => by
                    by_cases e : i = j
                    · subst e; rw [HXI.out h]; omega
                    · exact HA.out i h (by omega))
                  go_wp2_with fail
                  go_roundw
                  case rel => exact ⟨j + 1, HLT, congrArg _ (by first | rfl | exact HWK.out), HAN, HB5⟩
                  case measure => (try rw [HWK.out]); exact meas_up HLT.out
              · have t2 : ¬ (j : Int) < m := fun h => hlt (Int.ofNat_lt.1 h)
                have HV : Hid (Vl M) := Lib.hid ⟨HRR.out, HRV.out, HOK.out, HCW.out, fun c hc => by
                  obtain ⟨i, hi, rfl⟩ := List.mem_iff_getElem.1 hc
                  exact HA.out i hi (by have := HMM.out; omega)⟩
                clear hlt
                go_wp2_with fail
                go_ret
                exact ⟨_, rfl, ⟨fun _ => HV.out, fun _ => rfl⟩, HB4.out⟩
      · have HNV : Hid (¬ Vl M) := Lib.hid (fun h => c0 (ok_of_chk.2 h.b))
        obtain ⟨c, hc⟩ : ∃ c, c = chk M.l := ⟨_, rfl⟩
        rw [← hc] at c0 ⊢
        clear hc
        go_wp2_with fail
        go_ret
        exact ⟨_, rfl, ⟨fun h => (by cases h), fun h => absurd h HNV.out⟩, HB4.out⟩
    · have HNV : Hid (¬ Vl M) := Lib.hid (fun h => n0 (HN.out.2 h.v))
      go_wp2_with fail
      go_ret
      exact ⟨_, rfl, ⟨fun h => (by cases h), fun h => absurd h HNV.out⟩, HB3.out⟩
  · have HNV : Hid (¬ Vl M) := Lib.hid (fun h => n0 (HN.out.2 h.r))
    go_wp2_with fail
    go_ret
    exact ⟨_, rfl, ⟨fun h => (by cases h), fun h => absurd h HNV.out⟩, HB2.out⟩
end Go.Proofs.Ytidcbboonjenhaa
