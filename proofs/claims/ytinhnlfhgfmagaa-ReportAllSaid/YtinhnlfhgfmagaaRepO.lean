/- The law ReportAside. -/
import Derived.Test.YtinhnlfhgfmagaaRepT
import Derived.Test.YtinhnlfhgfmagaaRepN
namespace Go.Proofs.Ytinhnlfhgfmagaa
open Go.RowKit Go.Proofs.Ytinhnlfhgfmagaa.Rep
def aside (k : Int) : Prop := k ≠ 41 ∧ k ≠ 45 ∧ k ≠ 40 ∧ k ≠ 48 ∧ k ≠ 2 ∧ k ≠ 32
theorem glob_stk {s : RS} {k : Int} (h : aside k) (v : Int) : (glob s k v).1.stk = s.stk := by
  unfold glob
  split; exact rfl
  split; exact rfl
  split; exact rfl
  split
  · split <;> rfl
  split
  · split <;> rfl
  split
  · rename_i e; exact absurd e h.1
  split
  · rename_i e; exact absurd e h.2.1
  rfl
theorem itm_aside {s : RS} {k : Int} (h : aside k) (v : Int) : itm s k v = glob s k v := by
  unfold itm
  rw [if_neg h.2.2.2.2.1, if_neg h.2.2.1, if_neg h.2.2.2.1, if_neg h.2.2.2.2.2]
structure Same (a b : RS) : Prop where
  stk : a.stk = b.stk
  us : a.us = b.us
  dep : a.dep = b.dep
  bits : a.bits = b.bits
  out : a.out = b.out
theorem steps_aside : ∀ (l : List (Int × Int)) (s : RS), (∀ x ∈ l, aside x.1) → Same (steps s l).1 s
  | [], _, _ => ⟨rfl, rfl, rfl, rfl, rfl⟩
  | x :: l, s, h => by
    have hx := h x (List.mem_cons_self)
    have hs : Same (itm s x.1 x.2).1 s := by
      rw [itm_aside hx]
      obtain ⟨a, b, c, d⟩ := glob_same s x.1 x.2
      exact ⟨glob_stk hx x.2, c, d, b, a⟩
    show Same (if (itm s x.1 x.2).2 = 0 then steps (itm s x.1 x.2).1 l else itm s x.1 x.2).1 s
    split
    · have := steps_aside l (itm s x.1 x.2).1 (fun y hy => h y (List.mem_cons_of_mem _ hy))
      exact ⟨this.stk.trans hs.stk, this.us.trans hs.us, this.dep.trans hs.dep, this.bits.trans hs.bits, this.out.trans hs.out⟩
    · exact hs
theorem steps_one (s : RS) (x : Int × Int) (l : List (Int × Int)) : steps s (x :: l) = if (itm s x.1 x.2).2 = 0 then steps (itm s x.1 x.2).1 l else itm s x.1 x.2 := rfl
/-- a push, what stands aside, and its pop: nothing -/
theorem steps_frame (s : RS) (l behind : List (Int × Int)) (h : ∀ x ∈ l, aside x.1) (h0 : (steps s ((41, 0) :: (l ++ (45, 0) :: behind))).2 = 0) : steps s ((41, 0) :: (l ++ (45, 0) :: behind)) = steps s behind := by
  rw [steps_one] at h0 ⊢
  have e1 : itm s 41 0 = glob s 41 0 := rfl
  dsimp only at h0 ⊢
  by_cases h4 : s.stk.length = 4
  · have e : itm s 41 0 = (s, 11) := by rw [e1]; unfold glob; simp [h4]
    rw [e, if_neg (show ¬ ((11 : Int) = 0) by decide)] at h0
    exact absurd h0 (show ¬ ((11 : Int) = 0) by decide)
  have e : itm s 41 0 = ({ s with stk := s.stk ++ [s.st] }, 0) := by rw [e1]; unfold glob; simp [h4]
  rw [e] at h0 ⊢
  rw [if_pos rfl] at h0 ⊢
  rw [steps_app] at h0 ⊢
  obtain ⟨r, hr⟩ : ∃ r, steps { s with stk := s.stk ++ [s.st] } l = r := ⟨_, rfl⟩
  have hs := steps_aside l { s with stk := s.stk ++ [s.st] } h
  dsimp only at h0 ⊢
  rw [hr] at hs h0 ⊢
  by_cases hn : r.2 = 0
  · rw [if_pos hn, steps_one] at h0 ⊢
    have hk : r.1.stk = s.stk ++ [s.st] := hs.stk
    have e2 : itm r.1 45 0 = ({ r.1 with st := s.st, stk := s.stk }, 0) := by
      have : itm r.1 45 0 = glob r.1 45 0 := rfl
      rw [this]; unfold glob; simp [hk]
    have e3 : ({ r.1 with st := s.st, stk := s.stk } : RS) = s := by
      obtain ⟨⟨a, b, c, d, e, f⟩, n⟩ := r
      obtain ⟨h1, h2, h3, h4, h5⟩ := hs
      dsimp only at h2 h3 h4 h5
      subst h2 h3 h4 h5
      rfl
    dsimp only at h0 ⊢
    rw [e2, e3, if_pos rfl]
  · rw [if_neg hn] at h0
    exact absurd h0 hn
theorem fin_zero {r : RS × Int} (h : (fin r).2 = 0) : r.2 = 0 := by
  unfold fin at h
  split at h
  · assumption
  · exact h
theorem flds_aside (l btw behind : List (Int × Int)) (h : ∀ x ∈ btw, aside x.1) (h0 : (flds (l ++ (41, 0) :: (btw ++ (45, 0) :: behind))).2 = 0) : flds (l ++ behind) = flds (l ++ (41, 0) :: (btw ++ (45, 0) :: behind)) := by
  unfold flds at h0 ⊢
  split at h0
  · exact absurd h0 (by decide)
  rename_i hb
  have hb2 : ¬ 200 < (l ++ behind).length := by
    simp only [List.length_append, List.length_cons] at hb ⊢; omega
  rw [if_neg hb, if_neg hb2]
  have h1 := fin_zero h0
  rw [steps_app] at h1 ⊢
  rw [steps_app]
  by_cases hn : (steps s0 l).2 = 0
  · rw [if_pos hn] at h1
    rw [if_pos hn, if_pos hn, steps_frame _ _ _ h h1]
  · rw [if_neg hn, if_neg hn]
theorem its_two (k v : Int) : its [(k, v)] = [.int .i64 k, .int .i64 v] := rfl
set_option maxRecDepth 100000 in
set_option maxHeartbeats 6400000 in
theorem aside_walk (v0 v1 v2 : Value) (w : World) (r0 : Fr.RdV w 1048576 (.slice 2 itTy) v0) (r1 : Fr.RdV w 1048576 (.slice 2 itTy) v1) (r2 : Fr.RdV w 1048576 (.slice 2 itTy) v2) :
    Calls Try.prog 4 #[v0, v1, v2] w fun e w' => e = .returned (.bool true) ∧ Below w.heap.size w w' := by
  obtain ⟨l, hl1, ha⟩ := ar_items r0
  obtain ⟨btw, hl2, hb⟩ := ar_items r1
  obtain ⟨bhd, hl3, hc⟩ := ar_items r2
  obtain ⟨A0, c0, rfl, _, _⟩ := ha.form
  obtain ⟨A1, c1, rfl, _, hbx⟩ := hb.form
  obtain ⟨A2, c2, rfl, _, _⟩ := hc.form
  have HA := Lib.hid ha
  have HB := Lib.hid hb
  have HC := Lib.hid hc
  have HBX := Lib.hid hbx
  obtain ⟨n, hn⟩ : ∃ n, btw.length = n := ⟨_, rfl⟩
  have HN := Lib.hid hn
  rw [hn] at HB HBX hl2 ⊢
  clear ha hb hc r0 r1 r2 hbx hn
  go_enter Try.func4, Try.ntmps4
  go_wp2_with fail
  go_loopw [16] (fun i wr => ∃ k : Nat, k ≤ n ∧ i = .int .i64 k ∧ Hid (∀ x ∈ btw.take k, aside x.1) ∧ Hid (Below w.heap.size w wr)) (fun i _ => n - (intOf i).toNat)
  case atStart => exact ⟨0, Nat.zero_le _, rfl, Lib.hid (by simp), Lib.hid (Below.refl _ _)⟩
  case round =>
    obtain ⟨k, hk, rfl, HAS, HBE⟩ := hrel
    by_cases hlt : k < n
    · have hltb : k < btw.length := by rw [HN.out]; exact hlt
      obtain ⟨b, o, rfl, hb0, hc1⟩ := HBX.out (by omega)
      obtain ⟨i1, i2⟩ := its_at btw k hltb
      have hz := HBE.out.size
      have hcx : ∀ j u, (its btw)[j]? = some u → wr.cell? ⟨b, o + j, none⟩ = some u := fun j u hj => by
        obtain ⟨hj1, rfl⟩ := List.getElem?_eq_some_iff.1 hj
        exact (HBE.out.cell (p := ⟨b, o + j, none⟩) hb0).trans (hc1 j hj1)
      have x0 := hcx _ _ i1
      have x1 := hcx _ _ i2
      rw [← Nat.add_assoc] at x1
      have HOK : Hid (btw.take (k + 1) = btw.take k ++ [btw[k]]) := Lib.hid (by rw [List.take_succ_eq_append_getElem hltb])
      have hbz : b < wr.heap.size := Nat.lt_of_lt_of_le hb0 hz
      obtain ⟨kk, hkk⟩ : ∃ q, (btw[k]).1 = q := ⟨_, rfl⟩
      obtain ⟨vv, hvv⟩ : ∃ q, (btw[k]).2 = q := ⟨_, rfl⟩
      rw [hkk] at x0
      rw [hvv] at x1
      have HKK := Lib.hid hkk
      clear hc1 hcx i1 i2 hz hkk hvv
      by_cases hs : aside kk
      · obtain ⟨s1, s2, s3, s4, s5, s6⟩ := hs
        have q1 : (kk == 41) = false := beq_eq_false_iff_ne.2 s1
        have q2 : (kk == 45) = false := beq_eq_false_iff_ne.2 s2
        have q3 : (kk == 40) = false := beq_eq_false_iff_ne.2 s3
        have q4 : (kk == 48) = false := beq_eq_false_iff_ne.2 s4
        have q5 : (kk == 2) = false := beq_eq_false_iff_ne.2 s5
        have q6 : (kk == 32) = false := beq_eq_false_iff_ne.2 s6
        have HS : Hid (aside kk) := Lib.hid ⟨s1, s2, s3, s4, s5, s6⟩
        clear s1 s2 s3 s4 s5 s6
        go_wp2_with fail
        go_roundw
        case rel =>
          refine ⟨k + 1, by omega, by go_num, Lib.hid ?_, Lib.hid (Kt.balloc HBE.out _)⟩
          intro x hx
          rw [HOK.out] at hx
          rcases List.mem_append.1 hx with hx | hx
          · exact HAS.out x hx
          · rw [List.mem_singleton.1 hx, HKK.out]; exact HS.out
        case measure => (simp [intOf] <;> omega)
      · have hq : kk = 41 ∨ kk = 45 ∨ kk = 40 ∨ kk = 48 ∨ kk = 2 ∨ kk = 32 := by unfold aside at hs; omega
        clear hs
        rcases hq with rfl | rfl | rfl | rfl | rfl | rfl
        all_goals
          go_wp2_with fail
          refine (lives_calls _).mono ?_
          rintro en w2 ⟨rfl, hb⟩
          have HB2 := Lib.hid (Kt.bthen (Kt.balloc HBE.out _) hb)
          clear hb
          go_wp2_with fail
          go_ret
          exact ⟨rfl, HB2.out⟩
    · obtain rfl : k = n := by omega
      have HAL : Hid (∀ x ∈ btw, aside x.1) := Lib.hid (by
        have h := HAS.out
        rwa [List.take_of_length_le (by rw [HN.out]; exact Nat.le_refl _)] at h)
      clear hlt hk HAS HBX
      go_wp2_with fail
      refine (clonei_calls _ l.length (its l) _ (HA.out.on HBE.out) (its_one l) hl1).mono ?_
      rintro en w2 ⟨A3, c3, rfl, hs, hb⟩
      have HB2 := Lib.hid (Kt.bthen HBE.out hb)
      have HS2 := Lib.hid hs
      have hz2 : wr.heap.size ≤ w2.heap.size := hb.size
      clear hb hs
      go_upto_region 8 with (first
        | (refine Kt.append_sl _ (by rfl) (.tmp 51) (.tmp 53) 22 rfl wr.heap.size 32 (.agg #[.int .i64 0, .int .i64 0]) 2 16 item_info Try.underlying22 rfl (by decide) _ _ _ rfl (HS2.out.alloc _) ⟨w2.heap.size, 0, none⟩ 1 1 (its [(41, 0)]) rfl rfl (Kt.new_cells w2 (its [(41, 0)]).toArray _) (its_one _) (by unfold maxLen; omega) (by omega) (by rw [World.size_alloc]; omega) ?_
           intro A4 c4 w4 hsl4 hb4 hz4 hk4 ho4
           clear hk4 ho4
           rw [World.size_alloc] at hz4)
        | (refine Kt.append_ar (by rfl) (.tmp 54) (.tmp 55) 22 rfl wr.heap.size 32 (.agg #[.int .i64 0, .int .i64 0]) 2 16 item_info Try.underlying22 rfl (by decide) _ _ _ rfl hsl4 _ _ _ rfl (HB.out.on (HB2.out.trans ((((Kt.balloc (Below.refl _ w2) (.cells (its [(41, 0)]).toArray 32)).mono hz2).trans hb4).mono HBE.out.size))) (its_one btw) (by unfold maxLen; omega) (by omega) (by omega) ?_
           intro A5 c5 w5 hsl5 hb5 hz5 hk5 ho5
           clear hk5 ho5)
        | (refine Kt.append_sl _ (by rfl) (.tmp 56) (.tmp 58) 22 rfl wr.heap.size 32 (.agg #[.int .i64 0, .int .i64 0]) 2 16 item_info Try.underlying22 rfl (by decide) _ _ _ rfl (hsl5.alloc _) ⟨w5.heap.size, 0, none⟩ 1 1 (its [(45, 0)]) rfl rfl (Kt.new_cells w5 (its [(45, 0)]).toArray _) (its_one _) (by unfold maxLen; omega) (by omega) (by rw [World.size_alloc]; omega) ?_
           intro A6 c6 w6 hsl6 hb6 hz6 hk6 ho6
           clear hk6 ho6
           rw [World.size_alloc] at hz6))
      have X2 := (Kt.balloc (Below.refl _ w2) (.cells (its [(41, 0)]).toArray 32)).mono hz2
      have X5 := (Kt.balloc (Below.refl _ w5) (.cells (its [(45, 0)]).toArray 32)).mono (show wr.heap.size ≤ _ by omega)
      have HB26 := Lib.hid ((((X2.trans hb4).trans hb5).trans X5).trans hb6)
      have HB6 := Lib.hid (HB2.out.trans (HB26.out.mono HBE.out.size))
      have HS6 := Lib.hid hsl6
      have hz7 : wr.heap.size ≤ w6.heap.size := by omega
      clear hsl4 hb4 hz4 hsl5 hb5 hz5 hsl6 hb6 hz6 X2 X5 HB26 HS2 hz2 HB HB2
      have HCC := Lib.hid (HC.out.on HB6.out)
      go_wp2_with
        (refine Kt.append_ar (by rfl) (.tmp 61) (.tmp 62) 22 rfl wr.heap.size 32 (.agg #[.int .i64 0, .int .i64 0]) 2 16 item_info Try.underlying22 rfl (by decide) _ _ _ rfl HS6.out _ _ _ rfl HCC.out (its_one bhd) (by unfold maxLen; omega) (by omega) hz7 ?_
         intro A7 c7 w7 hsl7 hb7 hz8 hk7 ho7
         clear hk7 ho7)
      obtain ⟨L, hL⟩ : ∃ L, l ++ (41, 0) :: (btw ++ (45, 0) :: bhd) = L := ⟨_, rfl⟩
      have HLL := Lib.hid hL
      have HS7 : Hid (Kt.Ar w7 (.slice A7 (l.length + 1 + k + 1 + bhd.length) c7) 2 L.length (its L)) := Lib.hid (by
        have h1 : L.length = l.length + 1 + k + 1 + bhd.length := by rw [← hL, ← HN.out]; simp only [List.length_append, List.length_cons]; omega
        have h2 : its L = its l ++ its [(41, 0)] ++ its btw ++ its [(45, 0)] ++ its bhd := by rw [← hL]; simp [its]
        rw [h1, h2]
        exact Kt.Ar.of_sl hsl7)
      have HB7 := Lib.hid (HB6.out.trans (hb7.mono HBE.out.size))
      clear hsl7 hb7 hz8 hL
      refine (fields_calls L _ _ HS7.out).mono ?_
      rintro en w8 ⟨A8, c8, rfl, hs, hb⟩
      have HB8 := Lib.hid (Kt.bthen HB7.out hb)
      have HS8 := Lib.hid hs
      clear hs hb
      obtain ⟨r, hr⟩ : ∃ r, flds L = r := ⟨_, rfl⟩
      have HR := Lib.hid hr
      rw [hr] at HS8
      rw [hr]
      clear hr
      obtain ⟨m, n1⟩ := r
      dsimp only at *
      go_wp2_with fail
      refine (clonei_calls _ l.length (its l) _ (HA.out.on HB8.out) (its_one l) hl1).mono ?_
      rintro en w9 ⟨A9, c9, rfl, hs, hb⟩
      have HB9 := Lib.hid (Kt.bthen HB8.out hb)
      have HS9 := Lib.hid hs
      have HS89 := Lib.hid (HS8.out.on hb)
      have HC9 := Lib.hid (HC.out.on HB9.out)
      have hz9 : w8.heap.size ≤ w9.heap.size := hb.size
      have HB89 := Lib.hid hb
      clear hb hs
      go_wp2_with
        (refine Kt.append_ar (by rfl) (.tmp 69) (.tmp 70) 22 rfl w8.heap.size 32 (.agg #[.int .i64 0, .int .i64 0]) 2 16 item_info Try.underlying22 rfl (by decide) _ _ _ rfl HS9.out _ _ _ rfl HC9.out (its_one bhd) (by unfold maxLen; omega) (by omega) hz9 ?_
         intro A10 c10 w10 hsl10 hb10 hz10 hk10 ho10
         clear hk10 ho10)
      have HS10 : Hid (Kt.Ar w10 (.slice A10 (l.length + bhd.length) c10) 2 (l ++ bhd).length (its (l ++ bhd))) := Lib.hid (by
        rw [List.length_append, its_app]
        exact Kt.Ar.of_sl hsl10)
      have HB810 := Lib.hid (HB89.out.trans hb10)
      have HB10 := Lib.hid (Kt.bthen HB8.out HB810.out)
      have HS810 := Lib.hid (HS8.out.on HB810.out)
      clear hsl10 hb10 hz10
      refine (fields_calls (l ++ bhd) _ _ HS10.out).mono ?_
      rintro en w11 ⟨A11, c11, rfl, hs, hb⟩
      have HB11 := Lib.hid (Kt.bthen HB10.out hb)
      have HS11 := Lib.hid hs
      have HS811 := Lib.hid (HS810.out.on hb)
      clear hs hb
      obtain ⟨r2, hr⟩ : ∃ r, flds (l ++ bhd) = r := ⟨_, rfl⟩
      have HR2 := Lib.hid hr
      rw [hr] at HS11
      rw [hr]
      clear hr
      obtain ⟨m2, n2⟩ := r2
      dsimp only at *
      go_wp2_with fail
      refine (lives_calls _).mono ?_
      rintro en w12 ⟨rfl, hb⟩
      have HB12 := Lib.hid (Kt.bthen HB11.out hb)
      have HS812 := Lib.hid (HS811.out.on hb)
      have HS1112 := Lib.hid (HS11.out.on hb)
      clear hb
      by_cases hn : n1 = 0
      · subst hn
        have hm := flds_aside l btw bhd HAL.out (by rw [HLL.out, HR.out])
        rw [HLL.out, HR.out, HR2.out] at hm
        obtain ⟨rfl, rfl⟩ := Prod.mk.inj hm
        have hml := (flds_til HR2.out).2.2
        clear hm
        go_wp2_with fail
        refine (eqf_calls _ _ m2.length m2.length (fcells m2) (fcells m2) _ (Kt.Ar.of_sl HS812.out) (Kt.Ar.of_sl HS1112.out) (fcells_cl m2) (fcells_cl m2) (by omega)).mono ?_
        rintro en w13 ⟨b, rfl, hq, hb⟩
        obtain rfl : b = true := hq.2 rfl
        have HB13 := Lib.hid (Kt.bthen HB12.out hb)
        clear hb hq
        go_wp2_with fail
        go_ret
        exact ⟨rfl, HB13.out⟩
      · obtain rfl : m = [] := flds_bad HR.out hn
        have e0 : (n1 != 0) = true := by rw [bne_iff_ne]; exact hn
        clear hn
        go_wp2_with fail
        refine (lives_calls _).mono ?_
        rintro en w13 ⟨rfl, hb⟩
        have HB13 := Lib.hid (Kt.bthen HB12.out hb)
        clear hb
        go_wp2_with fail
        go_ret
        exact ⟨rfl, HB13.out⟩
end Go.Proofs.Ytinhnlfhgfmagaa
