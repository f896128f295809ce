/- The law TalkSpied. -/
import Derived.Test.YtmnmlnnhngnfbaaDoorTlkX
namespace Go.Proofs.YtmnmlnnhngnfbaaDoor
open Go.RowKit Go.Proofs.YtmnmlnnhngnfbaaDoor.PktP Go.Proofs.YtmnmlnnhngnfbaaDoor.Phy Go.Proofs.YtmnmlnnhngnfbaaDoor.Lan
/-- what stands ahead of the two laws' own work: nothing to say -/
def Early (t : ByteArray) (a e s : Int) (fs : List Int) : Prop := ¬ ((1 ≤ a ∧ a ≤ 127) ∧ (1 ≤ e ∧ e ≤ 15) ∧ OkArgs t s fs ∧ fs.length ≤ 300)
theorem talk_any (t : ByteArray) (a e s : Int) (fs : List Int) (U : Value) (w : World) (hU : Kt.Ar w U 1 fs.length (ics fs)) (h : ¬ ((1 ≤ a ∧ a ≤ 127) ∧ (1 ≤ e ∧ e ≤ 15) ∧ OkArgs t s fs)) :
    Calls Tryd.prog 7 #[.string t, .int .i64 a, .int .i64 e, .int .i64 s, U] w fun en w' => ∃ n : Int, n ≠ 0 ∧ en = .returned (.tuple #[tkV 0 [] 0 0 ⟨#[]⟩, .int .i64 n]) ∧ Below w.heap.size w w' := by
  by_cases h1 : (1 ≤ a ∧ a ≤ 127) ∧ (1 ≤ e ∧ e ≤ 15)
  · refine (talk_err t a e s fs U w hU h1.1 h1.2 (fun q => h ⟨h1.1, h1.2, q⟩)).mono ?_
    rintro en w' ⟨rfl, h2, hb⟩
    exact ⟨_, h2, rfl, hb⟩
  · refine (talk_bad t a e s U w (by omega)).mono ?_
    rintro en w' ⟨rfl, hb⟩
    exact ⟨1, by decide, rfl, hb⟩
set_option maxRecDepth 100000 in
theorem spied_fail (t : ByteArray) (a e s : Int) (fs : List Int) (U : Value) (w : World) (m : Int) (hm : w.cell? ⟨0, 0, none⟩ = some (.int .i64 m)) (hU : Kt.Ar w U 1 fs.length (ics fs)) (h : ¬ ((1 ≤ a ∧ a ≤ 127) ∧ (1 ≤ e ∧ e ≤ 15) ∧ OkArgs t s fs)) :
    Calls Tryd.prog 5 #[.string t, .int .i64 a, .int .i64 e, .int .i64 s, U] w fun en w' => en = .returned (.bool true) ∧ Below w.heap.size w w' := by
  have HV := Lib.hid (fun W (hW : Below w.heap.size w W) => tlives_calls W m (tkept_cell hW hm))
  have HT := Lib.hid (talk_any t a e s fs U w hU h)
  obtain ⟨UA, uc, rfl, _, _⟩ := hU.form
  clear hU hm h
  dsimp only [tkV] at HT
  go_enter Tryd.func5, Tryd.ntmps5
  go_wp2_with fail
  refine HT.out.mono ?_; rintro en w1 ⟨n, hn, rfl, hb1⟩
  have hne : (n != 0) = true := by rw [bne_iff_ne]; exact hn
  have HB1 := Lib.hid hb1
  clear hb1 HT hn
  go_wp2_with fail
  refine (HV.out _ (Kt.balloc HB1.out _)).mono ?_; rintro en w2 ⟨rfl, hb2⟩
  have HB2 := Lib.hid (Kt.bthen (Kt.balloc HB1.out _) hb2)
  clear hb2 HB1
  go_wp2_with fail
  refine (HV.out _ HB2.out).mono ?_; rintro en w3 ⟨rfl, hb3⟩
  have HB3 := Lib.hid (Kt.bthen HB2.out hb3)
  clear hb3
  go_wp2_with fail
  go_ret
  exact ⟨rfl, HB3.out⟩
set_option maxRecDepth 100000 in
theorem spied_many (t : ByteArray) (a e : Int) (s : Nat) (fs : List Int) (U : Value) (w : World) (m : Int) (hm : w.cell? ⟨0, 0, none⟩ = some (.int .i64 m)) (hU : Kt.Ar w U 1 fs.length (ics fs)) (ha : 1 ≤ a ∧ a ≤ 127) (he : 1 ≤ e ∧ e ≤ 15) (hok : OkArgs t s fs) (h : 300 < fs.length) :
    Calls Tryd.prog 5 #[.string t, .int .i64 a, .int .i64 e, .int .i64 s, U] w fun en w' => en = .returned (.bool true) ∧ Below w.heap.size w w' := by
  have HV := Lib.hid (fun W (hW : Below w.heap.size w W) => tlives_calls W m (tkept_cell hW hm))
  have HT := Lib.hid (talk_good t a e s fs U w hU ha he hok _ rfl _ rfl)
  have hlen : (300 : Int) < fs.length := by omega
  obtain ⟨UA, uc, rfl, _, _⟩ := hU.form
  clear hU hm h ha he hok
  dsimp only [tkV] at HT
  generalize bt (tWire a e (chop s t) (fs.take (carF (p0 (chop s t)) 0 0 fs).2.2)) = TW at *
  generalize carF (p0 (chop s t)) 0 0 fs = R at *
  go_enter Tryd.func5, Tryd.ntmps5
  go_wp2_with fail
  refine HT.out.mono ?_; rintro en w1 ⟨rfl, hb1⟩
  have HB1 := Lib.hid hb1
  clear hb1 HT
  go_wp2_with fail
  refine (HV.out _ (Kt.balloc HB1.out _)).mono ?_; rintro en w2 ⟨rfl, hb2⟩
  have HB2 := Lib.hid (Kt.bthen (Kt.balloc HB1.out _) hb2)
  clear hb2 HB1
  go_wp2_with fail
  refine (HV.out _ HB2.out).mono ?_; rintro en w3 ⟨rfl, hb3⟩
  have HB3 := Lib.hid (Kt.bthen HB2.out hb3)
  clear hb3
  go_wp2_with fail
  go_ret
  exact ⟨rfl, HB3.out⟩
theorem spy_two (st : List UInt8 × Int) (x : Pk) (h : st.2 = 3 ∨ st.2 = 11) : (spy st x).2 = 3 ∨ (spy st x).2 = 11 := by
  unfold spy
  split
  · dsimp only; split
    · exact .inr rfl
    · exact .inl rfl
  · exact h
theorem spy_len (st : List UInt8 × Int) (x : Pk) (hx : Okp x) : (spy st x).1.length ≤ st.1.length + 64 := by
  unfold spy
  split
  · rw [List.length_append]
    have : x.d.length ≤ 64 := by
      rcases hx with h | h | h | h
      · rw [h.2.2.2.2.2.2]; exact Nat.zero_le _
      · rw [h.2.2.2.2.2]; exact Nat.zero_le _
      · exact h.2.2.2.2
      · rw [h.2.2.2.2]; exact Nat.zero_le _
    omega
  · exact Nat.le_add_right _ _
theorem all_good {a e : Int} {l : List ByteArray} {us : List Int} (hs : ∀ x ∈ l, x.size ≤ 64) (ha : 1 ≤ a ∧ a ≤ 127) (he : 1 ≤ e ∧ e ≤ 15) (hu : us.length ≤ 300) :
    (∀ p ∈ packs a e (p0 l) us, Okp p) ∧ (packs a e (p0 l) us).length ≤ 900 ∧ (wire 0 (txts (packs a e (p0 l) us))).length ≤ 4294967296 := by
  have h1 := packs_len a e us (p0 l)
  have h2 := tw_len (a := a) (e := e) (l := l) (us := us) (by omega)
  unfold tWire at h2
  exact ⟨packs_ok ha he us (p0 l) hs, by omega, by omega⟩
theorem fates_of {fs : List Int} (h : ∀ k (h : k < fs.length), fated fs[k]) (h2 : ∀ j (h : j < fs.length), j < fs.length → fs[j] ≠ 4 ∧ fs[j] ≠ 5) : ∀ f ∈ fs, f = 1 ∨ f = 2 ∨ f = 3 := by
  intro f hf
  obtain ⟨j, hj, rfl⟩ := List.getElem_of_mem hf
  have h4 := h j hj
  have h5 := h2 j hj hj
  unfold fated at h4
  omega
set_option maxRecDepth 100000 in
set_option maxHeartbeats 1600000 in
theorem spied_good (t : ByteArray) (a e : Int) (s : Nat) (fs : List Int) (U : Value) (w : World) (m : Int) (hm : w.cell? ⟨0, 0, none⟩ = some (.int .i64 m)) (hU : Kt.Ar w U 1 fs.length (ics fs)) (ha : 1 ≤ a ∧ a ≤ 127) (he : 1 ≤ e ∧ e ≤ 15) (hok : OkArgs t s fs) (h : fs.length ≤ 300)
    (l : List ByteArray) (R : Int × St × Nat) (us : List Int) (hG : Went t s fs l R us) :
    Calls Tryd.prog 5 #[.string t, .int .i64 a, .int .i64 e, .int .i64 s, U] w fun en w' => en = .returned (.bool true) ∧ Below w.heap.size w w' := by
  have HV := Lib.hid (fun W (hW : Below w.heap.size w W) => tlives_calls W m (tkept_cell hW hm))
  have HT := Lib.hid (talk_good t a e s fs U w hU ha he hok l hG.hl R hG.hR)
  rw [← hG.hu] at HT
  have hul : us.length ≤ 300 := by rw [hG.hu, List.length_take]; omega
  obtain ⟨g1, g2, g3⟩ := all_good hG.sz ha he hul
  have HP := Lib.hid (fun W => packets_calls (packs a e (p0 l) us) W g1 (by omega) g3)
  have HSPY := Lib.hid (fun (hf : ∀ f ∈ fs, f = 1 ∨ f = 2 ∨ f = 3) => spy_packs a e us (p0 l) hG.left (.inl rfl) (.inl rfl) (fun f hf' => hf f (hG.fate f hf')))
  have HRUN := Lib.hid hG.run
  have HFT := Lib.hid hok.all
  have hlen : ¬ (300 : Int) < fs.length := by omega
  have HFL := Lib.hid h
  obtain ⟨UA, uc, rfl, _, hux⟩ := hU.form
  have HU := Lib.hid hux
  change Hid (∀ W, Calls _ _ #[.string (bt (tWire a e l us))] W _) at HP
  dsimp only [tkV] at HT
  generalize bt (tWire a e l us) = TW at *
  generalize packs a e (p0 l) us = pks at *
  have HPK := Lib.hid (And.intro g1 g2)
  obtain ⟨got, hgot⟩ : ∃ x, (⟨(cat R.2.1.gs).toArray⟩ : ByteArray) = x := ⟨_, rfl⟩
  have HGOT := Lib.hid hgot
  rw [hgot] at HT
  generalize doneOf l R.2.1 = dn at *
  clear hU hm h ha he hok hul g1 g2 g3 hux hgot hG
  go_enter Tryd.func5, Tryd.ntmps5
  go_wp2_with fail
  refine HT.out.mono ?_; rintro en w1 ⟨rfl, hb1⟩
  have HB1 := Lib.hid hb1
  clear hb1 HT
  go_wp2_with fail
  refine (HV.out _ (Kt.balloc HB1.out _)).mono ?_; rintro en w2 ⟨rfl, hb2⟩
  have HB2 := Lib.hid (Kt.bthen (Kt.balloc HB1.out _) hb2)
  have Q2 := Lib.hid (Kt.box1 hb2)
  clear hb2 HB1
  go_wp2_with fail
  go_loop [44] (fun i => ∃ k : Nat, k ≤ fs.length ∧ i = .int .i64 k ∧ Hid (∀ j (h : j < fs.length), j < k → fs[j] ≠ 4 ∧ fs[j] ≠ 5)) (fun i => fs.length - (intOf i).toNat)
  case atStart => exact ⟨0, Nat.zero_le _, rfl, Lib.hid fun j _ h => absurd h (by omega)⟩
  case round =>
    obtain ⟨k, hk, rfl, HA⟩ := hrel
    by_cases hlt : k < fs.length
    · obtain ⟨b, o, rfl, hb0, hx⟩ := HU.out (Nat.lt_of_le_of_lt (Nat.zero_le _) hlt)
      have hcell : w2.cell? ⟨b, o + k, none⟩ = some (.int .i64 fs[k]) := (HB2.out.cell (p := ⟨b, o + k, none⟩) hb0).trans ((hx k (by rw [ics_len]; exact hlt)).trans (by simp [ics]))
      clear hx hb0
      have HN : Hid (fs[k] ≠ 4 → fs[k] ≠ 5 → ∀ j (h : j < fs.length), j < k + 1 → fs[j] ≠ 4 ∧ fs[j] ≠ 5) := Lib.hid (fun q4 q5 j hj hjk => by
        by_cases e : j = k
        · subst e; exact ⟨q4, q5⟩
        · exact HA.out j hj (by omega))
      generalize fs[k] = f at *
      have hcase : (f == 4) = true ∨ ((f == 4) = false ∧ (f == 5) = true) ∨ ((f == 4) = false ∧ (f == 5) = false) := by
        by_cases q4 : f = 4
        · left; rw [q4]; rfl
        · right
          have e4 : (f == 4) = false := by rw [beq_eq_false_iff_ne]; exact q4
          by_cases q5 : f = 5
          · left; exact ⟨e4, by rw [q5]; rfl⟩
          · right; exact ⟨e4, by rw [beq_eq_false_iff_ne]; exact q5⟩
      rcases hcase with e4 | ⟨e4, e5⟩ | ⟨e4, e5⟩
      · go_wp2_with fail
        go_ret
        exact ⟨rfl, HB2.out⟩
      · go_wp2_with fail
        go_ret
        exact ⟨rfl, HB2.out⟩
      · have hwk := wrap_k3 (show k ≤ 1000 by have := HFL.out; omega)
        have HN2 := Lib.hid (HN.out (by rw [← beq_eq_false_iff_ne]; exact e4) (by rw [← beq_eq_false_iff_ne]; exact e5))
        go_wp2_with fail
        go_round
        case rel => exact ⟨k + 1, hlt, rfl, HN2⟩
        case measure => exact meas3 hlt
    · obtain rfl : k = fs.length := by omega
      have hq := Q2.out
      have hqc := fun i => cell_of_row _ _ i _ _ _ hq
      have hqz := (Array.getElem?_eq_some_iff.1 hq).1
      clear hq
      go_wp2_with fail
      refine (HP.out _).mono ?_; rintro en w3 ⟨A, c, rfl, hs3, hb3⟩
      have HB3 := Lib.hid (Kt.bthen HB2.out hb3)
      have Q3 := Lib.hid (Kt.row_on hb3 Q2.out)
      have HS3 := Lib.hid hs3
      clear hb3 hs3 HP hqc hqz
      go_wp2_with fail
      go_loopw [17, 18, 63] (fun vg vw vi wr => ∃ (k : Nat) (st : List UInt8 × Int), k ≤ pks.length ∧ vi = .int .i64 k ∧ vg = .string (bt st.1) ∧ vw = .int .i64 st.2 ∧ Hid (st = (pks.take k).foldl spy ([], 3)) ∧ Hid (st.2 = 3 ∨ st.2 = 11) ∧ Hid (st.1.length ≤ 64 * k) ∧ Hid (Below w3.heap.size w3 wr)) (fun _ _ vi _ => pks.length - (intOf vi).toNat)
      case atStart => exact ⟨0, ([], 3), Nat.zero_le _, rfl, rfl, rfl, Lib.hid rfl, Lib.hid (.inl rfl), Lib.hid (Nat.le_refl _), Lib.hid (Below.refl _ _)⟩
      case round =>
        obtain ⟨k, st, hk, rfl, rfl, rfl, HST, HW, HL, HB⟩ := hrel
        by_cases hlt : k < pks.length
        · obtain ⟨g, o, cap, hv, _, hg, _, _, hc, _⟩ := HS3.out.cells (Nat.lt_of_le_of_lt (Nat.zero_le _) hlt)
          injection hv with hv1 _ hv2
          subst hv1 hv2
          obtain ⟨q, hq⟩ : ∃ q, pks[k] = q := ⟨_, rfl⟩
          have hcj : ∀ j (hj : j < 5), wr.cell? ⟨g, o + k * 5 + j, none⟩ = (pc1 q)[j]? := fun j hj => by
            have h1 := pcells_get hlt j hj
            rw [hq] at h1
            have hl5 : (pc1 q).length = 5 := rfl
            have hj5 : j < (pc1 q).length := by rw [hl5]; exact hj
            obtain ⟨h2, h3⟩ := List.getElem?_eq_some_iff.1 (h1.trans (List.getElem?_eq_getElem hj5))
            rw [List.getElem?_eq_getElem hj5]
            exact (HB.out.cell (p := ⟨g, o + k * 5 + j, none⟩) hg).trans (by rw [Nat.add_assoc]; exact (hc _ h2).trans (by rw [h3]))
          have hokq : Okp q := by rw [← hq]; exact HPK.out.1 _ (List.getElem_mem ..)
          have HN1 : Hid (spy st q = (pks.take (k + 1)).foldl spy ([], 3)) := Lib.hid (by rw [List.take_succ_eq_append_getElem hlt, List.foldl_append, ← HST.out, hq]; rfl)
          have HN2 := Lib.hid (spy_two st q HW.out)
          have hsl := spy_len st q hokq
          have HN3 : Hid ((spy st q).1.length ≤ 64 * (k + 1)) := Lib.hid (by have := HL.out; omega)
          have k0 := hcj 0 (by decide)
          have k1 := hcj 1 (by decide)
          have k2 := hcj 2 (by decide)
          have k3 := hcj 3 (by decide)
          have k4 := hcj 4 (by decide)
          rw [Nat.add_zero] at k0
          dsimp only [pc1] at k0 k1 k2 k3 k4
          have HQD : Hid ((⟨q.d.toArray⟩ : ByteArray) = bt q.d) := Lib.hid rfl
          have hdl : (bt q.d).size ≤ 64 := by
            rw [bt_size]
            rcases hokq with h | h | h | h
            · rw [h.2.2.2.2.2.2]; exact Nat.zero_le _
            · rw [h.2.2.2.2.2]; exact Nat.zero_le _
            · exact h.2.2.2.2
            · rw [h.2.2.2.2]; exact Nat.zero_le _
          have z1 : ¬ 9223372036854775807 < (bt st.1).size + (⟨q.d.toArray⟩ : ByteArray).size := by
            rw [HQD.out, bt_size st.1]
            have := HL.out
            have := HPK.out.2
            omega
          clear hcj hc hq hokq hsl hdl
          have hwk := wrap_k3 (show k ≤ 1000 by have := HPK.out.2; omega)
          by_cases hqk : q.k = st.2
          · have eq : (q.k == st.2) = true := by rw [beq_iff_eq]; exact hqk
            have HSP : Hid ((spy st q).1 = st.1 ++ q.d ∧ (spy st q).2 = if st.2 = 3 then 11 else 3) := Lib.hid (by unfold spy; rw [if_pos hqk]; exact ⟨rfl, rfl⟩)
            clear hqk
            obtain ⟨gt, wt⟩ := st
            dsimp only at *
            rcases HW.out with rfl | rfl
            · go_wp2_with fail
              go_roundw
              case rel => exact ⟨k + 1, spy (gt, 3) q, hlt, congrArg (Value.int .i64) hwk, by rw [HSP.out.1, ← bt_app]; rfl, by rw [HSP.out.2]; rfl, HN1, HN2, HN3, Lib.hid (Kt.balloc HB.out _)⟩
              case measure => rw [hwk]; exact meas3 hlt
            · go_wp2_with fail
              go_roundw
              case rel => exact ⟨k + 1, spy (gt, 11) q, hlt, congrArg (Value.int .i64) hwk, by rw [HSP.out.1, ← bt_app]; rfl, by rw [HSP.out.2]; rfl, HN1, HN2, HN3, Lib.hid (Kt.balloc HB.out _)⟩
              case measure => rw [hwk]; exact meas3 hlt
          · have eq : (q.k == st.2) = false := by rw [beq_eq_false_iff_ne]; exact hqk
            have HSP : Hid (spy st q = st) := Lib.hid (by unfold spy; rw [if_neg hqk])
            clear hqk z1
            obtain ⟨gt, wt⟩ := st
            dsimp only at *
            go_wp2_with fail
            go_roundw
            case rel => exact ⟨k + 1, (gt, wt), hlt, congrArg (Value.int .i64) hwk, rfl, rfl, Lib.hid (HSP.out.symm.trans HN1.out), HW, Lib.hid (Nat.le_trans HL.out (Nat.mul_le_mul_left 64 (Nat.le_succ k))), Lib.hid (Kt.balloc HB.out _)⟩
            case measure => rw [hwk]; exact meas3 hlt
        · obtain rfl : k = pks.length := by omega
          have hfin : st.1 = cat R.2.1.gs := by
            have h1 := HSPY.out (fates_of HFT.out HA.out)
            rw [HST.out, List.take_length, HRUN.out]
            exact congrArg Prod.fst h1
          have hgb : bt st.1 = got := by rw [hfin]; exact HGOT.out
          have hq := (HB.out.block _ (Array.getElem?_eq_some_iff.1 Q3.out).1).trans Q3.out
          have hqc := fun i => cell_of_row _ _ i _ _ _ hq
          have hqz := (Array.getElem?_eq_some_iff.1 hq).1
          rw [hgb]
          clear hq hgb hfin
          go_wp2_with fail
          go_ret
          exact ⟨rfl, HB3.out.trans (HB.out.mono HB3.out.size)⟩
theorem spied_walk (v0 v1 v2 v3 v4 : Value) (w : World) (hsh : w.ShapedOpen Tryd.prog) (r0 : Fr.RdV w reachBytes .string v0) (r1 : Fr.RdV w reachBytes (.int .i64) v1) (r2 : Fr.RdV w reachBytes (.int .i64) v2) (r3 : Fr.RdV w reachBytes (.int .i64) v3) (r4 : Fr.RdV w reachBytes (.slice 1 (.int .i64)) v4) :
    Calls Tryd.prog 5 #[v0, v1, v2, v3, v4] w fun en w' => en = .returned (.bool true) ∧ Below w.heap.size w w' := by
  obtain ⟨m, hm⟩ := tmax_len hsh
  obtain ⟨t, h0, _⟩ := r0
  obtain ⟨a, h1, _⟩ := r1
  obtain ⟨e, h2, _⟩ := r2
  obtain ⟨s, h3, _⟩ := r3
  injection h0 with h0 _
  injection h1 with h1 _
  injection h2 with h2 _
  injection h3 with h3 _
  subst h0 h1 h2 h3
  obtain ⟨fs, _, _, hU⟩ := Kt.ar_ints r4
  by_cases h : (1 ≤ a ∧ a ≤ 127) ∧ (1 ≤ e ∧ e ≤ 15) ∧ OkArgs t s fs
  · obtain ⟨ha, he, hok⟩ := h
    obtain ⟨n, rfl⟩ : ∃ n : Nat, s = n := ⟨s.toNat, by have := hok.s1; omega⟩
    by_cases hf : 300 < fs.length
    · exact spied_many t a e n fs v4 w m hm hU ha he hok hf
    · exact spied_good t a e n fs v4 w m hm hU ha he hok (by omega) _ _ _ (went hok)
  · exact spied_fail t a e s fs v4 w m hm hU h
end Go.Proofs.YtmnmlnnhngnfbaaDoor
