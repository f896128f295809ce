/- The laws of package strike, walked: Used. -/
import Derived.Test.YtfkbphfmchjacaaStkL
import Derived.Test.YtfkbphfmchjacaaApd
namespace Go.Proofs.Ytfkbphfmchjacaa
open Go.RowKit
theorem infoI : (Try.prog.info? 3).map (fun i => (i.zero, i.size, i.bytes)) = some (some (.int .i64 0), 1, 8) := by kernel_rfl
set_option maxHeartbeats 800000 in
theorem clone_ints (v : Value) (n : Nat) (xs : List Value) (w : World) (h : Kt.Ar w v 1 n xs) (h1 : ∀ u ∈ xs, u.oneCell' = true) (hn : n ≤ 1048576) :
    Calls Try.prog 10 #[v] w fun e w' => ∃ A c, e = .returned (.slice A n c) ∧ Kt.Sl w' w.heap.size 3 1 (.slice A n c) n xs ∧ Below w.heap.size w w' := by
  have qT : ∀ (w : World) (a : Option Addr) (n c n' c' : Nat), (binOp .eql 22 (.slice a n c) (.slice none n' c')).run Try.prog w = .ok (.bool a.isNone) w := fun w a n c n' c' => Lib.run_eql_slice_nil w _ _ a n c n' c' Try.underlying22
  obtain ⟨A, c, rfl, hnc, hx⟩ := h.form
  have hlen := h.len
  cases A with
  | none =>
    have hn0 : n = 0 := by
      rcases Nat.eq_zero_or_pos n with h0 | h0
      · exact h0
      · obtain ⟨b, o, e, _⟩ := hx h0; cases e
    subst hn0
    obtain rfl : xs = [] := List.eq_nil_of_length_eq_zero (by simpa using hlen)
    go_enter Try.func10, Try.ntmps10
    go_wp2
    go_ret
    exact ⟨none, 0, rfl, Kt.Sl.nil _ _ _ _, Below.refl _ _⟩
  | some ad =>
    have hnews : ∀ j u, xs[j]? = some u → (w.alloc (.cells #[] 3)).cell? (ad.add j) = some u := by
      intro j u hj
      obtain ⟨hj1, hj2⟩ := List.getElem?_eq_some_iff.1 hj
      obtain ⟨b, o, e, hb, hc⟩ := hx (by omega)
      injection e with e
      subst e
      rw [Addr.add_lit, World.cell?_alloc_lt _ _ _ (by exact hb), hc j hj1, hj2]
    have hs0 : Kt.Sl (w.alloc (.cells #[] 3)) w.heap.size 3 1 (.slice (some ⟨w.heap.size, 0, none⟩) 0 0) 0 [] :=
      ⟨rfl, .inr ⟨w.heap.size, 0, 0, #[], rfl, Nat.le_refl _, heap_alloc_new w _, Nat.le_refl _, by simp [maxLen], by simp, fun j u hj => by simp at hj⟩⟩
    go_enter Try.func10, Try.ntmps10
    go_wp2_with (
      refine Kt.append_sl _ (by rfl) (.tmp 5) (.tmp 6) 22 rfl w.heap.size 3 (.int .i64 0) 1 8 infoI Try.underlying22 rfl (by decide) _ 0 [] rfl hs0 ad n c xs rfl hlen hnews h1 (by unfold maxLen; omega) (by omega) (by rw [World.size_alloc]; omega) ?_
      intro A' c' w1 hs1 hb1 hz1 hk1 hl1
      clear hk1 hl1 hs0 hnews hx)
    go_ret
    rw [Nat.zero_add] at hs1
    exact ⟨A', c', rfl, hs1, ((Below.refl _ w).alloc (Nat.le_refl _) _).trans hb1⟩


theorem ics_app (a b : List Int) : ics (a ++ b) = ics a ++ ics b := by simp [ics]
theorem ics_one (l : List Int) : ∀ u ∈ ics l, u.oneCell' = true := by
  intro u hu
  obtain ⟨c, _, rfl⟩ := List.mem_map.1 hu
  rfl
theorem Kt.Ar.take {w : World} {b o n c m : Nat} {xs : List Value} (h : Kt.Ar w (.slice (some ⟨b, o, none⟩) n c) 1 n xs) (hm : m ≤ n) : Kt.Ar w (.slice (some ⟨b, o, none⟩) m c) 1 m (xs.take m) := by
  obtain ⟨A, c', e, hc, hx⟩ := h.form
  cases e
  have hl := h.len
  refine ⟨by rw [List.length_take]; omega, _, c, rfl, by omega, fun h0 => ?_⟩
  obtain ⟨b', o', e, hb, hx⟩ := hx (by omega)
  cases e
  refine ⟨b, o, rfl, hb, fun j hj => ?_⟩
  rw [List.length_take] at hj
  rw [hx j (by omega), List.getElem_take]
set_option maxHeartbeats 1600000 in
theorem used_walk (v0 v1 v2 v3 : Value) (w : World) (r0 : Fr.RdV w 1048576 .string v0) (r1 : Fr.RdV w 1048576 (.int .i64) v1) (r2 : Fr.RdV w 1048576 (.slice 1 (.int .i64)) v2) (r3 : Fr.RdV w 1048576 (.slice 1 (.int .i64)) v3) :
    Calls Try.prog 5 #[v0, v1, v2, v3] w fun e w' => e = .returned (.bool true) ∧ Below w.heap.size w w' := by
  obtain ⟨t, e, ht⟩ := r0; cases e
  obtain ⟨s, e, hs⟩ := r1; cases e
  obtain ⟨fs, hfl, _, hU⟩ := Kt.ar_ints r2
  obtain ⟨more, hml, _, hM⟩ := Kt.ar_ints r3
  have HC := Lib.hid (carry_calls t s fs v2 w hU)
  have HAR := Lib.hid hU
  obtain ⟨UA, uc, rfl, huc, hcells⟩ := hU.form
  have HM := Lib.hid hM
  obtain ⟨MA, mc, rfl, hmc, _⟩ := hM.form
  clear hU hM
  go_enter Try.func5, Try.ntmps5
  go_wp2_with fail
  refine HC.out.mono ?_
  rintro en w1 (⟨hok, rfl, hb⟩ | ⟨hno, n, hn, rfl, hb⟩)
  · have HOK := Lib.hid hok
    have h1000 := hok.f
    have s1 := hok.s1
    have HR := Lib.hid (car_res (show 1 ≤ s.toNat by omega) t fs)
    have HUS := Lib.hid (fun m => carF_used fs m (p0 (chop s.toNat t)) 0 0)
    obtain ⟨R, hR⟩ : ∃ R, carF (p0 (chop s.toNat t)) 0 0 fs = R := ⟨_, rfl⟩
    rw [hR] at HR HUS ⊢
    obtain ⟨code, p, used⟩ := R
    unfold carOf carV
    dsimp only at HUS ⊢
    have HV : Hid (carOf (chop s.toNat t) (code, p, used) = .agg #[.int .i64 code, .string ⟨(cat p.gs).toArray⟩, .int .i64 (doneOf (chop s.toNat t) p), .int .i64 used]) := Lib.hid rfl
    have hus : used ≤ fs.length := by have := HR.out.hi; dsimp only at this; omega
    clear hR hok
    generalize (⟨(cat p.gs).toArray⟩ : ByteArray) = got at *
    generalize doneOf (chop s.toNat t) p = done at *
    go_wp2_with fail
    refine (lives_calls _).mono ?_
    rintro en w2 ⟨rfl, hb2⟩
    have hrow := Kt.box1 hb2
    have hc := fun i => cell_of_row _ _ i _ _ _ hrow
    have hbb := Kt.bthen (Kt.balloc hb _) hb2
    have hz2 : w1.heap.size < w2.heap.size := by have := hb2.size; rw [World.size_alloc] at this; omega
    clear hb2 hb
    by_cases h10 : code = 10
    · subst h10
      go_wp2_with fail
      refine (lives_calls _).mono ?_
      rintro en w3 ⟨rfl, hb3⟩
      have hrow3 := Kt.row_on hb3 hrow
      have hc3 := fun i => cell_of_row _ _ i _ _ _ hrow3
      clear hc
      go_wp2_with fail
      go_ret
      exact ⟨rfl, Kt.bthen hbb hb3⟩
    · have h10b : (code == 10) = false := by rw [beq_eq_false_iff_ne]; exact h10
      have HU1 : Hid (1 ≤ used) := Lib.hid (by have := HR.out.one h10; dsimp only at this; omega)
      have HUS2 := Lib.hid (fun m => HUS.out m h10)
      have hu0 : 0 < fs.length := by have := HU1.out; omega
      obtain ⟨tb, tq, rfl, htb, htx⟩ := hcells hu0
      clear htx hcells h10
      have d1 : decide (used ≤ fs.length) = true := decide_eq_true hus
      have d2 : decide (fs.length < used) = false := decide_eq_false (by omega)
      go_wp2_with fail
      have HT := Lib.hid ((HAR.out.on hbb).take hus)
      refine (clone_ints _ used (ics (fs.take used)) _ (by have := HT.out; rw [← List.map_take] at this; exact this) (ics_one _) (by omega)).mono ?_
      rintro en w3 ⟨CA, cc, rfl, hs3, hb3⟩
      have hrow3 := Kt.row_on hb3 hrow
      have hM3 := HM.out.on (Kt.bthen hbb hb3)
      have hlt : w1.heap.size < w3.heap.size := by have := hb3.size; omega
      go_wp2_with (
        refine Kt.append_ar (by rfl) (.tmp 60) (.tmp 61) 22 rfl w2.heap.size 3 (.int .i64 0) 1 8 infoI Try.underlying22 rfl (by decide) _ _ _ rfl hs3 _ _ _ rfl hM3 (ics_one more) (by unfold maxLen; omega) (by omega) hb3.size ?_
        intro A' c' w4 hs4 hb4 hz4 hk4 _
        have hrow4 : w4.heap[w1.heap.size]? = _ := (hb4.block _ hz2).trans hrow3)
      have HL : Hid (used + more.length = (fs.take used ++ more).length) := Lib.hid (by rw [List.length_append, List.length_take]; omega)
      have HI : Hid (ics (fs.take used) ++ more.map (Value.int .i64) = ics (fs.take used ++ more)) := Lib.hid (by rw [ics_app]; rfl)
      have hbb3 := Kt.bthen hbb hb3
      have hbb4 : Below w.heap.size w w4 := hbb3.trans (hb4.mono hbb.size)
      have hA := Kt.Ar.of_sl hs4
      rw [HI.out] at hA
      have HA := Lib.hid hA
      clear hA hs3 hb3 hs4 hM3 hk4 hc hrow hrow3 hb4
      have HC2 := Lib.hid (carry_calls t s (fs.take used ++ more) (.slice A' (used + more.length) c') w4 (by have := HA.out; rw [HL.out] at this; rw [HL.out]; exact this))
      refine HC2.out.mono ?_
      rintro en w5 (⟨_, rfl, hb5⟩ | ⟨_, n, hn, rfl, hb5⟩)
      · have e := HUS2.out more
        rw [Nat.sub_zero] at e
        rw [e, HV.out]
        have hrow5 := Kt.row_on hb5 hrow4
        have hc5 := fun i => cell_of_row _ _ i _ _ _ hrow5
        have hz5 : w1.heap.size < w5.heap.size := by have := hb5.size; omega
        clear e
        go_wp2_with fail
        go_ret
        exact ⟨rfl, Kt.balloc (Kt.bthen hbb4 hb5) _⟩
      · have hne : (n != 0) = true := by rw [bne_iff_ne]; exact hn
        clear hn
        unfold carV
        go_wp2_with fail
        go_ret
        exact ⟨rfl, Kt.balloc (Kt.bthen hbb4 hb5) _⟩
  · have hne : (n != 0) = true := by rw [bne_iff_ne]; exact hn
    clear hn
    unfold carV
    go_wp2_with fail
    refine (lives_calls _).mono ?_
    rintro en w2 ⟨rfl, hb2⟩
    have hbb := Kt.bthen (Kt.balloc hb _) hb2
    clear hb2
    go_wp2_with fail
    refine (lives_calls _).mono ?_
    rintro en w3 ⟨rfl, hb3⟩
    go_wp2_with fail
    go_ret
    exact ⟨rfl, Kt.bthen hbb hb3⟩
end Go.Proofs.Ytfkbphfmchjacaa
