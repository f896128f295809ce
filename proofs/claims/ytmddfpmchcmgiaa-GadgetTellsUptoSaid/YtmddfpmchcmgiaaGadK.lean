/- GadgetKeeps. -/
import Derived.Test.YtmddfpmchcmgiaaGadS
import Derived.Test.YtmddfpmchcmgiaaGadV
namespace Go.Proofs.Ytmddfpmchcmgiaa
open Go.RowKit Go.Proofs.Ytmddfpmchcmgiaa.Dsc Go.Proofs.Ytmddfpmchcmgiaa.Gad Go.Proofs.Ytmddfpmchcmgiaa.SetP
theorem ctl_err {s : Sh} {g : Gd} {r : Option (Int × Int × Int × Int)} (h : (ctl s g r).2.2 ≠ 0) : ctl s g r = (g, [], (ctl s g r).2.2) := by
  unfold ctl at h ⊢
  split
  · rfl
  rename_i h1
  rw [if_neg h1] at h
  split
  · rfl
  rename_i h2
  rw [if_neg h2] at h
  cases r with
  | none => rfl
  | some x =>
    obtain ⟨k, v, i, l⟩ := x
    dsimp only at h ⊢
    split
    · rfl
    rename_i h3
    rw [if_neg h3] at h
    split
    · rfl
    · rename_i h4
      rw [if_neg h4] at h
      exact absurd h h4
theorem ctl_ok {s : Sh} {g : Gd} {r : Option (Int × Int × Int × Int)} (h : (ctl s g r).2.2 = 0) : chk s = 0 ∧ gOk g = true ∧ ∃ k v i l, r = some (k, v, i, l) ∧ k < 8 ∧ ctl s g r = dod s g k v i l := by
  unfold ctl at h ⊢
  split at h
  · contradiction
  rename_i h1
  rw [if_neg h1]
  have h1 : chk s = 0 := by simpa using h1
  split at h
  · exact absurd h (by simp)
  rename_i h2
  rw [if_neg h2]
  cases r with
  | none => exact absurd h (by simp)
  | some x =>
    obtain ⟨k, v, i, l⟩ := x
    dsimp only at h ⊢
    split at h
    · exact absurd h (by simp)
    rename_i h3
    split at h
    · rename_i h4; exact absurd h h4
    rename_i h4
    refine ⟨h1, by simpa using h2, k, v, i, l, rfl, by omega, ?_⟩
    rw [if_neg h3, if_neg h4]
theorem gOk_iff (st ad ha : Int) : gOk ⟨st, ad, ha⟩ = true ↔ ((st = 0 ∧ ad = 0 ∨ (st = 1 ∨ st = 2) ∧ 1 ≤ ad ∧ ad ≤ 127) ∧ 0 ≤ ha ∧ ha < 4294967296 ∧ (ha = 0 ∨ st = 2)) := by
  unfold gOk
  simp
  omega
/-- what a request that was done leaves -/
theorem dod_ok {s : Sh} {g : Gd} {k v i l : Int} (hg : gOk g = true) (hok : Okw k v i l) (hk : k < 8) (h : (dod s g k v i l).2.2 = 0) :
    gOk (dod s g k v i l).1 = true ∧ ((dod s g k v i l).1.ad = g.ad ∨ k = 4) ∧ ((dod s g k v i l).1.st = g.st ∨ k = 4 ∨ k = 6) ∧ ((dod s g k v i l).1.ha = g.ha ∨ k = 6 ∨ k = 3 ∨ k = 2) := by
  obtain ⟨st, ad, ha⟩ := g
  obtain ⟨r, hr, c1, c2, c3⟩ := hok
  have h14 := row_range hr
  obtain ⟨n, rfl⟩ := Int.eq_ofNat_of_zero_le (show 0 ≤ k by omega)
  have hn : n = 1 ∨ n = 2 ∨ n = 3 ∨ n = 4 ∨ n = 5 ∨ n = 6 ∨ n = 7 := by omega
  have hal : (n = 2 ∨ n = 3) → (dod s ⟨st, ad, ha⟩ n v i l).1 = (haltd s ⟨st, ad, ha⟩ i ((n : Int) == 3)).1 := by
    rintro (rfl | rfl) <;> rfl
  have hgh := hg
  rw [gOk_iff] at hg
  have hha : ∀ on, ((0 ≤ i ∧ i ≤ 15) ∨ (128 ≤ i ∧ i ≤ 143)) → gOk (haltd s ⟨st, ad, ha⟩ i on).1 = true ∧ (haltd s ⟨st, ad, ha⟩ i on).1.ad = ad ∧ (haltd s ⟨st, ad, ha⟩ i on).1.st = st := by
    intro on hi
    unfold haltd
    split
    · rename_i h2
      refine ⟨?_, rfl, rfl⟩
      have hst : st = 2 := h2.1
      rw [gOk_iff]
      have hlt : ha.toNat < 4294967296 := by omega
      have e1 := clr_lt ha.toNat (kOf i) hlt
      have e2 := set_lt ha.toNat (kOf i) hlt (kOf_lt hi)
      dsimp only
      split <;> omega
    · exact ⟨hgh, rfl, rfl⟩
  rcases hn with rfl | rfl | rfl | rfl | rfl | rfl | rfl
  · exact ⟨hgh, .inl rfl, .inl rfl, .inl rfl⟩
  · have e : r = ⟨2, 1, 0, 3, 0⟩ := by injection hr with e; exact e.symm
    subst e
    obtain ⟨x1, x2, x3⟩ := hha false (by dsimp only at c2; unfold canP at c2; omega)
    exact ⟨x1, .inl x2, .inl x3, .inr (.inr (.inr rfl))⟩
  · have e : r = ⟨2, 3, 0, 3, 0⟩ := by injection hr with e; exact e.symm
    subst e
    obtain ⟨x1, x2, x3⟩ := hha true (by dsimp only at c2; unfold canP at c2; omega)
    exact ⟨x1, .inl x2, .inl x3, .inr (.inr (.inl rfl))⟩
  · have e : r = ⟨0, 5, 4, 0, 0⟩ := by injection hr with e; exact e.symm
    subst e
    dsimp only at c1
    unfold canP at c1
    refine ⟨?_, .inr rfl, .inr (.inl rfl), .inl ?_⟩
    · show gOk (if st = 2 then ((⟨st, ad, ha⟩ : Gd), ([] : List UInt8), (8 : Int)) else (⟨min 1 v, v, ha⟩, [], 0)).1 = true
      split
      · exact hgh
      · rw [gOk_iff]; omega
    · show (if st = 2 then ((⟨st, ad, ha⟩ : Gd), ([] : List UInt8), (8 : Int)) else (⟨min 1 v, v, ha⟩, [], 0)).1.ha = ha
      split <;> rfl
  · exact ⟨hgh, .inl rfl, .inl rfl, .inl rfl⟩
  · refine ⟨?_, .inl ?_, .inr (.inr rfl), .inr (.inl rfl)⟩
    · show gOk (conf s ⟨st, ad, ha⟩ v).1 = true
      unfold conf
      split
      · exact hgh
      split
      · rw [gOk_iff]; dsimp only at *; omega
      split
      · rw [gOk_iff]; dsimp only at *; omega
      · exact hgh
    · show (conf s ⟨st, ad, ha⟩ v).1.ad = ad
      unfold conf
      repeat' split
      all_goals rfl
  · have : (dod s ⟨st, ad, ha⟩ 7 v i l).1 = ⟨st, ad, ha⟩ := by
      show (if st = 0 then ((⟨st, ad, ha⟩ : Gd), ([] : List UInt8), (8 : Int)) else if st = 1 then (⟨st, ad, ha⟩, [0], 0) else (⟨st, ad, ha⟩, [UInt8.ofNat s.cfg.va.toNat], 0)).1 = _
      repeat' split
      all_goals rfl
    exact ⟨by rw [show ((7 : Nat) : Int) = 7 from rfl, this]; exact hgh, .inl (by rw [show ((7 : Nat) : Int) = 7 from rfl, this]), .inl (by rw [show ((7 : Nat) : Int) = 7 from rfl, this]), .inl (by rw [show ((7 : Nat) : Int) = 7 from rfl, this])⟩
theorem two_boxes (w : World) (c d : Array Value) (t u : TypeId) : ((w.alloc (.cells c t)).alloc (.cells d u)).heap[w.heap.size]? = some (.cells c t (0, 0)) ∧ ((w.alloc (.cells c t)).alloc (.cells d u)).heap[w.heap.size + 1]? = some (.cells d u (0, 0)) ∧ Below w.heap.size w ((w.alloc (.cells c t)).alloc (.cells d u)) := by
  have h := heap_alloc_new w (.cells c t)
  have h1 := Kt.balloc (Below.refl _ (w.alloc (.cells c t))) (.cells d u)
  refine ⟨Kt.row_on h1 h, ?_, Kt.bthen (Kt.balloc (Below.refl _ w) _) h1⟩
  have := heap_alloc_new (w.alloc (.cells c t)) (.cells d u)
  simpa using this
set_option maxRecDepth 100000 in
set_option maxHeartbeats 6400000 in
theorem keeps_walk (v0 v1 v2 : Value) (w : World) (r0 : Fr.RdV w 1048576 shS v0) (r1 : Fr.RdV w 1048576 gdS v1) (r2 : Fr.RdV w 1048576 .string v2) :
    Calls Try.prog 8 #[v0, v1, v2] w fun e w' => e = .returned (.bool true) ∧ Below w.heap.size w w' := by
  obtain ⟨s, hs, hb⟩ := sh_rd r0
  obtain ⟨g, rfl⟩ := gd_rd r1
  obtain ⟨ask, h, _⟩ := r2
  injection h with h _
  subst h
  have hbt : ∀ t ∈ s.tx, t.length ≤ 35184372088832 := fun t ht => Nat.le_trans (hb t ht) (by decide)
  obtain ⟨r, hr⟩ := rdA_ex ask
  have HCT := Lib.hid (fun W (hW : Below w.heap.size w W) => control_calls wdev s v0 g ask r W (hs.on hW) hbt hr)
  obtain ⟨F, T, rfl, _, _⟩ := hs
  have HLV := Lib.hid glives_calls
  have HE := Lib.hid (ctl_err (s := s) (g := g) (r := r))
  have HO := Lib.hid (ctl_ok (s := s) (g := g) (r := r))
  have HRD := Lib.hid hr
  obtain ⟨R, hR⟩ : ∃ R, ctl s g r = R := ⟨_, rfl⟩
  rw [hR] at HCT HE HO
  obtain ⟨⟨st', ad', ha'⟩, out, c⟩ := R
  have HCS : Hid (∀ W, Below w.heap.size w W → Calls Try.prog 23 #[.agg (shCs s F T), gdV g, .string ask] W fun e w' => e = .returned (.tuple #[gdV ⟨st', ad', ha'⟩, .string (bs' out), .int .i64 c]) ∧ Below W.heap.size W w') := HCT
  clear HCT hb hbt r0 r1 hR hr
  have EG := fun p q (a b : Array Value) w => run_eqGuard_agg (P := Try.prog) w .eql 55 p q a b guard_gd
  have EQ := fun w => eq_gd g g w
  obtain ⟨st, ad, ha⟩ := g
  unfold gdV at *
  go_enter Try.func8, Try.ntmps8
  go_upto_region 1 with (fail)
  refine Kt.fold (fun W => W.heap[w.heap.size]? = some (.cells (shCs s F T) 53 (0, 0)) ∧ W.heap[w.heap.size + 1]? = some (.cells #[.int .i64 st, .int .i64 ad, .int .i64 ha] 55 (0, 0)) ∧ Below w.heap.size w W) (two_boxes w _ _ _ _) ?_
  rintro w0 ⟨q0, q1, hb0⟩
  have HR0 := Lib.hid q0; have HR1 := Lib.hid q1; have HB0 := Lib.hid hb0
  clear q0 q1 hb0
  have q1 := fun i => cell_of_row _ _ i _ _ _ HR1.out
  go_wp2_with (refine Kt.load_row_g (by rfl) 53 (.tmp 3) rfl w.heap.size rfl 53 (shCs s F T) _ HR0.out Try.underlying53 rfl (by kernel_rfl) ?_)
  refine (HCS.out w0 HB0.out).mono ?_
  rintro e w1 ⟨rfl, hb1⟩
  have HR1a := Lib.hid (Kt.row_on hb1 HR1.out)
  have HB1 := Lib.hid (Kt.bthen HB0.out hb1)
  clear hb1 q1 HR1 HR0 HB0 HCS
  by_cases hc : c = 0
  · subst hc
    obtain ⟨_, hg, k, v, i, l, rfl, hk8, hdo⟩ := HO.out rfl
    have HRD1 : Hid (Okw k v i l ∧ 0 ≤ l ∧ ∀ w : World, Calls Try.prog 25 #[.string ask] w fun e w' => e = .returned (.tuple #[.agg #[.int .i64 k, .int .i64 v, .int .i64 i, .int .i64 l], .int .i64 0]) ∧ Below w.heap.size w w') := HRD
    have hdd := dod_ok hg HRD1.out.1 hk8 (by rw [← hdo])
    rw [← hdo] at hdd
    dsimp only at hdd
    obtain ⟨hg', ha1, ha2, ha3⟩ := hdd
    have HRG := Lib.hid (refgd_calls ⟨st', ad', ha'⟩)
    rw [hg'] at HRG
    have hx : ((ad' == ad) = true ∨ (ad' == ad) = false ∧ (k == 4) = true) ∧ ((st' == st) = true ∨ (st' == st) = false ∧ (k == 4) = true ∨ (st' == st) = false ∧ (k == 4) = false ∧ (k == 6) = true) ∧
        ((ha' == ha) = true ∨ (ha' == ha) = false ∧ (k == 6) = true ∨ (ha' == ha) = false ∧ (k == 6) = false ∧ (k == 3) = true ∨ (ha' == ha) = false ∧ (k == 6) = false ∧ (k == 3) = false ∧ (k == 2) = true) := by
      simp only [beq_iff_eq, beq_eq_false_iff_ne]
      omega
    have HR2 := Lib.hid (heap_alloc_new w1 (.cells #[.int .i64 st', .int .i64 ad', .int .i64 ha'] 55))
    have HR1b := Lib.hid ((Below.heap_alloc w1 (.cells #[.int .i64 st', .int .i64 ad', .int .i64 ha'] 55) _ (Array.getElem?_eq_some_iff.1 HR1a.out).1).trans HR1a.out)
    have HB2 := Lib.hid (Kt.balloc HB1.out (.cells #[.int .i64 st', .int .i64 ad', .int .i64 ha'] 55))
    unfold gdV at HRG
    clear hg hdo hg' ha1 ha2 ha3 HE HO HRD hk8 EQ EG
    go_wp2_with fail
    generalize w1.alloc (.cells #[.int .i64 st', .int .i64 ad', .int .i64 ha'] 55) = w2 at *
    refine (HLV.out w2).mono ?_
    rintro e w3 ⟨rfl, hb3⟩
    have HR23 := Lib.hid (Kt.row_on hb3 HR2.out); have HR13 := Lib.hid (Kt.row_on hb3 HR1b.out); have HB3 := Lib.hid (Kt.bthen HB2.out hb3)
    clear hb3 HR2 HR1b HB2 HR1a
    go_wp2_with fail
    refine (HRD1.out.2.2 w3).mono ?_
    rintro e w4 ⟨rfl, hb4⟩
    have HR24 := Lib.hid (Kt.row_on hb4 HR23.out); have HR14 := Lib.hid (Kt.row_on hb4 HR13.out); have HB4 := Lib.hid (Kt.bthen HB3.out hb4)
    clear hb4 HR23 HR13 HB3 HRD1 HLV
    have HRA := Lib.hid (heap_alloc_new w4 (.cells #[.int .i64 k, .int .i64 v, .int .i64 i, .int .i64 l] 59))
    have HR15 := Lib.hid ((Below.heap_alloc w4 (.cells #[.int .i64 k, .int .i64 v, .int .i64 i, .int .i64 l] 59) _ (Array.getElem?_eq_some_iff.1 HR14.out).1).trans HR14.out)
    have HR25 := Lib.hid ((Below.heap_alloc w4 (.cells #[.int .i64 k, .int .i64 v, .int .i64 i, .int .i64 l] 59) _ (Array.getElem?_eq_some_iff.1 HR24.out).1).trans HR24.out)
    have HB5 := Lib.hid (Kt.balloc HB4.out (.cells #[.int .i64 k, .int .i64 v, .int .i64 i, .int .i64 l] 59))
    go_upto_region 5 with (fail)
    generalize w4.alloc (.cells #[.int .i64 k, .int .i64 v, .int .i64 i, .int .i64 l] 59) = w5 at *
    have q2 := fun i => cell_of_row _ _ i _ _ _ HR25.out
    go_wp2_with fail
    refine (HRG.out w5).mono ?_
    rintro e w6 ⟨rfl, hb6⟩
    have HR26 := Lib.hid (Kt.row_on hb6 HR25.out); have HR16 := Lib.hid (Kt.row_on hb6 HR15.out); have HRA6 := Lib.hid (Kt.row_on hb6 HRA.out); have HB6 := Lib.hid (Kt.bthen HB5.out hb6)
    clear hb6 q2
    have q2 := fun i => cell_of_row _ _ i _ _ _ HR26.out
    have q1 := fun i => cell_of_row _ _ i _ _ _ HR16.out
    have qa := fun i => cell_of_row _ _ i _ _ _ HRA6.out
    obtain ⟨e1 | ⟨e1, f1⟩, e2 | ⟨e2, f2⟩ | ⟨e2, f2, g2⟩, e3 | ⟨e3, f3⟩ | ⟨e3, f3, g3⟩ | ⟨e3, f3, g3, h3⟩⟩ := hx
    all_goals go_wp2_with fail
    all_goals go_ret
    all_goals exact ⟨rfl, HB6.out⟩
  · have e1 : (c != 0) = true := by rw [bne_iff_ne]; exact hc
    have h := HE.out hc
    simp only [Prod.mk.injEq, Gd.mk.injEq] at h
    obtain ⟨⟨rfl, rfl, rfl⟩, rfl, _⟩ := h
    rw [show bs' [] = ⟨#[]⟩ from rfl]
    have HW2 := Lib.hid (Kt.balloc HB1.out (.cells #[.int .i64 st', .int .i64 ad', .int .i64 ha'] 55))
    have HZ := Lib.hid (Array.getElem?_eq_some_iff.1 HR1a.out).1
    have q1 := fun i => cell_of_row _ _ i _ _ _ HR1a.out
    have HR2 := Lib.hid (heap_alloc_new w1 (.cells #[.int .i64 st', .int .i64 ad', .int .i64 ha'] 55))
    have HR1b := Lib.hid ((Below.heap_alloc w1 (.cells #[.int .i64 st', .int .i64 ad', .int .i64 ha'] 55) _ HZ.out).trans HR1a.out)
    simp only [decide_true] at EQ
    clear HE HO q1
    go_wp2_with fail
    generalize w1.alloc (.cells #[.int .i64 st', .int .i64 ad', .int .i64 ha'] 55) = w2 at *
    refine (HLV.out w2).mono ?_
    rintro e w3 ⟨rfl, hb3⟩
    have HR23 := Lib.hid (Kt.row_on hb3 HR2.out); have HR13 := Lib.hid (Kt.row_on hb3 HR1b.out); have HB3 := Lib.hid (Kt.bthen HW2.out hb3)
    clear hb3 HR2 HR1b HW2
    go_wp2_with fail
    refine (HLV.out w3).mono ?_
    rintro e w4 ⟨rfl, hb4⟩
    have HR24 := Lib.hid (Kt.row_on hb4 HR23.out); have HR14 := Lib.hid (Kt.row_on hb4 HR13.out); have HB4 := Lib.hid (Kt.bthen HB3.out hb4)
    clear hb4 HR23 HR13 HB3
    have q1 := fun i => cell_of_row _ _ i _ _ _ HR14.out
    have q2 := fun i => cell_of_row _ _ i _ _ _ HR24.out
    go_wp2_with fail
    go_ret
    exact ⟨rfl, HB4.out⟩
end Go.Proofs.Ytmddfpmchcmgiaa
