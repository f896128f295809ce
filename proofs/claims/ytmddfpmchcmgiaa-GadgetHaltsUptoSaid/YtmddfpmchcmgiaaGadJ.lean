/- GadgetHalts. -/
import Derived.Test.YtmddfpmchcmgiaaGadK
import Derived.Test.YtmddfpmchcmgiaaGadO
namespace Go.Proofs.Ytmddfpmchcmgiaa
open Go.RowKit Go.Proofs.Ytmddfpmchcmgiaa.Dsc Go.Proofs.Ytmddfpmchcmgiaa.Gad Go.Proofs.Ytmddfpmchcmgiaa.SetP
/-- Control, of one ask, in any world on from w -/
def Ct (w : World) (s : Sh) (F T : Value) (ask : ByteArray) (g g' : Gd) (c : Int) : Prop := ∀ W, Below w.heap.size w W → Calls Try.prog 23 #[.agg (shCs s F T), gdV g, .string ask] W fun e w' => e = .returned (.tuple #[gdV g', .string ⟨#[]⟩, .int .i64 c]) ∧ Below W.heap.size W w'
theorem ct_of {w : World} {s : Sh} {F T : Value} {ask : ByteArray} {g g' : Gd} {c : Int} {r : Option (Int × Int × Int × Int)} (hs : ShRd w (.agg (shCs s F T)) s) (hb : ∀ t ∈ s.tx, t.length ≤ 35184372088832) (hr : RdA ask r) (h : ctl s g r = (g', [], c)) : Ct w s F T ask g g' c := fun W hW => by
  have := control_calls wdev s _ g ask r W (hs.on hW) hb hr
  rw [h] at this
  exact this
theorem u64n (m : Nat) (h : m < 4294967296) : IntKind.u64.wrap (m : Int) = m := IntWalk.u64_in _ (by omega)
set_option maxRecDepth 100000 in
set_option maxHeartbeats 6400000 in
theorem halts_walk (v0 v1 v2 : Value) (w : World) (r0 : Fr.RdV w 1048576 shS v0) (r1 : Fr.RdV w 1048576 gdS v1) (r2 : Fr.RdV w 1048576 (.int .i64) v2) :
    Calls Try.prog 10 #[v0, v1, v2] w fun e w' => e = .returned (.bool true) ∧ Below w.heap.size w w' := by
  obtain ⟨s, hs, hb⟩ := sh_rd r0
  obtain ⟨g, rfl⟩ := gd_rd r1
  obtain ⟨n, h, _⟩ := r2
  injection h with h _
  subst h
  have hbt : ∀ t ∈ s.tx, t.length ≤ 35184372088832 := fun t ht => Nat.le_trans (hb t ht) (by decide)
  obtain ⟨F, T, rfl, hs2, hs3⟩ := hs
  have hs : ShRd w (.agg (shCs s F T)) s := ⟨F, T, rfl, hs2, hs3⟩
  obtain ⟨S3, q3, ha3, hr3, hq3⟩ := asked_any 3 0 n 0 (by omega)
  obtain ⟨S2, q2, ha2, hr2, hq2⟩ := asked_any 2 0 n 0 (by omega)
  have hcase : (q3 = some (3, 0, n, 0) ∧ q2 = some (2, 0, n, 0) ∧ ((0 ≤ n ∧ n ≤ 15) ∨ (128 ≤ n ∧ n ≤ 143))) ∨ q3 = none ∧ q2 = none := by
    have hok : ∀ k : Int, k = 2 ∨ k = 3 → (Okw k 0 n 0 ↔ ((0 ≤ n ∧ n ≤ 15) ∨ (128 ≤ n ∧ n ≤ 143))) := by
      rintro k (rfl | rfl)
      · constructor
        · rintro ⟨r, hr, _, c, _⟩
          have e : r = ⟨2, 1, 0, 3, 0⟩ := by injection hr with e; exact e.symm
          subst e
          dsimp only at c; unfold canP at c; omega
        · intro h
          exact ⟨⟨2, 1, 0, 3, 0⟩, rfl, by show canP 0 0; unfold canP; omega, by show canP 3 n; unfold canP; omega, .inl rfl⟩
      · constructor
        · rintro ⟨r, hr, _, c, _⟩
          have e : r = ⟨2, 3, 0, 3, 0⟩ := by injection hr with e; exact e.symm
          subst e
          dsimp only at c; unfold canP at c; omega
        · intro h
          exact ⟨⟨2, 3, 0, 3, 0⟩, rfl, by show canP 0 0; unfold canP; omega, by show canP 3 n; unfold canP; omega, .inl rfl⟩
    rcases hq3 with ⟨a, b⟩ | ⟨a, b⟩
    · have hn := (hok 3 (.inr rfl)).1 b
      rcases hq2 with ⟨c, d⟩ | ⟨c, d⟩
      · exact .inl ⟨a, c, hn⟩
      · exact absurd ((hok 2 (.inl rfl)).2 hn) d
    · rcases hq2 with ⟨c, d⟩ | ⟨c, d⟩
      · exact absurd ((hok 3 (.inr rfl)).2 ((hok 2 (.inl rfl)).1 d)) b
      · exact .inr ⟨a, c⟩
  have HLV := Lib.hid glives_calls
  have HA3 : Hid (askS 3 0 n 0 S3) := Lib.hid ha3
  have HA2 : Hid (askS 2 0 n 0 S2) := Lib.hid ha2
  have EG := fun p q (a b : Array Value) w => run_eqGuard_agg (P := Try.prog) w .eql 55 p q a b guard_gd
  have hpl := halts_plain s g n q3 q2 hcase
  have h2b := two_boxes w (shCs s F T) #[.int .i64 g.st, .int .i64 g.ad, .int .i64 g.ha] 53 55
  rcases hpl with ⟨c, hc, p3, p2⟩ | ⟨ad, m, K, rfl, hm, hK, p3, p2, p33, p32, p23⟩
  · have HC3 := Lib.hid (ct_of hs hbt hr3 p3)
    have HC2 := Lib.hid (ct_of hs hbt hr2 p2)
    have EQ := fun w => eq_gd g g w
    simp only [decide_true] at EQ
    have e1 : (c != 0) = true := by rw [bne_iff_ne]; exact hc
    clear hs hs2 hs3 hbt hb r0 r1 hcase hq3 hq2 hr3 hr2 ha3 ha2 p3 p2 hc
    unfold Ct at HC3 HC2
    obtain ⟨st, ad, ha⟩ := g
    unfold gdV at *
    unfold askS at HA3 HA2
    go_enter Try.func10, Try.ntmps10
    go_upto_region 1 with (fail)
    refine Kt.fold (fun W => Kt.Fb w [(w.heap.size + 1, #[.int .i64 st, .int .i64 ad, .int .i64 ha], 55), (w.heap.size, shCs s F T, 53)] W) (((Kt.Fb.nil w h2b.2.2).add h2b.1).add h2b.2.1) ?_
    intro w0 hf0
    have HF0 := Lib.hid hf0
    clear hf0 h2b
    go_wp2_with fail
    refine (HA3.out _).mono ?_
    rintro e x1 ⟨rfl, hb⟩
    have HF1 := Lib.hid (HF0.out.on hb)
    clear hb HF0
    go_wp2_with fail
    refine (HA2.out _).mono ?_
    rintro e x2 ⟨rfl, hb⟩
    have HF2 := Lib.hid (HF1.out.on hb)
    clear hb HF1
    have q_g := fun i => cell_of_row _ _ i _ _ _ (HF2.out.row _ (List.Mem.head _))
    go_wp2_with (refine Kt.load_row_g (by rfl) 53 (.tmp 3) rfl w.heap.size rfl 53 (shCs s F T) _ (HF2.out.row _ (List.Mem.tail _ (List.Mem.head _))) Try.underlying53 rfl (by kernel_rfl) ?_)
    clear q_g
    refine (HC3.out _ HF2.out.bel).mono ?_
    rintro e x3 ⟨rfl, hb⟩
    have HF3 := Lib.hid (((HF2.out.on hb).alloc (.cells #[.int .i64 st, .int .i64 ad, .int .i64 ha] 55)).add (heap_alloc_new x3 (.cells #[.int .i64 st, .int .i64 ad, .int .i64 ha] 55)))
    clear hb HF2
    have q_g := fun i => cell_of_row _ _ i _ _ _ (HF3.out.row _ (List.Mem.tail _ (List.Mem.head _)))
    go_wp2_with (refine Kt.load_row_g (by rfl) 53 (.tmp 3) rfl w.heap.size rfl 53 (shCs s F T) _ (HF3.out.row _ (List.Mem.tail _ (List.Mem.tail _ (List.Mem.head _)))) Try.underlying53 rfl (by kernel_rfl) ?_)
    clear q_g
    refine (HC2.out _ HF3.out.bel).mono ?_
    rintro e x4 ⟨rfl, hb⟩
    have HF4 := Lib.hid (((HF3.out.on hb).alloc (.cells #[.int .i64 st, .int .i64 ad, .int .i64 ha] 55)).add (heap_alloc_new x4 (.cells #[.int .i64 st, .int .i64 ad, .int .i64 ha] 55)))
    clear hb HF3
    go_wp2_with fail
    refine (HLV.out _).mono ?_
    rintro e x5 ⟨rfl, hb⟩
    have HF5 := Lib.hid (HF4.out.on hb)
    clear hb HF4
    go_wp2_with fail
    refine (HLV.out _).mono ?_
    rintro e x6 ⟨rfl, hb⟩
    have HF6 := Lib.hid (HF5.out.on hb)
    clear hb HF5
    have q_g := fun i => cell_of_row _ _ i _ _ _ (HF6.out.row _ (List.Mem.tail _ (List.Mem.tail _ (List.Mem.head _))))
    have q_a := fun i => cell_of_row _ _ i _ _ _ (HF6.out.row _ (List.Mem.tail _ (List.Mem.head _)))
    have q_b := fun i => cell_of_row _ _ i _ _ _ (HF6.out.row _ (List.Mem.head _))
    go_wp2_with fail
    go_ret
    exact ⟨rfl, HF6.out.bel⟩
  · have HC1 := ct_of hs hbt hr3 p3
    have HC2 := ct_of hs hbt hr2 p2
    have HC3 := ct_of hs hbt hr3 p33
    have HC4 := ct_of hs hbt hr2 p32
    have HC5 := ct_of hs hbt hr3 p23
    have hne := set_ne hm hK
    have hor := set_or hm hK
    have hpop := set_pop (n := m) (k := K) (by omega) (by omega)
    have hx := set_lt m K hm hK
    have hy := clr_lt m K hm
    have P1 := fun w => ones_calls (setN m K) (setN m K) rfl (by omega) w
    have P2 := fun w => ones_calls (clrN m K) (clrN m K) rfl (by omega) w
    rw [hpop] at P1
    have hpl := pop_le (clrN m K)
    generalize setN m K = x at *
    generalize clrN m K = y at *
    generalize pop y = p at *
    obtain ⟨X, hX⟩ : ∃ X : Int, (x : Int) = X := ⟨_, rfl⟩
    obtain ⟨Y, hY⟩ : ∃ Y : Int, (y : Int) = Y := ⟨_, rfl⟩
    obtain ⟨M, hM⟩ : ∃ M : Int, (m : Int) = M := ⟨_, rfl⟩
    obtain ⟨p', hp'⟩ : ∃ M : Int, (p : Int) = M := ⟨_, rfl⟩
    have hp1 : ((1 + p : Nat) : Int) = 1 + p' := by omega
    rw [hX, hp1] at P1
    rw [hY, hp'] at P2
    rw [hX, hM] at HC1
    rw [hY, hM] at HC2
    rw [hX] at HC3
    rw [hX, hY] at HC4
    rw [hX, hY] at HC5
    have P1 := Lib.hid (fun w => (P1 w).mono fun _ _ h => (⟨h.1, h.2.symm⟩ : _ ∧ _))
    have P2 := Lib.hid (fun w => (P2 w).mono fun _ _ h => (⟨h.1, h.2.symm⟩ : _ ∧ _))
    have K1 := Lib.hid HC1; have K2 := Lib.hid HC2; have K3 := Lib.hid HC3; have K4 := Lib.hid HC4; have K5 := Lib.hid HC5
    have EQ1 := fun w => eq_gd ⟨2, ad, X⟩ ⟨2, ad, X⟩ w
    have EQ2 := fun w => eq_gd ⟨2, ad, Y⟩ ⟨2, ad, Y⟩ w
    simp only [decide_true] at EQ1 EQ2
    have EQ5 := fun w => eq_gd ⟨2, ad, X⟩ ⟨2, ad, M⟩ w
    have EQ6 := fun w => eq_gd ⟨2, ad, Y⟩ ⟨2, ad, M⟩ w
    have HOR : Hid ((decide ((⟨2, ad, X⟩ : Gd) = ⟨2, ad, M⟩) = true ∧ decide ((⟨2, ad, Y⟩ : Gd) = ⟨2, ad, M⟩) = false) ∨ (decide ((⟨2, ad, X⟩ : Gd) = ⟨2, ad, M⟩) = false ∧ decide ((⟨2, ad, Y⟩ : Gd) = ⟨2, ad, M⟩) = true)) := Lib.hid (by
      simp
      omega)
    have e0 : (X != Y) = true := by rw [bne_iff_ne]; omega
    have hw1 : IntKind.u64.wrap X = X := by rw [← hX]; exact u64n x hx
    have hw2 : IntKind.u64.wrap Y = Y := by rw [← hY]; exact u64n y hy
    have hw3 : wrap64 (1 + p') = 1 + p' := by unfold wrap64; omega
    have h2b : _ := h2b
    rw [hM] at h2b
    clear hs hs2 hs3 hbt hb r0 r1 hcase hq3 hq2 hr3 hr2 ha3 ha2 p3 p2 p33 p32 p23 HC1 HC2 HC3 HC4 HC5 hX hY hne hor hpop hx hy hm hK hp1 hp' hpl
    rw [hM]
    unfold Ct at K1 K2 K3 K4 K5
    unfold gdV at *
    unfold askS at HA3 HA2
    go_enter Try.func10, Try.ntmps10
    go_upto_region 1 with (fail)
    refine Kt.fold (fun W => Kt.Fb w [(w.heap.size + 1, #[.int .i64 2, .int .i64 ad, .int .i64 M], 55), (w.heap.size, shCs s F T, 53)] W) (((Kt.Fb.nil w h2b.2.2).add h2b.1).add h2b.2.1) ?_
    intro w0 hf0
    have HF0 := Lib.hid hf0
    clear hf0 h2b
    go_wp2_with fail
    refine (HA3.out _).mono ?_
    rintro e x1 ⟨rfl, hb⟩
    have HF1 := Lib.hid (HF0.out.on hb)
    clear hb HF0
    go_wp2_with fail
    refine (HA2.out _).mono ?_
    rintro e x2 ⟨rfl, hb⟩
    have HF2 := Lib.hid (HF1.out.on hb)
    clear hb HF1
    have q_g := fun i => cell_of_row _ _ i _ _ _ (HF2.out.row _ (List.Mem.head _))
    go_wp2_with (refine Kt.load_row_g (by rfl) 53 (.tmp 3) rfl w.heap.size rfl 53 (shCs s F T) _ (HF2.out.row _ (List.Mem.tail _ (List.Mem.head _))) Try.underlying53 rfl (by kernel_rfl) ?_)
    clear q_g
    refine (K1.out _ HF2.out.bel).mono ?_
    rintro e x3 ⟨rfl, hb⟩
    have HF3 := Lib.hid (((HF2.out.on hb).alloc (.cells #[.int .i64 2, .int .i64 ad, .int .i64 X] 55)).add (heap_alloc_new x3 (.cells #[.int .i64 2, .int .i64 ad, .int .i64 X] 55)))
    clear hb HF2
    have q_g := fun i => cell_of_row _ _ i _ _ _ (HF3.out.row _ (List.Mem.tail _ (List.Mem.head _)))
    go_wp2_with (refine Kt.load_row_g (by rfl) 53 (.tmp 3) rfl w.heap.size rfl 53 (shCs s F T) _ (HF3.out.row _ (List.Mem.tail _ (List.Mem.tail _ (List.Mem.head _)))) Try.underlying53 rfl (by kernel_rfl) ?_)
    clear q_g
    refine (K2.out _ HF3.out.bel).mono ?_
    rintro e x4 ⟨rfl, hb⟩
    have HF4 := Lib.hid (((HF3.out.on hb).alloc (.cells #[.int .i64 2, .int .i64 ad, .int .i64 Y] 55)).add (heap_alloc_new x4 (.cells #[.int .i64 2, .int .i64 ad, .int .i64 Y] 55)))
    clear hb HF3
    go_wp2_with fail
    refine (HLV.out _).mono ?_
    rintro e x5 ⟨rfl, hb⟩
    have HF5 := Lib.hid (HF4.out.on hb)
    clear hb HF4
    have q_a := fun i => cell_of_row _ _ i _ _ _ (HF5.out.row _ (List.Mem.tail _ (List.Mem.head _)))
    go_wp2_with (refine Kt.load_row_g (by rfl) 53 (.tmp 3) rfl w.heap.size rfl 53 (shCs s F T) _ (HF5.out.row _ (List.Mem.tail _ (List.Mem.tail _ (List.Mem.tail _ (List.Mem.head _))))) Try.underlying53 rfl (by kernel_rfl) ?_)
    clear q_a
    refine (K3.out _ HF5.out.bel).mono ?_
    rintro e x6 ⟨rfl, hb⟩
    have HF6 := Lib.hid (((HF5.out.on hb).alloc (.cells #[.int .i64 2, .int .i64 ad, .int .i64 X] 55)).add (heap_alloc_new x6 (.cells #[.int .i64 2, .int .i64 ad, .int .i64 X] 55)))
    clear hb HF5
    have q_a := fun i => cell_of_row _ _ i _ _ _ (HF6.out.row _ (List.Mem.tail _ (List.Mem.tail _ (List.Mem.head _))))
    go_wp2_with (refine Kt.load_row_g (by rfl) 53 (.tmp 3) rfl w.heap.size rfl 53 (shCs s F T) _ (HF6.out.row _ (List.Mem.tail _ (List.Mem.tail _ (List.Mem.tail _ (List.Mem.tail _ (List.Mem.head _)))))) Try.underlying53 rfl (by kernel_rfl) ?_)
    clear q_a
    refine (K4.out _ HF6.out.bel).mono ?_
    rintro e x7 ⟨rfl, hb⟩
    have HF7 := Lib.hid (((HF6.out.on hb).alloc (.cells #[.int .i64 2, .int .i64 ad, .int .i64 Y] 55)).add (heap_alloc_new x7 (.cells #[.int .i64 2, .int .i64 ad, .int .i64 Y] 55)))
    clear hb HF6
    have q_b := fun i => cell_of_row _ _ i _ _ _ (HF7.out.row _ (List.Mem.tail _ (List.Mem.tail _ (List.Mem.head _))))
    go_wp2_with (refine Kt.load_row_g (by rfl) 53 (.tmp 3) rfl w.heap.size rfl 53 (shCs s F T) _ (HF7.out.row _ (List.Mem.tail _ (List.Mem.tail _ (List.Mem.tail _ (List.Mem.tail _ (List.Mem.tail _ (List.Mem.head _))))))) Try.underlying53 rfl (by kernel_rfl) ?_)
    clear q_b
    refine (K5.out _ HF7.out.bel).mono ?_
    rintro e x8 ⟨rfl, hb⟩
    have HF8 := Lib.hid (((HF7.out.on hb).alloc (.cells #[.int .i64 2, .int .i64 ad, .int .i64 X] 55)).add (heap_alloc_new x8 (.cells #[.int .i64 2, .int .i64 ad, .int .i64 X] 55)))
    clear hb HF7
    go_upto_region 9 with (fail)
    generalize x8.alloc (.cells #[.int .i64 2, .int .i64 ad, .int .i64 X] 55) = z at *
    have q_g := fun i => cell_of_row _ _ i _ _ _ (HF8.out.row _ (List.Mem.tail _ (List.Mem.tail _ (List.Mem.tail _ (List.Mem.tail _ (List.Mem.tail _ (List.Mem.head _)))))))
    have q_a := fun i => cell_of_row _ _ i _ _ _ (HF8.out.row _ (List.Mem.tail _ (List.Mem.tail _ (List.Mem.tail _ (List.Mem.tail _ (List.Mem.head _))))))
    have q_b := fun i => cell_of_row _ _ i _ _ _ (HF8.out.row _ (List.Mem.tail _ (List.Mem.tail _ (List.Mem.tail _ (List.Mem.head _)))))
    have q_c := fun i => cell_of_row _ _ i _ _ _ (HF8.out.row _ (List.Mem.tail _ (List.Mem.tail _ (List.Mem.head _))))
    have q_d := fun i => cell_of_row _ _ i _ _ _ (HF8.out.row _ (List.Mem.tail _ (List.Mem.head _)))
    have q_h := fun i => cell_of_row _ _ i _ _ _ (HF8.out.row _ (List.Mem.head _))
    rcases HOR.out with ⟨e1, e2⟩ | ⟨e1, e2⟩
    · have E5 := fun w => EQ5 w
      rw [e1] at E5
      have E6 := fun w => EQ6 w
      rw [e2] at E6
      clear EQ5 EQ6 e1 e2
      go_quiet (first | with_reducible exact Calls.quiet_of_same (P1.out _) | with_reducible exact Calls.quiet_of_same (P2.out _))
      go_wp2_with fail
      go_ret
      exact ⟨rfl, bdrewN HF8.out.bel _⟩
    · have E5 := fun w => EQ5 w
      rw [e1] at E5
      have E6 := fun w => EQ6 w
      rw [e2] at E6
      clear EQ5 EQ6 e1 e2
      go_quiet (first | with_reducible exact Calls.quiet_of_same (P1.out _) | with_reducible exact Calls.quiet_of_same (P2.out _))
      go_wp2_with fail
      go_ret
      exact ⟨rfl, bdrewN HF8.out.bel _⟩
end Go.Proofs.Ytmddfpmchcmgiaa
