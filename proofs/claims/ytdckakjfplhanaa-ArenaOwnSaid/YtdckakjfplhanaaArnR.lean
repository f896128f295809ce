/- ArenaRight: the reference's check on right arenas, slices.Contains of spans. -/
import Derived.Test.YtdckakjfplhanaaArnU
import Derived.Test.YtdckakjfplhanaaArnE
import Derived.BigQuiet
namespace Go.Proofs.Ytdckakjfplhanaa
open Go.RowKit Go.Proofs.Ytdckakjfplhanaa.Arn
theorem okS_prev (size : Int) : ∀ (l : List (Int × Int)) (e : Int), okS size e l → ∀ k (h : k + 1 < l.length), (l[k]'(by omega)).1 + (l[k]'(by omega)).2 ≤ (l[k + 1]'h).1
  | [], _, _, k, h => absurd h (by simp)
  | [s], _, _, k, h => absurd h (by simp)
  | s :: t :: l, e, ho, k, h => by
    obtain ⟨_, _, _, _, ho2⟩ := ho
    match k with
    | 0 => exact ho2.2.1
    | k + 1 => exact okS_prev size (t :: l) _ ho2 k (by simp at h ⊢; omega)
theorem next_l {k n : Nat} (h : k < n) : (n - (intOf (.int .i64 ((k : Int) + 1))).toNat : Nat) < n - (intOf (.int .i64 (k : Int))).toNat := by
  simp only [intOf]
  omega
theorem wrap_ln {k n : Nat} (h : k < n) (hn : n ≤ 1099511627776) : wrap64 ((k : Int) + 1) = ((k + 1 : Nat) : Int) := by unfold wrap64; omega
theorem next_ln {k n : Nat} (h : k < n) (hn : n ≤ 1099511627776) : (n - (intOf (.int .i64 (wrap64 ((k : Int) + 1)))).toNat : Nat) < n - (intOf (.int .i64 (k : Int))).toNat := by
  rw [wrap_ln h hn]
  simp only [intOf]
  omega
theorem between_t (n lo hi : Int) (w : World) (h1 : lo ≤ n) (h2 : n ≤ hi) : Calls Try.prog 25 #[.int .i64 n, .int .i64 lo, .int .i64 hi] w fun e w' => e = .returned (.bool true) ∧ w = w' := by
  have f1 : decide (lo ≤ n) = true := decide_eq_true h1
  have f2 : decide (n ≤ hi) = true := decide_eq_true h2
  go_enter Try.func25, Try.ntmps25
  go_wp2_with fail
  go_ret
  exact ⟨rfl, rfl⟩
set_option maxRecDepth 100000 in
set_option maxHeartbeats 3200000 in
theorem rarena_ok (size : Int) (l : List (Int × Int)) (V : Value) (w : World) (hv : Kt.Ar w V 2 l.length (spv l)) (hc : chk size l = 0) :
    Calls Try.prog 18 #[.agg #[.int .i64 size, V]] w fun e w' => e = .returned (.int .i64 0) ∧ Below w.heap.size w w' := by
  obtain ⟨s1, s2, s3, s4⟩ := chk_ok hc
  obtain ⟨A0, c0, rfl, _, _⟩ := hv.form
  have HV := Lib.hid hv
  have HB0 := Lib.hid (Kt.balloc (Below.refl _ w) (.cells #[.int .i64 size, .slice A0 l.length c0] 24))
  have HR0 := Lib.hid (heap_alloc_new w (.cells #[.int .i64 size, .slice A0 l.length c0] 24))
  have q := fun i => cell_of_row _ _ i _ _ _ HR0.out
  have HS := Lib.hid (And.intro s1 s2)
  have HO := Lib.hid s4
  have h64 : ¬ (64 : Int) < l.length := by omega
  have HL := Lib.hid s3
  clear hv hc s1 s2 s3 s4
  go_enter Try.func18, Try.ntmps18
  go_wp2_with fail
  refine (between_t _ _ _ _ HS.out.1 HS.out.2).mono ?_
  rintro en w1 ⟨rfl, rfl⟩
  go_wp2_with fail
  clear q h64
  go_loopw [16] (fun ii wr => ∃ i : Nat, Hid (i ≤ l.length) ∧ ii = .int .i64 i ∧ Hid (wr.heap[w.heap.size]? = some (.cells #[.int .i64 size, .slice A0 l.length c0] 24 (0, 0)) ∧ Below w.heap.size w wr)) (fun ii _ => l.length - (intOf ii).toNat)
  case atStart => exact ⟨0, Lib.hid (by omega), rfl, Lib.hid ⟨HR0.out, HB0.out⟩⟩
  case round =>
    clear HR0 HB0
    obtain ⟨i, HI, rfl, H0⟩ := hrel
    by_cases hi : i < l.length
    · have hi' : (i : Int) < l.length := by omega
      obtain ⟨b, o, c, hve, hb0, x0, x1⟩ := Kt.Ar.span (w' := w) (HV.out.on H0.out.2) i hi
      cases hve
      have q := fun i => cell_of_row _ _ i _ _ _ H0.out.1
      have hbd := okS_bounds size l 0 HO.out (l[i]'hi) (List.getElem_mem hi)
      have HB1 := Lib.hid (fun W => between_t (l[i]'hi).1 0 (size - 1) W (by omega) (by omega))
      have HB2 := Lib.hid (fun W => between_t (l[i]'hi).2 1 (size - (l[i]'hi).1) W (by omega) (by omega))
      have hsz := HS.out.2
      have hsz1 := HS.out.1
      have hl64 : (i : Int) < 64 := by have := HL.out; omega
      have hAB := Kt.balloc H0.out.2 (.cells #[.int .i64 (l[i]'hi).1, .int .i64 (l[i]'hi).2] 30)
      have hAR := Kt.row_on (Kt.balloc (Below.refl _ wr) (.cells #[.int .i64 (l[i]'hi).1, .int .i64 (l[i]'hi).2] 30)) H0.out.1
      have H1 := Lib.hid (And.intro hAR hAB)
      have hS := heap_alloc_new wr (.cells #[.int .i64 (l[i]'hi).1, .int .i64 (l[i]'hi).2] 30)
      have hAV := HV.out.on hAB
      have HPREV := Lib.hid (fun k (h : k + 1 < l.length) => okS_prev size l 0 HO.out k h)
      have q2 := fun i => cell_of_row _ _ i _ _ _ hAR
      have q3 := fun i => cell_of_row _ _ i _ _ _ hS
      by_cases h0 : i = 0
      · have f0 : decide ((0 : Int) < i) = false := decide_eq_false (by omega)
        have f0' : decide (0 < i) = false := decide_eq_false (by omega)
        clear hAB hAR hS HPREV hAV h0
        generalize (l[i]'hi).1 = at_ at *
        generalize (l[i]'hi).2 = sz at *
        obtain ⟨d1, d2, d3⟩ := hbd
        go_wp2_with fail
        refine (HB1.out _).mono ?_
        rintro en w2 ⟨rfl, rfl⟩
        go_wp2_with fail
        refine (HB2.out _).mono ?_
        rintro en w2 ⟨rfl, rfl⟩
        go_upto_region 10 with (fail)
        go_quiet (fail)
        go_wp2_with fail
        exact ⟨⟨i + 1, Lib.hid hi, rfl, Lib.hid ⟨H1.out.1, bdrewN H1.out.2 _⟩⟩, next_l hi⟩
      · obtain ⟨k, hk⟩ : ∃ k, i = k + 1 := ⟨i - 1, by omega⟩
        have hkl' : k < l.length := by omega
        obtain ⟨b2, o2, c2, hve2, _, y0, y1⟩ := Kt.Ar.span (w' := w) hAV k hkl'
        cases hve2
        have hp : (l[k]'hkl').1 + (l[k]'hkl').2 ≤ (l[i]'hi).1 := by
          have h2 := HPREV.out k (by omega)
          simp only [show (l[k + 1]'(by omega)) = l[i]'hi by congr 1; exact hk.symm] at h2
          exact h2
        have hpb := okS_bounds size l 0 HO.out (l[k]'hkl') (List.getElem_mem _)
        have hki : (i : Int) - 1 = k := by omega
        have f0 : decide ((0 : Int) < i) = true := decide_eq_true (by omega)
        have f0' : decide (0 < i) = true := decide_eq_true (by omega)
        have hkl : (k : Int) < l.length := by omega
        clear hAB hAR hS HPREV hAV h0 hk
        generalize (l[i]'hi).1 = at_ at *
        generalize (l[i]'hi).2 = sz at *
        generalize (l[k]'hkl').1 = pa at *
        generalize (l[k]'hkl').2 = ps at *
        obtain ⟨d1, d2, d3⟩ := hbd
        obtain ⟨p1, p2, p3⟩ := hpb
        go_wp2_with fail
        refine (HB1.out _).mono ?_
        rintro en w2 ⟨rfl, rfl⟩
        go_wp2_with fail
        refine (HB2.out _).mono ?_
        rintro en w2 ⟨rfl, rfl⟩
        have fle : pa + ps ≤ at_ := hp
        go_upto_region 10 with (fail)
        go_quiet (fail)
        go_wp2_with fail
        exact ⟨⟨i + 1, Lib.hid hi, rfl, Lib.hid ⟨H1.out.1, bdrewN H1.out.2 _⟩⟩, next_l hi⟩
    · obtain rfl : i = l.length := by have := HI.out; omega
      go_wp2_with fail
      go_ret
      exact ⟨rfl, H0.out.2⟩
theorem eql_span (x y : Int × Int) (w : World) : (binOp .eql 30 (.agg #[.int .i64 x.1, .int .i64 x.2]) (.agg #[.int .i64 y.1, .int .i64 y.2])).run Try.prog w = .ok (.bool (decide (x = y))) w := by
  have h := (Fr.eql_agg (P := Try.prog) w 30 spTy 12 (by omega) fit_eqs_calls ok_eqs_calls rfl #[.int .i64 x.1, .int .i64 x.2] #[.int .i64 y.1, .int .i64 y.2] ⟨by simp, ⟨x.1, rfl⟩, by simp, ⟨x.2, rfl⟩, rfl⟩ ⟨by simp, ⟨y.1, rfl⟩, by simp, ⟨y.2, rfl⟩, rfl⟩ rfl rfl).1
  rw [h]
  congr 2
  exact decide_eq_decide.2 ⟨fun e => by simpa [Prod.ext_iff] using e, fun e => by rw [e]⟩
theorem guard_spanT : Program.eqGuardType Try.prog Try.prog.depth 30 = false := by kernel_rfl
set_option maxRecDepth 100000 in
set_option maxHeartbeats 3200000 in
theorem sindex_calls (x : Int × Int) (l : List (Int × Int)) (V : Value) (w : World) (hv : Kt.Ar w V 2 l.length (spv l)) (hm : l.length ≤ 1099511627776) (hx : x ∈ l) :
    Calls Try.prog 26 #[V, .agg #[.int .i64 x.1, .int .i64 x.2]] w fun e w' => ∃ r : Nat, e = .returned (.int .i64 r) ∧ Below w.heap.size w w' := by
  obtain ⟨A0, c0, rfl, _, _⟩ := hv.form
  have HV := Lib.hid hv
  have HM := Lib.hid hm
  have HX := Lib.hid hx
  have HB0 := Lib.hid (Kt.balloc (Below.refl _ w) (.cells #[.int .i64 x.1, .int .i64 x.2] 30))
  have HR0 := Lib.hid (heap_alloc_new w (.cells #[.int .i64 x.1, .int .i64 x.2] 30))
  clear hv hm hx
  go_enter Try.func26, Try.ntmps26
  go_wp2_with fail
  go_loopw [8] (fun i wr => ∃ (k : Nat), Hid (k ≤ l.length) ∧ i = .int .i64 k ∧ Hid (∀ j (h : j < l.length), j < k → l[j] ≠ x) ∧ Hid (wr.heap[w.heap.size]? = some (.cells #[.int .i64 x.1, .int .i64 x.2] 30 (0, 0)) ∧ Below w.heap.size w wr)) (fun i _ => l.length - (intOf i).toNat)
  case atStart => exact ⟨0, Lib.hid (Nat.zero_le _), rfl, Lib.hid (fun j h hj => absurd hj (by omega)), Lib.hid ⟨HR0.out, HB0.out⟩⟩
  case round =>
    clear HR0 HB0
    obtain ⟨k, HK, rfl, HP, H0⟩ := hrel
    by_cases hk : k < l.length
    · have hk' : (k : Int) < l.length := by omega
      obtain ⟨b, o, c, hve, hb0, x0, x1⟩ := Kt.Ar.span (w' := w) (HV.out.on H0.out.2) k hk
      cases hve
      have q := fun i => cell_of_row _ _ i _ _ _ H0.out.1
      have H1 := Lib.hid (show wr.drew.heap[w.heap.size]? = some (.cells #[.int .i64 x.1, .int .i64 x.2] 30 (0, 0)) ∧ Below w.heap.size w wr.drew from ⟨H0.out.1, H0.out.2.drew⟩)
      have EQ := fun w => eql_span x (l[k]'hk) w
      have EG := fun p q (a b : Array Value) w => run_eqGuard_agg (P := Try.prog) w .eql 30 p q a b guard_spanT
      have HN : Hid ((l[k]'hk) ≠ x → ∀ j (h : j < l.length), j < k + 1 → l[j] ≠ x) := Lib.hid fun hne j h hj => by
        by_cases e : j = k
        · subst e; exact hne
        · exact HP.out j h (by omega)
      by_cases he : x = l[k]'hk
      · rw [decide_eq_true he] at EQ
        clear he
        generalize (l[k]'hk) = y at *
        go_upto_region 4 with (fail)
        go_quiet (fail)
        go_wp2_with fail
        go_ret
        exact ⟨k, rfl, bdrewN H0.out.2 _⟩
      · rw [decide_eq_false he] at EQ
        have HNN := Lib.hid (HN.out (fun e => he e.symm))
        clear he HN
        generalize (l[k]'hk) = y at *
        go_upto_region 4 with (fail)
        go_quiet (fail)
        go_wp2_with fail
        exact ⟨⟨k + 1, Lib.hid hk, by rw [wrap_ln hk HM.out], HNN, Lib.hid ⟨H0.out.1, bdrewN H0.out.2 _⟩⟩, next_ln hk HM.out⟩
    · exfalso
      obtain ⟨j, hj, e⟩ := List.mem_iff_getElem.1 HX.out
      exact HP.out j hj (by omega) e
set_option maxRecDepth 100000 in
theorem scontains_calls (x : Int × Int) (l : List (Int × Int)) (V : Value) (w : World) (hv : Kt.Ar w V 2 l.length (spv l)) (hm : l.length ≤ 1099511627776) (hx : x ∈ l) :
    Calls Try.prog 19 #[V, .agg #[.int .i64 x.1, .int .i64 x.2]] w fun e w' => e = .returned (.bool true) ∧ Below w.heap.size w w' := by
  obtain ⟨A0, c0, rfl, _, _⟩ := hv.form
  have HB0 := Lib.hid (Kt.balloc (Below.refl _ w) (.cells #[.int .i64 x.1, .int .i64 x.2] 30))
  have HI := Lib.hid (sindex_calls x l _ _ (hv.on HB0.out) hm hx)
  clear hv hm hx
  go_enter Try.func19, Try.ntmps19
  go_wp2_with fail
  refine HI.out.mono ?_
  rintro en w1 ⟨r, rfl, hb⟩
  have hr : (0 : Int) ≤ r := by omega
  go_wp2_with fail
  go_ret
  exact ⟨rfl, Kt.bthen HB0.out hb⟩
end Go.Proofs.Ytdckakjfplhanaa
