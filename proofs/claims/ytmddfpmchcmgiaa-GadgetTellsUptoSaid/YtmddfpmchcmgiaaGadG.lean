/- Control walked. -/
import Derived.Test.YtmddfpmchcmgiaaGadF
import Derived.Test.YtmddfpmchcmgiaaSetR
import Derived.Test.YtmddfpmchcmgiaaGen
namespace Go.Proofs.Ytmddfpmchcmgiaa
open Go.RowKit Go.Proofs.Ytmddfpmchcmgiaa.Dsc Go.Proofs.Ytmddfpmchcmgiaa.Gad Go.Proofs.Ytmddfpmchcmgiaa.SetP
/-- the bytes are read so, whatever the world is -/
def RdA (ask : ByteArray) (r : Option (Int × Int × Int × Int)) : Prop :=
  (match r with
  | none => ∀ w : World, Calls Try.prog 25 #[.string ask] w fun e w' => (∃ n : Int, n ≠ 0 ∧ e = .returned (.tuple #[askV 0 0 0 0, .int .i64 n])) ∧ Below w.heap.size w w'
  | some (k, v, i, l) => Okw k v i l ∧ 0 ≤ l ∧ ∀ w : World, Calls Try.prog 25 #[.string ask] w fun e w' => e = .returned (.tuple #[askV k v i l, .int .i64 0]) ∧ Below w.heap.size w w')
theorem rdA_some (ask : ByteArray) (k : Nat) (h1 : 1 ≤ k) (h2 : k ≤ 14) (hh : Hit ask k) (hs : ask.size = 8) (hm : ∀ j : Nat, 1 ≤ j → j < k → ¬ Hit ask j) : RdA ask (some (k, wordAt ask 2, wordAt ask 4, wordAt ask 6)) := by
  obtain ⟨r, hr, hok, ht⟩ := hh
  refine ⟨hok, (wordAt_bd ask 6).1, fun w => (readAsk_calls ask w).mono ?_⟩
  rintro e w' ⟨h, hb⟩
  refine ⟨?_, hb⟩
  rcases h with ⟨_, k', k1, k2, k3, k4, k5⟩ | ⟨h, _⟩
  · rcases Nat.lt_trichotomy k k' with h | h | h
    · exact absurd ⟨r, hr, hok, ht⟩ (k4 k h1 h)
    · subst h; exact k5
    · exact absurd k3 (hm k' k1 h)
  · rcases h with h | h
    · exact absurd hs h
    · exact absurd ⟨r, hr, hok, ht⟩ (h k h1 h2)
theorem rdA_none (ask : ByteArray) (h : ask.size ≠ 8 ∨ ∀ k : Nat, 1 ≤ k → k ≤ 14 → ¬ Hit ask k) : RdA ask none := by
  intro w
  refine (readAsk_calls ask w).mono ?_
  rintro e w' ⟨h', hb⟩
  refine ⟨?_, hb⟩
  rcases h' with ⟨k0, k', k1, k2, k3, k4, k5⟩ | ⟨_, h'⟩
  · rcases h with h | h
    · exact absurd k0 h
    · exact absurd k3 (h k' k1 k2)
  · exact h'
theorem least (p : Nat → Prop) : ∀ n, (∃ k, 1 ≤ k ∧ k ≤ n ∧ p k ∧ ∀ j, 1 ≤ j → j < k → ¬ p j) ∨ ∀ k, 1 ≤ k → k ≤ n → ¬ p k
  | 0 => .inr fun k h1 h2 => by omega
  | n + 1 => by
    rcases least p n with ⟨k, h1, h2, h3⟩ | h
    · exact .inl ⟨k, h1, by omega, h3⟩
    · rcases Classical.em (p (n + 1)) with hp | hp
      · exact .inl ⟨n + 1, by omega, by omega, hp, fun j h1 h2 => h j h1 (by omega)⟩
      · refine .inr fun k h1 h2 => ?_
        rcases Nat.lt_or_ge n k with h3 | h3
        · obtain rfl : k = n + 1 := by omega
          exact hp
        · exact h k h1 h3
theorem rdA_ex (ask : ByteArray) : ∃ r, RdA ask r := by
  by_cases hs : ask.size = 8
  · rcases least (fun k => Hit ask k) 14 with ⟨k, h1, h2, h3, h4⟩ | h
    · exact ⟨_, rdA_some ask k h1 h2 h3 hs h4⟩
    · exact ⟨none, rdA_none ask (.inr h)⟩
  · exact ⟨none, rdA_none ask (.inl hs)⟩
theorem three_boxes (w : World) (c d e : Array Value) (t u v : TypeId) : (((w.alloc (.cells c t)).alloc (.cells d u)).alloc (.cells e v)).heap[w.heap.size]? = some (.cells c t (0, 0)) ∧ (((w.alloc (.cells c t)).alloc (.cells d u)).alloc (.cells e v)).heap[w.heap.size + 1]? = some (.cells d u (0, 0)) ∧ (((w.alloc (.cells c t)).alloc (.cells d u)).alloc (.cells e v)).heap[w.heap.size + 1 + 1]? = some (.cells e v (0, 0)) ∧ Below w.heap.size w (((w.alloc (.cells c t)).alloc (.cells d u)).alloc (.cells e v)) := by
  have h := heap_alloc_new w (.cells c t)
  have h1 := Kt.balloc (Below.refl _ (w.alloc (.cells c t))) (.cells d u)
  have h2 := Kt.balloc h1 (.cells e v)
  refine ⟨Kt.row_on h2 h, ?_, ?_, Kt.bthen (Kt.balloc (Below.refl _ w) _) h2⟩
  · refine (Below.heap_alloc _ _ _ (by simp)).trans ?_
    have := heap_alloc_new (w.alloc (.cells c t)) (.cells d u)
    simpa using this
  · have := heap_alloc_new ((w.alloc (.cells c t)).alloc (.cells d u)) (.cells e v)
    simpa using this
theorem three_set {B g : Nat} {a w : World} (h : Below B a w) (hg : B ≤ g) (x y z : Value) : Below B a (((w.setCell ⟨g, 0, none⟩ x).setCell ⟨g, 1, none⟩ y).setCell ⟨g, 2, none⟩ z) :=
  ((h.setCell (p := ⟨g, 0, none⟩) hg x).setCell (p := ⟨g, 1, none⟩) hg y).setCell (p := ⟨g, 2, none⟩) hg z
theorem chk_ok {s : Sh} (h : chk s = 0) : cfgC s.cfg = 0 ∧ 0 ≤ s.cfg.va ∧ s.cfg.va ≤ 255 := by
  unfold chk at h
  split at h
  · contradiction
  split at h
  · exact absurd h (by decide)
  split at h
  · contradiction
  rename_i h3
  have h3 : (wCfg s.cfg).2 = 0 := by simpa using h3
  have hc : cfgC s.cfg = 0 := by unfold wCfg at h3; split at h3; assumption; exact h3
  have := (cfgC_ok hc).1
  exact ⟨hc, by have := this.1; omega, this.2.1⟩
set_option maxRecDepth 100000 in
theorem do_any (hwd : WDev) (s : Sh) (F T : Value) (g : Gd) (k v i l : Int) (hk : k < 8) (hok : Okw k v i l) (hl : 0 ≤ l) (b : Nat) (w : World) (hr : w.heap[b]? = some (.cells (thR s F T g) 99 (0, 0)))
    (hc : CRd w (.agg #[.int .i64 s.cfg.va, .int .i64 s.cfg.nm, .int .i64 s.cfg.at_, .int .i64 s.cfg.pw, F]) s.cfg) (hT : Kt.Ar w T 1 s.tx.length (xcells s.tx)) (hb : ∀ t ∈ s.tx, t.length ≤ 35184372088832) (hch : chk s = 0) (hg : gOk g = true) :
    Calls Try.prog 49 #[.pointer (some ⟨b, 0, none⟩), askV k v i l] w (DoIs s F T b w (dod s g k v i l)) := by
  obtain ⟨h1, h2, h3⟩ := chk_ok hch
  have hg2 : 0 ≤ g.ha ∧ g.ha < 4294967296 := by unfold gOk at hg; simp at hg; omega
  obtain ⟨r, hr1, c1, c2, c3⟩ := hok
  have h14 := row_range hr1
  obtain ⟨n, rfl⟩ := Int.eq_ofNat_of_zero_le (show 0 ≤ k by omega)
  have hn : n = 1 ∨ n = 2 ∨ n = 3 ∨ n = 4 ∨ n = 5 ∨ n = 6 ∨ n = 7 := by omega
  rcases hn with rfl | rfl | rfl | rfl | rfl | rfl | rfl
  · exact do_1 s F T g v i l b w hr
  · have e : r = ⟨2, 1, 0, 3, 0⟩ := by injection hr1 with e; exact e.symm
    subst e
    exact do_23 2 (.inl rfl) s F T g v i l b w hr hc h1 (by dsimp only at c2; unfold canP at c2; omega) hg2
  · have e : r = ⟨2, 3, 0, 3, 0⟩ := by injection hr1 with e; exact e.symm
    subst e
    exact do_23 3 (.inr rfl) s F T g v i l b w hr hc h1 (by dsimp only at c2; unfold canP at c2; omega) hg2
  · exact do_4 s F T g v i l b w hr
  · have e : r = ⟨128, 6, 1, 1, (-1)⟩ := by injection hr1 with e; exact e.symm
    subst e
    exact do_5 hwd s F T g v i l b w hr hc hT hb (by dsimp only at c1; unfold canP at c1; omega) (by dsimp only at c3; unfold canP at c3; omega)
  · exact do_6 s F T g v i l b w hr
  · exact do_7 s F T g v i l b w hr ⟨h2, h3⟩
set_option maxRecDepth 100000 in
set_option maxHeartbeats 6400000 in
theorem control_calls (hwd : WDev) (s : Sh) (v : Value) (g : Gd) (ask : ByteArray) (r : Option (Int × Int × Int × Int)) (w : World) (hs : ShRd w v s) (hb : ∀ t ∈ s.tx, t.length ≤ 35184372088832) (hr : RdA ask r) :
    Calls Try.prog 23 #[v, gdV g, .string ask] w fun e w' => e = .returned (.tuple #[gdV (ctl s g r).1, .string (bs' (ctl s g r).2.1), .int .i64 (ctl s g r).2.2]) ∧ Below w.heap.size w w' := by
  have HCK := Lib.hid (fun W (hW : Below w.heap.size w W) => check_calls hwd s v W (hs.on hW) hb)
  have HVL := Lib.hid (fun W => valid_calls g W)
  obtain ⟨F, T, rfl, hc, hT⟩ := hs
  have HC := Lib.hid hc
  have HT := Lib.hid hT
  have HBT := Lib.hid hb
  have HRD := Lib.hid hr
  have HK : Hid (ctl s g r = if chk s ≠ 0 then (g, [], chk s)
  else if gOk g = false then (g, [], 1)
  else match r with
    | none => (g, [], 8)
    | some (k, v, i, l) => if 8 ≤ k then (g, [], 12) else if (dod s g k v i l).2.2 ≠ 0 then (g, [], (dod s g k v i l).2.2) else dod s g k v i l) := Lib.hid rfl
  have HDO := Lib.hid (fun k v i l (hk : k < 8) (hok : Okw k v i l) (hl : 0 ≤ l) b W (hr : W.heap[b]? = some (.cells (thR s F T g) 99 (0, 0))) (hW : Below w.heap.size w W) (hch : chk s = 0) (hg : gOk g = true) => do_any hwd s F T g k v i l hk hok hl b W hr (hc.on hW) (hT.on hW) hb hch hg)
  obtain ⟨C1, hC1⟩ : ∃ C1, chk s = C1 := ⟨_, rfl⟩
  rw [hC1] at HCK HK HDO
  obtain ⟨G1, hG1⟩ : ∃ G1, gOk g = G1 := ⟨_, rfl⟩
  rw [hG1] at HVL HK HDO
  obtain ⟨FA, fc, hFA⟩ : ∃ FA fc, F = .slice FA s.cfg.fs.length fc := by
    obtain ⟨F', css, hF', hF, _⟩ := hc
    injection hF' with hF'
    have e5 : F = F' := by
      have := congrArg (fun a : Array Value => a[4]?) hF'
      simpa using this
    subst e5
    obtain ⟨A, c, e, _⟩ := hF.form
    exact ⟨A, c, e⟩
  obtain ⟨TA, tc, rfl, _, _⟩ := hT.form
  subst hFA
  clear hC1 hG1 hc hT hb hr
  obtain ⟨st, ad, ha⟩ := g
  unfold gdV at *
  dsimp only at HK HVL
  have HSV : Hid (∀ W, Below w.heap.size w W → Calls Try.prog 27 #[.agg (shCs s (.slice FA s.cfg.fs.length fc) (.slice TA s.tx.length tc))] W fun e w' => e = .returned (.int .i64 C1) ∧ Below W.heap.size W w') := HCK
  clear HCK
  go_enter Try.func23, Try.ntmps23
  go_upto_region 1 with (fail)
  refine Kt.fold (fun W => W.heap[w.heap.size]? = some (.cells (shCs s (.slice FA s.cfg.fs.length fc) (.slice TA s.tx.length tc)) 53 (0, 0)) ∧ W.heap[w.heap.size + 1]? = some (.cells #[.int .i64 st, .int .i64 ad, .int .i64 ha] 55 (0, 0)) ∧ W.heap[w.heap.size + 1 + 1]? = some (.cells #[.int .i64 0, .int .i64 0, .int .i64 0] 55 (0, 0)) ∧ Below w.heap.size w W) ?_ ?_
  · exact three_boxes w _ _ _ _ _ _
  rintro w0 ⟨r0, r1, r2, hb0⟩
  have HR0 := Lib.hid r0; have HR1 := Lib.hid r1; have HR2 := Lib.hid r2; have HB0 := Lib.hid hb0
  clear r0 r1 r2 hb0
  go_wp2_with (refine wpList_load_row rfl 53 (.tmp 3) rfl w.heap.size rfl 53 (shCs s (.slice FA s.cfg.fs.length fc) (.slice TA s.tx.length tc)) (0, 0) _ HR0.out Try.underlying53 rfl (by kernel_rfl) ?_)
  refine (HSV.out w0 HB0.out).mono ?_
  rintro e w1 ⟨rfl, hb1⟩
  have HR1 := Lib.hid (Kt.row_on hb1 HR1.out); have HR2 := Lib.hid (Kt.row_on hb1 HR2.out); have HR0 := Lib.hid (Kt.row_on hb1 HR0.out); have HB1 := Lib.hid (Kt.bthen HB0.out hb1)
  clear hb1
  have q1 := fun i => cell_of_row _ _ i _ _ _ HR1.out
  have q2 := fun i => cell_of_row _ _ i _ _ _ HR2.out
  have qf2 := fun i => frozen_of_row _ _ i _ _ HR2.out
  by_cases k1 : C1 = 0
  case neg =>
    have HD : Hid (ctl s ⟨st, ad, ha⟩ r = (⟨st, ad, ha⟩, [], C1)) := Lib.hid (by rw [HK.out, if_pos k1])
    have e1 : (C1 != 0) = true := by rw [bne_iff_ne]; exact k1
    go_wp2_with fail
    refine bodyPost_ret (v := .tuple #[.agg #[.int .i64 st, .int .i64 ad, .int .i64 ha], .string ⟨#[]⟩, .int .i64 C1]) (by simp [q2, results, Try.results23, go_sem]) rfl ?_
    rw [HD.out]
    exact ⟨rfl, three_set HB1.out (Nat.le_add_right _ 2) _ _ _⟩
  subst k1
  go_wp2_with fail
  refine (HVL.out w1).mono ?_
  rintro e w2 ⟨rfl, hb2⟩
  clear q1 q2 qf2
  have HR1 := Lib.hid (Kt.row_on hb2 HR1.out); have HR2 := Lib.hid (Kt.row_on hb2 HR2.out); have HR0 := Lib.hid (Kt.row_on hb2 HR0.out); have HB2 := Lib.hid (Kt.bthen HB1.out hb2)
  clear hb2
  have q1 := fun i => cell_of_row _ _ i _ _ _ HR1.out
  have q2 := fun i => cell_of_row _ _ i _ _ _ HR2.out
  have qf2 := fun i => frozen_of_row _ _ i _ _ HR2.out
  cases G1 with
  | false =>
    have HD : Hid (ctl s ⟨st, ad, ha⟩ r = (⟨st, ad, ha⟩, [], 1)) := Lib.hid (by rw [HK.out, if_neg (by simp), if_pos rfl])
    go_wp2_with fail
    refine bodyPost_ret (v := .tuple #[.agg #[.int .i64 st, .int .i64 ad, .int .i64 ha], .string ⟨#[]⟩, .int .i64 1]) (by simp [q2, results, Try.results23, go_sem]) rfl ?_
    rw [HD.out]
    exact ⟨rfl, three_set HB2.out (Nat.le_add_right _ 2) _ _ _⟩
  | true =>
    cases r with
    | none =>
      have HD : Hid (ctl s ⟨st, ad, ha⟩ none = (⟨st, ad, ha⟩, [], 8)) := Lib.hid (by rw [HK.out, if_neg (by simp), if_neg (by simp)])
      have HRD1 : Hid (∀ w : World, Calls Try.prog 25 #[.string ask] w fun e w' => (∃ n : Int, n ≠ 0 ∧ e = .returned (.tuple #[askV 0 0 0 0, .int .i64 n])) ∧ Below w.heap.size w w') := HRD
      unfold askV at HRD1
      go_wp2_with fail
      refine (HRD1.out w2).mono ?_
      rintro e w3 ⟨⟨n, hn, rfl⟩, hb3⟩
      clear q1 q2 qf2
      have HR1 := Lib.hid (Kt.row_on hb3 HR1.out); have HR2 := Lib.hid (Kt.row_on hb3 HR2.out); have HB3 := Lib.hid (Kt.bthen HB2.out hb3)
      have HZ : w.heap.size + 1 + 1 < w3.heap.size := (Array.getElem?_eq_some_iff.1 HR2.out).1
      have HZ1 : w.heap.size + 1 < w3.heap.size := (Array.getElem?_eq_some_iff.1 HR1.out).1
      clear hb3
      have q1 := fun i => cell_of_row _ _ i _ _ _ HR1.out
      have q2 := fun i => cell_of_row _ _ i _ _ _ HR2.out
      have qf2 := fun i => frozen_of_row _ _ i _ _ HR2.out
      have e1 : (n != 0) = true := by rw [bne_iff_ne]; exact hn
      clear hn
      go_wp2_with fail
      refine bodyPost_ret (v := .tuple #[.agg #[.int .i64 st, .int .i64 ad, .int .i64 ha], .string ⟨#[]⟩, .int .i64 8]) (by simp [q2, HZ, results, Try.results23, go_sem]) rfl ?_
      rw [HD.out]
      exact ⟨rfl, (three_set HB3.out (Nat.le_add_right _ 2) _ _ _).alloc (by simp [World.setCell]; exact HB3.out.size) _⟩
    | some x =>
      obtain ⟨k, v, i, l⟩ := x
      have HRD1 : Hid (Okw k v i l ∧ 0 ≤ l ∧ ∀ w : World, Calls Try.prog 25 #[.string ask] w fun e w' => e = .returned (.tuple #[askV k v i l, .int .i64 0]) ∧ Below w.heap.size w w') := HRD
      unfold askV at HRD1
      go_wp2_with fail
      refine (HRD1.out.2.2 w2).mono ?_
      rintro e w3 ⟨rfl, hb3⟩
      clear q1 q2 qf2
      have HR1 := Lib.hid (Kt.row_on hb3 HR1.out); have HR2 := Lib.hid (Kt.row_on hb3 HR2.out); have HR0 := Lib.hid (Kt.row_on hb3 HR0.out); have HB3 := Lib.hid (Kt.bthen HB2.out hb3)
      have HZ : w.heap.size + 1 + 1 < w3.heap.size := (Array.getElem?_eq_some_iff.1 HR2.out).1
      have HZ1 : w.heap.size + 1 < w3.heap.size := (Array.getElem?_eq_some_iff.1 HR1.out).1
      clear hb3
      have q1 := fun i => cell_of_row _ _ i _ _ _ HR1.out
      have q2 := fun i => cell_of_row _ _ i _ _ _ HR2.out
      have qf2 := fun i => frozen_of_row _ _ i _ _ HR2.out
      by_cases hk8 : 8 ≤ k
      · have HD : Hid (ctl s ⟨st, ad, ha⟩ (some (k, v, i, l)) = (⟨st, ad, ha⟩, [], 12)) := Lib.hid (by rw [HK.out, if_neg (by simp), if_neg (by simp)]; exact if_pos hk8)
        go_wp2_with fail
        refine bodyPost_ret (v := .tuple #[.agg #[.int .i64 st, .int .i64 ad, .int .i64 ha], .string ⟨#[]⟩, .int .i64 12]) (by simp [q2, HZ, results, Try.results23, go_sem]) rfl ?_
        rw [HD.out]
        exact ⟨rfl, (three_set HB3.out (Nat.le_add_right _ 2) _ _ _).alloc (by simp [World.setCell]; exact HB3.out.size) _⟩
      · have hk9 : k < 8 := by omega
        have HRX := Lib.hid ((Below.heap_alloc w3 (.cells #[.int .i64 k, .int .i64 v, .int .i64 i, .int .i64 l] 59) _ (Nat.lt_of_succ_lt HZ1)).trans HR0.out)
        have HR1X := Lib.hid ((Below.heap_alloc w3 (.cells #[.int .i64 k, .int .i64 v, .int .i64 i, .int .i64 l] 59) _ HZ1).trans HR1.out)
        have HR2X := Lib.hid ((Below.heap_alloc w3 (.cells #[.int .i64 k, .int .i64 v, .int .i64 i, .int .i64 l] 59) _ HZ).trans HR2.out)
        have HRAX := Lib.hid (heap_alloc_new w3 (.cells #[.int .i64 k, .int .i64 v, .int .i64 i, .int .i64 l] 59))
        have HBX := Lib.hid (Kt.balloc HB3.out (.cells #[.int .i64 k, .int .i64 v, .int .i64 i, .int .i64 l] 59))
        go_upto_region 11 with (fail)
        clear q1 q2 qf2
        generalize w3.alloc (.cells #[.int .i64 k, .int .i64 v, .int .i64 i, .int .i64 l] 59) = x at *
        iterate 1 (first | go_skip | go_guarded | go_step | go_upon)
        refine wpList_load_row rfl 53 (.tmp 3) rfl w.heap.size rfl 53 (shCs s (.slice FA s.cfg.fs.length fc) (.slice TA s.tx.length tc)) (0, 0) _ HRX.out Try.underlying53 rfl (by kernel_rfl) ?_
        refine wpList_load_row rfl 55 (.tmp 4) rfl (w.heap.size + 1) rfl 55 #[.int .i64 st, .int .i64 ad, .int .i64 ha] (0, 0) _ HR1X.out Try.underlying55 rfl (by kernel_rfl) ?_
        refine wpList_plain rfl fun K hK => Kt.wp_run (.agg (thR s (.slice FA s.cfg.fs.length fc) (.slice TA s.tx.length tc) ⟨st, ad, ha⟩)) x (by kernel_rfl) (hK _ _ ?_)
        clear hK K
        try simp only [Act.put, List.setIfInBounds_toArray, List.set_cons_zero, List.set_cons_succ]
        iterate 1 (first | go_skip | go_guarded | go_step | go_upon)
        refine Kt.wp_run (.pointer (some ⟨x.heap.size, 0, none⟩)) (x.alloc (.cells (thR s (.slice FA s.cfg.fs.length fc) (.slice TA s.tx.length tc) ⟨st, ad, ha⟩) 99)) (by kernel_rfl) ?_
        have hy := Kt.balloc (Below.refl _ x) (.cells (thR s (.slice FA s.cfg.fs.length fc) (.slice TA s.tx.length tc) ⟨st, ad, ha⟩) 99)
        have HTY := Lib.hid (heap_alloc_new x (.cells (thR s (.slice FA s.cfg.fs.length fc) (.slice TA s.tx.length tc) ⟨st, ad, ha⟩) 99))
        have HR1Y := Lib.hid (Kt.row_on hy HR1X.out); have HR2Y := Lib.hid (Kt.row_on hy HR2X.out); have HRAY := Lib.hid (Kt.row_on hy HRAX.out); have HBY := Lib.hid (Kt.bthen HBX.out hy)
        have HXS := Lib.hid HBX.out.size
        have HX1 := Lib.hid (Array.getElem?_eq_some_iff.1 HR1X.out).1
        have HX2 := Lib.hid (Array.getElem?_eq_some_iff.1 HR2X.out).1
        clear hy HZ HZ1
        generalize x.alloc (.cells (thR s (.slice FA s.cfg.fs.length fc) (.slice TA s.tx.length tc) ⟨st, ad, ha⟩) 99) = y at *
        have qa := fun i => cell_of_row _ _ i _ _ _ HRAY.out
        have HDD := Lib.hid (HDO.out k v i l hk9 HRD1.out.1 HRD1.out.2.1 x.heap.size y HTY.out HBY.out (by trivial) (by trivial))
        have HKK : Hid (ctl s ⟨st, ad, ha⟩ (some (k, v, i, l)) = if (dod s ⟨st, ad, ha⟩ k v i l).2.2 ≠ 0 then (⟨st, ad, ha⟩, [], (dod s ⟨st, ad, ha⟩ k v i l).2.2) else dod s ⟨st, ad, ha⟩ k v i l) := Lib.hid (by rw [HK.out, if_neg (by simp), if_neg (by simp)]; exact if_neg (Int.not_le.2 hk9))
        obtain ⟨R, hR⟩ : ∃ R, dod s ⟨st, ad, ha⟩ k v i l = R := ⟨_, rfl⟩
        rw [hR] at HDD HKK
        obtain ⟨⟨st', ad', ha'⟩, out, c⟩ := R
        clear HK HDO hR HRD HRD1
        go_wp2_with fail
        refine HDD.out.mono ?_
        rintro e w5 ⟨rfl, hrt, hb5⟩
        clear qa
        have HR1 := Lib.hid ((hb5.block _ HX1.out).trans HR1Y.out)
        have HR2 := Lib.hid ((hb5.block _ HX2.out).trans HR2Y.out)
        have HRT := Lib.hid hrt
        have HB5 := Lib.hid (HBY.out.trans (hb5.mono HXS.out))
        clear hb5 hrt
        have q1 := fun i => cell_of_row _ _ i _ _ _ HR1.out
        have q2 := fun i => cell_of_row _ _ i _ _ _ HR2.out
        have qf2 := fun i => frozen_of_row _ _ i _ _ HR2.out
        by_cases k1 : c = 0
        case neg =>
          have HD : Hid (ctl s ⟨st, ad, ha⟩ (some (k, v, i, l)) = (⟨st, ad, ha⟩, [], c)) := Lib.hid (by rw [HKK.out]; exact if_pos k1)
          have e1 : (c != 0) = true := by rw [bne_iff_ne]; exact k1
          go_wp2_with fail
          refine bodyPost_ret (v := .tuple #[.agg #[.int .i64 st, .int .i64 ad, .int .i64 ha], .string ⟨#[]⟩, .int .i64 c]) (by simp [q2, results, Try.results23, go_sem]) rfl ?_
          rw [HD.out]
          exact ⟨rfl, three_set HB5.out (Nat.le_add_right _ 2) _ _ _⟩
        subst k1
        have HD : Hid (ctl s ⟨st, ad, ha⟩ (some (k, v, i, l)) = (⟨st', ad', ha'⟩, out, 0)) := Lib.hid (by rw [HKK.out]; exact if_neg (by simp))
        have qt := fun i => cell_of_row _ _ i _ _ _ HRT.out
        unfold thR at qt
        go_wp2_with fail
        refine bodyPost_ret (v := .tuple #[.agg #[.int .i64 st', .int .i64 ad', .int .i64 ha'], .string (bs' out), .int .i64 0]) (by simp [q2, results, Try.results23, go_sem]) rfl ?_
        rw [HD.out]
        exact ⟨rfl, three_set HB5.out (Nat.le_add_right _ 2) _ _ _⟩
end Go.Proofs.Ytmddfpmchcmgiaa
