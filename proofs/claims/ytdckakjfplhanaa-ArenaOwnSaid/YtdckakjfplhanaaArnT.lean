/- arena.Take walked. -/
import Derived.Test.YtdckakjfplhanaaArnG
namespace Go.Proofs.Ytdckakjfplhanaa
open Go.RowKit Go.Shelf Go.Proofs.Ytdckakjfplhanaa.Arn
/-- are a size and an align within their bounds? -/
def argsOk (z al : Int) : Prop := 1 ≤ z ∧ z ≤ 4096 ∧ 1 ≤ al ∧ al ≤ 4096 ∧ bits BinOp.and IntKind.i64 al (al - 1) = 0
/-- what Take tells -/
def TakeIs (B : Nat) (size : Int) (l : List (Int × Int)) (z al : Int) (e : Ending) (w' : World) : Prop :=
  (∃ n, n ≠ 0 ∧ e = .returned (.tuple #[.agg #[.int .i64 0, .slice none 0 0], .int .i64 0, .int .i64 n]) ∧ (chk size l = n ∨ (chk size l = 0 ∧ ((¬ argsOk z al ∧ n = 1) ∨ (argsOk z al ∧ n = 11 ∧ (l.length = 64 ∨ (l.length < 64 ∧ ∀ b, 0 ≤ b → b + z ≤ size → al ∣ b → ¬ fit l z b))))))) ∨
  (chk size l = 0 ∧ argsOk z al ∧ l.length < 64 ∧ ∃ (a : Int) (A : Option Addr) (c : Nat), 0 ≤ a ∧ al ∣ a ∧ a + z ≤ size ∧ fit l z a ∧ (∀ b, 0 ≤ b → b < a → al ∣ b → ¬ fit l z b) ∧
    e = .returned (.tuple #[.agg #[.int .i64 size, .slice A (l.length + 1) c], .int .i64 a, .int .i64 0]) ∧ Kt.Sl w' B 30 2 (.slice A (l.length + 1) c) (l.length + 1) (spv (ins l a z)))
/-- the boxes that Take lays first -/
abbrev Bx (w : World) (size : Int) (A0 : Option Addr) (n c0 : Nat) : World := (w.alloc (.cells #[.int .i64 size, .slice A0 n c0] 24)).alloc (.cells #[.int .i64 0, .slice none 0 0] 24)
theorem bx_res (w : World) (size : Int) (A0 : Option Addr) (n c0 : Nat) : (Bx w size A0 n c0).heap[w.heap.size + 1]? = some (.cells #[.int .i64 0, .slice none 0 0] 24 (0, 0)) := by
  have := heap_alloc_new (w.alloc (.cells #[.int .i64 size, .slice A0 n c0] 24)) (.cells #[.int .i64 0, .slice none 0 0] 24)
  rw [World.size_alloc] at this
  exact this
theorem bx_ar (w : World) (size : Int) (A0 : Option Addr) (n c0 : Nat) : (Bx w size A0 n c0).heap[w.heap.size]? = some (.cells #[.int .i64 size, .slice A0 n c0] 24 (0, 0)) :=
  (Below.heap_alloc _ _ _ (by rw [World.size_alloc]; omega)).trans (heap_alloc_new w _)
theorem bx_bel (w : World) (size : Int) (A0 : Option Addr) (n c0 : Nat) : Below w.heap.size w (Bx w size A0 n c0) := Kt.balloc (Kt.balloc (Below.refl _ w) _) _
theorem two_set {w w1 : World} (h : Below w.heap.size w w1) (x y : Value) : Below w.heap.size w ((w1.setCell ⟨w.heap.size + 1, 0, none⟩ x).setCell ⟨w.heap.size + 1, 1, none⟩ y) :=
  (h.setCell (p := ⟨w.heap.size + 1, 0, none⟩) (Nat.le_succ _) _).setCell (p := ⟨w.heap.size + 1, 1, none⟩) (Nat.le_succ _) _
set_option maxRecDepth 100000 in
set_option maxHeartbeats 1600000 in
theorem take_bad1 (size : Int) (l : List (Int × Int)) (V : Value) (z al : Int) (w : World) (hv : Kt.Ar w V 2 l.length (spv l)) (hm : l.length ≤ 140737488355328) (hc : chk size l ≠ 0) :
    Calls Try.prog 9 #[.agg #[.int .i64 size, V], .int .i64 z, .int .i64 al] w fun e w' => TakeIs w.heap.size size l z al e w' ∧ Below w.heap.size w w' := by
  obtain ⟨A0, c0, rfl, _, _⟩ := hv.form
  have HB0 := Lib.hid (bx_bel w size A0 l.length c0)
  have HR0 := Lib.hid (bx_res w size A0 l.length c0)
  have HCK := Lib.hid (check_calls size l _ _ (hv.on HB0.out) hm)
  have hb : (chk size l != 0) = true := by rw [bne_iff_ne]; exact hc
  have HX : Hid (∀ w', TakeIs w.heap.size size l z al (.returned (.tuple #[.agg #[.int .i64 0, .slice none 0 0], .int .i64 0, .int .i64 (chk size l)])) w') := Lib.hid (fun w' => .inl ⟨chk size l, hc, rfl, .inl rfl⟩)
  generalize chk size l = e0 at *
  clear hv hm hc
  go_enter Try.func9, Try.ntmps9
  go_wp2_with fail
  refine HCK.out.mono ?_
  rintro e w1 ⟨rfl, hb1⟩
  have HB1 := Lib.hid (Kt.bthen HB0.out hb1)
  have hr := Kt.row_on hb1 HR0.out
  have q := fun i => cell_of_row _ _ i _ _ _ hr
  have qf := fun i => frozen_of_row _ _ i _ _ hr
  clear hb1 HCK HR0 HB0 hr
  go_wp2_with fail
  exact bodyPost_ret (v := .tuple #[.agg #[.int .i64 0, .slice none 0 0], .int .i64 0, .int .i64 e0]) (by simp [q, qf, results, Try.results9, go_sem]) rfl ⟨HX.out _, two_set HB1.out _ _⟩
set_option maxRecDepth 100000 in
set_option maxHeartbeats 1600000 in
theorem take_bad2 (size : Int) (l : List (Int × Int)) (V : Value) (z al : Int) (w : World) (hv : Kt.Ar w V 2 l.length (spv l)) (hc : chk size l = 0)
    (h : z < 1 ∨ (1 ≤ z ∧ 4096 < z) ∨ (1 ≤ z ∧ z ≤ 4096 ∧ al < 1) ∨ (1 ≤ z ∧ z ≤ 4096 ∧ 1 ≤ al ∧ 4096 < al) ∨ (1 ≤ z ∧ z ≤ 4096 ∧ 1 ≤ al ∧ al ≤ 4096 ∧ (bits BinOp.and IntKind.i64 al (al - 1) != 0) = true ∧ wrap64 (al - 1) = al - 1)) :
    Calls Try.prog 9 #[.agg #[.int .i64 size, V], .int .i64 z, .int .i64 al] w fun e w' => TakeIs w.heap.size size l z al e w' ∧ Below w.heap.size w w' := by
  obtain ⟨_, _, hl, _⟩ := chk_ok hc
  obtain ⟨A0, c0, rfl, _, _⟩ := hv.form
  have HB0 := Lib.hid (bx_bel w size A0 l.length c0)
  have HR0 := Lib.hid (bx_res w size A0 l.length c0)
  have HCK := Lib.hid (check_calls size l _ _ (hv.on HB0.out) (by omega))
  have HX : Hid (∀ w', TakeIs w.heap.size size l z al (.returned (.tuple #[.agg #[.int .i64 0, .slice none 0 0], .int .i64 0, .int .i64 1])) w') := Lib.hid (fun w' => .inl ⟨1, by decide, rfl, .inr ⟨hc, .inl ⟨fun ⟨a1, a2, a3, a4, a5⟩ => by
    rcases h with h | h | h | h | ⟨_, _, _, _, h, _⟩
    · omega
    · omega
    · omega
    · omega
    · rw [a5] at h; simp at h, rfl⟩⟩⟩)
  rw [hc] at HCK
  clear hv hc hl
  rcases h with c1 | ⟨c1, c2⟩ | ⟨c1, c2, c3⟩ | ⟨c1, c2, c3, c4⟩ | ⟨c1, c2, c3, c4, c5, c6⟩
  all_goals
    go_enter Try.func9, Try.ntmps9
    go_wp2_with fail
    refine HCK.out.mono ?_
    rintro e w1 ⟨rfl, hb1⟩
    have HB1 := Lib.hid (Kt.bthen HB0.out hb1)
    have hr := Kt.row_on hb1 HR0.out
    have q := fun i => cell_of_row _ _ i _ _ _ hr
    have qf := fun i => frozen_of_row _ _ i _ _ hr
    clear hb1 HCK HR0 HB0 hr
    go_wp2_with fail
    exact bodyPost_ret (v := .tuple #[.agg #[.int .i64 0, .slice none 0 0], .int .i64 0, .int .i64 1]) (by simp [q, qf, results, Try.results9, go_sem]) rfl ⟨HX.out _, two_set HB1.out _ _⟩
set_option maxRecDepth 100000 in
set_option maxHeartbeats 1600000 in
theorem take_full (size : Int) (l : List (Int × Int)) (V : Value) (z al : Int) (w : World) (hv : Kt.Ar w V 2 l.length (spv l)) (hc : chk size l = 0) (ha : argsOk z al) (hn : l.length = 64) :
    Calls Try.prog 9 #[.agg #[.int .i64 size, V], .int .i64 z, .int .i64 al] w fun e w' => TakeIs w.heap.size size l z al e w' ∧ Below w.heap.size w w' := by
  obtain ⟨A0, c0, rfl, _, _⟩ := hv.form
  have HB0 := Lib.hid (bx_bel w size A0 l.length c0)
  have HR0 := Lib.hid (bx_res w size A0 l.length c0)
  have HA0 := Lib.hid (bx_ar w size A0 l.length c0)
  have HCK := Lib.hid (check_calls size l _ _ (hv.on HB0.out) (by omega))
  have HX : Hid (∀ w', TakeIs w.heap.size size l z al (.returned (.tuple #[.agg #[.int .i64 0, .slice none 0 0], .int .i64 0, .int .i64 11])) w') := Lib.hid (fun w' => .inl ⟨11, by decide, rfl, .inr ⟨hc, .inr ⟨ha, rfl, .inl hn⟩⟩⟩)
  obtain ⟨c1, c2, c3, c4, c5⟩ := ha
  have c6 : wrap64 (al - 1) = al - 1 := by unfold wrap64; omega
  have c7 : (bits BinOp.and IntKind.i64 al (al - 1) != 0) = false := by rw [c5]; rfl
  have c8 : ((l.length : Int) == 64) = true := by rw [hn]; rfl
  rw [hc] at HCK
  clear hv hc hn c5
  go_enter Try.func9, Try.ntmps9
  go_wp2_with fail
  refine HCK.out.mono ?_
  rintro e w1 ⟨rfl, hb1⟩
  have HB1 := Lib.hid (Kt.bthen HB0.out hb1)
  have hr := Kt.row_on hb1 HR0.out
  have hra := Kt.row_on hb1 HA0.out
  have q := fun i => cell_of_row _ _ i _ _ _ hr
  have q2 := fun i => cell_of_row _ _ i _ _ _ hra
  have qf := fun i => frozen_of_row _ _ i _ _ hr
  clear hb1 HCK HR0 HB0 HA0 hr hra
  go_wp2_with fail
  exact bodyPost_ret (v := .tuple #[.agg #[.int .i64 0, .slice none 0 0], .int .i64 0, .int .i64 11]) (by simp [q, qf, results, Try.results9, go_sem]) rfl ⟨HX.out _, two_set HB1.out _ _⟩
theorem step_dvd {a b al : Int} (h1 : al ∣ a) (h2 : al ∣ b) (h3 : a ≤ b) (h4 : b < a + al) : b = a := by
  have e1 := Int.emod_eq_of_lt (a := b - a) (b := al) (by omega) (by omega)
  have e2 := Int.emod_eq_zero_of_dvd (Int.dvd_sub h2 h1)
  omega
theorem quo_is {a : Int} (h : 0 ≤ a) (h2 : a ≤ 140000) : wrap64 (a.tdiv 4096) = a / 4096 := by
  rw [Int.tdiv_eq_ediv_of_nonneg h]
  unfold wrap64; omega
/-- what the search has seen -/
def Seen (size : Int) (l : List (Int × Int)) (z al a : Int) : Prop := 0 ≤ a ∧ a ≤ 70000 ∧ al ∣ a ∧ ∀ b, 0 ≤ b → b < a → b + z ≤ size → al ∣ b → ¬ fit l z b
theorem seen_next {size : Int} {l : List (Int × Int)} {z al a : Int} (h : Seen size l z al a) (hs : 1 ≤ size ∧ size ≤ 65536 ∧ 1 ≤ z ∧ z ≤ 4096 ∧ 1 ≤ al ∧ al ≤ 4096) (hx : a + z ≤ size) (hf : ¬ fit l z a) : Seen size l z al (wrap64 (a + al)) ∧ (size - wrap64 (a + al)).toNat < (size - a).toNat := by
  obtain ⟨h1, h2, h3, h4⟩ := h
  have e : wrap64 (a + al) = a + al := by unfold wrap64; omega
  rw [e]
  refine ⟨⟨by omega, by omega, Int.dvd_add h3 (Int.dvd_refl al), fun b b1 b2 b3 b4 => ?_⟩, by omega⟩
  by_cases hb : b < a
  · exact h4 b b1 hb b3 b4
  · rw [step_dvd h3 b4 (by omega) b2]; exact hf
set_option maxRecDepth 100000 in
set_option maxHeartbeats 3200000 in
theorem take_good (size : Int) (l : List (Int × Int)) (V : Value) (z al : Int) (w : World) (hv : Kt.Ar w V 2 l.length (spv l)) (hc : chk size l = 0) (ha : argsOk z al) (hn : l.length < 64) :
    Calls Try.prog 9 #[.agg #[.int .i64 size, V], .int .i64 z, .int .i64 al] w fun e w' => TakeIs w.heap.size size l z al e w' ∧ Below w.heap.size w w' := by
  obtain ⟨s1, s2, _, ho⟩ := chk_ok hc
  obtain ⟨A0, c0, rfl, _, _⟩ := hv.form
  have HB0 := Lib.hid (bx_bel w size A0 l.length c0)
  have HR0 := Lib.hid (bx_res w size A0 l.length c0)
  have HA0 := Lib.hid (bx_ar w size A0 l.length c0)
  have HCK := Lib.hid (check_calls size l _ _ (hv.on HB0.out) (by omega))
  have HX : Hid (∀ w', (∀ b, 0 ≤ b → b + z ≤ size → al ∣ b → ¬ fit l z b) → TakeIs w.heap.size size l z al (.returned (.tuple #[.agg #[.int .i64 0, .slice none 0 0], .int .i64 0, .int .i64 11])) w') := Lib.hid (fun w' h => .inl ⟨11, by decide, rfl, .inr ⟨hc, .inr ⟨ha, rfl, .inr ⟨hn, h⟩⟩⟩⟩)
  have HV := Lib.hid hv
  have HC := Lib.hid (And.intro hc (And.intro ha (And.intro hn ho)))
  obtain ⟨c1, c2, c3, c4, c5⟩ := ha
  have c6 : wrap64 (al - 1) = al - 1 := by unfold wrap64; omega
  have c7 : (bits BinOp.and IntKind.i64 al (al - 1) != 0) = false := by rw [c5]; rfl
  have c8 : ((l.length : Int) == 64) = false := by rw [beq_eq_false_iff_ne]; omega
  have HZ := Lib.hid (And.intro s1 (And.intro s2 (And.intro c1 (And.intro c2 (And.intro c3 c4)))))
  rw [hc] at HCK
  clear hv hc hn c5 ho
  go_enter Try.func9, Try.ntmps9
  go_wp2_with fail
  refine HCK.out.mono ?_
  rintro e w1 ⟨rfl, hb1⟩
  have HB1 := Lib.hid (Kt.bthen HB0.out hb1)
  have HR1 := Lib.hid (Kt.row_on hb1 HR0.out)
  have HA1 := Lib.hid (Kt.row_on hb1 HA0.out)
  have q2 := fun i => cell_of_row _ _ i _ _ _ HA1.out
  clear hb1 HCK HR0 HB0 HA0
  go_wp2_with fail
  clear q2 c6 c7 c8 c1 c2 c3 c4 s1 s2
  go_loopw [10] (fun i wr => ∃ (a : Int), i = .int .i64 a ∧ Hid (Seen size l z al a) ∧ Hid (Below w.heap.size w wr) ∧ Hid (wr.heap[w.heap.size + 1]? = some (.cells #[.int .i64 0, .slice none 0 0] 24 (0, 0))) ∧ Hid (wr.heap[w.heap.size]? = some (.cells #[.int .i64 size, .slice A0 l.length c0] 24 (0, 0)))) (fun i _ => (size - intOf i).toNat)
  case atStart => exact ⟨0, rfl, Lib.hid ⟨by decide, by decide, Int.dvd_zero al, fun b h1 h2 => absurd h2 (by omega)⟩, HB1, HR1, HA1⟩
  case round =>
    clear HB1 HR1 HA1
    obtain ⟨a, rfl, HI, HB2, HR2, HA2⟩ := hrel
    have q2 := fun i => cell_of_row _ _ i _ _ _ HA2.out
    have ew : wrap64 (a + z) = a + z := by have := HI.out; unfold Seen at this; have := HZ.out; unfold wrap64; omega
    by_cases hx : a + z ≤ size
    · have ew2 : wrap64 (a + z - 1) = a + z - 1 := by have := HI.out; unfold Seen at this; have := HZ.out; unfold wrap64; omega
      have HX2 := Lib.hid hx
      have HBa : Hid (Below wr.heap.size wr (wr.alloc (.cells #[.int .i64 a, .int .i64 z] 30))) := Lib.hid (Kt.balloc (Below.refl _ wr) _)
      have HB3 : Hid (Below w.heap.size w (wr.alloc (.cells #[.int .i64 a, .int .i64 z] 30))) := Lib.hid (Kt.balloc HB2.out _)
      have HN3 := Lib.hid (heap_alloc_new wr (.cells #[.int .i64 a, .int .i64 z] 30))
      have HR3 := Lib.hid (Kt.row_on HBa.out HR2.out)
      have HA3 := Lib.hid (Kt.row_on HBa.out HA2.out)
      have q3 := fun i => cell_of_row _ _ i _ _ _ HA3.out
      have q4 := fun i => cell_of_row _ _ i _ _ _ HN3.out
      have e1 : wrap64 (a.tdiv 4096) = a / 4096 := by have := HI.out; unfold Seen at this; exact quo_is this.1 (by omega)
      have e2 : wrap64 ((a + z - 1).tdiv 4096) = (a + z - 1) / 4096 := by have := HI.out; unfold Seen at this; have := HZ.out; exact quo_is (by omega) (by omega)
      have HF : Hid (¬ (a / 4096 = (a + z - 1) / 4096 ∧ Arn.free l a z) → ¬ fit l z a) := Lib.hid (fun h => h)
      have HG : Hid (a / 4096 = (a + z - 1) / 4096 → Arn.free l a z → fit l z a) := Lib.hid (fun h h2 => ⟨h, h2⟩)
      generalize a / 4096 = P at *
      generalize (a + z - 1) / 4096 = R at *
      by_cases hpg : P = R
      · subst hpg
        have HFR := Lib.hid (isfree_calls size l (.slice A0 l.length c0) a z _ (HV.out.on HB3.out) HZ.out.2.1 (Nat.le_of_lt HC.out.2.2.1) HC.out.2.2.2 HI.out.1 HZ.out.2.2.1 (by have := HZ.out; omega) hx)
        have HG2 : Hid (Arn.free l a z → fit l z a) := Lib.hid (HG.out rfl)
        have HF2 : Hid (¬ Arn.free l a z → ¬ fit l z a) := Lib.hid (fun h => HF.out (fun h2 => h h2.2))
        clear HB2 HBa HR2 HA2 HG HF
        go_wp2_with fail
        refine HFR.out.mono ?_
        rintro e w4 ⟨q, rfl, hq, hb4⟩
        have HB4 := Lib.hid (Kt.bthen HB3.out hb4)
        have HN4 := Lib.hid (Kt.row_on hb4 HN3.out)
        have HR4 := Lib.hid (Kt.row_on hb4 HR3.out)
        have HA4 := Lib.hid (Kt.row_on hb4 HA3.out)
        have HQ := Lib.hid hq
        clear hb4 HB3 HN3 HR3 HA3 HFR q2 q3 q4 hq
        cases q with
        | false =>
          have HS := Lib.hid (seen_next HI.out HZ.out hx (HF2.out (fun h => by have := HQ.out.2 h; cases this)))
          clear hx ew ew2 e1 e2
          go_wp2_with fail
          go_roundw
          case rel => exact ⟨_, rfl, Lib.hid HS.out.1, HB4, HR4, HA4⟩
          case measure => exact HS.out.2
        | true =>
          have HFIT := Lib.hid (HG2.out (HQ.out.1 rfl))
          have q2 := fun i => cell_of_row _ _ i _ _ _ HA4.out
          have HCL := Lib.hid (clones_calls (.slice A0 l.length c0) l.length (spv l) w4 (HV.out.on HB4.out) (spv_one l) (by have := HC.out.2.2.1; omega))
          clear hx ew ew2 e1 e2
          go_wp2_with fail
          refine HCL.out.mono ?_
          rintro e w5 ⟨A5, c5, rfl, hs5, hb5⟩
          have HB5 := Lib.hid (Kt.bthen HB4.out hb5)
          have HN5 := Lib.hid (Kt.row_on hb5 HN4.out)
          have HR5 := Lib.hid (Kt.row_on hb5 HR4.out)
          have HA5 := Lib.hid (Kt.row_on hb5 HA4.out)
          have HS5 := Lib.hid hs5
          have HLR := Lib.hid (Array.getElem?_eq_some_iff.1 HR4.out).1
          have HLN := Lib.hid (Array.getElem?_eq_some_iff.1 HN4.out).1
          have HLA := Lib.hid (Array.getElem?_eq_some_iff.1 HA4.out).1
          have HZ5 := Lib.hid hb5.size
          clear hb5 hs5 HB4 HN4 HR4 HA4 HCL q2
          go_wp2_with fail
          clear HG2 HF2 HQ
          generalize w4.heap.size = B4 at *
          generalize wr.heap.size = nb at *
          go_loopw [13] (fun i wr2 => ∃ k : Nat, i = .int .i64 k ∧ Hid (k ≤ l.length ∧ ∀ j (h : j < l.length), j < k → (l[j]'h).1 < a) ∧ w5 = wr2) (fun i _ => l.length - (intOf i).toNat)
          case atStart => exact ⟨0, rfl, Lib.hid ⟨Nat.zero_le _, fun j h hj => absurd hj (by omega)⟩, rfl⟩
          case round =>
            obtain ⟨k, rfl, HI2, rfl⟩ := hrel
            have hk := HI2.out.1
            by_cases hlt : k < l.length
            · obtain ⟨b, o, c, hve, hb0, x0, x1⟩ := Kt.Ar.span (w' := w5) (Kt.Ar.of_sl HS5.out) k hlt
              cases hve
              have HKL := Lib.hid hlt
              have HT : Hid (∀ v, (l[k]'hlt).1 = v → ∃ h : k < l.length, (l[k]'h).1 = v) := Lib.hid (fun v e => ⟨hlt, e⟩)
              have ek : (k : Int) < l.length := by omega
              have ek0 : (0 : Int) ≤ k := by omega
              obtain ⟨v, hv⟩ : ∃ v, (l[k]'hlt).1 = v := ⟨_, rfl⟩
              have HV2 := Lib.hid hv
              rw [hv] at x0
              clear hv x1 hk
              by_cases hva : v < a
              · have HVA := Lib.hid hva
                go_wp2_with fail
                have hk := HKL.out
                have hn := HC.out.2.2.1
                go_roundw
                case rel => exact ⟨k + 1, by simp, Lib.hid ⟨hk, fun j h hj => by
                  by_cases e : j = k
                  · subst e; obtain ⟨_, e2⟩ := HT.out _ HV2.out; rw [e2]; exact HVA.out
                  · exact HI2.out.2 j h (by omega)⟩, trivial⟩
                case measure => simp [intOf]; omega
              · have HK : Hid (k ≤ l.length ∧ pos l a = k) := Lib.hid ⟨HI2.out.1, pos_of l a k HI2.out.1 HI2.out.2 (fun h => by obtain ⟨_, e2⟩ := HT.out _ HV2.out; rw [e2]; exact hva)⟩
                go_upto_region 17 with (fail)
                clear x0 ek ek0 hva hb0
                have HAd : Hid (w5.drew.heap[w.heap.size]? = _) := HA5
                have HRd : Hid (w5.drew.heap[w.heap.size + 1]? = _) := HR5
                have HNd : Hid (w5.drew.heap[nb]? = _) := HN5
                have HSd : Hid (Kt.Sl w5.drew B4 30 2 _ _ _) := HS5
                have HBW : Hid (B4 ≤ w5.drew.heap.size) := HZ5
                have HBd := Lib.hid HB5.out.drew
                refine Kt.G.start 9 (fun X => Below B4 w5.drew X) (by kernel_rfl) (Below.refl _ _) (fun hHeld => ?_)
                clear HA5 HR5 HN5 HS5 HZ5 HB5
                generalize w5.drew = W at *
                have HA := HAd
                have HR := HRd
                have HN := HNd
                have HS := HSd
                have HB := HBd
                clear HAd HRd HNd HSd HBd
                refine Kt.G.takeP 0 { dst := some 93, op := Op.fieldAddr 24 (Operand.tmp 3) 0, type := 0, pos := "arena.go:62", after := #[], guard := none } ?_ (fun _ => hHeld) rfl (by kernel_rfl) (fun _ _ _ h => h) (by rfl) ?_ ?_
                rotate_left
                · intro w; go_simp; try with_reducible rfl
                try simp only [Act.put, List.setIfInBounds_toArray, List.set_cons_zero, List.set_cons_succ]
                refine Kt.G.take 1 { dst := some 94, op := Op.load 3 (Operand.tmp 93), type := 3, pos := "arena.go:62", after := #[{ on := 0, ground := Ground.data }], guard := none } ?_ hHeld rfl (by kernel_rfl) (fun _ _ _ h => h) (by rfl) ?_ ?_
                rotate_left
                · intro w hSw; have q := fun i => cell_of_row _ _ i _ _ _ ((hSw.block _ HLA.out).trans HA.out); go_simp; try with_reducible rfl
                try simp only [Act.put, List.setIfInBounds_toArray, List.set_cons_zero, List.set_cons_succ]
                refine Kt.G.takeP 2 { dst := some 95, op := Op.move (Operand.tmp 12), type := 22, pos := "arena.go:62", after := #[], guard := none } ?_ (fun _ => hHeld) rfl (by kernel_rfl) (fun _ _ _ h => h) (by rfl) ?_ ?_
                rotate_left
                · intro w; go_simp; try with_reducible rfl
                try simp only [Act.put, List.setIfInBounds_toArray, List.set_cons_zero, List.set_cons_succ]
                refine Kt.G.takeP 3 { dst := some 96, op := Op.move (Operand.tmp 13), type := 3, pos := "arena.go:62", after := #[], guard := none } ?_ (fun _ => hHeld) rfl (by kernel_rfl) (fun _ _ _ h => h) (by rfl) ?_ ?_
                rotate_left
                · intro w; go_simp; try with_reducible rfl
                try simp only [Act.put, List.setIfInBounds_toArray, List.set_cons_zero, List.set_cons_succ]
                refine Kt.G.take 4 { dst := some 97, op := Op.load 30 (Operand.tmp 11), type := 30, pos := "arena.go:62", after := #[], guard := none } ?_ hHeld rfl (by kernel_rfl) (fun _ _ _ h => h) (by rfl) ?_ ?_
                rotate_left
                · intro w hSw; have q := fun i => cell_of_row _ _ i _ _ _ ((hSw.block _ HLN.out).trans HN.out); go_simp; try with_reducible rfl
                try simp only [Act.put, List.setIfInBounds_toArray, List.set_cons_zero, List.set_cons_succ]
                refine Kt.G.takeP 8 { dst := some 101, op := Op.move (Operand.tmp 10), type := 3, pos := "arena.go:62", after := #[{ on := 9, ground := Ground.gcOnly Departure.lateStores }], guard := none } ?_ (fun _ => hHeld) rfl (by kernel_rfl) (fun _ _ _ h => h) (by rfl) ?_ ?_
                rotate_left
                · intro w; go_simp; try with_reducible rfl
                try simp only [Act.put, List.setIfInBounds_toArray, List.set_cons_zero, List.set_cons_succ]
                refine Kt.G.one 5 { dst := some 98, op := Op.buildSlice 22 1 #[(0, Operand.tmp 97)], type := 22, pos := "arena.go:62", after := #[{ on := 4, ground := Ground.data }], guard := none } rfl (by kernel_rfl) (by rfl) (fun K hK => ?_)
                go_simp
                refine hK.out _ _ (fun _ => hHeld.alloc HBW.out _) (fun hHeld => ?_)
                have hHeld := hHeld rfl
                clear hK K
                try simp only [Act.put, List.setIfInBounds_toArray, List.set_cons_zero, List.set_cons_succ]
                have hs6 := HS.out.keep (fun k hk => Below.heap_alloc W (.cells #[.int .i64 a, .int .i64 z] 30) k (HS.out.lt k hk).2)
                refine Kt.G.one 6 { dst := some 99, op := Op.call { callee := Callee.value (Operand.func 21), args := #[Operand.tmp 95, Operand.tmp 96, Operand.tmp 98], argTypes := #[22, 3, 22] }, type := 22, pos := "arena.go:62", after := #[{ on := 2, ground := Ground.data }, { on := 3, ground := Ground.data }, { on := 5, ground := Ground.data }], guard := none } rfl (by kernel_rfl) (by rfl) (fun K hK => ?_)
                go_simp
                refine (insert_calls B4 _ c5 l k (a, z) W.heap.size 1 _ (Nat.le_trans HBW.out hHeld.size) hs6 (Nat.le_of_lt HC.out.2.2.1) HK.out.1 (heap_alloc_new W _) (Nat.le_refl 1) (fun k hk e => Nat.lt_irrefl _ (e ▸ (HS.out.lt k hk).2))).mono ?_
                rintro en x2 ⟨A6, c6, rfl, hs7, hb7⟩
                refine hK.out _ _ (fun _ => hHeld.trans hb7) (fun hHeld => ?_)
                have hHeld := hHeld rfl
                clear hK K
                try simp only [Act.put, List.setIfInBounds_toArray, List.set_cons_zero, List.set_cons_succ]
                have HR2 := (hHeld.block _ HLR.out).trans HR.out
                have q9 := fun i => cell_of_row _ _ i _ _ _ HR2
                have qf9 := fun i => frozen_of_row _ _ i _ _ HR2
                refine Kt.G.takeP 7 { dst := some 100, op := Op.build 24 #[(0, Operand.tmp 94), (1, Operand.tmp 99)], type := 24, pos := "arena.go:62", after := #[{ on := 1, ground := Ground.data }, { on := 6, ground := Ground.data }], guard := none } ?_ (fun _ => hHeld) rfl (by kernel_rfl) (fun _ _ _ h => h) (by rfl) ?_ ?_
                rotate_left
                · intro w; go_simp; try with_reducible rfl
                try simp only [Act.put, List.setIfInBounds_toArray, List.set_cons_zero, List.set_cons_succ]
                refine Kt.G.one 9 { dst := none, op := Op.store 24 (Operand.tmp 6) (Operand.tmp 100), type := 0, pos := "arena.go:62", after := #[{ on := 7, ground := Ground.data }, { on := 6, ground := Ground.chain }, { on := 0, ground := Ground.phase }, { on := 1, ground := Ground.phase }, { on := 2, ground := Ground.phase }, { on := 3, ground := Ground.phase }, { on := 4, ground := Ground.phase }, { on := 5, ground := Ground.phase }, { on := 6, ground := Ground.phase }, { on := 7, ground := Ground.phase }, { on := 8, ground := Ground.textOnly Departure.lateStores }], guard := none } rfl (by kernel_rfl) (by rfl) (fun K hK => ?_)
                go_simp
                refine hK.out _ _ (Kt.G.late (by kernel_rfl)) (fun _ => ?_)
                clear hK K
                try simp only [Act.put, List.setIfInBounds_toArray, List.set_cons_zero, List.set_cons_succ]
                refine Kt.G.takeP 10 { dst := some 7, op := Op.assign (Operand.tmp 101), type := 3, pos := "arena.go:62", after := #[{ on := 8, ground := Ground.data }, { on := 9, ground := Ground.chain }, { on := 0, ground := Ground.phase }, { on := 1, ground := Ground.phase }, { on := 2, ground := Ground.phase }, { on := 3, ground := Ground.phase }, { on := 4, ground := Ground.phase }, { on := 5, ground := Ground.phase }, { on := 6, ground := Ground.phase }, { on := 7, ground := Ground.phase }, { on := 8, ground := Ground.phase }, { on := 9, ground := Ground.phase }], guard := none } ?_ (Kt.G.late (by kernel_rfl)) rfl (by kernel_rfl) (fun _ _ _ h => h) (by rfl) ?_ ?_
                rotate_left
                · intro w; go_simp; try with_reducible rfl
                try simp only [Act.put, List.setIfInBounds_toArray, List.set_cons_zero, List.set_cons_succ]
                refine Kt.G.takeP 11 { dst := some 8, op := Op.assign (Operand.const (Value.int IntKind.i64 0)), type := 25, pos := "arena.go:62", after := #[{ on := 10, ground := Ground.chain }, { on := 0, ground := Ground.phase }, { on := 1, ground := Ground.phase }, { on := 2, ground := Ground.phase }, { on := 3, ground := Ground.phase }, { on := 4, ground := Ground.phase }, { on := 5, ground := Ground.phase }, { on := 6, ground := Ground.phase }, { on := 7, ground := Ground.phase }, { on := 8, ground := Ground.phase }, { on := 9, ground := Ground.phase }, { on := 10, ground := Ground.phase }], guard := none } ?_ (Kt.G.late (by kernel_rfl)) rfl (by kernel_rfl) (fun _ _ _ h => h) (by rfl) ?_ ?_
                rotate_left
                · intro w; go_simp; try with_reducible rfl
                try simp only [Act.put, List.setIfInBounds_toArray, List.set_cons_zero, List.set_cons_succ]
                refine Kt.G.done (by kernel_rfl) (NoPanic.normal ?_) _
                have HSF := Lib.hid (((hs7.low (p := ⟨w.heap.size + 1, 0, none⟩) HLR.out (.int .i64 size)).low (p := ⟨w.heap.size + 1, 1, none⟩) HLR.out (.slice A6 (l.length + 1) c6)).mono (Nat.le_of_lt (Nat.lt_of_succ_lt HLR.out)))
                have HBF := Lib.hid (two_set (HB.out.trans (hHeld.mono (Nat.le_of_lt (Nat.lt_of_succ_lt HLR.out)))) (.int .i64 size) (.slice A6 (l.length + 1) c6))
                have HFIN := Lib.hid (And.intro HI.out.1 (And.intro HI.out.2.2.1 (And.intro HX2.out (And.intro HFIT.out (fun b (h1 : 0 ≤ b) (h2 : b < a) (h3 : al ∣ b) => HI.out.2.2.2 b h1 h2 (by have := HX2.out; omega) h3)))))
                clear hs6 hs7 hb7 hHeld HR2
                go_wp2_with fail
                refine bodyPost_ret (v := .tuple #[.agg #[.int .i64 size, .slice A6 (l.length + 1) c6], .int .i64 a, .int .i64 0]) (by simp [q9, qf9, results, Try.results9, go_sem]) rfl ⟨.inr ⟨HC.out.1, HC.out.2.1, HC.out.2.2.1, a, A6, c6, HFIN.out.1, HFIN.out.2.1, HFIN.out.2.2.1, HFIN.out.2.2.2.1, HFIN.out.2.2.2.2, rfl, ?_⟩, HBF.out⟩
                rw [ins_eq, HK.out.2]
                exact HSF.out
            · have HK : Hid (k ≤ l.length ∧ pos l a = k) := Lib.hid ⟨HI2.out.1, pos_of l a k HI2.out.1 HI2.out.2 (fun h => absurd h hlt)⟩
              have ek : ¬ (k : Int) < l.length := by omega
              go_upto_region 17 with (fail)
              clear ek
              have HAd : Hid (w5.drew.heap[w.heap.size]? = _) := HA5
              have HRd : Hid (w5.drew.heap[w.heap.size + 1]? = _) := HR5
              have HNd : Hid (w5.drew.heap[nb]? = _) := HN5
              have HSd : Hid (Kt.Sl w5.drew B4 30 2 _ _ _) := HS5
              have HBW : Hid (B4 ≤ w5.drew.heap.size) := HZ5
              have HBd := Lib.hid HB5.out.drew
              refine Kt.G.start 9 (fun X => Below B4 w5.drew X) (by kernel_rfl) (Below.refl _ _) (fun hHeld => ?_)
              clear HA5 HR5 HN5 HS5 HZ5 HB5
              generalize w5.drew = W at *
              have HA := HAd
              have HR := HRd
              have HN := HNd
              have HS := HSd
              have HB := HBd
              clear HAd HRd HNd HSd HBd
              refine Kt.G.takeP 0 { dst := some 93, op := Op.fieldAddr 24 (Operand.tmp 3) 0, type := 0, pos := "arena.go:62", after := #[], guard := none } ?_ (fun _ => hHeld) rfl (by kernel_rfl) (fun _ _ _ h => h) (by rfl) ?_ ?_
              rotate_left
              · intro w; go_simp; try with_reducible rfl
              try simp only [Act.put, List.setIfInBounds_toArray, List.set_cons_zero, List.set_cons_succ]
              refine Kt.G.take 1 { dst := some 94, op := Op.load 3 (Operand.tmp 93), type := 3, pos := "arena.go:62", after := #[{ on := 0, ground := Ground.data }], guard := none } ?_ hHeld rfl (by kernel_rfl) (fun _ _ _ h => h) (by rfl) ?_ ?_
              rotate_left
              · intro w hSw; have q := fun i => cell_of_row _ _ i _ _ _ ((hSw.block _ HLA.out).trans HA.out); go_simp; try with_reducible rfl
              try simp only [Act.put, List.setIfInBounds_toArray, List.set_cons_zero, List.set_cons_succ]
              refine Kt.G.takeP 2 { dst := some 95, op := Op.move (Operand.tmp 12), type := 22, pos := "arena.go:62", after := #[], guard := none } ?_ (fun _ => hHeld) rfl (by kernel_rfl) (fun _ _ _ h => h) (by rfl) ?_ ?_
              rotate_left
              · intro w; go_simp; try with_reducible rfl
              try simp only [Act.put, List.setIfInBounds_toArray, List.set_cons_zero, List.set_cons_succ]
              refine Kt.G.takeP 3 { dst := some 96, op := Op.move (Operand.tmp 13), type := 3, pos := "arena.go:62", after := #[], guard := none } ?_ (fun _ => hHeld) rfl (by kernel_rfl) (fun _ _ _ h => h) (by rfl) ?_ ?_
              rotate_left
              · intro w; go_simp; try with_reducible rfl
              try simp only [Act.put, List.setIfInBounds_toArray, List.set_cons_zero, List.set_cons_succ]
              refine Kt.G.take 4 { dst := some 97, op := Op.load 30 (Operand.tmp 11), type := 30, pos := "arena.go:62", after := #[], guard := none } ?_ hHeld rfl (by kernel_rfl) (fun _ _ _ h => h) (by rfl) ?_ ?_
              rotate_left
              · intro w hSw; have q := fun i => cell_of_row _ _ i _ _ _ ((hSw.block _ HLN.out).trans HN.out); go_simp; try with_reducible rfl
              try simp only [Act.put, List.setIfInBounds_toArray, List.set_cons_zero, List.set_cons_succ]
              refine Kt.G.takeP 8 { dst := some 101, op := Op.move (Operand.tmp 10), type := 3, pos := "arena.go:62", after := #[{ on := 9, ground := Ground.gcOnly Departure.lateStores }], guard := none } ?_ (fun _ => hHeld) rfl (by kernel_rfl) (fun _ _ _ h => h) (by rfl) ?_ ?_
              rotate_left
              · intro w; go_simp; try with_reducible rfl
              try simp only [Act.put, List.setIfInBounds_toArray, List.set_cons_zero, List.set_cons_succ]
              refine Kt.G.one 5 { dst := some 98, op := Op.buildSlice 22 1 #[(0, Operand.tmp 97)], type := 22, pos := "arena.go:62", after := #[{ on := 4, ground := Ground.data }], guard := none } rfl (by kernel_rfl) (by rfl) (fun K hK => ?_)
              go_simp
              refine hK.out _ _ (fun _ => hHeld.alloc HBW.out _) (fun hHeld => ?_)
              have hHeld := hHeld rfl
              clear hK K
              try simp only [Act.put, List.setIfInBounds_toArray, List.set_cons_zero, List.set_cons_succ]
              have hs6 := HS.out.keep (fun k hk => Below.heap_alloc W (.cells #[.int .i64 a, .int .i64 z] 30) k (HS.out.lt k hk).2)
              refine Kt.G.one 6 { dst := some 99, op := Op.call { callee := Callee.value (Operand.func 21), args := #[Operand.tmp 95, Operand.tmp 96, Operand.tmp 98], argTypes := #[22, 3, 22] }, type := 22, pos := "arena.go:62", after := #[{ on := 2, ground := Ground.data }, { on := 3, ground := Ground.data }, { on := 5, ground := Ground.data }], guard := none } rfl (by kernel_rfl) (by rfl) (fun K hK => ?_)
              go_simp
              refine (insert_calls B4 _ c5 l k (a, z) W.heap.size 1 _ (Nat.le_trans HBW.out hHeld.size) hs6 (Nat.le_of_lt HC.out.2.2.1) HK.out.1 (heap_alloc_new W _) (Nat.le_refl 1) (fun k hk e => Nat.lt_irrefl _ (e ▸ (HS.out.lt k hk).2))).mono ?_
              rintro en x2 ⟨A6, c6, rfl, hs7, hb7⟩
              refine hK.out _ _ (fun _ => hHeld.trans hb7) (fun hHeld => ?_)
              have hHeld := hHeld rfl
              clear hK K
              try simp only [Act.put, List.setIfInBounds_toArray, List.set_cons_zero, List.set_cons_succ]
              have HR2 := (hHeld.block _ HLR.out).trans HR.out
              have q9 := fun i => cell_of_row _ _ i _ _ _ HR2
              have qf9 := fun i => frozen_of_row _ _ i _ _ HR2
              refine Kt.G.takeP 7 { dst := some 100, op := Op.build 24 #[(0, Operand.tmp 94), (1, Operand.tmp 99)], type := 24, pos := "arena.go:62", after := #[{ on := 1, ground := Ground.data }, { on := 6, ground := Ground.data }], guard := none } ?_ (fun _ => hHeld) rfl (by kernel_rfl) (fun _ _ _ h => h) (by rfl) ?_ ?_
              rotate_left
              · intro w; go_simp; try with_reducible rfl
              try simp only [Act.put, List.setIfInBounds_toArray, List.set_cons_zero, List.set_cons_succ]
              refine Kt.G.one 9 { dst := none, op := Op.store 24 (Operand.tmp 6) (Operand.tmp 100), type := 0, pos := "arena.go:62", after := #[{ on := 7, ground := Ground.data }, { on := 6, ground := Ground.chain }, { on := 0, ground := Ground.phase }, { on := 1, ground := Ground.phase }, { on := 2, ground := Ground.phase }, { on := 3, ground := Ground.phase }, { on := 4, ground := Ground.phase }, { on := 5, ground := Ground.phase }, { on := 6, ground := Ground.phase }, { on := 7, ground := Ground.phase }, { on := 8, ground := Ground.textOnly Departure.lateStores }], guard := none } rfl (by kernel_rfl) (by rfl) (fun K hK => ?_)
              go_simp
              refine hK.out _ _ (Kt.G.late (by kernel_rfl)) (fun _ => ?_)
              clear hK K
              try simp only [Act.put, List.setIfInBounds_toArray, List.set_cons_zero, List.set_cons_succ]
              refine Kt.G.takeP 10 { dst := some 7, op := Op.assign (Operand.tmp 101), type := 3, pos := "arena.go:62", after := #[{ on := 8, ground := Ground.data }, { on := 9, ground := Ground.chain }, { on := 0, ground := Ground.phase }, { on := 1, ground := Ground.phase }, { on := 2, ground := Ground.phase }, { on := 3, ground := Ground.phase }, { on := 4, ground := Ground.phase }, { on := 5, ground := Ground.phase }, { on := 6, ground := Ground.phase }, { on := 7, ground := Ground.phase }, { on := 8, ground := Ground.phase }, { on := 9, ground := Ground.phase }], guard := none } ?_ (Kt.G.late (by kernel_rfl)) rfl (by kernel_rfl) (fun _ _ _ h => h) (by rfl) ?_ ?_
              rotate_left
              · intro w; go_simp; try with_reducible rfl
              try simp only [Act.put, List.setIfInBounds_toArray, List.set_cons_zero, List.set_cons_succ]
              refine Kt.G.takeP 11 { dst := some 8, op := Op.assign (Operand.const (Value.int IntKind.i64 0)), type := 25, pos := "arena.go:62", after := #[{ on := 10, ground := Ground.chain }, { on := 0, ground := Ground.phase }, { on := 1, ground := Ground.phase }, { on := 2, ground := Ground.phase }, { on := 3, ground := Ground.phase }, { on := 4, ground := Ground.phase }, { on := 5, ground := Ground.phase }, { on := 6, ground := Ground.phase }, { on := 7, ground := Ground.phase }, { on := 8, ground := Ground.phase }, { on := 9, ground := Ground.phase }, { on := 10, ground := Ground.phase }], guard := none } ?_ (Kt.G.late (by kernel_rfl)) rfl (by kernel_rfl) (fun _ _ _ h => h) (by rfl) ?_ ?_
              rotate_left
              · intro w; go_simp; try with_reducible rfl
              try simp only [Act.put, List.setIfInBounds_toArray, List.set_cons_zero, List.set_cons_succ]
              refine Kt.G.done (by kernel_rfl) (NoPanic.normal ?_) _
              have HSF := Lib.hid (((hs7.low (p := ⟨w.heap.size + 1, 0, none⟩) HLR.out (.int .i64 size)).low (p := ⟨w.heap.size + 1, 1, none⟩) HLR.out (.slice A6 (l.length + 1) c6)).mono (Nat.le_of_lt (Nat.lt_of_succ_lt HLR.out)))
              have HBF := Lib.hid (two_set (HB.out.trans (hHeld.mono (Nat.le_of_lt (Nat.lt_of_succ_lt HLR.out)))) (.int .i64 size) (.slice A6 (l.length + 1) c6))
              have HFIN := Lib.hid (And.intro HI.out.1 (And.intro HI.out.2.2.1 (And.intro HX2.out (And.intro HFIT.out (fun b (h1 : 0 ≤ b) (h2 : b < a) (h3 : al ∣ b) => HI.out.2.2.2 b h1 h2 (by have := HX2.out; omega) h3)))))
              clear hs6 hs7 hb7 hHeld HR2
              go_wp2_with fail
              refine bodyPost_ret (v := .tuple #[.agg #[.int .i64 size, .slice A6 (l.length + 1) c6], .int .i64 a, .int .i64 0]) (by simp [q9, qf9, results, Try.results9, go_sem]) rfl ⟨.inr ⟨HC.out.1, HC.out.2.1, HC.out.2.2.1, a, A6, c6, HFIN.out.1, HFIN.out.2.1, HFIN.out.2.2.1, HFIN.out.2.2.2.1, HFIN.out.2.2.2.2, rfl, ?_⟩, HBF.out⟩
              rw [ins_eq, HK.out.2]
              exact HSF.out
      · have HS := Lib.hid (seen_next HI.out HZ.out hx (HF.out (fun h => hpg h.1)))
        clear HBa HB2 HR2 HA2
        go_wp2_with fail
        go_roundw
        case rel => exact ⟨_, rfl, Lib.hid HS.out.1, HB3, HR3, HA3⟩
        case measure => exact HS.out.2
    · have HE := Lib.hid (fun w' => HX.out w' (fun b h1 h2 h3 => HI.out.2.2.2 b h1 (by omega) h2 h3))
      have q := fun i => cell_of_row _ _ i _ _ _ HR2.out
      have qf := fun i => frozen_of_row _ _ i _ _ HR2.out
      go_wp2_with fail
      exact bodyPost_ret (v := .tuple #[.agg #[.int .i64 0, .slice none 0 0], .int .i64 0, .int .i64 11]) (by simp [q, qf, results, Try.results9, go_sem]) rfl ⟨HE.out _, two_set HB2.out _ _⟩
theorem take_calls (size : Int) (l : List (Int × Int)) (V : Value) (z al : Int) (w : World) (hv : Kt.Ar w V 2 l.length (spv l)) (hm : l.length ≤ 140737488355328) :
    Calls Try.prog 9 #[.agg #[.int .i64 size, V], .int .i64 z, .int .i64 al] w fun e w' => TakeIs w.heap.size size l z al e w' ∧ Below w.heap.size w w' := by
  by_cases hc : chk size l = 0
  · by_cases ha : argsOk z al
    · obtain ⟨_, _, hl, _⟩ := chk_ok hc
      by_cases hn : l.length = 64
      · exact take_full size l V z al w hv hc ha hn
      · exact take_good size l V z al w hv hc ha (by omega)
    · refine take_bad2 size l V z al w hv hc ?_
      unfold argsOk at ha
      by_cases h1 : z < 1
      · exact .inl h1
      by_cases h2 : 4096 < z
      · exact .inr (.inl ⟨by omega, h2⟩)
      by_cases h3 : al < 1
      · exact .inr (.inr (.inl ⟨by omega, by omega, h3⟩))
      by_cases h4 : 4096 < al
      · exact .inr (.inr (.inr (.inl ⟨by omega, by omega, by omega, h4⟩)))
      refine .inr (.inr (.inr (.inr ⟨by omega, by omega, by omega, by omega, ?_, by unfold wrap64; omega⟩)))
      rw [bne_iff_ne]
      exact fun h => ha ⟨by omega, by omega, by omega, by omega, h⟩
  · exact take_bad1 size l V z al w hv hm hc
end Go.Proofs.Ytdckakjfplhanaa
