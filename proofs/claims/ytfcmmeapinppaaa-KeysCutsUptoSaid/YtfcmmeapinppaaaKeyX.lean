/- KeysCuts walked. -/
import Derived.Test.YtfcmmeapinppaaaKeyU
namespace Go.Proofs.Ytfcmmeapinppaaa
open Go.RowKit
abbrev Hd.cs (h : Hd) : Array Value := #[.int .u64 (h.a.toNat : Int), .int .u64 (h.b.toNat : Int), .int .u64 (h.c.toNat : Int), .int .u64 (h.d.toNat : Int)]
set_option maxRecDepth 100000 in
set_option maxHeartbeats 1600000 in
theorem cuts_calls (h : Hd) (xa xb : List ByteArray) (VA VB : Value) (w : World) (ha : Kt.Ar w VA 1 xa.length (sts xa)) (hb : Kt.Ar w VB 1 xb.length (sts xb)) (hma : xa.length ≤ 1048576) (hmb : xb.length ≤ 1048576) :
    Calls Try.prog 7 #[h.v, VA, VB] w fun e w' => e = .returned (.bool true) ∧ Below w.heap.size w w' := by
  obtain ⟨Aa, ca, rfl, _, _⟩ := ha.form
  obtain ⟨Ab, cb, rfl, _, _⟩ := hb.form
  have HA := Lib.hid ha
  have HB := Lib.hid hb
  have HM := Lib.hid (And.intro hma hmb)
  clear ha hb hma hmb
  unfold Hd.v
  go_enter Try.func7, Try.ntmps7
  unfold Hd.vs
  go_upto_region 1 with (fail)
  have HH0 := Lib.hid (heap_alloc_new w (.cells h.cs 27))
  have HB0 := Lib.hid (Kt.balloc (Below.refl _ w) (.cells h.cs 27))
  have q0 := fun i => cell_of_row _ _ i _ _ _ HH0.out
  generalize w.alloc (.cells h.cs 27) = w0 at *
  obtain ⟨⟨X, l, n⟩, hF1⟩ : ∃ r, feedR h xa = r := ⟨_, rfl⟩
  obtain ⟨⟨Y, m, k⟩, hF2⟩ : ∃ r, feedR X xb = r := ⟨_, rfl⟩
  have hF3 := feedR_app xa xb h
  rw [hF1] at hF3
  dsimp only at hF3
  rw [hF2] at hF3
  dsimp only at hF3
  have hF4 := feedR_some (xa ++ xb) h
  rw [hF3] at hF4
  dsimp only at hF4
  have HF1 := Lib.hid (feed_calls h xa _ w0 (HA.out.on HB0.out) (by have := HM.out; omega))
  have HF2 := Lib.hid (fun V W hV => feed_calls X xb V W hV (by have := HM.out; omega))
  have HF3 := Lib.hid (fun V W hV => feed_calls h (xa ++ xb) V W hV (by have := HM.out; rw [List.length_append]; omega))
  have HF4 := Lib.hid (fun V W hV => feed_calls h ((xa ++ xb).filter goodS) V W hV (by have := HM.out; have := List.length_filter_le goodS (xa ++ xb); rw [List.length_append] at this; omega))
  rw [hF1] at HF1
  rw [hF2] at HF2
  rw [hF3, List.length_append] at HF3
  rw [hF4] at HF4
  clear hF1 hF2 hF3 hF4
  simp only [Hd.v, Hd.vs] at HF1 HF2 HF3 HF4
  go_wp2_with fail
  refine HF1.out.mono ?_
  rintro e w1 ⟨U1, rfl, hs1, hl1, hn1, hb1⟩
  obtain ⟨A1, c1, rfl, _⟩ := hs1.form
  have HH1 := Lib.hid (Kt.row_on hb1 HH0.out)
  have HB1 := Lib.hid (Kt.bthen HB0.out hb1)
  have HL1 := Lib.hid (Kt.Ar.of_sl hs1)
  have HN1 := Lib.hid (And.intro hl1 hn1)
  clear hs1 hl1 hn1 hb1 HF1 HH0 HB0 q0
  go_upto_region 2 with (fail)
  have HH2 := Lib.hid (Kt.row_on (Kt.balloc (Below.refl _ w1) (.cells X.cs 27)) HH1.out)
  have HX2 := Lib.hid (heap_alloc_new w1 (.cells X.cs 27))
  have HB2 := Lib.hid (Kt.balloc HB1.out (.cells X.cs 27))
  have HL2 := Lib.hid (HL1.out.on (Kt.balloc (Below.refl _ w1) (.cells X.cs 27)))
  have q2 := fun i => cell_of_row _ _ i _ _ _ HX2.out
  clear HH1 HB1 HL1
  generalize w1.heap.size = BX at *
  generalize w1.alloc (.cells X.cs 27) = w2 at *
  have HC2 := Lib.hid (HF2.out _ _ (HB.out.on HB2.out))
  clear HF2
  go_wp2_with fail
  refine HC2.out.mono ?_
  rintro e w3 ⟨U2, rfl, hs2, hl2, hn2, hb2⟩
  obtain ⟨A2, c2, rfl, _⟩ := hs2.form
  have HH3 := Lib.hid (Kt.row_on hb2 HH2.out)
  have HB3 := Lib.hid (Kt.bthen HB2.out hb2)
  have HL3 := Lib.hid (HL2.out.on hb2)
  have HK3 := Lib.hid (Kt.Ar.of_sl hs2)
  have HN2 := Lib.hid (And.intro hl2 hn2)
  clear hs2 hl2 hn2 hb2 HC2 HH2 HX2 HB2 HL2 q2
  go_upto_region 3 with (fail)
  have HBY := Lib.hid (Kt.balloc (Below.refl _ w3) (.cells Y.cs 27))
  have HH4 := Lib.hid (Kt.row_on HBY.out HH3.out)
  have HY4 := Lib.hid (heap_alloc_new w3 (.cells Y.cs 27))
  have HB4 := Lib.hid (Kt.balloc HB3.out (.cells Y.cs 27))
  have HL4 := Lib.hid (HL3.out.on HBY.out)
  have HK4 := Lib.hid (HK3.out.on HBY.out)
  clear HBY HH3 HB3 HL3 HK3
  generalize w3.heap.size = BY at *
  generalize w3.alloc (.cells Y.cs 27) = w4 at *
  go_cut [13, 14, 15] from 34 to 43 (fun s13 s14 s15 wx => ∃ K A3 c3, s13 = .pointer (some ⟨K, 0, none⟩) ∧ s14 = .slice A3 (l.length + m.length) c3 ∧ s15 = .int .i64 ((n + k : Nat) : Int) ∧ wx.heap[K]? = some (.cells Y.cs 27 (0, 0)) ∧ Kt.Ar wx (.slice A3 (l.length + m.length) c3) 2 (l.length + m.length) (kv (l ++ m)) ∧ Below w4.heap.size w4 wx)
  case first =>
    have hz0 : ∀ W : World, Below w4.heap.size w4 W → w4.heap.size ≤ W.heap.size := fun W h => h.size
    refine Kt.G.start 11 (fun W => Below w4.heap.size w4 W) (by kernel_rfl) ((Below.refl _ w4).drew) (fun hHeld => ?_)
    generalize w4.drew = x0 at *
    refine Kt.G.take 0 { dst := some 35, op := Op.load 27 (Operand.tmp 3), type := 27, pos := "keys.go:92", after := #[], guard := none } ?_ hHeld rfl (by kernel_rfl) (fun _ _ _ h => h) (by rfl) ?_ ?_
    rotate_left
    · intro w hSw; have q := fun i => cell_of_row _ _ i _ _ _ (Kt.row_on hSw HH4.out); go_simp; try with_reducible rfl
    try simp only [Act.put, List.setIfInBounds_toArray, List.set_cons_zero, List.set_cons_succ]
    refine Kt.G.takeP 1 { dst := some 36, op := Op.move (Operand.tmp 1), type := 42, pos := "keys.go:92", after := #[], guard := none } ?_ (fun _ => hHeld) rfl (by kernel_rfl) (fun _ _ _ h => h) (by rfl) ?_ ?_
    rotate_left
    · intro w; go_simp; try with_reducible rfl
    try simp only [Act.put, List.setIfInBounds_toArray, List.set_cons_zero, List.set_cons_succ]
    refine Kt.G.takeP 3 { dst := some 38, op := Op.move (Operand.tmp 2), type := 42, pos := "keys.go:92", after := #[], guard := none } ?_ (fun _ => hHeld) rfl (by kernel_rfl) (fun _ _ _ h => h) (by rfl) ?_ ?_
    rotate_left
    · intro w; go_simp; try with_reducible rfl
    try simp only [Act.put, List.setIfInBounds_toArray, List.set_cons_zero, List.set_cons_succ]
    refine Kt.G.two 2 10 { dst := some 37, op := Op.call { callee := Callee.value (Operand.func 17), args := #[Operand.tmp 36], argTypes := #[42] }, type := 42, pos := "keys.go:92", after := #[{ on := 1, ground := Ground.data }], guard := none } { dst := some 13, op := Op.alloc 27, type := 0, pos := "keys.go:92", after := #[], guard := none } rfl rfl (by kernel_rfl) (by rfl) (by rfl) (fun K hK => ?_) (fun K hK => ?_)
    · go_simp
      have hz := hHeld.size
      refine (clone_calls _ xa.length (sts xa) _ (HA.out.on (Kt.bthen HB4.out hHeld)) (sts_one _) (by have := HM.out; omega)).mono ?_
      rintro en x1 ⟨A5, c5, rfl, hs, hb⟩
      refine hK.out _ _ (fun _ => Kt.bthen hHeld hb) (fun hHeld => ?_)
      have hHeld := hHeld rfl
      clear hK K
      try simp only [Act.put, List.setIfInBounds_toArray, List.set_cons_zero, List.set_cons_succ]
      have hs := hs.mono (B' := w4.heap.size) hz
      clear hb hz
      refine Kt.G.two 4 10 { dst := some 39, op := Op.call { callee := Callee.builtin Builtin.append, args := #[Operand.tmp 37, Operand.tmp 38], argTypes := #[42, 42] }, type := 42, pos := "keys.go:92", after := #[{ on := 2, ground := Ground.data }, { on := 3, ground := Ground.data }, { on := 2, ground := Ground.chain }], guard := none } { dst := some 13, op := Op.alloc 27, type := 0, pos := "keys.go:92", after := #[], guard := none } rfl rfl (by kernel_rfl) (by rfl) (by rfl) (fun K hK => ?_) (fun K hK => ?_)
      · have hz := hHeld.size
        refine Kt.wp_append_ar (.tmp 37) (.tmp 38) 42 rfl w4.heap.size 9 (.string ByteArray.empty) 1 16 infoS Try.underlying42 rfl (by decide) _ _ _ rfl hs _ _ _ rfl (HB.out.on (Kt.bthen HB4.out hHeld)) (sts_one _) (by have := HM.out; unfold maxLen; omega) (by have := HM.out; omega) hz ?_
        intro A6 c6 x2 hs6 hb6 hz6 hk6 hl6
        refine hK.out _ _ (fun _ => hHeld.trans hb6) (fun hHeld => ?_)
        have hHeld := hHeld rfl
        clear hK K
        try simp only [Act.put, List.setIfInBounds_toArray, List.set_cons_zero, List.set_cons_succ]
        have hs := hs6
        clear hs6 hb6 hz6 hk6 hl6 hz
        refine Kt.G.two 5 10 { dst := some 40, op := Op.call { callee := Callee.value (Operand.func 15), args := #[Operand.tmp 35, Operand.tmp 39], argTypes := #[27, 42] }, type := 43, pos := "keys.go:92", after := #[{ on := 0, ground := Ground.data }, { on := 4, ground := Ground.data }, { on := 4, ground := Ground.chain }], guard := none } { dst := some 13, op := Op.alloc 27, type := 0, pos := "keys.go:92", after := #[], guard := none } rfl rfl (by kernel_rfl) (by rfl) (by rfl) (fun K hK => ?_) (fun K hK => ?_)
        · go_simp
          refine (HF3.out _ _ (by rw [sts_app]; exact Kt.Ar.of_sl hs)).mono ?_
          rintro en x3 ⟨U, rfl, hs7, hl7, hn7, hb⟩
          obtain ⟨A7, c7, rfl, _⟩ := hs7.form
          refine hK.out _ _ (fun _ => Kt.bthen hHeld hb) (fun hHeld => ?_)
          have hHeld := hHeld rfl
          clear hK K
          try simp only [Act.put, List.setIfInBounds_toArray, List.set_cons_zero, List.set_cons_succ]
          rw [List.length_append] at hs7
          have hs := hs7
          clear hs7 hb hl7 hn7
          refine Kt.G.takeP 6 { dst := some 34, op := Op.move (Operand.tmp 40), type := 43, pos := "keys.go:92", after := #[{ on := 5, ground := Ground.data }], guard := none } ?_ (fun _ => hHeld) rfl (by kernel_rfl) (fun _ _ _ h => h) (by rfl) ?_ ?_
          rotate_left
          · intro w; go_simp; try with_reducible rfl
          try simp only [Act.put, List.setIfInBounds_toArray, List.set_cons_zero, List.set_cons_succ]
          refine Kt.G.takeP 7 { dst := some 41, op := Op.extract (Operand.tmp 34) 0, type := 27, pos := "keys.go:92", after := #[{ on := 6, ground := Ground.data }], guard := none } ?_ (fun _ => hHeld) rfl (by kernel_rfl) (fun _ _ _ h => h) (by rfl) ?_ ?_
          rotate_left
          · intro w; go_simp; try with_reducible rfl
          try simp only [Act.put, List.setIfInBounds_toArray, List.set_cons_zero, List.set_cons_succ]
          refine Kt.G.takeP 8 { dst := some 42, op := Op.extract (Operand.tmp 34) 1, type := 32, pos := "keys.go:92", after := #[{ on := 6, ground := Ground.data }, { on := 11, ground := Ground.gcOnly Departure.lateStores }], guard := none } ?_ (fun _ => hHeld) rfl (by kernel_rfl) (fun _ _ _ h => h) (by rfl) ?_ ?_
          rotate_left
          · intro w; go_simp; try with_reducible rfl
          try simp only [Act.put, List.setIfInBounds_toArray, List.set_cons_zero, List.set_cons_succ]
          refine Kt.G.takeP 9 { dst := some 43, op := Op.extract (Operand.tmp 34) 2, type := 3, pos := "keys.go:92", after := #[{ on := 6, ground := Ground.data }, { on := 12, ground := Ground.gcOnly Departure.lateStores }], guard := none } ?_ (fun _ => hHeld) rfl (by kernel_rfl) (fun _ _ _ h => h) (by rfl) ?_ ?_
          rotate_left
          · intro w; go_simp; try with_reducible rfl
          try simp only [Act.put, List.setIfInBounds_toArray, List.set_cons_zero, List.set_cons_succ]
          refine Kt.G.one 10 { dst := some 13, op := Op.alloc 27, type := 0, pos := "keys.go:92", after := #[], guard := none } rfl (by kernel_rfl) (by rfl) (fun K hK => ?_)
          go_simp
          have hOld := hHeld
          refine hK.out _ _ (fun _ => Kt.balloc hHeld _) (fun hHeld => ?_)
          have hHeld := hHeld rfl
          clear hK K
          try simp only [Act.put, List.setIfInBounds_toArray, List.set_cons_zero, List.set_cons_succ]
          have hne : ∀ j, (Value.slice A7 (l.length + m.length) c7).ownBlock = some j → j ≠ x3.heap.size := fun j hj => by have := (hs.lt j hj).2; omega
          have hs := hs.alloc (.cells #[.int .u64 0, .int .u64 0, .int .u64 0, .int .u64 0] 27)
          have hKB := heap_alloc_new x3 (.cells #[.int .u64 0, .int .u64 0, .int .u64 0, .int .u64 0] 27)
          have hKg : w4.heap.size ≤ x3.heap.size := hz0 x3 hOld
          have hKl : x3.heap.size < (x3.alloc (.cells #[.int .u64 0, .int .u64 0, .int .u64 0, .int .u64 0] 27)).heap.size := by rw [World.size_alloc]; omega
          clear hOld
          generalize x3.heap.size = KB at *
          generalize x3.alloc (.cells #[.int .u64 0, .int .u64 0, .int .u64 0, .int .u64 0] 27) = x4 at *
          have hHeld9 := hHeld
          refine Kt.G.one 11 { dst := none, op := Op.store 27 (Operand.tmp 13) (Operand.tmp 41), type := 0, pos := "keys.go:92", after := #[{ on := 10, ground := Ground.data }, { on := 7, ground := Ground.data }, { on := 5, ground := Ground.chain }, { on := 0, ground := Ground.phase }, { on := 1, ground := Ground.phase }, { on := 2, ground := Ground.phase }, { on := 3, ground := Ground.phase }, { on := 4, ground := Ground.phase }, { on := 5, ground := Ground.phase }, { on := 6, ground := Ground.phase }, { on := 7, ground := Ground.phase }, { on := 8, ground := Ground.textOnly Departure.lateStores }, { on := 9, ground := Ground.textOnly Departure.lateStores }, { on := 10, ground := Ground.phase }], guard := none } rfl (by kernel_rfl) (by rfl) (fun K hK => ?_)
          have qk := fun i => cell_of_row _ _ i _ _ _ hKB
          have qf := fun i => frozen_of_row _ _ i _ _ hKB
          go_simp
          refine hK.out _ _ (Kt.G.late (by kernel_rfl)) (fun _ => ?_)
          clear hK K
          try simp only [Act.put, List.setIfInBounds_toArray, List.set_cons_zero, List.set_cons_succ]
          refine Kt.G.takeP 12 { dst := some 14, op := Op.assign (Operand.tmp 42), type := 32, pos := "keys.go:92", after := #[{ on := 8, ground := Ground.data }, { on := 11, ground := Ground.chain }, { on := 0, ground := Ground.phase }, { on := 1, ground := Ground.phase }, { on := 2, ground := Ground.phase }, { on := 3, ground := Ground.phase }, { on := 4, ground := Ground.phase }, { on := 5, ground := Ground.phase }, { on := 6, ground := Ground.phase }, { on := 7, ground := Ground.phase }, { on := 8, ground := Ground.phase }, { on := 9, ground := Ground.textOnly Departure.lateStores }, { on := 10, ground := Ground.phase }, { on := 11, ground := Ground.phase }], guard := none } ?_ (Kt.G.late (by kernel_rfl)) rfl (by kernel_rfl) (fun _ _ _ h => h) (by rfl) ?_ ?_
          rotate_left
          · intro w; go_simp; try with_reducible rfl
          try simp only [Act.put, List.setIfInBounds_toArray, List.set_cons_zero, List.set_cons_succ]
          refine Kt.G.takeP 13 { dst := some 15, op := Op.assign (Operand.tmp 43), type := 3, pos := "keys.go:92", after := #[{ on := 9, ground := Ground.data }, { on := 12, ground := Ground.chain }, { on := 0, ground := Ground.phase }, { on := 1, ground := Ground.phase }, { on := 2, ground := Ground.phase }, { on := 3, ground := Ground.phase }, { on := 4, ground := Ground.phase }, { on := 5, ground := Ground.phase }, { on := 6, ground := Ground.phase }, { on := 7, ground := Ground.phase }, { on := 8, ground := Ground.phase }, { on := 9, ground := Ground.phase }, { on := 10, ground := Ground.phase }, { on := 11, ground := Ground.phase }, { on := 12, ground := Ground.phase }], guard := none } ?_ (Kt.G.late (by kernel_rfl)) rfl (by kernel_rfl) (fun _ _ _ h => h) (by rfl) ?_ ?_
          rotate_left
          · intro w; go_simp; try with_reducible rfl
          try simp only [Act.put, List.setIfInBounds_toArray, List.set_cons_zero, List.set_cons_succ]
          refine Kt.G.done (by kernel_rfl) (NoPanic.normal ?_) _
          go_wp2_with fail
          go_meet
          case rel => exact ⟨KB, A7, c7, rfl, by simp, rfl, Kt.fill Y.cs.toList hKB rfl, by rw [kv_app] at *; exact Kt.Ar.of_sl (hs.sets Y.cs.toList KB 0 hne), Kt.below_setCells Y.cs.toList KB 0 _ _ hKg hHeld9⟩
        · go_simp
          have hOld := hHeld
          refine hK.out _ _ (fun _ => Kt.balloc hHeld _) (fun hHeld => ?_)
          have hHeld := hHeld rfl
          clear hK K
          try simp only [Act.put, List.setIfInBounds_toArray, List.set_cons_zero, List.set_cons_succ]
          have hne : ∀ j, (Value.slice A6 (xa.length + xb.length) c6).ownBlock = some j → j ≠ x2.heap.size := fun j hj => by have := (hs.lt j hj).2; omega
          have hs := hs.alloc (.cells #[.int .u64 0, .int .u64 0, .int .u64 0, .int .u64 0] 27)
          have hKB := heap_alloc_new x2 (.cells #[.int .u64 0, .int .u64 0, .int .u64 0, .int .u64 0] 27)
          have hKg : w4.heap.size ≤ x2.heap.size := hz0 x2 hOld
          have hKl : x2.heap.size < (x2.alloc (.cells #[.int .u64 0, .int .u64 0, .int .u64 0, .int .u64 0] 27)).heap.size := by rw [World.size_alloc]; omega
          clear hOld
          generalize x2.heap.size = KB at *
          generalize x2.alloc (.cells #[.int .u64 0, .int .u64 0, .int .u64 0, .int .u64 0] 27) = x5 at *
          refine Kt.G.one 5 { dst := some 40, op := Op.call { callee := Callee.value (Operand.func 15), args := #[Operand.tmp 35, Operand.tmp 39], argTypes := #[27, 42] }, type := 43, pos := "keys.go:92", after := #[{ on := 0, ground := Ground.data }, { on := 4, ground := Ground.data }, { on := 4, ground := Ground.chain }], guard := none } rfl (by kernel_rfl) (by rfl) (fun K hK => ?_)
          go_simp
          refine (HF3.out _ _ (by rw [sts_app]; exact Kt.Ar.of_sl hs)).mono ?_
          rintro en x6 ⟨U, rfl, hs7, hl7, hn7, hb⟩
          obtain ⟨A7, c7, rfl, _⟩ := hs7.form
          refine hK.out _ _ (fun _ => Kt.bthen hHeld hb) (fun hHeld => ?_)
          have hHeld := hHeld rfl
          clear hK K
          try simp only [Act.put, List.setIfInBounds_toArray, List.set_cons_zero, List.set_cons_succ]
          rw [List.length_append] at hs7
          have hne : ∀ j, (Value.slice A7 (l.length + m.length) c7).ownBlock = some j → j ≠ KB := fun j hj => by have := (hs7.lt j hj).1; omega
          have hKB := Kt.row_on hb hKB
          have hKl : KB < x6.heap.size := (Array.getElem?_eq_some_iff.1 hKB).1
          have hs := hs7
          clear hs7 hb hl7 hn7
          refine Kt.G.takeP 6 { dst := some 34, op := Op.move (Operand.tmp 40), type := 43, pos := "keys.go:92", after := #[{ on := 5, ground := Ground.data }], guard := none } ?_ (fun _ => hHeld) rfl (by kernel_rfl) (fun _ _ _ h => h) (by rfl) ?_ ?_
          rotate_left
          · intro w; go_simp; try with_reducible rfl
          try simp only [Act.put, List.setIfInBounds_toArray, List.set_cons_zero, List.set_cons_succ]
          refine Kt.G.takeP 7 { dst := some 41, op := Op.extract (Operand.tmp 34) 0, type := 27, pos := "keys.go:92", after := #[{ on := 6, ground := Ground.data }], guard := none } ?_ (fun _ => hHeld) rfl (by kernel_rfl) (fun _ _ _ h => h) (by rfl) ?_ ?_
          rotate_left
          · intro w; go_simp; try with_reducible rfl
          try simp only [Act.put, List.setIfInBounds_toArray, List.set_cons_zero, List.set_cons_succ]
          refine Kt.G.takeP 8 { dst := some 42, op := Op.extract (Operand.tmp 34) 1, type := 32, pos := "keys.go:92", after := #[{ on := 6, ground := Ground.data }, { on := 11, ground := Ground.gcOnly Departure.lateStores }], guard := none } ?_ (fun _ => hHeld) rfl (by kernel_rfl) (fun _ _ _ h => h) (by rfl) ?_ ?_
          rotate_left
          · intro w; go_simp; try with_reducible rfl
          try simp only [Act.put, List.setIfInBounds_toArray, List.set_cons_zero, List.set_cons_succ]
          refine Kt.G.takeP 9 { dst := some 43, op := Op.extract (Operand.tmp 34) 2, type := 3, pos := "keys.go:92", after := #[{ on := 6, ground := Ground.data }, { on := 12, ground := Ground.gcOnly Departure.lateStores }], guard := none } ?_ (fun _ => hHeld) rfl (by kernel_rfl) (fun _ _ _ h => h) (by rfl) ?_ ?_
          rotate_left
          · intro w; go_simp; try with_reducible rfl
          try simp only [Act.put, List.setIfInBounds_toArray, List.set_cons_zero, List.set_cons_succ]
          have hHeld9 := hHeld
          refine Kt.G.one 11 { dst := none, op := Op.store 27 (Operand.tmp 13) (Operand.tmp 41), type := 0, pos := "keys.go:92", after := #[{ on := 10, ground := Ground.data }, { on := 7, ground := Ground.data }, { on := 5, ground := Ground.chain }, { on := 0, ground := Ground.phase }, { on := 1, ground := Ground.phase }, { on := 2, ground := Ground.phase }, { on := 3, ground := Ground.phase }, { on := 4, ground := Ground.phase }, { on := 5, ground := Ground.phase }, { on := 6, ground := Ground.phase }, { on := 7, ground := Ground.phase }, { on := 8, ground := Ground.textOnly Departure.lateStores }, { on := 9, ground := Ground.textOnly Departure.lateStores }, { on := 10, ground := Ground.phase }], guard := none } rfl (by kernel_rfl) (by rfl) (fun K hK => ?_)
          have qk := fun i => cell_of_row _ _ i _ _ _ hKB
          have qf := fun i => frozen_of_row _ _ i _ _ hKB
          go_simp
          refine hK.out _ _ (Kt.G.late (by kernel_rfl)) (fun _ => ?_)
          clear hK K
          try simp only [Act.put, List.setIfInBounds_toArray, List.set_cons_zero, List.set_cons_succ]
          refine Kt.G.takeP 12 { dst := some 14, op := Op.assign (Operand.tmp 42), type := 32, pos := "keys.go:92", after := #[{ on := 8, ground := Ground.data }, { on := 11, ground := Ground.chain }, { on := 0, ground := Ground.phase }, { on := 1, ground := Ground.phase }, { on := 2, ground := Ground.phase }, { on := 3, ground := Ground.phase }, { on := 4, ground := Ground.phase }, { on := 5, ground := Ground.phase }, { on := 6, ground := Ground.phase }, { on := 7, ground := Ground.phase }, { on := 8, ground := Ground.phase }, { on := 9, ground := Ground.textOnly Departure.lateStores }, { on := 10, ground := Ground.phase }, { on := 11, ground := Ground.phase }], guard := none } ?_ (Kt.G.late (by kernel_rfl)) rfl (by kernel_rfl) (fun _ _ _ h => h) (by rfl) ?_ ?_
          rotate_left
          · intro w; go_simp; try with_reducible rfl
          try simp only [Act.put, List.setIfInBounds_toArray, List.set_cons_zero, List.set_cons_succ]
          refine Kt.G.takeP 13 { dst := some 15, op := Op.assign (Operand.tmp 43), type := 3, pos := "keys.go:92", after := #[{ on := 9, ground := Ground.data }, { on := 12, ground := Ground.chain }, { on := 0, ground := Ground.phase }, { on := 1, ground := Ground.phase }, { on := 2, ground := Ground.phase }, { on := 3, ground := Ground.phase }, { on := 4, ground := Ground.phase }, { on := 5, ground := Ground.phase }, { on := 6, ground := Ground.phase }, { on := 7, ground := Ground.phase }, { on := 8, ground := Ground.phase }, { on := 9, ground := Ground.phase }, { on := 10, ground := Ground.phase }, { on := 11, ground := Ground.phase }, { on := 12, ground := Ground.phase }], guard := none } ?_ (Kt.G.late (by kernel_rfl)) rfl (by kernel_rfl) (fun _ _ _ h => h) (by rfl) ?_ ?_
          rotate_left
          · intro w; go_simp; try with_reducible rfl
          try simp only [Act.put, List.setIfInBounds_toArray, List.set_cons_zero, List.set_cons_succ]
          refine Kt.G.done (by kernel_rfl) (NoPanic.normal ?_) _
          go_wp2_with fail
          go_meet
          case rel => exact ⟨KB, A7, c7, rfl, by simp, rfl, Kt.fill Y.cs.toList hKB rfl, by rw [kv_app] at *; exact Kt.Ar.of_sl (hs.sets Y.cs.toList KB 0 hne), Kt.below_setCells Y.cs.toList KB 0 _ _ hKg hHeld9⟩
      · go_simp
        have hOld := hHeld
        refine hK.out _ _ (fun _ => Kt.balloc hHeld _) (fun hHeld => ?_)
        have hHeld := hHeld rfl
        clear hK K
        try simp only [Act.put, List.setIfInBounds_toArray, List.set_cons_zero, List.set_cons_succ]
        have hne : ∀ j, (Value.slice A5 xa.length c5).ownBlock = some j → j ≠ x1.heap.size := fun j hj => by have := (hs.lt j hj).2; omega
        have hs := hs.alloc (.cells #[.int .u64 0, .int .u64 0, .int .u64 0, .int .u64 0] 27)
        have hKB := heap_alloc_new x1 (.cells #[.int .u64 0, .int .u64 0, .int .u64 0, .int .u64 0] 27)
        have hKg : w4.heap.size ≤ x1.heap.size := hz0 x1 hOld
        have hKl : x1.heap.size < (x1.alloc (.cells #[.int .u64 0, .int .u64 0, .int .u64 0, .int .u64 0] 27)).heap.size := by rw [World.size_alloc]; omega
        clear hOld
        generalize x1.heap.size = KB at *
        generalize x1.alloc (.cells #[.int .u64 0, .int .u64 0, .int .u64 0, .int .u64 0] 27) = x7 at *
        refine Kt.G.one 4 { dst := some 39, op := Op.call { callee := Callee.builtin Builtin.append, args := #[Operand.tmp 37, Operand.tmp 38], argTypes := #[42, 42] }, type := 42, pos := "keys.go:92", after := #[{ on := 2, ground := Ground.data }, { on := 3, ground := Ground.data }, { on := 2, ground := Ground.chain }], guard := none } rfl (by kernel_rfl) (by rfl) (fun K hK => ?_)
        have hz := hHeld.size
        refine Kt.wp_append_ar (.tmp 37) (.tmp 38) 42 rfl w4.heap.size 9 (.string ByteArray.empty) 1 16 infoS Try.underlying42 rfl (by decide) _ _ _ rfl hs _ _ _ rfl (HB.out.on (Kt.bthen HB4.out hHeld)) (sts_one _) (by have := HM.out; unfold maxLen; omega) (by have := HM.out; omega) hz ?_
        intro A6 c6 x8 hs6 hb6 hz6 hk6 hl6
        refine hK.out _ _ (fun _ => hHeld.trans hb6) (fun hHeld => ?_)
        have hHeld := hHeld rfl
        clear hK K
        try simp only [Act.put, List.setIfInBounds_toArray, List.set_cons_zero, List.set_cons_succ]
        have hKB := (hk6 KB hKl (fun e => hne KB e rfl)).trans hKB
        have hne : ∀ j, (Value.slice A6 (xa.length + xb.length) c6).ownBlock = some j → j ≠ KB := fun j hj => (hl6 j hj).elim (hne j) (fun h => by omega)
        have hKl : KB < x8.heap.size := (Array.getElem?_eq_some_iff.1 hKB).1
        have hs := hs6
        clear hs6 hb6 hz6 hk6 hl6 hz
        refine Kt.G.one 5 { dst := some 40, op := Op.call { callee := Callee.value (Operand.func 15), args := #[Operand.tmp 35, Operand.tmp 39], argTypes := #[27, 42] }, type := 43, pos := "keys.go:92", after := #[{ on := 0, ground := Ground.data }, { on := 4, ground := Ground.data }, { on := 4, ground := Ground.chain }], guard := none } rfl (by kernel_rfl) (by rfl) (fun K hK => ?_)
        go_simp
        refine (HF3.out _ _ (by rw [sts_app]; exact Kt.Ar.of_sl hs)).mono ?_
        rintro en x9 ⟨U, rfl, hs7, hl7, hn7, hb⟩
        obtain ⟨A7, c7, rfl, _⟩ := hs7.form
        refine hK.out _ _ (fun _ => Kt.bthen hHeld hb) (fun hHeld => ?_)
        have hHeld := hHeld rfl
        clear hK K
        try simp only [Act.put, List.setIfInBounds_toArray, List.set_cons_zero, List.set_cons_succ]
        rw [List.length_append] at hs7
        have hne : ∀ j, (Value.slice A7 (l.length + m.length) c7).ownBlock = some j → j ≠ KB := fun j hj => by have := (hs7.lt j hj).1; omega
        have hKB := Kt.row_on hb hKB
        have hKl : KB < x9.heap.size := (Array.getElem?_eq_some_iff.1 hKB).1
        have hs := hs7
        clear hs7 hb hl7 hn7
        refine Kt.G.takeP 6 { dst := some 34, op := Op.move (Operand.tmp 40), type := 43, pos := "keys.go:92", after := #[{ on := 5, ground := Ground.data }], guard := none } ?_ (fun _ => hHeld) rfl (by kernel_rfl) (fun _ _ _ h => h) (by rfl) ?_ ?_
        rotate_left
        · intro w; go_simp; try with_reducible rfl
        try simp only [Act.put, List.setIfInBounds_toArray, List.set_cons_zero, List.set_cons_succ]
        refine Kt.G.takeP 7 { dst := some 41, op := Op.extract (Operand.tmp 34) 0, type := 27, pos := "keys.go:92", after := #[{ on := 6, ground := Ground.data }], guard := none } ?_ (fun _ => hHeld) rfl (by kernel_rfl) (fun _ _ _ h => h) (by rfl) ?_ ?_
        rotate_left
        · intro w; go_simp; try with_reducible rfl
        try simp only [Act.put, List.setIfInBounds_toArray, List.set_cons_zero, List.set_cons_succ]
        refine Kt.G.takeP 8 { dst := some 42, op := Op.extract (Operand.tmp 34) 1, type := 32, pos := "keys.go:92", after := #[{ on := 6, ground := Ground.data }, { on := 11, ground := Ground.gcOnly Departure.lateStores }], guard := none } ?_ (fun _ => hHeld) rfl (by kernel_rfl) (fun _ _ _ h => h) (by rfl) ?_ ?_
        rotate_left
        · intro w; go_simp; try with_reducible rfl
        try simp only [Act.put, List.setIfInBounds_toArray, List.set_cons_zero, List.set_cons_succ]
        refine Kt.G.takeP 9 { dst := some 43, op := Op.extract (Operand.tmp 34) 2, type := 3, pos := "keys.go:92", after := #[{ on := 6, ground := Ground.data }, { on := 12, ground := Ground.gcOnly Departure.lateStores }], guard := none } ?_ (fun _ => hHeld) rfl (by kernel_rfl) (fun _ _ _ h => h) (by rfl) ?_ ?_
        rotate_left
        · intro w; go_simp; try with_reducible rfl
        try simp only [Act.put, List.setIfInBounds_toArray, List.set_cons_zero, List.set_cons_succ]
        have hHeld9 := hHeld
        refine Kt.G.one 11 { dst := none, op := Op.store 27 (Operand.tmp 13) (Operand.tmp 41), type := 0, pos := "keys.go:92", after := #[{ on := 10, ground := Ground.data }, { on := 7, ground := Ground.data }, { on := 5, ground := Ground.chain }, { on := 0, ground := Ground.phase }, { on := 1, ground := Ground.phase }, { on := 2, ground := Ground.phase }, { on := 3, ground := Ground.phase }, { on := 4, ground := Ground.phase }, { on := 5, ground := Ground.phase }, { on := 6, ground := Ground.phase }, { on := 7, ground := Ground.phase }, { on := 8, ground := Ground.textOnly Departure.lateStores }, { on := 9, ground := Ground.textOnly Departure.lateStores }, { on := 10, ground := Ground.phase }], guard := none } rfl (by kernel_rfl) (by rfl) (fun K hK => ?_)
        have qk := fun i => cell_of_row _ _ i _ _ _ hKB
        have qf := fun i => frozen_of_row _ _ i _ _ hKB
        go_simp
        refine hK.out _ _ (Kt.G.late (by kernel_rfl)) (fun _ => ?_)
        clear hK K
        try simp only [Act.put, List.setIfInBounds_toArray, List.set_cons_zero, List.set_cons_succ]
        refine Kt.G.takeP 12 { dst := some 14, op := Op.assign (Operand.tmp 42), type := 32, pos := "keys.go:92", after := #[{ on := 8, ground := Ground.data }, { on := 11, ground := Ground.chain }, { on := 0, ground := Ground.phase }, { on := 1, ground := Ground.phase }, { on := 2, ground := Ground.phase }, { on := 3, ground := Ground.phase }, { on := 4, ground := Ground.phase }, { on := 5, ground := Ground.phase }, { on := 6, ground := Ground.phase }, { on := 7, ground := Ground.phase }, { on := 8, ground := Ground.phase }, { on := 9, ground := Ground.textOnly Departure.lateStores }, { on := 10, ground := Ground.phase }, { on := 11, ground := Ground.phase }], guard := none } ?_ (Kt.G.late (by kernel_rfl)) rfl (by kernel_rfl) (fun _ _ _ h => h) (by rfl) ?_ ?_
        rotate_left
        · intro w; go_simp; try with_reducible rfl
        try simp only [Act.put, List.setIfInBounds_toArray, List.set_cons_zero, List.set_cons_succ]
        refine Kt.G.takeP 13 { dst := some 15, op := Op.assign (Operand.tmp 43), type := 3, pos := "keys.go:92", after := #[{ on := 9, ground := Ground.data }, { on := 12, ground := Ground.chain }, { on := 0, ground := Ground.phase }, { on := 1, ground := Ground.phase }, { on := 2, ground := Ground.phase }, { on := 3, ground := Ground.phase }, { on := 4, ground := Ground.phase }, { on := 5, ground := Ground.phase }, { on := 6, ground := Ground.phase }, { on := 7, ground := Ground.phase }, { on := 8, ground := Ground.phase }, { on := 9, ground := Ground.phase }, { on := 10, ground := Ground.phase }, { on := 11, ground := Ground.phase }, { on := 12, ground := Ground.phase }], guard := none } ?_ (Kt.G.late (by kernel_rfl)) rfl (by kernel_rfl) (fun _ _ _ h => h) (by rfl) ?_ ?_
        rotate_left
        · intro w; go_simp; try with_reducible rfl
        try simp only [Act.put, List.setIfInBounds_toArray, List.set_cons_zero, List.set_cons_succ]
        refine Kt.G.done (by kernel_rfl) (NoPanic.normal ?_) _
        go_wp2_with fail
        go_meet
        case rel => exact ⟨KB, A7, c7, rfl, by simp, rfl, Kt.fill Y.cs.toList hKB rfl, by rw [kv_app] at *; exact Kt.Ar.of_sl (hs.sets Y.cs.toList KB 0 hne), Kt.below_setCells Y.cs.toList KB 0 _ _ hKg hHeld9⟩
    · go_simp
      have hOld := hHeld
      refine hK.out _ _ (fun _ => Kt.balloc hHeld _) (fun hHeld => ?_)
      have hHeld := hHeld rfl
      clear hK K
      try simp only [Act.put, List.setIfInBounds_toArray, List.set_cons_zero, List.set_cons_succ]
      have hKB := heap_alloc_new x0 (.cells #[.int .u64 0, .int .u64 0, .int .u64 0, .int .u64 0] 27)
      have hKg : w4.heap.size ≤ x0.heap.size := hz0 x0 hOld
      have hKl : x0.heap.size < (x0.alloc (.cells #[.int .u64 0, .int .u64 0, .int .u64 0, .int .u64 0] 27)).heap.size := by rw [World.size_alloc]; omega
      clear hOld
      generalize x0.heap.size = KB at *
      generalize x0.alloc (.cells #[.int .u64 0, .int .u64 0, .int .u64 0, .int .u64 0] 27) = x10 at *
      refine Kt.G.one 2 { dst := some 37, op := Op.call { callee := Callee.value (Operand.func 17), args := #[Operand.tmp 36], argTypes := #[42] }, type := 42, pos := "keys.go:92", after := #[{ on := 1, ground := Ground.data }], guard := none } rfl (by kernel_rfl) (by rfl) (fun K hK => ?_)
      go_simp
      have hz := hHeld.size
      refine (clone_calls _ xa.length (sts xa) _ (HA.out.on (Kt.bthen HB4.out hHeld)) (sts_one _) (by have := HM.out; omega)).mono ?_
      rintro en x11 ⟨A5, c5, rfl, hs, hb⟩
      refine hK.out _ _ (fun _ => Kt.bthen hHeld hb) (fun hHeld => ?_)
      have hHeld := hHeld rfl
      clear hK K
      try simp only [Act.put, List.setIfInBounds_toArray, List.set_cons_zero, List.set_cons_succ]
      have hne : ∀ j, (Value.slice A5 xa.length c5).ownBlock = some j → j ≠ KB := fun j hj => by have := (hs.lt j hj).1; omega
      have hKB := Kt.row_on hb hKB
      have hKl : KB < x11.heap.size := (Array.getElem?_eq_some_iff.1 hKB).1
      have hs := hs.mono (B' := w4.heap.size) hz
      clear hb hz
      refine Kt.G.one 4 { dst := some 39, op := Op.call { callee := Callee.builtin Builtin.append, args := #[Operand.tmp 37, Operand.tmp 38], argTypes := #[42, 42] }, type := 42, pos := "keys.go:92", after := #[{ on := 2, ground := Ground.data }, { on := 3, ground := Ground.data }, { on := 2, ground := Ground.chain }], guard := none } rfl (by kernel_rfl) (by rfl) (fun K hK => ?_)
      have hz := hHeld.size
      refine Kt.wp_append_ar (.tmp 37) (.tmp 38) 42 rfl w4.heap.size 9 (.string ByteArray.empty) 1 16 infoS Try.underlying42 rfl (by decide) _ _ _ rfl hs _ _ _ rfl (HB.out.on (Kt.bthen HB4.out hHeld)) (sts_one _) (by have := HM.out; unfold maxLen; omega) (by have := HM.out; omega) hz ?_
      intro A6 c6 x12 hs6 hb6 hz6 hk6 hl6
      refine hK.out _ _ (fun _ => hHeld.trans hb6) (fun hHeld => ?_)
      have hHeld := hHeld rfl
      clear hK K
      try simp only [Act.put, List.setIfInBounds_toArray, List.set_cons_zero, List.set_cons_succ]
      have hKB := (hk6 KB hKl (fun e => hne KB e rfl)).trans hKB
      have hne : ∀ j, (Value.slice A6 (xa.length + xb.length) c6).ownBlock = some j → j ≠ KB := fun j hj => (hl6 j hj).elim (hne j) (fun h => by omega)
      have hKl : KB < x12.heap.size := (Array.getElem?_eq_some_iff.1 hKB).1
      have hs := hs6
      clear hs6 hb6 hz6 hk6 hl6 hz
      refine Kt.G.one 5 { dst := some 40, op := Op.call { callee := Callee.value (Operand.func 15), args := #[Operand.tmp 35, Operand.tmp 39], argTypes := #[27, 42] }, type := 43, pos := "keys.go:92", after := #[{ on := 0, ground := Ground.data }, { on := 4, ground := Ground.data }, { on := 4, ground := Ground.chain }], guard := none } rfl (by kernel_rfl) (by rfl) (fun K hK => ?_)
      go_simp
      refine (HF3.out _ _ (by rw [sts_app]; exact Kt.Ar.of_sl hs)).mono ?_
      rintro en x13 ⟨U, rfl, hs7, hl7, hn7, hb⟩
      obtain ⟨A7, c7, rfl, _⟩ := hs7.form
      refine hK.out _ _ (fun _ => Kt.bthen hHeld hb) (fun hHeld => ?_)
      have hHeld := hHeld rfl
      clear hK K
      try simp only [Act.put, List.setIfInBounds_toArray, List.set_cons_zero, List.set_cons_succ]
      rw [List.length_append] at hs7
      have hne : ∀ j, (Value.slice A7 (l.length + m.length) c7).ownBlock = some j → j ≠ KB := fun j hj => by have := (hs7.lt j hj).1; omega
      have hKB := Kt.row_on hb hKB
      have hKl : KB < x13.heap.size := (Array.getElem?_eq_some_iff.1 hKB).1
      have hs := hs7
      clear hs7 hb hl7 hn7
      refine Kt.G.takeP 6 { dst := some 34, op := Op.move (Operand.tmp 40), type := 43, pos := "keys.go:92", after := #[{ on := 5, ground := Ground.data }], guard := none } ?_ (fun _ => hHeld) rfl (by kernel_rfl) (fun _ _ _ h => h) (by rfl) ?_ ?_
      rotate_left
      · intro w; go_simp; try with_reducible rfl
      try simp only [Act.put, List.setIfInBounds_toArray, List.set_cons_zero, List.set_cons_succ]
      refine Kt.G.takeP 7 { dst := some 41, op := Op.extract (Operand.tmp 34) 0, type := 27, pos := "keys.go:92", after := #[{ on := 6, ground := Ground.data }], guard := none } ?_ (fun _ => hHeld) rfl (by kernel_rfl) (fun _ _ _ h => h) (by rfl) ?_ ?_
      rotate_left
      · intro w; go_simp; try with_reducible rfl
      try simp only [Act.put, List.setIfInBounds_toArray, List.set_cons_zero, List.set_cons_succ]
      refine Kt.G.takeP 8 { dst := some 42, op := Op.extract (Operand.tmp 34) 1, type := 32, pos := "keys.go:92", after := #[{ on := 6, ground := Ground.data }, { on := 11, ground := Ground.gcOnly Departure.lateStores }], guard := none } ?_ (fun _ => hHeld) rfl (by kernel_rfl) (fun _ _ _ h => h) (by rfl) ?_ ?_
      rotate_left
      · intro w; go_simp; try with_reducible rfl
      try simp only [Act.put, List.setIfInBounds_toArray, List.set_cons_zero, List.set_cons_succ]
      refine Kt.G.takeP 9 { dst := some 43, op := Op.extract (Operand.tmp 34) 2, type := 3, pos := "keys.go:92", after := #[{ on := 6, ground := Ground.data }, { on := 12, ground := Ground.gcOnly Departure.lateStores }], guard := none } ?_ (fun _ => hHeld) rfl (by kernel_rfl) (fun _ _ _ h => h) (by rfl) ?_ ?_
      rotate_left
      · intro w; go_simp; try with_reducible rfl
      try simp only [Act.put, List.setIfInBounds_toArray, List.set_cons_zero, List.set_cons_succ]
      have hHeld9 := hHeld
      refine Kt.G.one 11 { dst := none, op := Op.store 27 (Operand.tmp 13) (Operand.tmp 41), type := 0, pos := "keys.go:92", after := #[{ on := 10, ground := Ground.data }, { on := 7, ground := Ground.data }, { on := 5, ground := Ground.chain }, { on := 0, ground := Ground.phase }, { on := 1, ground := Ground.phase }, { on := 2, ground := Ground.phase }, { on := 3, ground := Ground.phase }, { on := 4, ground := Ground.phase }, { on := 5, ground := Ground.phase }, { on := 6, ground := Ground.phase }, { on := 7, ground := Ground.phase }, { on := 8, ground := Ground.textOnly Departure.lateStores }, { on := 9, ground := Ground.textOnly Departure.lateStores }, { on := 10, ground := Ground.phase }], guard := none } rfl (by kernel_rfl) (by rfl) (fun K hK => ?_)
      have qk := fun i => cell_of_row _ _ i _ _ _ hKB
      have qf := fun i => frozen_of_row _ _ i _ _ hKB
      go_simp
      refine hK.out _ _ (Kt.G.late (by kernel_rfl)) (fun _ => ?_)
      clear hK K
      try simp only [Act.put, List.setIfInBounds_toArray, List.set_cons_zero, List.set_cons_succ]
      refine Kt.G.takeP 12 { dst := some 14, op := Op.assign (Operand.tmp 42), type := 32, pos := "keys.go:92", after := #[{ on := 8, ground := Ground.data }, { on := 11, ground := Ground.chain }, { on := 0, ground := Ground.phase }, { on := 1, ground := Ground.phase }, { on := 2, ground := Ground.phase }, { on := 3, ground := Ground.phase }, { on := 4, ground := Ground.phase }, { on := 5, ground := Ground.phase }, { on := 6, ground := Ground.phase }, { on := 7, ground := Ground.phase }, { on := 8, ground := Ground.phase }, { on := 9, ground := Ground.textOnly Departure.lateStores }, { on := 10, ground := Ground.phase }, { on := 11, ground := Ground.phase }], guard := none } ?_ (Kt.G.late (by kernel_rfl)) rfl (by kernel_rfl) (fun _ _ _ h => h) (by rfl) ?_ ?_
      rotate_left
      · intro w; go_simp; try with_reducible rfl
      try simp only [Act.put, List.setIfInBounds_toArray, List.set_cons_zero, List.set_cons_succ]
      refine Kt.G.takeP 13 { dst := some 15, op := Op.assign (Operand.tmp 43), type := 3, pos := "keys.go:92", after := #[{ on := 9, ground := Ground.data }, { on := 12, ground := Ground.chain }, { on := 0, ground := Ground.phase }, { on := 1, ground := Ground.phase }, { on := 2, ground := Ground.phase }, { on := 3, ground := Ground.phase }, { on := 4, ground := Ground.phase }, { on := 5, ground := Ground.phase }, { on := 6, ground := Ground.phase }, { on := 7, ground := Ground.phase }, { on := 8, ground := Ground.phase }, { on := 9, ground := Ground.phase }, { on := 10, ground := Ground.phase }, { on := 11, ground := Ground.phase }, { on := 12, ground := Ground.phase }], guard := none } ?_ (Kt.G.late (by kernel_rfl)) rfl (by kernel_rfl) (fun _ _ _ h => h) (by rfl) ?_ ?_
      rotate_left
      · intro w; go_simp; try with_reducible rfl
      try simp only [Act.put, List.setIfInBounds_toArray, List.set_cons_zero, List.set_cons_succ]
      refine Kt.G.done (by kernel_rfl) (NoPanic.normal ?_) _
      go_wp2_with fail
      go_meet
      case rel => exact ⟨KB, A7, c7, rfl, by simp, rfl, Kt.fill Y.cs.toList hKB rfl, by rw [kv_app] at *; exact Kt.Ar.of_sl (hs.sets Y.cs.toList KB 0 hne), Kt.below_setCells Y.cs.toList KB 0 _ _ hKg hHeld9⟩
  case rest =>
    obtain ⟨KZ, A3, c3, rfl, rfl, rfl, hkz, har, hb⟩ := hcut
    have HZ5 := Lib.hid hkz
    have HY5 := Lib.hid (Kt.row_on hb HY4.out)
    have HH5 := Lib.hid (Kt.row_on hb HH4.out)
    have HB5 := Lib.hid (Kt.bthen HB4.out hb)
    have HL5 := Lib.hid (HL4.out.on hb)
    have HK5 := Lib.hid (HK4.out.on hb)
    have HR5 := Lib.hid har
    clear hkz har hb HY4 HH4 HB4 HL4 HK4 HF3
    have EN := neq_hd Y Y
    have EQ := eq_hd Y Y
    rw [decide_eq_true rfl] at EN EQ
    have GN := fun x y => guard_hd_n x y Y Y
    have GQ := fun x y => guard_hd x y Y Y
    simp only [Hd.v, Hd.vs] at EN GN EQ GQ
    go_wp2_with fail
    refine (lives_calls _).mono ?_
    rintro e w6 ⟨rfl, hb⟩
    have HZ6 := Lib.hid (Kt.row_on hb HZ5.out)
    have HY6 := Lib.hid (Kt.row_on hb HY5.out)
    have HH6 := Lib.hid (Kt.row_on hb HH5.out)
    have HB6 := Lib.hid (Kt.bthen HB5.out hb)
    have HL6 := Lib.hid (HL5.out.on hb)
    have HK6 := Lib.hid (HK5.out.on hb)
    have HR6 := Lib.hid (HR5.out.on hb)
    clear hb HZ5 HY5 HH5 HB5 HL5 HK5 HR5
    have q1 := fun i => cell_of_row _ _ i _ _ _ HZ6.out
    have q2 := fun i => cell_of_row _ _ i _ _ _ HY6.out
    go_wp2_with fail
    refine (clonek_calls _ l.length (kv l) _ HL6.out (kv_one l) (by have := HM.out; have := HN1.out; omega)).mono ?_
    rintro e w7 ⟨A7, c7, rfl, hs, hb⟩
    have HS7 := Lib.hid hs
    have HZ7 := Lib.hid (Kt.row_on hb HZ6.out)
    have HY7 := Lib.hid (Kt.row_on hb HY6.out)
    have HH7 := Lib.hid (Kt.row_on hb HH6.out)
    have HB7 := Lib.hid (Kt.bthen HB6.out hb)
    have HK7 := Lib.hid (HK6.out.on hb)
    have HR7 := Lib.hid (HR6.out.on hb)
    have HW7 := Lib.hid hb
    clear hb hs HZ7 HY7 HH7 HB7 HK6 HL6 HR7 q1 q2
    go_wp2_with
      (refine Kt.append_ar (by rfl) (.tmp 54) (.tmp 55) 32 rfl w6.heap.size 47 (.agg #[.int .i64 0, .bool false]) 2 16 infoK Try.underlying32 rfl (by decide) _ _ _ rfl HS7.out _ _ _ rfl HK7.out (kv_one _) (by have := HM.out; have := HN1.out; have := HN2.out; unfold maxLen; omega) (by have := HM.out; have := HN1.out; have := HN2.out; omega) HW7.out.size ?_
       intro A8 c8 w8 hs8 hb8 hz8 hk8 hl8)
    have HW8 := Lib.hid (HW7.out.trans hb8)
    have HZ8 := Lib.hid (Kt.row_on HW8.out HZ6.out)
    have HH8 := Lib.hid (Kt.row_on HW8.out HH6.out)
    have HB8 := Lib.hid (Kt.bthen HB6.out HW8.out)
    have HR8 := Lib.hid (HR6.out.on HW8.out)
    have HS8 := Lib.hid hs8
    clear hs8 hb8 hz8 hk8 hl8 HS7 HK7 HW7 HZ6 HY6 HH6 HB6 HR6
    refine (eqk_calls _ _ (l.length + m.length) (l.length + m.length) (kv (l ++ m)) (kv l ++ kv m) _ HR8.out (Kt.Ar.of_sl HS8.out) (by have := kv_cl (l ++ m); rwa [List.length_append] at this) (by have := kv_cl (l ++ m); rwa [List.length_append, kv_app] at this) (by have := HM.out; have := HN1.out; have := HN2.out; omega)).mono ?_
    rintro e w9 ⟨q, rfl, hq, hb⟩
    obtain rfl : q = true := hq.2 (kv_app l m)
    have HZ9 := Lib.hid (Kt.row_on hb HZ8.out)
    have HH9 := Lib.hid (Kt.row_on hb HH8.out)
    have HB9 := Lib.hid (Kt.bthen HB8.out hb)
    have HR9 := Lib.hid (HR8.out.on hb)
    clear hb hq HZ8 HH8 HB8 HR8 HS8 HW8
    have ew : wrap64 ((n : Int) + (k : Int)) = (n : Int) + (k : Int) := by have := HM.out; have := HN1.out; have := HN2.out; unfold wrap64; omega
    go_wp2_with fail
    clear ew
    refine (clone_calls _ xa.length (sts xa) _ (HA.out.on HB9.out) (sts_one _) (by have := HM.out; omega)).mono ?_
    rintro en x1 ⟨A5, c5, rfl, hs, hb⟩
    have HS10 := Lib.hid hs
    have HW10 := Lib.hid hb
    clear hs hb
    go_wp2_with
      (refine Kt.append_ar (by rfl) (.tmp 68) (.tmp 69) 42 rfl w9.heap.size 9 (.string ByteArray.empty) 1 16 infoS Try.underlying42 rfl (by decide) _ _ _ rfl HS10.out _ _ _ rfl (HB.out.on (Kt.bthen HB9.out HW10.out)) (sts_one _) (by have := HM.out; unfold maxLen; omega) (by have := HM.out; omega) HW10.out.size ?_
       intro A8 c8 x2 hs8 hb8 hz8 hk8 hl8)
    clear hk8 hl8
    have hle8 : w9.heap.size ≤ x2.heap.size := Nat.le_trans HW10.out.size hz8
    have hs9 : Kt.Sl x2 w9.heap.size 9 1 (.slice A8 (xa ++ xb).length c8) (xa ++ xb).length (sts (xa ++ xb)) := by
      rw [List.length_append, sts_app]
      exact hs8
    have hm9 : (xa ++ xb).length ≤ 4194304 := by
      have hm9 := HM.out
      rw [List.length_append]
      omega
    have hd := delete_calls A8 c8 (xa ++ xb) x2 w9.heap.size hle8 hs9 hm9
    rw [List.length_append] at hd
    have HD := Lib.hid hd
    have HW11 := Lib.hid (HW10.out.trans hb8)
    generalize (xa ++ xb).filter goodS = FL at *
    clear hd hs8 hb8 hz8 hs9 hm9 hle8 HS10 HW10
    refine HD.out.mono ?_
    rintro e x3 ⟨U, rfl, har, hb⟩
    obtain ⟨A9, c9, rfl, _⟩ := har.form
    have HW12 := Lib.hid (HW11.out.trans hb)
    have HZ12 := Lib.hid (Kt.row_on HW12.out HZ9.out)
    have HH12 := Lib.hid (Kt.row_on HW12.out HH9.out)
    have HB12 := Lib.hid (Kt.bthen HB9.out HW12.out)
    have HR12 := Lib.hid (HR9.out.on HW12.out)
    have HFF := Lib.hid (HF4.out _ _ har)
    clear har hb HD HW11 HW12 HF4 HZ9 HH9 HB9 HR9
    have q0 := fun i => cell_of_row _ _ i _ _ _ HH12.out
    go_wp2_with fail
    refine HFF.out.mono ?_
    rintro e x4 ⟨U, rfl, hs, _, _, hb⟩
    rw [List.length_append] at hs
    obtain ⟨A10, c10, rfl, _⟩ := hs.form
    have HT13 := Lib.hid (Kt.Ar.of_sl hs)
    have HZ13 := Lib.hid (Kt.row_on hb HZ12.out)
    have HB13 := Lib.hid (Kt.bthen HB12.out hb)
    have HR13 := Lib.hid (HR12.out.on hb)
    clear hs hb HFF HZ12 HH12 HB12 HR12 q0
    go_upto_region 8 with (fail)
    have HBX := Lib.hid (Kt.balloc (Below.refl _ x4) (.cells Y.cs 27))
    have HZ14 := Lib.hid (Kt.row_on HBX.out HZ13.out)
    have HY14 := Lib.hid (heap_alloc_new x4 (.cells Y.cs 27))
    have HB14 := Lib.hid (Kt.bthen HB13.out HBX.out)
    have HR14 := Lib.hid (HR13.out.on HBX.out)
    have HT14 := Lib.hid (HT13.out.on HBX.out)
    clear HBX HZ13 HB13 HR13 HT13
    generalize x4.heap.size = KW at *
    generalize x4.alloc (.cells Y.cs 27) = x5 at *
    have q1 := fun i => cell_of_row _ _ i _ _ _ HZ14.out
    have q2 := fun i => cell_of_row _ _ i _ _ _ HY14.out
    go_wp2_with fail
    refine (eqk_calls _ _ (l.length + m.length) (l.length + m.length) (kv (l ++ m)) (kv (l ++ m)) _ HT14.out HR14.out (by have := kv_cl (l ++ m); rwa [List.length_append] at this) (by have := kv_cl (l ++ m); rwa [List.length_append] at this) (by have := HM.out; have := HN1.out; have := HN2.out; omega)).mono ?_
    rintro e x6 ⟨q, rfl, hq, hb⟩
    obtain rfl : q = true := hq.2 rfl
    have HB15 := Lib.hid (Kt.bthen HB14.out hb)
    clear hb hq
    go_wp2_with fail
    go_ret
    exact ⟨rfl, HB15.out⟩
theorem cuts_walk (v0 v1 v2 : Value) (w : World) (r0 : Fr.RdV w 1048576 hdTy v0) (r1 : Fr.RdV w 1048576 (.slice 1 .string) v1) (r2 : Fr.RdV w 1048576 (.slice 1 .string) v2) :
    Calls Try.prog 7 #[v0, v1, v2] w fun e w' => e = .returned (.bool true) ∧ Below w.heap.size w w' := by
  obtain ⟨x, rfl⟩ := hd_of r0
  obtain ⟨xa, h1, _, h3⟩ := Kt.ar_strs r1
  obtain ⟨xb, g1, _, g3⟩ := Kt.ar_strs r2
  exact cuts_calls x xa xb v1 v2 w h3 g3 h1 g1
end Go.Proofs.Ytfcmmeapinppaaa
