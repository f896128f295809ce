/- GadgetShort. -/
import Derived.Test.YtmddfpmchcmgiaaGadX
import Derived.Test.YtmddfpmchcmgiaaShelf
namespace Go.Proofs.Ytmddfpmchcmgiaa
open Go.RowKit Go.Proofs.Ytmddfpmchcmgiaa.Dsc Go.Proofs.Ytmddfpmchcmgiaa.Gad Go.Proofs.Ytmddfpmchcmgiaa.SetP
theorem pre_of {A B : List UInt8} (h : A <+: B) : Lib.hasPrefix B A = true := List.isPrefixOf_iff_prefix.2 h
theorem short_plain (s : Sh) (g : Gd) (v : Int) (few more : Nat) (h : few ≤ more) :
    ∃ (A B : List UInt8) (c : Int), ctl s g (some (5, v, 0, (few : Int))) = (g, A, c) ∧ ctl s g (some (5, v, 9, (more : Int))) = (g, B, c) ∧ A <+: B ∧ A.length ≤ few ∧ (A.length = few ∨ A = B) := by
  by_cases h1 : chk s = 0
  case neg => exact ⟨[], [], chk s, if_pos h1, if_pos h1, List.prefix_refl _, Nat.zero_le _, .inr rfl⟩
  cases h2 : gOk g with
  | false => exact ⟨[], [], 1, by unfold ctl; rw [if_neg (by simp [h1]), if_pos h2], by unfold ctl; rw [if_neg (by simp [h1]), if_pos h2], List.prefix_refl _, Nat.zero_le _, .inr rfl⟩
  | true =>
    have d : ∀ i (l : Nat), dod s g 5 v i (l : Int) = (g, (descr s v).1.take l, (descr s v).2) := fun i l => rfl
    by_cases hc : (descr s v).2 = 0
    · refine ⟨(descr s v).1.take few, (descr s v).1.take more, 0, ?_, ?_, ?_, ?_, ?_⟩
      · have := ctl_do h1 h2 (by decide) (d 0 few) (.inl hc)
        rw [this, hc]
      · have := ctl_do h1 h2 (by decide) (d 9 more) (.inl hc)
        rw [this, hc]
      · exact List.take_prefix_take_left h
      · rw [List.length_take]; omega
      · rw [List.length_take]
        by_cases hl : few ≤ (descr s v).1.length
        · left; omega
        · right
          rw [List.take_of_length_le (by omega), List.take_of_length_le (by omega)]
    · have e : ∀ i (l : Nat), ctl s g (some (5, v, i, (l : Int))) = (g, [], (descr s v).2) := fun i l => by
        unfold ctl
        rw [if_neg (by simp [h1]), if_neg (by simp [h2])]
        dsimp only
        rw [if_neg (by decide), d, if_pos hc]
      exact ⟨[], [], _, e 0 few, e 9 more, List.prefix_refl _, Nat.zero_le _, .inr rfl⟩
set_option maxRecDepth 100000 in
set_option maxHeartbeats 12800000 in
theorem short_walk (v0 v1 v2 v3 v4 : Value) (w : World) (r0 : Fr.RdV w 1048576 shS v0) (r1 : Fr.RdV w 1048576 gdS v1) (r2 : Fr.RdV w 1048576 (.int .i64) v2) (r3 : Fr.RdV w 1048576 (.int .i64) v3) (r4 : Fr.RdV w 1048576 (.int .i64) v4) :
    Calls Try.prog 11 #[v0, v1, v2, v3, v4] w fun e w' => e = .returned (.bool true) ∧ Below w.heap.size w w' := by
  obtain ⟨s, hs, hb⟩ := sh_rd r0
  obtain ⟨g, rfl⟩ := gd_rd r1
  obtain ⟨v, h, _⟩ := r2
  injection h with h _
  subst h
  obtain ⟨few, h, _⟩ := r3
  injection h with h _
  subst h
  obtain ⟨more, h, _⟩ := r4
  injection h with h _
  subst h
  have hbt : ∀ t ∈ s.tx, t.length ≤ 35184372088832 := fun t ht => Nat.le_trans (hb t ht) (by decide)
  obtain ⟨F, T, rfl, hs2, hs3⟩ := hs
  have hs : ShRd w (.agg (shCs s F T)) s := ⟨F, T, rfl, hs2, hs3⟩
  have HLV := Lib.hid glives_calls
  have HPL : Hid (0 ≤ few → few ≤ more → more ≤ 65535 → 0 ≤ v → v ≤ 65535 → ∃ (S1 S2 : ByteArray) (A B : List UInt8) (c : Int), askS 5 v 0 few S1 ∧ askS 5 v 9 more S2 ∧ CtT w s F T S1 g g (bs' A) c ∧ CtT w s F T S2 g g (bs' B) c ∧ A <+: B ∧ (A.length : Int) ≤ few ∧ ((A.length : Int) = few ∨ A = B)) := Lib.hid (fun h1 h2 h3 h4 h5 => by
    obtain ⟨f, rfl⟩ := Int.eq_ofNat_of_zero_le h1
    obtain ⟨m, rfl⟩ := Int.eq_ofNat_of_zero_le (show 0 ≤ more by omega)
    have ok : ∀ (i : Int) (l : Nat), 0 ≤ i → i ≤ 65535 → (l : Int) ≤ 65535 → Okw 5 v i l := fun i l hi hi2 hl => ⟨⟨128, 6, 1, 1, (-1)⟩, rfl, by show canP 1 v; unfold canP; omega, by show canP 1 i; unfold canP; omega, .inr ⟨by show (-1 : Int) < 0; omega, by unfold canP; omega⟩⟩
    obtain ⟨S1, a1, r1⟩ := asked_ok (ok 0 f (by omega) (by omega) (by omega)) (by omega)
    obtain ⟨S2, a2, r2⟩ := asked_ok (ok 9 m (by omega) (by omega) (by omega)) (by omega)
    obtain ⟨A, B, c, p1, p2, p3, p4, p5⟩ := short_plain s g v f m (by omega)
    exact ⟨S1, S2, A, B, c, a1, a2, ctT_of hs hbt r1 p1, ctT_of hs hbt r2 p2, p3, by omega, p5.imp (fun h => by omega) id⟩)
  clear hs hs2 hs3 hbt hb r0 r1
  obtain ⟨st, ad, ha⟩ := g
  have h2b := two_boxes w (shCs s F T) #[.int .i64 st, .int .i64 ad, .int .i64 ha] 53 55
  unfold gdV
  dsimp only
  go_enter Try.func11, Try.ntmps11
  go_upto_region 1 with (fail)
  refine Kt.fold (fun W => Kt.Fb w [((w.heap.size + 1), #[.int .i64 st, .int .i64 ad, .int .i64 ha], 55), (w.heap.size, (shCs s F T), 53)] W) (((Kt.Fb.nil w h2b.2.2).add h2b.1).add h2b.2.1) ?_
  intro w0 hf0
  have HF0 := Lib.hid hf0
  clear hf0 h2b
  by_cases h0 : 0 ≤ few
  case neg =>
    have n0 : few < 0 := Int.not_le.1 h0
    clear h0 HPL
    go_wp2_with fail
    refine (HLV.out _).mono ?_
    rintro e w3 ⟨rfl, hb⟩
    have HF1 := Lib.hid (HF0.out.on hb)
    clear hb HF0
    go_wp2_with fail
    go_ret
    exact ⟨rfl, HF1.out.bel⟩
  by_cases h1 : few ≤ more
  case neg =>
    have n1 : more < few := Int.not_le.1 h1
    clear h1 HPL
    go_wp2_with fail
    refine (HLV.out _).mono ?_
    rintro e w3 ⟨rfl, hb⟩
    have HF1 := Lib.hid (HF0.out.on hb)
    clear hb HF0
    go_wp2_with fail
    go_ret
    exact ⟨rfl, HF1.out.bel⟩
  by_cases h2 : more ≤ 65535
  case neg =>
    have n2 : 65535 < more := Int.not_le.1 h2
    clear h2 HPL
    go_wp2_with fail
    refine (HLV.out _).mono ?_
    rintro e w3 ⟨rfl, hb⟩
    have HF1 := Lib.hid (HF0.out.on hb)
    clear hb HF0
    go_wp2_with fail
    go_ret
    exact ⟨rfl, HF1.out.bel⟩
  by_cases h3 : 0 ≤ v
  case neg =>
    have n3 : v < 0 := Int.not_le.1 h3
    clear h3 HPL
    go_wp2_with fail
    refine (HLV.out _).mono ?_
    rintro e w3 ⟨rfl, hb⟩
    have HF1 := Lib.hid (HF0.out.on hb)
    clear hb HF0
    go_wp2_with fail
    go_ret
    exact ⟨rfl, HF1.out.bel⟩
  by_cases h4 : v ≤ 65535
  case neg =>
    have n4 : 65535 < v := Int.not_le.1 h4
    clear h4 HPL
    go_wp2_with fail
    refine (HLV.out _).mono ?_
    rintro e w3 ⟨rfl, hb⟩
    have HF1 := Lib.hid (HF0.out.on hb)
    clear hb HF0
    go_wp2_with fail
    go_ret
    exact ⟨rfl, HF1.out.bel⟩
  obtain ⟨S1, S2, A, B, c, a1, a2, k1, k2, p1, p2, p3⟩ := HPL.out h0 h1 h2 h3 h4
  have HA1 := Lib.hid a1; have HA2 := Lib.hid a2; have K1 := Lib.hid k1; have K2 := Lib.hid k2; have P1 := Lib.hid p1; have P2 := Lib.hid p2; have P3 := Lib.hid p3
  clear a1 a2 k1 k2 HPL p1 p2 p3
  unfold CtT gdV at K1 K2
  dsimp only at K1 K2
  unfold askS at HA1 HA2
  go_upto_region 3 with (fail)
  go_cut [11, 12, 13] from 37 to 46 (fun p x y wx1 => ∃ kZ, p = .pointer (some ⟨kZ, 0, none⟩) ∧ x = .string (bs' A) ∧ y = .int .i64 c ∧ Hid (Kt.Fb w ((kZ, #[.int .i64 st, .int .i64 ad, .int .i64 ha], 55) :: [((w.heap.size + 1), #[.int .i64 st, .int .i64 ad, .int .i64 ha], 55), (w.heap.size, (shCs s F T), 53)]) wx1))
  case first =>
    refine Kt.G.start 11 (Kt.Fb w [((w.heap.size + 1), #[.int .i64 st, .int .i64 ad, .int .i64 ha], 55), (w.heap.size, (shCs s F T), 53)]) (by kernel_rfl) HF0.out.drew (fun hHeld => ?_)
    generalize w0.drew = xx at *
    refine Kt.G.load_row 0 { dst := some 38, op := Op.load 53 (Operand.tmp 5), type := 53, pos := "gadget.go:41", after := #[], guard := none } 53 (Operand.tmp 5) w.heap.size 53 (shCs s F T) _ hHeld rfl (by kernel_rfl) (fun _ _ _ h => h) (by rfl) rfl rfl (fun _ h => h.row _ (List.Mem.tail _ (List.Mem.head _))) Try.underlying53 rfl (by kernel_rfl) ?_
    try simp only [Act.put, List.setIfInBounds_toArray, List.set_cons_zero, List.set_cons_succ]
    refine Kt.G.load_row 1 { dst := some 39, op := Op.load 55 (Operand.tmp 6), type := 55, pos := "gadget.go:41", after := #[], guard := none } 55 (Operand.tmp 6) (w.heap.size + 1) 55 #[.int .i64 st, .int .i64 ad, .int .i64 ha] _ hHeld rfl (by kernel_rfl) (fun _ _ _ h => h) (by rfl) rfl rfl (fun _ h => h.row _ (List.Mem.head _)) Try.underlying55 rfl (by kernel_rfl) ?_
    try simp only [Act.put, List.setIfInBounds_toArray, List.set_cons_zero, List.set_cons_succ]
    refine Kt.G.takeP 2 { dst := some 40, op := Op.move (Operand.tmp 2), type := 3, pos := "gadget.go:41", after := #[], guard := none } ?_ (fun _ => hHeld) rfl (by kernel_rfl) (fun _ _ _ h => h) (by rfl) ?_ ?_
    rotate_left
    · intro wq; go_simp; try with_reducible rfl
    try simp only [Act.put, List.setIfInBounds_toArray, List.set_cons_zero, List.set_cons_succ]
    refine Kt.G.takeP 3 { dst := some 41, op := Op.move (Operand.tmp 3), type := 3, pos := "gadget.go:41", after := #[], guard := none } ?_ (fun _ => hHeld) rfl (by kernel_rfl) (fun _ _ _ h => h) (by rfl) ?_ ?_
    rotate_left
    · intro wq; go_simp; try with_reducible rfl
    try simp only [Act.put, List.setIfInBounds_toArray, List.set_cons_zero, List.set_cons_succ]
    refine Kt.G.two 4 10 { dst := some 42, op := Op.call { callee := Callee.value (Operand.func 28), args := #[Operand.const (Value.int IntKind.i64 5), Operand.tmp 40, Operand.const (Value.int IntKind.i64 0), Operand.tmp 41], argTypes := #[3, 3, 3, 3] }, type := 9, pos := "gadget.go:41", after := #[{ on := 2, ground := Ground.data }, { on := 3, ground := Ground.data }], guard := none } { dst := some 11, op := Op.alloc 55, type := 0, pos := "gadget.go:41", after := #[], guard := none } rfl rfl (by kernel_rfl) (by rfl) (by rfl) (fun K hK => ?_) (fun K hK => ?_)
    · go_simp
      refine (HA1.out _).mono ?_; rintro en xx ⟨rfl, hb⟩
      refine hK.out _ _ (fun _ => hHeld.on hb) (fun hHeld => ?_)
      have hHeld := hHeld rfl
      clear hK K
      try simp only [Act.put, List.setIfInBounds_toArray, List.set_cons_zero, List.set_cons_succ]
      try (replace rK := Kt.row_on hb rK)
      clear hb
      refine Kt.G.two 5 10 { dst := some 43, op := Op.call { callee := Callee.value (Operand.func 23), args := #[Operand.tmp 38, Operand.tmp 39, Operand.tmp 42], argTypes := #[53, 55, 9] }, type := 56, pos := "gadget.go:41", after := #[{ on := 0, ground := Ground.data }, { on := 1, ground := Ground.data }, { on := 4, ground := Ground.data }, { on := 4, ground := Ground.chain }], guard := none } { dst := some 11, op := Op.alloc 55, type := 0, pos := "gadget.go:41", after := #[], guard := none } rfl rfl (by kernel_rfl) (by rfl) (by rfl) (fun K hK => ?_) (fun K hK => ?_)
      · go_simp
        refine (K1.out _ hHeld.bel).mono ?_; rintro en xx ⟨rfl, hb⟩
        refine hK.out _ _ (fun _ => hHeld.on hb) (fun hHeld => ?_)
        have hHeld := hHeld rfl
        clear hK K
        try simp only [Act.put, List.setIfInBounds_toArray, List.set_cons_zero, List.set_cons_succ]
        try (replace rK := Kt.row_on hb rK)
        clear hb
        refine Kt.G.takeP 6 { dst := some 37, op := Op.move (Operand.tmp 43), type := 56, pos := "gadget.go:41", after := #[{ on := 5, ground := Ground.data }], guard := none } ?_ (fun _ => hHeld) rfl (by kernel_rfl) (fun _ _ _ h => h) (by rfl) ?_ ?_
        rotate_left
        · intro wq; go_simp; try with_reducible rfl
        try simp only [Act.put, List.setIfInBounds_toArray, List.set_cons_zero, List.set_cons_succ]
        refine Kt.G.takeP 7 { dst := some 44, op := Op.extract (Operand.tmp 37) 0, type := 55, pos := "gadget.go:41", after := #[{ on := 6, ground := Ground.data }], guard := none } ?_ (fun _ => hHeld) rfl (by kernel_rfl) (fun _ _ _ h => h) (by rfl) ?_ ?_
        rotate_left
        · intro wq; go_simp; try with_reducible rfl
        try simp only [Act.put, List.setIfInBounds_toArray, List.set_cons_zero, List.set_cons_succ]
        refine Kt.G.takeP 8 { dst := some 45, op := Op.extract (Operand.tmp 37) 1, type := 9, pos := "gadget.go:41", after := #[{ on := 6, ground := Ground.data }, { on := 11, ground := Ground.gcOnly Departure.lateStores }], guard := none } ?_ (fun _ => hHeld) rfl (by kernel_rfl) (fun _ _ _ h => h) (by rfl) ?_ ?_
        rotate_left
        · intro wq; go_simp; try with_reducible rfl
        try simp only [Act.put, List.setIfInBounds_toArray, List.set_cons_zero, List.set_cons_succ]
        refine Kt.G.takeP 9 { dst := some 46, op := Op.extract (Operand.tmp 37) 2, type := 25, pos := "gadget.go:41", after := #[{ on := 6, ground := Ground.data }, { on := 12, ground := Ground.gcOnly Departure.lateStores }], guard := none } ?_ (fun _ => hHeld) rfl (by kernel_rfl) (fun _ _ _ h => h) (by rfl) ?_ ?_
        rotate_left
        · intro wq; go_simp; try with_reducible rfl
        try simp only [Act.put, List.setIfInBounds_toArray, List.set_cons_zero, List.set_cons_succ]
        refine Kt.G.one 10 { dst := some 11, op := Op.alloc 55, type := 0, pos := "gadget.go:41", after := #[], guard := none } rfl (by kernel_rfl) (by rfl) (fun K hK => ?_)
        have hkz := hHeld.bel.size
        have hkr : ∀ r ∈ ([((w.heap.size + 1), #[.int .i64 st, .int .i64 ad, .int .i64 ha], 55), (w.heap.size, (shCs s F T), 53)] : List (Nat × Array Value × TypeId)), r.1 < xx.heap.size := fun r hr => hHeld.lt hr
        go_simp
        refine hK.out _ _ (fun _ => hHeld.alloc _) (fun hHeld => ?_)
        have hHeld := hHeld rfl
        clear hK K
        try simp only [Act.put, List.setIfInBounds_toArray, List.set_cons_zero, List.set_cons_succ]
        have rK := heap_alloc_new xx (.cells #[.int .i64 0, .int .i64 0, .int .i64 0] 55)
        generalize hkK : xx.heap.size = kK at *
        clear hkK
        generalize xx.alloc (.cells #[.int .i64 0, .int .i64 0, .int .i64 0] 55) = xx at *
        refine Kt.G.one 11 { dst := none, op := Op.store 55 (Operand.tmp 11) (Operand.tmp 44), type := 0, pos := "gadget.go:41", after := #[{ on := 10, ground := Ground.data }, { on := 7, ground := Ground.data }, { on := 5, ground := Ground.chain }, { on := 0, ground := Ground.phase }, { on := 1, ground := Ground.phase }, { on := 2, ground := Ground.phase }, { on := 3, ground := Ground.phase }, { on := 4, ground := Ground.phase }, { on := 5, ground := Ground.phase }, { on := 6, ground := Ground.phase }, { on := 7, ground := Ground.phase }, { on := 8, ground := Ground.textOnly Departure.lateStores }, { on := 9, ground := Ground.textOnly Departure.lateStores }, { on := 10, ground := Ground.phase }], guard := none } rfl (by kernel_rfl) (by rfl) (fun K hK => ?_)
        have cK := fun i => cell_of_row _ _ i _ _ _ rK; have fK := fun i => frozen_of_row _ _ i _ _ rK
        go_simp
        refine hK.out _ _ (Kt.G.late (by kernel_rfl)) (fun _ => ?_)
        clear hK K
        try simp only [Act.put, List.setIfInBounds_toArray, List.set_cons_zero, List.set_cons_succ]
        refine Kt.G.takeP 12 { dst := some 12, op := Op.assign (Operand.tmp 45), type := 9, pos := "gadget.go:41", after := #[{ on := 8, ground := Ground.data }, { on := 11, ground := Ground.chain }, { on := 0, ground := Ground.phase }, { on := 1, ground := Ground.phase }, { on := 2, ground := Ground.phase }, { on := 3, ground := Ground.phase }, { on := 4, ground := Ground.phase }, { on := 5, ground := Ground.phase }, { on := 6, ground := Ground.phase }, { on := 7, ground := Ground.phase }, { on := 8, ground := Ground.phase }, { on := 9, ground := Ground.textOnly Departure.lateStores }, { on := 10, ground := Ground.phase }, { on := 11, ground := Ground.phase }], guard := none } ?_ (Kt.G.late (by kernel_rfl)) rfl (by kernel_rfl) (fun _ _ _ h => h) (by rfl) ?_ ?_
        rotate_left
        · intro wq; go_simp; try with_reducible rfl
        try simp only [Act.put, List.setIfInBounds_toArray, List.set_cons_zero, List.set_cons_succ]
        refine Kt.G.takeP 13 { dst := some 13, op := Op.assign (Operand.tmp 46), type := 25, pos := "gadget.go:41", after := #[{ on := 9, ground := Ground.data }, { on := 12, ground := Ground.chain }, { on := 0, ground := Ground.phase }, { on := 1, ground := Ground.phase }, { on := 2, ground := Ground.phase }, { on := 3, ground := Ground.phase }, { on := 4, ground := Ground.phase }, { on := 5, ground := Ground.phase }, { on := 6, ground := Ground.phase }, { on := 7, ground := Ground.phase }, { on := 8, ground := Ground.phase }, { on := 9, ground := Ground.phase }, { on := 10, ground := Ground.phase }, { on := 11, ground := Ground.phase }, { on := 12, ground := Ground.phase }], guard := none } ?_ (Kt.G.late (by kernel_rfl)) rfl (by kernel_rfl) (fun _ _ _ h => h) (by rfl) ?_ ?_
        rotate_left
        · intro wq; go_simp; try with_reducible rfl
        try simp only [Act.put, List.setIfInBounds_toArray, List.set_cons_zero, List.set_cons_succ]
        refine Kt.G.done (by kernel_rfl) (NoPanic.normal ?_) _
        clear cK fK
        go_wp2_with fail
        go_meet
        case rel => exact ⟨kK, rfl, rfl, rfl, Lib.hid ((hHeld.onB (Kt.below_setCells [.int .i64 st, .int .i64 ad, .int .i64 ha] kK 0 _ _ (Nat.le_refl _) (Below.refl _ _)) hkz hkr).add (Kt.fill [.int .i64 st, .int .i64 ad, .int .i64 ha] rK rfl))⟩
      · have hkz := hHeld.bel.size
        have hkr : ∀ r ∈ ([((w.heap.size + 1), #[.int .i64 st, .int .i64 ad, .int .i64 ha], 55), (w.heap.size, (shCs s F T), 53)] : List (Nat × Array Value × TypeId)), r.1 < xx.heap.size := fun r hr => hHeld.lt hr
        go_simp
        refine hK.out _ _ (fun _ => hHeld.alloc _) (fun hHeld => ?_)
        have hHeld := hHeld rfl
        clear hK K
        try simp only [Act.put, List.setIfInBounds_toArray, List.set_cons_zero, List.set_cons_succ]
        have rK := heap_alloc_new xx (.cells #[.int .i64 0, .int .i64 0, .int .i64 0] 55)
        generalize hkK : xx.heap.size = kK at *
        clear hkK
        generalize xx.alloc (.cells #[.int .i64 0, .int .i64 0, .int .i64 0] 55) = xx at *
        refine Kt.G.one 5 { dst := some 43, op := Op.call { callee := Callee.value (Operand.func 23), args := #[Operand.tmp 38, Operand.tmp 39, Operand.tmp 42], argTypes := #[53, 55, 9] }, type := 56, pos := "gadget.go:41", after := #[{ on := 0, ground := Ground.data }, { on := 1, ground := Ground.data }, { on := 4, ground := Ground.data }, { on := 4, ground := Ground.chain }], guard := none } rfl (by kernel_rfl) (by rfl) (fun K hK => ?_)
        go_simp
        refine (K1.out _ hHeld.bel).mono ?_; rintro en xx ⟨rfl, hb⟩
        refine hK.out _ _ (fun _ => hHeld.on hb) (fun hHeld => ?_)
        have hHeld := hHeld rfl
        clear hK K
        try simp only [Act.put, List.setIfInBounds_toArray, List.set_cons_zero, List.set_cons_succ]
        try (replace rK := Kt.row_on hb rK)
        clear hb
        refine Kt.G.takeP 6 { dst := some 37, op := Op.move (Operand.tmp 43), type := 56, pos := "gadget.go:41", after := #[{ on := 5, ground := Ground.data }], guard := none } ?_ (fun _ => hHeld) rfl (by kernel_rfl) (fun _ _ _ h => h) (by rfl) ?_ ?_
        rotate_left
        · intro wq; go_simp; try with_reducible rfl
        try simp only [Act.put, List.setIfInBounds_toArray, List.set_cons_zero, List.set_cons_succ]
        refine Kt.G.takeP 7 { dst := some 44, op := Op.extract (Operand.tmp 37) 0, type := 55, pos := "gadget.go:41", after := #[{ on := 6, ground := Ground.data }], guard := none } ?_ (fun _ => hHeld) rfl (by kernel_rfl) (fun _ _ _ h => h) (by rfl) ?_ ?_
        rotate_left
        · intro wq; go_simp; try with_reducible rfl
        try simp only [Act.put, List.setIfInBounds_toArray, List.set_cons_zero, List.set_cons_succ]
        refine Kt.G.takeP 8 { dst := some 45, op := Op.extract (Operand.tmp 37) 1, type := 9, pos := "gadget.go:41", after := #[{ on := 6, ground := Ground.data }, { on := 11, ground := Ground.gcOnly Departure.lateStores }], guard := none } ?_ (fun _ => hHeld) rfl (by kernel_rfl) (fun _ _ _ h => h) (by rfl) ?_ ?_
        rotate_left
        · intro wq; go_simp; try with_reducible rfl
        try simp only [Act.put, List.setIfInBounds_toArray, List.set_cons_zero, List.set_cons_succ]
        refine Kt.G.takeP 9 { dst := some 46, op := Op.extract (Operand.tmp 37) 2, type := 25, pos := "gadget.go:41", after := #[{ on := 6, ground := Ground.data }, { on := 12, ground := Ground.gcOnly Departure.lateStores }], guard := none } ?_ (fun _ => hHeld) rfl (by kernel_rfl) (fun _ _ _ h => h) (by rfl) ?_ ?_
        rotate_left
        · intro wq; go_simp; try with_reducible rfl
        try simp only [Act.put, List.setIfInBounds_toArray, List.set_cons_zero, List.set_cons_succ]
        refine Kt.G.one 11 { dst := none, op := Op.store 55 (Operand.tmp 11) (Operand.tmp 44), type := 0, pos := "gadget.go:41", after := #[{ on := 10, ground := Ground.data }, { on := 7, ground := Ground.data }, { on := 5, ground := Ground.chain }, { on := 0, ground := Ground.phase }, { on := 1, ground := Ground.phase }, { on := 2, ground := Ground.phase }, { on := 3, ground := Ground.phase }, { on := 4, ground := Ground.phase }, { on := 5, ground := Ground.phase }, { on := 6, ground := Ground.phase }, { on := 7, ground := Ground.phase }, { on := 8, ground := Ground.textOnly Departure.lateStores }, { on := 9, ground := Ground.textOnly Departure.lateStores }, { on := 10, ground := Ground.phase }], guard := none } rfl (by kernel_rfl) (by rfl) (fun K hK => ?_)
        have cK := fun i => cell_of_row _ _ i _ _ _ rK; have fK := fun i => frozen_of_row _ _ i _ _ rK
        go_simp
        refine hK.out _ _ (Kt.G.late (by kernel_rfl)) (fun _ => ?_)
        clear hK K
        try simp only [Act.put, List.setIfInBounds_toArray, List.set_cons_zero, List.set_cons_succ]
        refine Kt.G.takeP 12 { dst := some 12, op := Op.assign (Operand.tmp 45), type := 9, pos := "gadget.go:41", after := #[{ on := 8, ground := Ground.data }, { on := 11, ground := Ground.chain }, { on := 0, ground := Ground.phase }, { on := 1, ground := Ground.phase }, { on := 2, ground := Ground.phase }, { on := 3, ground := Ground.phase }, { on := 4, ground := Ground.phase }, { on := 5, ground := Ground.phase }, { on := 6, ground := Ground.phase }, { on := 7, ground := Ground.phase }, { on := 8, ground := Ground.phase }, { on := 9, ground := Ground.textOnly Departure.lateStores }, { on := 10, ground := Ground.phase }, { on := 11, ground := Ground.phase }], guard := none } ?_ (Kt.G.late (by kernel_rfl)) rfl (by kernel_rfl) (fun _ _ _ h => h) (by rfl) ?_ ?_
        rotate_left
        · intro wq; go_simp; try with_reducible rfl
        try simp only [Act.put, List.setIfInBounds_toArray, List.set_cons_zero, List.set_cons_succ]
        refine Kt.G.takeP 13 { dst := some 13, op := Op.assign (Operand.tmp 46), type := 25, pos := "gadget.go:41", after := #[{ on := 9, ground := Ground.data }, { on := 12, ground := Ground.chain }, { on := 0, ground := Ground.phase }, { on := 1, ground := Ground.phase }, { on := 2, ground := Ground.phase }, { on := 3, ground := Ground.phase }, { on := 4, ground := Ground.phase }, { on := 5, ground := Ground.phase }, { on := 6, ground := Ground.phase }, { on := 7, ground := Ground.phase }, { on := 8, ground := Ground.phase }, { on := 9, ground := Ground.phase }, { on := 10, ground := Ground.phase }, { on := 11, ground := Ground.phase }, { on := 12, ground := Ground.phase }], guard := none } ?_ (Kt.G.late (by kernel_rfl)) rfl (by kernel_rfl) (fun _ _ _ h => h) (by rfl) ?_ ?_
        rotate_left
        · intro wq; go_simp; try with_reducible rfl
        try simp only [Act.put, List.setIfInBounds_toArray, List.set_cons_zero, List.set_cons_succ]
        refine Kt.G.done (by kernel_rfl) (NoPanic.normal ?_) _
        clear cK fK
        go_wp2_with fail
        go_meet
        case rel => exact ⟨kK, rfl, rfl, rfl, Lib.hid ((hHeld.onB (Kt.below_setCells [.int .i64 st, .int .i64 ad, .int .i64 ha] kK 0 _ _ (Nat.le_refl _) (Below.refl _ _)) hkz hkr).add (Kt.fill [.int .i64 st, .int .i64 ad, .int .i64 ha] rK rfl))⟩
    · have hkz := hHeld.bel.size
      have hkr : ∀ r ∈ ([((w.heap.size + 1), #[.int .i64 st, .int .i64 ad, .int .i64 ha], 55), (w.heap.size, (shCs s F T), 53)] : List (Nat × Array Value × TypeId)), r.1 < xx.heap.size := fun r hr => hHeld.lt hr
      go_simp
      refine hK.out _ _ (fun _ => hHeld.alloc _) (fun hHeld => ?_)
      have hHeld := hHeld rfl
      clear hK K
      try simp only [Act.put, List.setIfInBounds_toArray, List.set_cons_zero, List.set_cons_succ]
      have rK := heap_alloc_new xx (.cells #[.int .i64 0, .int .i64 0, .int .i64 0] 55)
      generalize hkK : xx.heap.size = kK at *
      clear hkK
      generalize xx.alloc (.cells #[.int .i64 0, .int .i64 0, .int .i64 0] 55) = xx at *
      refine Kt.G.one 4 { dst := some 42, op := Op.call { callee := Callee.value (Operand.func 28), args := #[Operand.const (Value.int IntKind.i64 5), Operand.tmp 40, Operand.const (Value.int IntKind.i64 0), Operand.tmp 41], argTypes := #[3, 3, 3, 3] }, type := 9, pos := "gadget.go:41", after := #[{ on := 2, ground := Ground.data }, { on := 3, ground := Ground.data }], guard := none } rfl (by kernel_rfl) (by rfl) (fun K hK => ?_)
      go_simp
      refine (HA1.out _).mono ?_; rintro en xx ⟨rfl, hb⟩
      refine hK.out _ _ (fun _ => hHeld.on hb) (fun hHeld => ?_)
      have hHeld := hHeld rfl
      clear hK K
      try simp only [Act.put, List.setIfInBounds_toArray, List.set_cons_zero, List.set_cons_succ]
      try (replace rK := Kt.row_on hb rK)
      clear hb
      refine Kt.G.one 5 { dst := some 43, op := Op.call { callee := Callee.value (Operand.func 23), args := #[Operand.tmp 38, Operand.tmp 39, Operand.tmp 42], argTypes := #[53, 55, 9] }, type := 56, pos := "gadget.go:41", after := #[{ on := 0, ground := Ground.data }, { on := 1, ground := Ground.data }, { on := 4, ground := Ground.data }, { on := 4, ground := Ground.chain }], guard := none } rfl (by kernel_rfl) (by rfl) (fun K hK => ?_)
      go_simp
      refine (K1.out _ hHeld.bel).mono ?_; rintro en xx ⟨rfl, hb⟩
      refine hK.out _ _ (fun _ => hHeld.on hb) (fun hHeld => ?_)
      have hHeld := hHeld rfl
      clear hK K
      try simp only [Act.put, List.setIfInBounds_toArray, List.set_cons_zero, List.set_cons_succ]
      try (replace rK := Kt.row_on hb rK)
      clear hb
      refine Kt.G.takeP 6 { dst := some 37, op := Op.move (Operand.tmp 43), type := 56, pos := "gadget.go:41", after := #[{ on := 5, ground := Ground.data }], guard := none } ?_ (fun _ => hHeld) rfl (by kernel_rfl) (fun _ _ _ h => h) (by rfl) ?_ ?_
      rotate_left
      · intro wq; go_simp; try with_reducible rfl
      try simp only [Act.put, List.setIfInBounds_toArray, List.set_cons_zero, List.set_cons_succ]
      refine Kt.G.takeP 7 { dst := some 44, op := Op.extract (Operand.tmp 37) 0, type := 55, pos := "gadget.go:41", after := #[{ on := 6, ground := Ground.data }], guard := none } ?_ (fun _ => hHeld) rfl (by kernel_rfl) (fun _ _ _ h => h) (by rfl) ?_ ?_
      rotate_left
      · intro wq; go_simp; try with_reducible rfl
      try simp only [Act.put, List.setIfInBounds_toArray, List.set_cons_zero, List.set_cons_succ]
      refine Kt.G.takeP 8 { dst := some 45, op := Op.extract (Operand.tmp 37) 1, type := 9, pos := "gadget.go:41", after := #[{ on := 6, ground := Ground.data }, { on := 11, ground := Ground.gcOnly Departure.lateStores }], guard := none } ?_ (fun _ => hHeld) rfl (by kernel_rfl) (fun _ _ _ h => h) (by rfl) ?_ ?_
      rotate_left
      · intro wq; go_simp; try with_reducible rfl
      try simp only [Act.put, List.setIfInBounds_toArray, List.set_cons_zero, List.set_cons_succ]
      refine Kt.G.takeP 9 { dst := some 46, op := Op.extract (Operand.tmp 37) 2, type := 25, pos := "gadget.go:41", after := #[{ on := 6, ground := Ground.data }, { on := 12, ground := Ground.gcOnly Departure.lateStores }], guard := none } ?_ (fun _ => hHeld) rfl (by kernel_rfl) (fun _ _ _ h => h) (by rfl) ?_ ?_
      rotate_left
      · intro wq; go_simp; try with_reducible rfl
      try simp only [Act.put, List.setIfInBounds_toArray, List.set_cons_zero, List.set_cons_succ]
      refine Kt.G.one 11 { dst := none, op := Op.store 55 (Operand.tmp 11) (Operand.tmp 44), type := 0, pos := "gadget.go:41", after := #[{ on := 10, ground := Ground.data }, { on := 7, ground := Ground.data }, { on := 5, ground := Ground.chain }, { on := 0, ground := Ground.phase }, { on := 1, ground := Ground.phase }, { on := 2, ground := Ground.phase }, { on := 3, ground := Ground.phase }, { on := 4, ground := Ground.phase }, { on := 5, ground := Ground.phase }, { on := 6, ground := Ground.phase }, { on := 7, ground := Ground.phase }, { on := 8, ground := Ground.textOnly Departure.lateStores }, { on := 9, ground := Ground.textOnly Departure.lateStores }, { on := 10, ground := Ground.phase }], guard := none } rfl (by kernel_rfl) (by rfl) (fun K hK => ?_)
      have cK := fun i => cell_of_row _ _ i _ _ _ rK; have fK := fun i => frozen_of_row _ _ i _ _ rK
      go_simp
      refine hK.out _ _ (Kt.G.late (by kernel_rfl)) (fun _ => ?_)
      clear hK K
      try simp only [Act.put, List.setIfInBounds_toArray, List.set_cons_zero, List.set_cons_succ]
      refine Kt.G.takeP 12 { dst := some 12, op := Op.assign (Operand.tmp 45), type := 9, pos := "gadget.go:41", after := #[{ on := 8, ground := Ground.data }, { on := 11, ground := Ground.chain }, { on := 0, ground := Ground.phase }, { on := 1, ground := Ground.phase }, { on := 2, ground := Ground.phase }, { on := 3, ground := Ground.phase }, { on := 4, ground := Ground.phase }, { on := 5, ground := Ground.phase }, { on := 6, ground := Ground.phase }, { on := 7, ground := Ground.phase }, { on := 8, ground := Ground.phase }, { on := 9, ground := Ground.textOnly Departure.lateStores }, { on := 10, ground := Ground.phase }, { on := 11, ground := Ground.phase }], guard := none } ?_ (Kt.G.late (by kernel_rfl)) rfl (by kernel_rfl) (fun _ _ _ h => h) (by rfl) ?_ ?_
      rotate_left
      · intro wq; go_simp; try with_reducible rfl
      try simp only [Act.put, List.setIfInBounds_toArray, List.set_cons_zero, List.set_cons_succ]
      refine Kt.G.takeP 13 { dst := some 13, op := Op.assign (Operand.tmp 46), type := 25, pos := "gadget.go:41", after := #[{ on := 9, ground := Ground.data }, { on := 12, ground := Ground.chain }, { on := 0, ground := Ground.phase }, { on := 1, ground := Ground.phase }, { on := 2, ground := Ground.phase }, { on := 3, ground := Ground.phase }, { on := 4, ground := Ground.phase }, { on := 5, ground := Ground.phase }, { on := 6, ground := Ground.phase }, { on := 7, ground := Ground.phase }, { on := 8, ground := Ground.phase }, { on := 9, ground := Ground.phase }, { on := 10, ground := Ground.phase }, { on := 11, ground := Ground.phase }, { on := 12, ground := Ground.phase }], guard := none } ?_ (Kt.G.late (by kernel_rfl)) rfl (by kernel_rfl) (fun _ _ _ h => h) (by rfl) ?_ ?_
      rotate_left
      · intro wq; go_simp; try with_reducible rfl
      try simp only [Act.put, List.setIfInBounds_toArray, List.set_cons_zero, List.set_cons_succ]
      refine Kt.G.done (by kernel_rfl) (NoPanic.normal ?_) _
      clear cK fK
      go_wp2_with fail
      go_meet
      case rel => exact ⟨kK, rfl, rfl, rfl, Lib.hid ((hHeld.onB (Kt.below_setCells [.int .i64 st, .int .i64 ad, .int .i64 ha] kK 0 _ _ (Nat.le_refl _) (Below.refl _ _)) hkz hkr).add (Kt.fill [.int .i64 st, .int .i64 ad, .int .i64 ha] rK rfl))⟩
  case rest =>
    obtain ⟨k_a, rfl, rfl, rfl, HF1⟩ := hcut
    clear HF0
    go_upto_region 4 with (fail)
    go_cut [14, 15, 16] from 47 to 56 (fun p x y wx2 => ∃ kZ, p = .pointer (some ⟨kZ, 0, none⟩) ∧ x = .string (bs' B) ∧ y = .int .i64 c ∧ Hid (Kt.Fb w ((kZ, #[.int .i64 st, .int .i64 ad, .int .i64 ha], 55) :: [(k_a, #[.int .i64 st, .int .i64 ad, .int .i64 ha], 55), ((w.heap.size + 1), #[.int .i64 st, .int .i64 ad, .int .i64 ha], 55), (w.heap.size, (shCs s F T), 53)]) wx2))
    case first =>
      refine Kt.G.start 11 (Kt.Fb w [(k_a, #[.int .i64 st, .int .i64 ad, .int .i64 ha], 55), ((w.heap.size + 1), #[.int .i64 st, .int .i64 ad, .int .i64 ha], 55), (w.heap.size, (shCs s F T), 53)]) (by kernel_rfl) HF1.out.drew (fun hHeld => ?_)
      generalize wc.drew = xx at *
      refine Kt.G.load_row 0 { dst := some 48, op := Op.load 53 (Operand.tmp 5), type := 53, pos := "gadget.go:42", after := #[], guard := none } 53 (Operand.tmp 5) w.heap.size 53 (shCs s F T) _ hHeld rfl (by kernel_rfl) (fun _ _ _ h => h) (by rfl) rfl rfl (fun _ h => h.row _ (List.Mem.tail _ (List.Mem.tail _ (List.Mem.head _)))) Try.underlying53 rfl (by kernel_rfl) ?_
      try simp only [Act.put, List.setIfInBounds_toArray, List.set_cons_zero, List.set_cons_succ]
      refine Kt.G.load_row 1 { dst := some 49, op := Op.load 55 (Operand.tmp 6), type := 55, pos := "gadget.go:42", after := #[], guard := none } 55 (Operand.tmp 6) (w.heap.size + 1) 55 #[.int .i64 st, .int .i64 ad, .int .i64 ha] _ hHeld rfl (by kernel_rfl) (fun _ _ _ h => h) (by rfl) rfl rfl (fun _ h => h.row _ (List.Mem.tail _ (List.Mem.head _))) Try.underlying55 rfl (by kernel_rfl) ?_
      try simp only [Act.put, List.setIfInBounds_toArray, List.set_cons_zero, List.set_cons_succ]
      refine Kt.G.takeP 2 { dst := some 50, op := Op.move (Operand.tmp 2), type := 3, pos := "gadget.go:42", after := #[], guard := none } ?_ (fun _ => hHeld) rfl (by kernel_rfl) (fun _ _ _ h => h) (by rfl) ?_ ?_
      rotate_left
      · intro wq; go_simp; try with_reducible rfl
      try simp only [Act.put, List.setIfInBounds_toArray, List.set_cons_zero, List.set_cons_succ]
      refine Kt.G.takeP 3 { dst := some 51, op := Op.move (Operand.tmp 4), type := 3, pos := "gadget.go:42", after := #[], guard := none } ?_ (fun _ => hHeld) rfl (by kernel_rfl) (fun _ _ _ h => h) (by rfl) ?_ ?_
      rotate_left
      · intro wq; go_simp; try with_reducible rfl
      try simp only [Act.put, List.setIfInBounds_toArray, List.set_cons_zero, List.set_cons_succ]
      refine Kt.G.two 4 10 { dst := some 52, op := Op.call { callee := Callee.value (Operand.func 28), args := #[Operand.const (Value.int IntKind.i64 5), Operand.tmp 50, Operand.const (Value.int IntKind.i64 9), Operand.tmp 51], argTypes := #[3, 3, 3, 3] }, type := 9, pos := "gadget.go:42", after := #[{ on := 2, ground := Ground.data }, { on := 3, ground := Ground.data }], guard := none } { dst := some 14, op := Op.alloc 55, type := 0, pos := "gadget.go:42", after := #[], guard := none } rfl rfl (by kernel_rfl) (by rfl) (by rfl) (fun K hK => ?_) (fun K hK => ?_)
      · go_simp
        refine (HA2.out _).mono ?_; rintro en xx ⟨rfl, hb⟩
        refine hK.out _ _ (fun _ => hHeld.on hb) (fun hHeld => ?_)
        have hHeld := hHeld rfl
        clear hK K
        try simp only [Act.put, List.setIfInBounds_toArray, List.set_cons_zero, List.set_cons_succ]
        try (replace rK := Kt.row_on hb rK)
        clear hb
        refine Kt.G.two 5 10 { dst := some 53, op := Op.call { callee := Callee.value (Operand.func 23), args := #[Operand.tmp 48, Operand.tmp 49, Operand.tmp 52], argTypes := #[53, 55, 9] }, type := 56, pos := "gadget.go:42", after := #[{ on := 0, ground := Ground.data }, { on := 1, ground := Ground.data }, { on := 4, ground := Ground.data }, { on := 4, ground := Ground.chain }], guard := none } { dst := some 14, op := Op.alloc 55, type := 0, pos := "gadget.go:42", after := #[], guard := none } rfl rfl (by kernel_rfl) (by rfl) (by rfl) (fun K hK => ?_) (fun K hK => ?_)
        · go_simp
          refine (K2.out _ hHeld.bel).mono ?_; rintro en xx ⟨rfl, hb⟩
          refine hK.out _ _ (fun _ => hHeld.on hb) (fun hHeld => ?_)
          have hHeld := hHeld rfl
          clear hK K
          try simp only [Act.put, List.setIfInBounds_toArray, List.set_cons_zero, List.set_cons_succ]
          try (replace rK := Kt.row_on hb rK)
          clear hb
          refine Kt.G.takeP 6 { dst := some 47, op := Op.move (Operand.tmp 53), type := 56, pos := "gadget.go:42", after := #[{ on := 5, ground := Ground.data }], guard := none } ?_ (fun _ => hHeld) rfl (by kernel_rfl) (fun _ _ _ h => h) (by rfl) ?_ ?_
          rotate_left
          · intro wq; go_simp; try with_reducible rfl
          try simp only [Act.put, List.setIfInBounds_toArray, List.set_cons_zero, List.set_cons_succ]
          refine Kt.G.takeP 7 { dst := some 54, op := Op.extract (Operand.tmp 47) 0, type := 55, pos := "gadget.go:42", after := #[{ on := 6, ground := Ground.data }], guard := none } ?_ (fun _ => hHeld) rfl (by kernel_rfl) (fun _ _ _ h => h) (by rfl) ?_ ?_
          rotate_left
          · intro wq; go_simp; try with_reducible rfl
          try simp only [Act.put, List.setIfInBounds_toArray, List.set_cons_zero, List.set_cons_succ]
          refine Kt.G.takeP 8 { dst := some 55, op := Op.extract (Operand.tmp 47) 1, type := 9, pos := "gadget.go:42", after := #[{ on := 6, ground := Ground.data }, { on := 11, ground := Ground.gcOnly Departure.lateStores }], guard := none } ?_ (fun _ => hHeld) rfl (by kernel_rfl) (fun _ _ _ h => h) (by rfl) ?_ ?_
          rotate_left
          · intro wq; go_simp; try with_reducible rfl
          try simp only [Act.put, List.setIfInBounds_toArray, List.set_cons_zero, List.set_cons_succ]
          refine Kt.G.takeP 9 { dst := some 56, op := Op.extract (Operand.tmp 47) 2, type := 25, pos := "gadget.go:42", after := #[{ on := 6, ground := Ground.data }, { on := 12, ground := Ground.gcOnly Departure.lateStores }], guard := none } ?_ (fun _ => hHeld) rfl (by kernel_rfl) (fun _ _ _ h => h) (by rfl) ?_ ?_
          rotate_left
          · intro wq; go_simp; try with_reducible rfl
          try simp only [Act.put, List.setIfInBounds_toArray, List.set_cons_zero, List.set_cons_succ]
          refine Kt.G.one 10 { dst := some 14, op := Op.alloc 55, type := 0, pos := "gadget.go:42", after := #[], guard := none } rfl (by kernel_rfl) (by rfl) (fun K hK => ?_)
          have hkz := hHeld.bel.size
          have hkr : ∀ r ∈ ([(k_a, #[.int .i64 st, .int .i64 ad, .int .i64 ha], 55), ((w.heap.size + 1), #[.int .i64 st, .int .i64 ad, .int .i64 ha], 55), (w.heap.size, (shCs s F T), 53)] : List (Nat × Array Value × TypeId)), r.1 < xx.heap.size := fun r hr => hHeld.lt hr
          go_simp
          refine hK.out _ _ (fun _ => hHeld.alloc _) (fun hHeld => ?_)
          have hHeld := hHeld rfl
          clear hK K
          try simp only [Act.put, List.setIfInBounds_toArray, List.set_cons_zero, List.set_cons_succ]
          have rK := heap_alloc_new xx (.cells #[.int .i64 0, .int .i64 0, .int .i64 0] 55)
          generalize hkK : xx.heap.size = kK at *
          clear hkK
          generalize xx.alloc (.cells #[.int .i64 0, .int .i64 0, .int .i64 0] 55) = xx at *
          refine Kt.G.one 11 { dst := none, op := Op.store 55 (Operand.tmp 14) (Operand.tmp 54), type := 0, pos := "gadget.go:42", after := #[{ on := 10, ground := Ground.data }, { on := 7, ground := Ground.data }, { on := 5, ground := Ground.chain }, { on := 0, ground := Ground.phase }, { on := 1, ground := Ground.phase }, { on := 2, ground := Ground.phase }, { on := 3, ground := Ground.phase }, { on := 4, ground := Ground.phase }, { on := 5, ground := Ground.phase }, { on := 6, ground := Ground.phase }, { on := 7, ground := Ground.phase }, { on := 8, ground := Ground.textOnly Departure.lateStores }, { on := 9, ground := Ground.textOnly Departure.lateStores }, { on := 10, ground := Ground.phase }], guard := none } rfl (by kernel_rfl) (by rfl) (fun K hK => ?_)
          have cK := fun i => cell_of_row _ _ i _ _ _ rK; have fK := fun i => frozen_of_row _ _ i _ _ rK
          go_simp
          refine hK.out _ _ (Kt.G.late (by kernel_rfl)) (fun _ => ?_)
          clear hK K
          try simp only [Act.put, List.setIfInBounds_toArray, List.set_cons_zero, List.set_cons_succ]
          refine Kt.G.takeP 12 { dst := some 15, op := Op.assign (Operand.tmp 55), type := 9, pos := "gadget.go:42", after := #[{ on := 8, ground := Ground.data }, { on := 11, ground := Ground.chain }, { on := 0, ground := Ground.phase }, { on := 1, ground := Ground.phase }, { on := 2, ground := Ground.phase }, { on := 3, ground := Ground.phase }, { on := 4, ground := Ground.phase }, { on := 5, ground := Ground.phase }, { on := 6, ground := Ground.phase }, { on := 7, ground := Ground.phase }, { on := 8, ground := Ground.phase }, { on := 9, ground := Ground.textOnly Departure.lateStores }, { on := 10, ground := Ground.phase }, { on := 11, ground := Ground.phase }], guard := none } ?_ (Kt.G.late (by kernel_rfl)) rfl (by kernel_rfl) (fun _ _ _ h => h) (by rfl) ?_ ?_
          rotate_left
          · intro wq; go_simp; try with_reducible rfl
          try simp only [Act.put, List.setIfInBounds_toArray, List.set_cons_zero, List.set_cons_succ]
          refine Kt.G.takeP 13 { dst := some 16, op := Op.assign (Operand.tmp 56), type := 25, pos := "gadget.go:42", after := #[{ on := 9, ground := Ground.data }, { on := 12, ground := Ground.chain }, { on := 0, ground := Ground.phase }, { on := 1, ground := Ground.phase }, { on := 2, ground := Ground.phase }, { on := 3, ground := Ground.phase }, { on := 4, ground := Ground.phase }, { on := 5, ground := Ground.phase }, { on := 6, ground := Ground.phase }, { on := 7, ground := Ground.phase }, { on := 8, ground := Ground.phase }, { on := 9, ground := Ground.phase }, { on := 10, ground := Ground.phase }, { on := 11, ground := Ground.phase }, { on := 12, ground := Ground.phase }], guard := none } ?_ (Kt.G.late (by kernel_rfl)) rfl (by kernel_rfl) (fun _ _ _ h => h) (by rfl) ?_ ?_
          rotate_left
          · intro wq; go_simp; try with_reducible rfl
          try simp only [Act.put, List.setIfInBounds_toArray, List.set_cons_zero, List.set_cons_succ]
          refine Kt.G.done (by kernel_rfl) (NoPanic.normal ?_) _
          clear cK fK
          go_wp2_with fail
          go_meet
          case rel => exact ⟨kK, rfl, rfl, rfl, Lib.hid ((hHeld.onB (Kt.below_setCells [.int .i64 st, .int .i64 ad, .int .i64 ha] kK 0 _ _ (Nat.le_refl _) (Below.refl _ _)) hkz hkr).add (Kt.fill [.int .i64 st, .int .i64 ad, .int .i64 ha] rK rfl))⟩
        · have hkz := hHeld.bel.size
          have hkr : ∀ r ∈ ([(k_a, #[.int .i64 st, .int .i64 ad, .int .i64 ha], 55), ((w.heap.size + 1), #[.int .i64 st, .int .i64 ad, .int .i64 ha], 55), (w.heap.size, (shCs s F T), 53)] : List (Nat × Array Value × TypeId)), r.1 < xx.heap.size := fun r hr => hHeld.lt hr
          go_simp
          refine hK.out _ _ (fun _ => hHeld.alloc _) (fun hHeld => ?_)
          have hHeld := hHeld rfl
          clear hK K
          try simp only [Act.put, List.setIfInBounds_toArray, List.set_cons_zero, List.set_cons_succ]
          have rK := heap_alloc_new xx (.cells #[.int .i64 0, .int .i64 0, .int .i64 0] 55)
          generalize hkK : xx.heap.size = kK at *
          clear hkK
          generalize xx.alloc (.cells #[.int .i64 0, .int .i64 0, .int .i64 0] 55) = xx at *
          refine Kt.G.one 5 { dst := some 53, op := Op.call { callee := Callee.value (Operand.func 23), args := #[Operand.tmp 48, Operand.tmp 49, Operand.tmp 52], argTypes := #[53, 55, 9] }, type := 56, pos := "gadget.go:42", after := #[{ on := 0, ground := Ground.data }, { on := 1, ground := Ground.data }, { on := 4, ground := Ground.data }, { on := 4, ground := Ground.chain }], guard := none } rfl (by kernel_rfl) (by rfl) (fun K hK => ?_)
          go_simp
          refine (K2.out _ hHeld.bel).mono ?_; rintro en xx ⟨rfl, hb⟩
          refine hK.out _ _ (fun _ => hHeld.on hb) (fun hHeld => ?_)
          have hHeld := hHeld rfl
          clear hK K
          try simp only [Act.put, List.setIfInBounds_toArray, List.set_cons_zero, List.set_cons_succ]
          try (replace rK := Kt.row_on hb rK)
          clear hb
          refine Kt.G.takeP 6 { dst := some 47, op := Op.move (Operand.tmp 53), type := 56, pos := "gadget.go:42", after := #[{ on := 5, ground := Ground.data }], guard := none } ?_ (fun _ => hHeld) rfl (by kernel_rfl) (fun _ _ _ h => h) (by rfl) ?_ ?_
          rotate_left
          · intro wq; go_simp; try with_reducible rfl
          try simp only [Act.put, List.setIfInBounds_toArray, List.set_cons_zero, List.set_cons_succ]
          refine Kt.G.takeP 7 { dst := some 54, op := Op.extract (Operand.tmp 47) 0, type := 55, pos := "gadget.go:42", after := #[{ on := 6, ground := Ground.data }], guard := none } ?_ (fun _ => hHeld) rfl (by kernel_rfl) (fun _ _ _ h => h) (by rfl) ?_ ?_
          rotate_left
          · intro wq; go_simp; try with_reducible rfl
          try simp only [Act.put, List.setIfInBounds_toArray, List.set_cons_zero, List.set_cons_succ]
          refine Kt.G.takeP 8 { dst := some 55, op := Op.extract (Operand.tmp 47) 1, type := 9, pos := "gadget.go:42", after := #[{ on := 6, ground := Ground.data }, { on := 11, ground := Ground.gcOnly Departure.lateStores }], guard := none } ?_ (fun _ => hHeld) rfl (by kernel_rfl) (fun _ _ _ h => h) (by rfl) ?_ ?_
          rotate_left
          · intro wq; go_simp; try with_reducible rfl
          try simp only [Act.put, List.setIfInBounds_toArray, List.set_cons_zero, List.set_cons_succ]
          refine Kt.G.takeP 9 { dst := some 56, op := Op.extract (Operand.tmp 47) 2, type := 25, pos := "gadget.go:42", after := #[{ on := 6, ground := Ground.data }, { on := 12, ground := Ground.gcOnly Departure.lateStores }], guard := none } ?_ (fun _ => hHeld) rfl (by kernel_rfl) (fun _ _ _ h => h) (by rfl) ?_ ?_
          rotate_left
          · intro wq; go_simp; try with_reducible rfl
          try simp only [Act.put, List.setIfInBounds_toArray, List.set_cons_zero, List.set_cons_succ]
          refine Kt.G.one 11 { dst := none, op := Op.store 55 (Operand.tmp 14) (Operand.tmp 54), type := 0, pos := "gadget.go:42", after := #[{ on := 10, ground := Ground.data }, { on := 7, ground := Ground.data }, { on := 5, ground := Ground.chain }, { on := 0, ground := Ground.phase }, { on := 1, ground := Ground.phase }, { on := 2, ground := Ground.phase }, { on := 3, ground := Ground.phase }, { on := 4, ground := Ground.phase }, { on := 5, ground := Ground.phase }, { on := 6, ground := Ground.phase }, { on := 7, ground := Ground.phase }, { on := 8, ground := Ground.textOnly Departure.lateStores }, { on := 9, ground := Ground.textOnly Departure.lateStores }, { on := 10, ground := Ground.phase }], guard := none } rfl (by kernel_rfl) (by rfl) (fun K hK => ?_)
          have cK := fun i => cell_of_row _ _ i _ _ _ rK; have fK := fun i => frozen_of_row _ _ i _ _ rK
          go_simp
          refine hK.out _ _ (Kt.G.late (by kernel_rfl)) (fun _ => ?_)
          clear hK K
          try simp only [Act.put, List.setIfInBounds_toArray, List.set_cons_zero, List.set_cons_succ]
          refine Kt.G.takeP 12 { dst := some 15, op := Op.assign (Operand.tmp 55), type := 9, pos := "gadget.go:42", after := #[{ on := 8, ground := Ground.data }, { on := 11, ground := Ground.chain }, { on := 0, ground := Ground.phase }, { on := 1, ground := Ground.phase }, { on := 2, ground := Ground.phase }, { on := 3, ground := Ground.phase }, { on := 4, ground := Ground.phase }, { on := 5, ground := Ground.phase }, { on := 6, ground := Ground.phase }, { on := 7, ground := Ground.phase }, { on := 8, ground := Ground.phase }, { on := 9, ground := Ground.textOnly Departure.lateStores }, { on := 10, ground := Ground.phase }, { on := 11, ground := Ground.phase }], guard := none } ?_ (Kt.G.late (by kernel_rfl)) rfl (by kernel_rfl) (fun _ _ _ h => h) (by rfl) ?_ ?_
          rotate_left
          · intro wq; go_simp; try with_reducible rfl
          try simp only [Act.put, List.setIfInBounds_toArray, List.set_cons_zero, List.set_cons_succ]
          refine Kt.G.takeP 13 { dst := some 16, op := Op.assign (Operand.tmp 56), type := 25, pos := "gadget.go:42", after := #[{ on := 9, ground := Ground.data }, { on := 12, ground := Ground.chain }, { on := 0, ground := Ground.phase }, { on := 1, ground := Ground.phase }, { on := 2, ground := Ground.phase }, { on := 3, ground := Ground.phase }, { on := 4, ground := Ground.phase }, { on := 5, ground := Ground.phase }, { on := 6, ground := Ground.phase }, { on := 7, ground := Ground.phase }, { on := 8, ground := Ground.phase }, { on := 9, ground := Ground.phase }, { on := 10, ground := Ground.phase }, { on := 11, ground := Ground.phase }, { on := 12, ground := Ground.phase }], guard := none } ?_ (Kt.G.late (by kernel_rfl)) rfl (by kernel_rfl) (fun _ _ _ h => h) (by rfl) ?_ ?_
          rotate_left
          · intro wq; go_simp; try with_reducible rfl
          try simp only [Act.put, List.setIfInBounds_toArray, List.set_cons_zero, List.set_cons_succ]
          refine Kt.G.done (by kernel_rfl) (NoPanic.normal ?_) _
          clear cK fK
          go_wp2_with fail
          go_meet
          case rel => exact ⟨kK, rfl, rfl, rfl, Lib.hid ((hHeld.onB (Kt.below_setCells [.int .i64 st, .int .i64 ad, .int .i64 ha] kK 0 _ _ (Nat.le_refl _) (Below.refl _ _)) hkz hkr).add (Kt.fill [.int .i64 st, .int .i64 ad, .int .i64 ha] rK rfl))⟩
      · have hkz := hHeld.bel.size
        have hkr : ∀ r ∈ ([(k_a, #[.int .i64 st, .int .i64 ad, .int .i64 ha], 55), ((w.heap.size + 1), #[.int .i64 st, .int .i64 ad, .int .i64 ha], 55), (w.heap.size, (shCs s F T), 53)] : List (Nat × Array Value × TypeId)), r.1 < xx.heap.size := fun r hr => hHeld.lt hr
        go_simp
        refine hK.out _ _ (fun _ => hHeld.alloc _) (fun hHeld => ?_)
        have hHeld := hHeld rfl
        clear hK K
        try simp only [Act.put, List.setIfInBounds_toArray, List.set_cons_zero, List.set_cons_succ]
        have rK := heap_alloc_new xx (.cells #[.int .i64 0, .int .i64 0, .int .i64 0] 55)
        generalize hkK : xx.heap.size = kK at *
        clear hkK
        generalize xx.alloc (.cells #[.int .i64 0, .int .i64 0, .int .i64 0] 55) = xx at *
        refine Kt.G.one 4 { dst := some 52, op := Op.call { callee := Callee.value (Operand.func 28), args := #[Operand.const (Value.int IntKind.i64 5), Operand.tmp 50, Operand.const (Value.int IntKind.i64 9), Operand.tmp 51], argTypes := #[3, 3, 3, 3] }, type := 9, pos := "gadget.go:42", after := #[{ on := 2, ground := Ground.data }, { on := 3, ground := Ground.data }], guard := none } rfl (by kernel_rfl) (by rfl) (fun K hK => ?_)
        go_simp
        refine (HA2.out _).mono ?_; rintro en xx ⟨rfl, hb⟩
        refine hK.out _ _ (fun _ => hHeld.on hb) (fun hHeld => ?_)
        have hHeld := hHeld rfl
        clear hK K
        try simp only [Act.put, List.setIfInBounds_toArray, List.set_cons_zero, List.set_cons_succ]
        try (replace rK := Kt.row_on hb rK)
        clear hb
        refine Kt.G.one 5 { dst := some 53, op := Op.call { callee := Callee.value (Operand.func 23), args := #[Operand.tmp 48, Operand.tmp 49, Operand.tmp 52], argTypes := #[53, 55, 9] }, type := 56, pos := "gadget.go:42", after := #[{ on := 0, ground := Ground.data }, { on := 1, ground := Ground.data }, { on := 4, ground := Ground.data }, { on := 4, ground := Ground.chain }], guard := none } rfl (by kernel_rfl) (by rfl) (fun K hK => ?_)
        go_simp
        refine (K2.out _ hHeld.bel).mono ?_; rintro en xx ⟨rfl, hb⟩
        refine hK.out _ _ (fun _ => hHeld.on hb) (fun hHeld => ?_)
        have hHeld := hHeld rfl
        clear hK K
        try simp only [Act.put, List.setIfInBounds_toArray, List.set_cons_zero, List.set_cons_succ]
        try (replace rK := Kt.row_on hb rK)
        clear hb
        refine Kt.G.takeP 6 { dst := some 47, op := Op.move (Operand.tmp 53), type := 56, pos := "gadget.go:42", after := #[{ on := 5, ground := Ground.data }], guard := none } ?_ (fun _ => hHeld) rfl (by kernel_rfl) (fun _ _ _ h => h) (by rfl) ?_ ?_
        rotate_left
        · intro wq; go_simp; try with_reducible rfl
        try simp only [Act.put, List.setIfInBounds_toArray, List.set_cons_zero, List.set_cons_succ]
        refine Kt.G.takeP 7 { dst := some 54, op := Op.extract (Operand.tmp 47) 0, type := 55, pos := "gadget.go:42", after := #[{ on := 6, ground := Ground.data }], guard := none } ?_ (fun _ => hHeld) rfl (by kernel_rfl) (fun _ _ _ h => h) (by rfl) ?_ ?_
        rotate_left
        · intro wq; go_simp; try with_reducible rfl
        try simp only [Act.put, List.setIfInBounds_toArray, List.set_cons_zero, List.set_cons_succ]
        refine Kt.G.takeP 8 { dst := some 55, op := Op.extract (Operand.tmp 47) 1, type := 9, pos := "gadget.go:42", after := #[{ on := 6, ground := Ground.data }, { on := 11, ground := Ground.gcOnly Departure.lateStores }], guard := none } ?_ (fun _ => hHeld) rfl (by kernel_rfl) (fun _ _ _ h => h) (by rfl) ?_ ?_
        rotate_left
        · intro wq; go_simp; try with_reducible rfl
        try simp only [Act.put, List.setIfInBounds_toArray, List.set_cons_zero, List.set_cons_succ]
        refine Kt.G.takeP 9 { dst := some 56, op := Op.extract (Operand.tmp 47) 2, type := 25, pos := "gadget.go:42", after := #[{ on := 6, ground := Ground.data }, { on := 12, ground := Ground.gcOnly Departure.lateStores }], guard := none } ?_ (fun _ => hHeld) rfl (by kernel_rfl) (fun _ _ _ h => h) (by rfl) ?_ ?_
        rotate_left
        · intro wq; go_simp; try with_reducible rfl
        try simp only [Act.put, List.setIfInBounds_toArray, List.set_cons_zero, List.set_cons_succ]
        refine Kt.G.one 11 { dst := none, op := Op.store 55 (Operand.tmp 14) (Operand.tmp 54), type := 0, pos := "gadget.go:42", after := #[{ on := 10, ground := Ground.data }, { on := 7, ground := Ground.data }, { on := 5, ground := Ground.chain }, { on := 0, ground := Ground.phase }, { on := 1, ground := Ground.phase }, { on := 2, ground := Ground.phase }, { on := 3, ground := Ground.phase }, { on := 4, ground := Ground.phase }, { on := 5, ground := Ground.phase }, { on := 6, ground := Ground.phase }, { on := 7, ground := Ground.phase }, { on := 8, ground := Ground.textOnly Departure.lateStores }, { on := 9, ground := Ground.textOnly Departure.lateStores }, { on := 10, ground := Ground.phase }], guard := none } rfl (by kernel_rfl) (by rfl) (fun K hK => ?_)
        have cK := fun i => cell_of_row _ _ i _ _ _ rK; have fK := fun i => frozen_of_row _ _ i _ _ rK
        go_simp
        refine hK.out _ _ (Kt.G.late (by kernel_rfl)) (fun _ => ?_)
        clear hK K
        try simp only [Act.put, List.setIfInBounds_toArray, List.set_cons_zero, List.set_cons_succ]
        refine Kt.G.takeP 12 { dst := some 15, op := Op.assign (Operand.tmp 55), type := 9, pos := "gadget.go:42", after := #[{ on := 8, ground := Ground.data }, { on := 11, ground := Ground.chain }, { on := 0, ground := Ground.phase }, { on := 1, ground := Ground.phase }, { on := 2, ground := Ground.phase }, { on := 3, ground := Ground.phase }, { on := 4, ground := Ground.phase }, { on := 5, ground := Ground.phase }, { on := 6, ground := Ground.phase }, { on := 7, ground := Ground.phase }, { on := 8, ground := Ground.phase }, { on := 9, ground := Ground.textOnly Departure.lateStores }, { on := 10, ground := Ground.phase }, { on := 11, ground := Ground.phase }], guard := none } ?_ (Kt.G.late (by kernel_rfl)) rfl (by kernel_rfl) (fun _ _ _ h => h) (by rfl) ?_ ?_
        rotate_left
        · intro wq; go_simp; try with_reducible rfl
        try simp only [Act.put, List.setIfInBounds_toArray, List.set_cons_zero, List.set_cons_succ]
        refine Kt.G.takeP 13 { dst := some 16, op := Op.assign (Operand.tmp 56), type := 25, pos := "gadget.go:42", after := #[{ on := 9, ground := Ground.data }, { on := 12, ground := Ground.chain }, { on := 0, ground := Ground.phase }, { on := 1, ground := Ground.phase }, { on := 2, ground := Ground.phase }, { on := 3, ground := Ground.phase }, { on := 4, ground := Ground.phase }, { on := 5, ground := Ground.phase }, { on := 6, ground := Ground.phase }, { on := 7, ground := Ground.phase }, { on := 8, ground := Ground.phase }, { on := 9, ground := Ground.phase }, { on := 10, ground := Ground.phase }, { on := 11, ground := Ground.phase }, { on := 12, ground := Ground.phase }], guard := none } ?_ (Kt.G.late (by kernel_rfl)) rfl (by kernel_rfl) (fun _ _ _ h => h) (by rfl) ?_ ?_
        rotate_left
        · intro wq; go_simp; try with_reducible rfl
        try simp only [Act.put, List.setIfInBounds_toArray, List.set_cons_zero, List.set_cons_succ]
        refine Kt.G.done (by kernel_rfl) (NoPanic.normal ?_) _
        clear cK fK
        go_wp2_with fail
        go_meet
        case rel => exact ⟨kK, rfl, rfl, rfl, Lib.hid ((hHeld.onB (Kt.below_setCells [.int .i64 st, .int .i64 ad, .int .i64 ha] kK 0 _ _ (Nat.le_refl _) (Below.refl _ _)) hkz hkr).add (Kt.fill [.int .i64 st, .int .i64 ad, .int .i64 ha] rK rfl))⟩
    case rest =>
      obtain ⟨k_b, rfl, rfl, rfl, HF2⟩ := hcut
      clear HF1
      have hpre : Lib.hasPrefix (bs' B).data.toList (bs' A).data.toList = true := by rw [bs_list, bs_list]; exact pre_of P1.out
      have HPX := Lib.hid (fun W => Try.strings_HasPrefix (bs' B) (bs' A) W)
      rw [hpre] at HPX
      have hsz : ((bs' A).size : Int) ≤ few := by rw [bs_size]; exact P2.out
      have hor : ((bs' A).size : Int) = few ∨ bs' A = bs' B := by rw [bs_size]; exact P3.out.imp id (fun e => by rw [e])
      clear hpre P1 P2 P3 HA1 HA2 K1 K2
      generalize bs' A = SA at *
      generalize bs' B = SB at *
      go_wp2_with fail
      refine (HLV.out _).mono ?_
      rintro e x1 ⟨rfl, hb⟩
      have HF3 := Lib.hid (HF2.out.on hb)
      clear hb HF2
      go_wp2_with fail
      refine (HPX.out _).mono ?_
      rintro e x2 ⟨rfl, rfl⟩
      rcases hor with hq | rfl
      · have e7 : ((SA.size : Int) == few) = true := by rw [beq_iff_eq]; exact hq
        clear hq
        go_wp2_with fail
        go_ret
        exact ⟨rfl, HF3.out.bel⟩
      · by_cases hq : (SA.size : Int) = few
        · have e7 : ((SA.size : Int) == few) = true := by rw [beq_iff_eq]; exact hq
          clear hq
          go_wp2_with fail
          go_ret
          exact ⟨rfl, HF3.out.bel⟩
        · have e7 : ((SA.size : Int) == few) = false := by rw [beq_eq_false_iff_ne]; exact hq
          clear hq
          go_wp2_with fail
          go_ret
          exact ⟨rfl, HF3.out.bel⟩
end Go.Proofs.Ytmddfpmchcmgiaa
