/- GadgetPath. -/
import Derived.Test.YtmddfpmchcmgiaaGadK
namespace Go.Proofs.Ytmddfpmchcmgiaa
open Go.RowKit Go.Proofs.Ytmddfpmchcmgiaa.Dsc Go.Proofs.Ytmddfpmchcmgiaa.Gad Go.Proofs.Ytmddfpmchcmgiaa.SetP
/-- Control, of one ask, in any world on from w -/
def CtT (w : World) (s : Sh) (F T : Value) (ask : ByteArray) (g g' : Gd) (out : ByteArray) (c : Int) : Prop := ∀ W, Below w.heap.size w W → Calls Try.prog 23 #[.agg (shCs s F T), gdV g, .string ask] W fun e w' => e = .returned (.tuple #[gdV g', .string out, .int .i64 c]) ∧ Below W.heap.size W w'
theorem ctT_of {w : World} {s : Sh} {F T : Value} {ask : ByteArray} {g g' : Gd} {out : List UInt8} {c : Int} {r : Option (Int × Int × Int × Int)} (hs : ShRd w (.agg (shCs s F T)) s) (hb : ∀ t ∈ s.tx, t.length ≤ 35184372088832) (hr : RdA ask r) (h : ctl s g r = (g', out, c)) : CtT w s F T ask g g' (bs' out) c := fun W hW => by
  have := control_calls wdev s _ g ask r W (hs.on hW) hb hr
  rw [h] at this
  exact this
theorem ctl_do {s : Sh} {g : Gd} {k v i l : Int} (h1 : chk s = 0) (h2 : gOk g = true) (hk : k < 8) {x : Gd × List UInt8 × Int} (hx : dod s g k v i l = x) (hc : x.2.2 = 0 ∨ x.1 = g ∧ x.2.1 = []) : ctl s g (some (k, v, i, l)) = x := by
  unfold ctl
  rw [if_neg (by simp [h1]), if_neg (by simp [h2])]
  dsimp only
  rw [if_neg (by omega), hx]
  obtain ⟨a, b, c⟩ := x
  dsimp only at hc ⊢
  rcases hc with rfl | ⟨rfl, rfl⟩
  · simp
  · split <;> rfl
theorem byte_conv (n : Nat) (hn2 : n ≤ 255) (S7 : ByteArray) (hS : bs' [UInt8.ofNat n] = S7) (W : World) (H : Nat) (hH : W.heap.size = H) : (convert 66 9 (.slice (some ⟨H, 0, none⟩) 1 1)).run Try.prog (W.alloc (.cells #[.int .u8 (n : Int)] 5)) = .ok (.string S7) (W.alloc (.cells #[.int .u8 (n : Int)] 5)) := by
  rw [← hS]
  refine Kt.conv_back (P := Try.prog) (W.alloc (.cells #[.int .u8 (n : Int)] 5)) 66 9 5 H 0 1 1 [UInt8.ofNat n] rfl Try.underlying66 Try.underlying5 Try.underlying9 (fun j hj => ?_)
  subst hH
  have h0 : j = 0 := by simp at hj; omega
  subst h0
  refine (cell_of_row _ _ _ _ _ _ (heap_alloc_new W _)).trans ?_
  simp; omega
theorem chk_va {s : Sh} (h : chk s = 0) : 1 ≤ s.cfg.va ∧ s.cfg.va ≤ 255 := by
  obtain ⟨h1, _⟩ := chk_ok h
  have := (cfgC_ok h1).1
  exact ⟨this.1, this.2.1⟩
theorem path_plain {w : World} {s : Sh} {F T : Value} (hs : ShRd w (.agg (shCs s F T)) s) (hb : ∀ t ∈ s.tx, t.length ≤ 35184372088832) (h : chk s = 0) {ad : Int} (ha : 1 ≤ ad ∧ ad ≤ 127) :
    ∃ S1 S2 S3 S4 S5, CtT w s F T S1 ⟨0, 0, 0⟩ ⟨1, ad, 0⟩ ⟨#[]⟩ 0 ∧ CtT w s F T S2 ⟨1, ad, 0⟩ ⟨2, ad, 0⟩ ⟨#[]⟩ 0 ∧ CtT w s F T S3 ⟨2, ad, 0⟩ ⟨2, ad, 0⟩ (bs' [UInt8.ofNat s.cfg.va.toNat]) 0 ∧ CtT w s F T S4 ⟨2, ad, 0⟩ ⟨1, ad, 0⟩ ⟨#[]⟩ 0 ∧ CtT w s F T S5 ⟨1, ad, 0⟩ ⟨0, 0, 0⟩ ⟨#[]⟩ 0 ∧
      askS 4 ad 0 0 S1 ∧ askS 6 s.cfg.va 0 0 S2 ∧ askS 7 0 0 1 S3 ∧ askS 6 0 0 0 S4 ∧ askS 4 0 0 0 S5 ∧ CtT w s F T S1 ⟨2, ad, 0⟩ ⟨2, ad, 0⟩ ⟨#[]⟩ 8 := by
  have hva := chk_va h
  have ok4 : ∀ x : Int, 0 ≤ x ∧ x ≤ 127 → Okw 4 x 0 0 := fun x hx => ⟨⟨0, 5, 4, 0, 0⟩, rfl, by show canP 4 x; unfold canP; omega, by show canP 0 0; unfold canP; omega, .inl rfl⟩
  have ok6 : ∀ x : Int, 0 ≤ x ∧ x ≤ 255 → Okw 6 x 0 0 := fun x hx => ⟨⟨0, 9, 2, 0, 0⟩, rfl, by show canP 2 x; unfold canP; omega, by show canP 0 0; unfold canP; omega, .inl rfl⟩
  have ok7 : Okw 7 0 0 1 := ⟨⟨128, 8, 0, 0, 1⟩, rfl, by show canP 0 0; unfold canP; omega, by show canP 0 0; unfold canP; omega, .inl rfl⟩
  obtain ⟨S1, a1, r1⟩ := asked_ok (ok4 ad ⟨by omega, ha.2⟩) (Int.le_refl 0)
  obtain ⟨S2, a2, r2⟩ := asked_ok (ok6 s.cfg.va ⟨by omega, hva.2⟩) (Int.le_refl 0)
  obtain ⟨S3, a3, r3⟩ := asked_ok ok7 (by decide)
  obtain ⟨S4, a4, r4⟩ := asked_ok (ok6 0 (by omega)) (Int.le_refl 0)
  obtain ⟨S5, a5, r5⟩ := asked_ok (ok4 0 (by omega)) (Int.le_refl 0)
  have g0 : gOk ⟨0, 0, 0⟩ = true := rfl
  have g1 : gOk ⟨1, ad, 0⟩ = true := by rw [gOk_iff]; omega
  have g2 : gOk ⟨2, ad, 0⟩ = true := by rw [gOk_iff]; omega
  have m1 : min (1 : Int) ad = 1 := by omega
  have d1 : dod s ⟨0, 0, 0⟩ 4 ad 0 0 = (⟨1, ad, 0⟩, [], 0) := by
    show ((⟨min 1 ad, ad, 0⟩ : Gd), ([] : List UInt8), (0 : Int)) = _
    rw [m1]
  have d2 : dod s ⟨1, ad, 0⟩ 6 s.cfg.va 0 0 = (⟨2, ad, 0⟩, [], 0) := by
    have : conf s ⟨1, ad, 0⟩ s.cfg.va = (⟨2, ad, 0⟩, 0) := by unfold conf; rw [if_neg (by simp), if_neg (by omega), if_pos rfl]
    show ((conf s ⟨1, ad, 0⟩ s.cfg.va).1, [], (conf s ⟨1, ad, 0⟩ s.cfg.va).2) = _
    rw [this]
  have d4 : dod s ⟨2, ad, 0⟩ 6 0 0 0 = (⟨1, ad, 0⟩, [], 0) := rfl
  have d5 : dod s ⟨1, ad, 0⟩ 4 0 0 0 = (⟨0, 0, 0⟩, [], 0) := rfl
  exact ⟨S1, S2, S3, S4, S5, ctT_of hs hb r1 (ctl_do h g0 (by decide) d1 (.inl rfl)), ctT_of hs hb r2 (ctl_do h g1 (by decide) d2 (.inl rfl)), ctT_of hs hb r3 (ctl_do h g2 (by decide) rfl (.inl rfl)), ctT_of hs hb r4 (ctl_do h g2 (by decide) d4 (.inl rfl)), ctT_of hs hb r5 (ctl_do h g1 (by decide) d5 (.inl rfl)),
    a1, a2, a3, a4, a5, ctT_of hs hb r1 (ctl_do h g2 (by decide) rfl (.inr ⟨rfl, rfl⟩))⟩
set_option maxRecDepth 100000 in
set_option maxHeartbeats 12800000 in
theorem path_walk (v0 v1 : Value) (w : World) (r0 : Fr.RdV w 1048576 shS v0) (r1 : Fr.RdV w 1048576 (.int .i64) v1) :
    Calls Try.prog 9 #[v0, v1] w fun e w' => e = .returned (.bool true) ∧ Below w.heap.size w w' := by
  obtain ⟨s, hs, hb⟩ := sh_rd r0
  obtain ⟨ad, h, _⟩ := r1
  injection h with h _
  subst h
  have hbt : ∀ t ∈ s.tx, t.length ≤ 35184372088832 := fun t ht => Nat.le_trans (hb t ht) (by decide)
  obtain ⟨F, T, rfl, hs2, hs3⟩ := hs
  have hs : ShRd w (.agg (shCs s F T)) s := ⟨F, T, rfl, hs2, hs3⟩
  have HLV := Lib.hid glives_calls
  have HCK : Hid (∀ W, Below w.heap.size w W → Calls Try.prog 27 #[.agg (shCs s F T)] W fun e w' => e = .returned (.int .i64 (chk s)) ∧ Below W.heap.size W w') := Lib.hid (fun W hW => check_calls wdev s _ W (hs.on hW) hbt)
  have HPL := Lib.hid (fun (h : chk s = 0) (ha : 1 ≤ ad ∧ ad ≤ 127) => path_plain hs hbt h ha)
  have hvb := chk_va (s := s)
  obtain ⟨C1, hC1⟩ : ∃ C1, chk s = C1 := ⟨_, rfl⟩
  rw [hC1] at HCK HPL hvb
  have EG := fun p q (a b : Array Value) w => run_eqGuard_agg (P := Try.prog) w .eql 55 p q a b guard_gd
  have EQ1 := fun w => eq_gd ⟨1, ad, 0⟩ ⟨1, ad, 0⟩ w
  have EQ2 := fun w => eq_gd ⟨2, ad, 0⟩ ⟨2, ad, 0⟩ w
  have EQ0 := fun w => eq_gd ⟨0, 0, 0⟩ ⟨0, 0, 0⟩ w
  simp only [decide_true] at EQ0 EQ1 EQ2
  unfold gdV at EQ0 EQ1 EQ2
  clear hs hs2 hs3 hbt hb r0 hC1
  go_enter Try.func9, Try.ntmps9
  go_upto_region 1 with (fail)
  refine Kt.fold (fun W => Kt.Fb w [(w.heap.size, (shCs s F T), 53)] W) ((Kt.Fb.nil w (Kt.balloc (Below.refl _ w) _)).add (heap_alloc_new w _)) ?_
  intro w0 hf0
  have HF0 := Lib.hid hf0
  clear hf0
  go_wp2_with fail
  refine (HLV.out _).mono ?_
  rintro e w1 ⟨rfl, hb⟩
  have HF1 := Lib.hid (HF0.out.on hb)
  clear hb HF0
  go_wp2_with (refine Kt.load_row_g (by rfl) 53 (.tmp 2) rfl w.heap.size rfl 53 (shCs s F T) _ (HF1.out.row _ (List.Mem.head _)) Try.underlying53 rfl (by kernel_rfl) ?_)
  refine (HCK.out _ HF1.out.bel).mono ?_
  rintro e w2 ⟨rfl, hb⟩
  have HF2 := Lib.hid (HF1.out.on hb)
  clear hb HF1
  by_cases hc : C1 = 0
  case neg =>
    have e1 : (C1 != 0) = true := by rw [bne_iff_ne]; exact hc
    go_wp2_with fail
    refine (HLV.out _).mono ?_
    rintro e w3 ⟨rfl, hb⟩
    have HF3 := Lib.hid (HF2.out.on hb)
    clear hb HF2
    go_wp2_with fail
    go_ret
    exact ⟨rfl, HF3.out.bel⟩
  subst hc
  by_cases h1 : 1 ≤ ad
  case neg =>
    have h2 : ad < 1 := Int.not_le.1 h1
    clear h1
    go_wp2_with fail
    refine (HLV.out _).mono ?_
    rintro e w3 ⟨rfl, hb⟩
    have HF3 := Lib.hid (HF2.out.on hb)
    clear hb HF2
    go_wp2_with fail
    go_ret
    exact ⟨rfl, HF3.out.bel⟩
  by_cases h3 : ad ≤ 127
  case neg =>
    have h4 : 127 < ad := Int.not_le.1 h3
    clear h3
    go_wp2_with fail
    refine (HLV.out _).mono ?_
    rintro e w3 ⟨rfl, hb⟩
    have HF3 := Lib.hid (HF2.out.on hb)
    clear hb HF2
    go_wp2_with fail
    go_ret
    exact ⟨rfl, HF3.out.bel⟩
  obtain ⟨S1, S2, S3, S4, S5, k1, k2, k3, k4, k5, a1, a2, a3, a4, a5, k6⟩ := HPL.out rfl ⟨h1, h3⟩
  obtain ⟨n, hva⟩ := Int.eq_ofNat_of_zero_le (show 0 ≤ s.cfg.va by have := (hvb rfl).1; omega)
  have hn2 : n ≤ 255 := by have := (hvb rfl).2; omega
  obtain ⟨S7, hS7⟩ : ∃ S7, bs' [UInt8.ofNat s.cfg.va.toNat] = S7 := ⟨_, rfl⟩
  rw [hS7] at k3
  rw [hva] at hS7
  have hw8 : IntKind.u8.wrap (n : Int) = n := IntWalk.u8_in _ (by omega)
  have HCV := Lib.hid (byte_conv n hn2 S7 hS7)
  have HVA := Lib.hid hva
  clear hva
  have HA1 := Lib.hid a1
  have HA2 := Lib.hid a2
  have HA3 := Lib.hid a3
  have HA4 := Lib.hid a4
  have HA5 := Lib.hid a5
  have K1 := Lib.hid k1
  have K2 := Lib.hid k2
  have K3 := Lib.hid k3
  have K4 := Lib.hid k4
  have K5 := Lib.hid k5
  have K6 := Lib.hid k6
  clear a1 a2 a3 a4 a5 k1 k2 k3 k4 k5 k6 HPL HLV HCK hvb hn2 hS7
  unfold CtT gdV at K1 K2 K3 K4 K5 K6
  unfold askS at HA1 HA2 HA3 HA4 HA5
  go_upto_region 3 with (fail)
  go_cut [5, 6, 7] from 39 to 47 (fun p x y wx1 => ∃ kZ, p = .pointer (some ⟨kZ, 0, none⟩) ∧ x = .string ⟨#[]⟩ ∧ y = .int .i64 0 ∧ Hid (Kt.Fb w ((kZ, #[.int .i64 1, .int .i64 ad, .int .i64 0], 55) :: [(w.heap.size, (shCs s F T), 53)]) wx1))
  case first =>
    refine Kt.G.start 10 (Kt.Fb w [(w.heap.size, (shCs s F T), 53)]) (by kernel_rfl) HF2.out.drew (fun hHeld => ?_)
    generalize w2.drew = xx at *
    refine Kt.G.load_row 0 { dst := some 40, op := Op.load 53 (Operand.tmp 2), type := 53, pos := "gadget.go:71", after := #[], guard := none } 53 (Operand.tmp 2) w.heap.size 53 (shCs s F T) _ hHeld rfl (by kernel_rfl) (fun _ _ _ h => h) (by rfl) rfl rfl (fun _ h => h.row _ (List.Mem.head _)) Try.underlying53 rfl (by kernel_rfl) ?_
    try simp only [Act.put, List.setIfInBounds_toArray, List.set_cons_zero, List.set_cons_succ]
    refine Kt.G.takeP 1 { dst := some 41, op := Op.build 55 #[], type := 55, pos := "gadget.go:71", after := #[], guard := none } ?_ (fun _ => hHeld) rfl (by kernel_rfl) (fun _ _ _ h => h) (by rfl) ?_ ?_
    rotate_left
    · intro wq; go_simp; try with_reducible rfl
    try simp only [Act.put, List.setIfInBounds_toArray, List.set_cons_zero, List.set_cons_succ]
    refine Kt.G.takeP 2 { dst := some 42, op := Op.move (Operand.tmp 1), type := 3, pos := "gadget.go:71", after := #[], guard := none } ?_ (fun _ => hHeld) rfl (by kernel_rfl) (fun _ _ _ h => h) (by rfl) ?_ ?_
    rotate_left
    · intro wq; go_simp; try with_reducible rfl
    try simp only [Act.put, List.setIfInBounds_toArray, List.set_cons_zero, List.set_cons_succ]
    refine Kt.G.two 3 9 { dst := some 43, op := Op.call { callee := Callee.value (Operand.func 28), args := #[Operand.const (Value.int IntKind.i64 4), Operand.tmp 42, Operand.const (Value.int IntKind.i64 0), Operand.const (Value.int IntKind.i64 0)], argTypes := #[3, 3, 3, 3] }, type := 9, pos := "gadget.go:71", after := #[{ on := 2, ground := Ground.data }], guard := none } { dst := some 5, op := Op.alloc 55, type := 0, pos := "gadget.go:71", after := #[], guard := none } rfl rfl (by kernel_rfl) (by rfl) (by rfl) (fun K hK => ?_) (fun K hK => ?_)
    · go_simp
      refine (HA1.out _).mono ?_; rintro en xx ⟨rfl, hb⟩
      refine hK.out _ _ (fun _ => hHeld.on hb) (fun hHeld => ?_)
      have hHeld := hHeld rfl
      clear hK K
      try simp only [Act.put, List.setIfInBounds_toArray, List.set_cons_zero, List.set_cons_succ]
      try (replace rK := Kt.row_on hb rK)
      clear hb
      refine Kt.G.two 4 9 { dst := some 44, op := Op.call { callee := Callee.value (Operand.func 23), args := #[Operand.tmp 40, Operand.tmp 41, Operand.tmp 43], argTypes := #[53, 55, 9] }, type := 56, pos := "gadget.go:71", after := #[{ on := 0, ground := Ground.data }, { on := 1, ground := Ground.data }, { on := 3, ground := Ground.data }, { on := 3, ground := Ground.chain }], guard := none } { dst := some 5, op := Op.alloc 55, type := 0, pos := "gadget.go:71", after := #[], guard := none } rfl rfl (by kernel_rfl) (by rfl) (by rfl) (fun K hK => ?_) (fun K hK => ?_)
      · go_simp
        refine (K1.out _ hHeld.bel).mono ?_; rintro en xx ⟨rfl, hb⟩
        refine hK.out _ _ (fun _ => hHeld.on hb) (fun hHeld => ?_)
        have hHeld := hHeld rfl
        clear hK K
        try simp only [Act.put, List.setIfInBounds_toArray, List.set_cons_zero, List.set_cons_succ]
        try (replace rK := Kt.row_on hb rK)
        clear hb
        refine Kt.G.takeP 5 { dst := some 39, op := Op.move (Operand.tmp 44), type := 56, pos := "gadget.go:71", after := #[{ on := 4, ground := Ground.data }], guard := none } ?_ (fun _ => hHeld) rfl (by kernel_rfl) (fun _ _ _ h => h) (by rfl) ?_ ?_
        rotate_left
        · intro wq; go_simp; try with_reducible rfl
        try simp only [Act.put, List.setIfInBounds_toArray, List.set_cons_zero, List.set_cons_succ]
        refine Kt.G.takeP 6 { dst := some 45, op := Op.extract (Operand.tmp 39) 0, type := 55, pos := "gadget.go:71", after := #[{ on := 5, ground := Ground.data }], guard := none } ?_ (fun _ => hHeld) rfl (by kernel_rfl) (fun _ _ _ h => h) (by rfl) ?_ ?_
        rotate_left
        · intro wq; go_simp; try with_reducible rfl
        try simp only [Act.put, List.setIfInBounds_toArray, List.set_cons_zero, List.set_cons_succ]
        refine Kt.G.takeP 7 { dst := some 46, op := Op.extract (Operand.tmp 39) 1, type := 9, pos := "gadget.go:71", after := #[{ on := 5, ground := Ground.data }, { on := 10, ground := Ground.gcOnly Departure.lateStores }], guard := none } ?_ (fun _ => hHeld) rfl (by kernel_rfl) (fun _ _ _ h => h) (by rfl) ?_ ?_
        rotate_left
        · intro wq; go_simp; try with_reducible rfl
        try simp only [Act.put, List.setIfInBounds_toArray, List.set_cons_zero, List.set_cons_succ]
        refine Kt.G.takeP 8 { dst := some 47, op := Op.extract (Operand.tmp 39) 2, type := 25, pos := "gadget.go:71", after := #[{ on := 5, ground := Ground.data }, { on := 11, ground := Ground.gcOnly Departure.lateStores }], guard := none } ?_ (fun _ => hHeld) rfl (by kernel_rfl) (fun _ _ _ h => h) (by rfl) ?_ ?_
        rotate_left
        · intro wq; go_simp; try with_reducible rfl
        try simp only [Act.put, List.setIfInBounds_toArray, List.set_cons_zero, List.set_cons_succ]
        refine Kt.G.one 9 { dst := some 5, op := Op.alloc 55, type := 0, pos := "gadget.go:71", after := #[], guard := none } rfl (by kernel_rfl) (by rfl) (fun K hK => ?_)
        have hkz := hHeld.bel.size
        have hkr : ∀ r ∈ ([(w.heap.size, (shCs s F T), 53)] : List (Nat × Array Value × TypeId)), r.1 < xx.heap.size := fun r hr => hHeld.lt hr
        go_simp
        refine hK.out _ _ (fun _ => hHeld.alloc _) (fun hHeld => ?_)
        have hHeld := hHeld rfl
        clear hK K
        try simp only [Act.put, List.setIfInBounds_toArray, List.set_cons_zero, List.set_cons_succ]
        have rK := heap_alloc_new xx (.cells #[.int .i64 0, .int .i64 0, .int .i64 0] 55)
        generalize hkK : xx.heap.size = kK at *
        clear hkK
        generalize xx.alloc (.cells #[.int .i64 0, .int .i64 0, .int .i64 0] 55) = xx at *
        refine Kt.G.one 10 { dst := none, op := Op.store 55 (Operand.tmp 5) (Operand.tmp 45), type := 0, pos := "gadget.go:71", after := #[{ on := 9, ground := Ground.data }, { on := 6, ground := Ground.data }, { on := 4, ground := Ground.chain }, { on := 0, ground := Ground.phase }, { on := 1, ground := Ground.phase }, { on := 2, ground := Ground.phase }, { on := 3, ground := Ground.phase }, { on := 4, ground := Ground.phase }, { on := 5, ground := Ground.phase }, { on := 6, ground := Ground.phase }, { on := 7, ground := Ground.textOnly Departure.lateStores }, { on := 8, ground := Ground.textOnly Departure.lateStores }, { on := 9, ground := Ground.phase }], guard := none } rfl (by kernel_rfl) (by rfl) (fun K hK => ?_)
        have cK := fun i => cell_of_row _ _ i _ _ _ rK; have fK := fun i => frozen_of_row _ _ i _ _ rK
        go_simp
        refine hK.out _ _ (Kt.G.late (by kernel_rfl)) (fun _ => ?_)
        clear hK K
        try simp only [Act.put, List.setIfInBounds_toArray, List.set_cons_zero, List.set_cons_succ]
        refine Kt.G.takeP 11 { dst := some 6, op := Op.assign (Operand.tmp 46), type := 9, pos := "gadget.go:71", after := #[{ on := 7, ground := Ground.data }, { on := 10, ground := Ground.chain }, { on := 0, ground := Ground.phase }, { on := 1, ground := Ground.phase }, { on := 2, ground := Ground.phase }, { on := 3, ground := Ground.phase }, { on := 4, ground := Ground.phase }, { on := 5, ground := Ground.phase }, { on := 6, ground := Ground.phase }, { on := 7, ground := Ground.phase }, { on := 8, ground := Ground.textOnly Departure.lateStores }, { on := 9, ground := Ground.phase }, { on := 10, ground := Ground.phase }], guard := none } ?_ (Kt.G.late (by kernel_rfl)) rfl (by kernel_rfl) (fun _ _ _ h => h) (by rfl) ?_ ?_
        rotate_left
        · intro wq; go_simp; try with_reducible rfl
        try simp only [Act.put, List.setIfInBounds_toArray, List.set_cons_zero, List.set_cons_succ]
        refine Kt.G.takeP 12 { dst := some 7, op := Op.assign (Operand.tmp 47), type := 25, pos := "gadget.go:71", after := #[{ on := 8, ground := Ground.data }, { on := 11, ground := Ground.chain }, { on := 0, ground := Ground.phase }, { on := 1, ground := Ground.phase }, { on := 2, ground := Ground.phase }, { on := 3, ground := Ground.phase }, { on := 4, ground := Ground.phase }, { on := 5, ground := Ground.phase }, { on := 6, ground := Ground.phase }, { on := 7, ground := Ground.phase }, { on := 8, ground := Ground.phase }, { on := 9, ground := Ground.phase }, { on := 10, ground := Ground.phase }, { on := 11, ground := Ground.phase }], guard := none } ?_ (Kt.G.late (by kernel_rfl)) rfl (by kernel_rfl) (fun _ _ _ h => h) (by rfl) ?_ ?_
        rotate_left
        · intro wq; go_simp; try with_reducible rfl
        try simp only [Act.put, List.setIfInBounds_toArray, List.set_cons_zero, List.set_cons_succ]
        refine Kt.G.done (by kernel_rfl) (NoPanic.normal ?_) _
        clear cK fK
        go_wp2_with fail
        go_meet
        case rel => exact ⟨kK, rfl, rfl, rfl, Lib.hid ((hHeld.onB (Kt.below_setCells [.int .i64 1, .int .i64 ad, .int .i64 0] kK 0 _ _ (Nat.le_refl _) (Below.refl _ _)) hkz hkr).add (Kt.fill [.int .i64 1, .int .i64 ad, .int .i64 0] rK rfl))⟩
      · have hkz := hHeld.bel.size
        have hkr : ∀ r ∈ ([(w.heap.size, (shCs s F T), 53)] : List (Nat × Array Value × TypeId)), r.1 < xx.heap.size := fun r hr => hHeld.lt hr
        go_simp
        refine hK.out _ _ (fun _ => hHeld.alloc _) (fun hHeld => ?_)
        have hHeld := hHeld rfl
        clear hK K
        try simp only [Act.put, List.setIfInBounds_toArray, List.set_cons_zero, List.set_cons_succ]
        have rK := heap_alloc_new xx (.cells #[.int .i64 0, .int .i64 0, .int .i64 0] 55)
        generalize hkK : xx.heap.size = kK at *
        clear hkK
        generalize xx.alloc (.cells #[.int .i64 0, .int .i64 0, .int .i64 0] 55) = xx at *
        refine Kt.G.one 4 { dst := some 44, op := Op.call { callee := Callee.value (Operand.func 23), args := #[Operand.tmp 40, Operand.tmp 41, Operand.tmp 43], argTypes := #[53, 55, 9] }, type := 56, pos := "gadget.go:71", after := #[{ on := 0, ground := Ground.data }, { on := 1, ground := Ground.data }, { on := 3, ground := Ground.data }, { on := 3, ground := Ground.chain }], guard := none } rfl (by kernel_rfl) (by rfl) (fun K hK => ?_)
        go_simp
        refine (K1.out _ hHeld.bel).mono ?_; rintro en xx ⟨rfl, hb⟩
        refine hK.out _ _ (fun _ => hHeld.on hb) (fun hHeld => ?_)
        have hHeld := hHeld rfl
        clear hK K
        try simp only [Act.put, List.setIfInBounds_toArray, List.set_cons_zero, List.set_cons_succ]
        try (replace rK := Kt.row_on hb rK)
        clear hb
        refine Kt.G.takeP 5 { dst := some 39, op := Op.move (Operand.tmp 44), type := 56, pos := "gadget.go:71", after := #[{ on := 4, ground := Ground.data }], guard := none } ?_ (fun _ => hHeld) rfl (by kernel_rfl) (fun _ _ _ h => h) (by rfl) ?_ ?_
        rotate_left
        · intro wq; go_simp; try with_reducible rfl
        try simp only [Act.put, List.setIfInBounds_toArray, List.set_cons_zero, List.set_cons_succ]
        refine Kt.G.takeP 6 { dst := some 45, op := Op.extract (Operand.tmp 39) 0, type := 55, pos := "gadget.go:71", after := #[{ on := 5, ground := Ground.data }], guard := none } ?_ (fun _ => hHeld) rfl (by kernel_rfl) (fun _ _ _ h => h) (by rfl) ?_ ?_
        rotate_left
        · intro wq; go_simp; try with_reducible rfl
        try simp only [Act.put, List.setIfInBounds_toArray, List.set_cons_zero, List.set_cons_succ]
        refine Kt.G.takeP 7 { dst := some 46, op := Op.extract (Operand.tmp 39) 1, type := 9, pos := "gadget.go:71", after := #[{ on := 5, ground := Ground.data }, { on := 10, ground := Ground.gcOnly Departure.lateStores }], guard := none } ?_ (fun _ => hHeld) rfl (by kernel_rfl) (fun _ _ _ h => h) (by rfl) ?_ ?_
        rotate_left
        · intro wq; go_simp; try with_reducible rfl
        try simp only [Act.put, List.setIfInBounds_toArray, List.set_cons_zero, List.set_cons_succ]
        refine Kt.G.takeP 8 { dst := some 47, op := Op.extract (Operand.tmp 39) 2, type := 25, pos := "gadget.go:71", after := #[{ on := 5, ground := Ground.data }, { on := 11, ground := Ground.gcOnly Departure.lateStores }], guard := none } ?_ (fun _ => hHeld) rfl (by kernel_rfl) (fun _ _ _ h => h) (by rfl) ?_ ?_
        rotate_left
        · intro wq; go_simp; try with_reducible rfl
        try simp only [Act.put, List.setIfInBounds_toArray, List.set_cons_zero, List.set_cons_succ]
        refine Kt.G.one 10 { dst := none, op := Op.store 55 (Operand.tmp 5) (Operand.tmp 45), type := 0, pos := "gadget.go:71", after := #[{ on := 9, ground := Ground.data }, { on := 6, ground := Ground.data }, { on := 4, ground := Ground.chain }, { on := 0, ground := Ground.phase }, { on := 1, ground := Ground.phase }, { on := 2, ground := Ground.phase }, { on := 3, ground := Ground.phase }, { on := 4, ground := Ground.phase }, { on := 5, ground := Ground.phase }, { on := 6, ground := Ground.phase }, { on := 7, ground := Ground.textOnly Departure.lateStores }, { on := 8, ground := Ground.textOnly Departure.lateStores }, { on := 9, ground := Ground.phase }], guard := none } rfl (by kernel_rfl) (by rfl) (fun K hK => ?_)
        have cK := fun i => cell_of_row _ _ i _ _ _ rK; have fK := fun i => frozen_of_row _ _ i _ _ rK
        go_simp
        refine hK.out _ _ (Kt.G.late (by kernel_rfl)) (fun _ => ?_)
        clear hK K
        try simp only [Act.put, List.setIfInBounds_toArray, List.set_cons_zero, List.set_cons_succ]
        refine Kt.G.takeP 11 { dst := some 6, op := Op.assign (Operand.tmp 46), type := 9, pos := "gadget.go:71", after := #[{ on := 7, ground := Ground.data }, { on := 10, ground := Ground.chain }, { on := 0, ground := Ground.phase }, { on := 1, ground := Ground.phase }, { on := 2, ground := Ground.phase }, { on := 3, ground := Ground.phase }, { on := 4, ground := Ground.phase }, { on := 5, ground := Ground.phase }, { on := 6, ground := Ground.phase }, { on := 7, ground := Ground.phase }, { on := 8, ground := Ground.textOnly Departure.lateStores }, { on := 9, ground := Ground.phase }, { on := 10, ground := Ground.phase }], guard := none } ?_ (Kt.G.late (by kernel_rfl)) rfl (by kernel_rfl) (fun _ _ _ h => h) (by rfl) ?_ ?_
        rotate_left
        · intro wq; go_simp; try with_reducible rfl
        try simp only [Act.put, List.setIfInBounds_toArray, List.set_cons_zero, List.set_cons_succ]
        refine Kt.G.takeP 12 { dst := some 7, op := Op.assign (Operand.tmp 47), type := 25, pos := "gadget.go:71", after := #[{ on := 8, ground := Ground.data }, { on := 11, ground := Ground.chain }, { on := 0, ground := Ground.phase }, { on := 1, ground := Ground.phase }, { on := 2, ground := Ground.phase }, { on := 3, ground := Ground.phase }, { on := 4, ground := Ground.phase }, { on := 5, ground := Ground.phase }, { on := 6, ground := Ground.phase }, { on := 7, ground := Ground.phase }, { on := 8, ground := Ground.phase }, { on := 9, ground := Ground.phase }, { on := 10, ground := Ground.phase }, { on := 11, ground := Ground.phase }], guard := none } ?_ (Kt.G.late (by kernel_rfl)) rfl (by kernel_rfl) (fun _ _ _ h => h) (by rfl) ?_ ?_
        rotate_left
        · intro wq; go_simp; try with_reducible rfl
        try simp only [Act.put, List.setIfInBounds_toArray, List.set_cons_zero, List.set_cons_succ]
        refine Kt.G.done (by kernel_rfl) (NoPanic.normal ?_) _
        clear cK fK
        go_wp2_with fail
        go_meet
        case rel => exact ⟨kK, rfl, rfl, rfl, Lib.hid ((hHeld.onB (Kt.below_setCells [.int .i64 1, .int .i64 ad, .int .i64 0] kK 0 _ _ (Nat.le_refl _) (Below.refl _ _)) hkz hkr).add (Kt.fill [.int .i64 1, .int .i64 ad, .int .i64 0] rK rfl))⟩
    · have hkz := hHeld.bel.size
      have hkr : ∀ r ∈ ([(w.heap.size, (shCs s F T), 53)] : List (Nat × Array Value × TypeId)), r.1 < xx.heap.size := fun r hr => hHeld.lt hr
      go_simp
      refine hK.out _ _ (fun _ => hHeld.alloc _) (fun hHeld => ?_)
      have hHeld := hHeld rfl
      clear hK K
      try simp only [Act.put, List.setIfInBounds_toArray, List.set_cons_zero, List.set_cons_succ]
      have rK := heap_alloc_new xx (.cells #[.int .i64 0, .int .i64 0, .int .i64 0] 55)
      generalize hkK : xx.heap.size = kK at *
      clear hkK
      generalize xx.alloc (.cells #[.int .i64 0, .int .i64 0, .int .i64 0] 55) = xx at *
      refine Kt.G.one 3 { dst := some 43, op := Op.call { callee := Callee.value (Operand.func 28), args := #[Operand.const (Value.int IntKind.i64 4), Operand.tmp 42, Operand.const (Value.int IntKind.i64 0), Operand.const (Value.int IntKind.i64 0)], argTypes := #[3, 3, 3, 3] }, type := 9, pos := "gadget.go:71", after := #[{ on := 2, ground := Ground.data }], guard := none } rfl (by kernel_rfl) (by rfl) (fun K hK => ?_)
      go_simp
      refine (HA1.out _).mono ?_; rintro en xx ⟨rfl, hb⟩
      refine hK.out _ _ (fun _ => hHeld.on hb) (fun hHeld => ?_)
      have hHeld := hHeld rfl
      clear hK K
      try simp only [Act.put, List.setIfInBounds_toArray, List.set_cons_zero, List.set_cons_succ]
      try (replace rK := Kt.row_on hb rK)
      clear hb
      refine Kt.G.one 4 { dst := some 44, op := Op.call { callee := Callee.value (Operand.func 23), args := #[Operand.tmp 40, Operand.tmp 41, Operand.tmp 43], argTypes := #[53, 55, 9] }, type := 56, pos := "gadget.go:71", after := #[{ on := 0, ground := Ground.data }, { on := 1, ground := Ground.data }, { on := 3, ground := Ground.data }, { on := 3, ground := Ground.chain }], guard := none } rfl (by kernel_rfl) (by rfl) (fun K hK => ?_)
      go_simp
      refine (K1.out _ hHeld.bel).mono ?_; rintro en xx ⟨rfl, hb⟩
      refine hK.out _ _ (fun _ => hHeld.on hb) (fun hHeld => ?_)
      have hHeld := hHeld rfl
      clear hK K
      try simp only [Act.put, List.setIfInBounds_toArray, List.set_cons_zero, List.set_cons_succ]
      try (replace rK := Kt.row_on hb rK)
      clear hb
      refine Kt.G.takeP 5 { dst := some 39, op := Op.move (Operand.tmp 44), type := 56, pos := "gadget.go:71", after := #[{ on := 4, ground := Ground.data }], guard := none } ?_ (fun _ => hHeld) rfl (by kernel_rfl) (fun _ _ _ h => h) (by rfl) ?_ ?_
      rotate_left
      · intro wq; go_simp; try with_reducible rfl
      try simp only [Act.put, List.setIfInBounds_toArray, List.set_cons_zero, List.set_cons_succ]
      refine Kt.G.takeP 6 { dst := some 45, op := Op.extract (Operand.tmp 39) 0, type := 55, pos := "gadget.go:71", after := #[{ on := 5, ground := Ground.data }], guard := none } ?_ (fun _ => hHeld) rfl (by kernel_rfl) (fun _ _ _ h => h) (by rfl) ?_ ?_
      rotate_left
      · intro wq; go_simp; try with_reducible rfl
      try simp only [Act.put, List.setIfInBounds_toArray, List.set_cons_zero, List.set_cons_succ]
      refine Kt.G.takeP 7 { dst := some 46, op := Op.extract (Operand.tmp 39) 1, type := 9, pos := "gadget.go:71", after := #[{ on := 5, ground := Ground.data }, { on := 10, ground := Ground.gcOnly Departure.lateStores }], guard := none } ?_ (fun _ => hHeld) rfl (by kernel_rfl) (fun _ _ _ h => h) (by rfl) ?_ ?_
      rotate_left
      · intro wq; go_simp; try with_reducible rfl
      try simp only [Act.put, List.setIfInBounds_toArray, List.set_cons_zero, List.set_cons_succ]
      refine Kt.G.takeP 8 { dst := some 47, op := Op.extract (Operand.tmp 39) 2, type := 25, pos := "gadget.go:71", after := #[{ on := 5, ground := Ground.data }, { on := 11, ground := Ground.gcOnly Departure.lateStores }], guard := none } ?_ (fun _ => hHeld) rfl (by kernel_rfl) (fun _ _ _ h => h) (by rfl) ?_ ?_
      rotate_left
      · intro wq; go_simp; try with_reducible rfl
      try simp only [Act.put, List.setIfInBounds_toArray, List.set_cons_zero, List.set_cons_succ]
      refine Kt.G.one 10 { dst := none, op := Op.store 55 (Operand.tmp 5) (Operand.tmp 45), type := 0, pos := "gadget.go:71", after := #[{ on := 9, ground := Ground.data }, { on := 6, ground := Ground.data }, { on := 4, ground := Ground.chain }, { on := 0, ground := Ground.phase }, { on := 1, ground := Ground.phase }, { on := 2, ground := Ground.phase }, { on := 3, ground := Ground.phase }, { on := 4, ground := Ground.phase }, { on := 5, ground := Ground.phase }, { on := 6, ground := Ground.phase }, { on := 7, ground := Ground.textOnly Departure.lateStores }, { on := 8, ground := Ground.textOnly Departure.lateStores }, { on := 9, ground := Ground.phase }], guard := none } rfl (by kernel_rfl) (by rfl) (fun K hK => ?_)
      have cK := fun i => cell_of_row _ _ i _ _ _ rK; have fK := fun i => frozen_of_row _ _ i _ _ rK
      go_simp
      refine hK.out _ _ (Kt.G.late (by kernel_rfl)) (fun _ => ?_)
      clear hK K
      try simp only [Act.put, List.setIfInBounds_toArray, List.set_cons_zero, List.set_cons_succ]
      refine Kt.G.takeP 11 { dst := some 6, op := Op.assign (Operand.tmp 46), type := 9, pos := "gadget.go:71", after := #[{ on := 7, ground := Ground.data }, { on := 10, ground := Ground.chain }, { on := 0, ground := Ground.phase }, { on := 1, ground := Ground.phase }, { on := 2, ground := Ground.phase }, { on := 3, ground := Ground.phase }, { on := 4, ground := Ground.phase }, { on := 5, ground := Ground.phase }, { on := 6, ground := Ground.phase }, { on := 7, ground := Ground.phase }, { on := 8, ground := Ground.textOnly Departure.lateStores }, { on := 9, ground := Ground.phase }, { on := 10, ground := Ground.phase }], guard := none } ?_ (Kt.G.late (by kernel_rfl)) rfl (by kernel_rfl) (fun _ _ _ h => h) (by rfl) ?_ ?_
      rotate_left
      · intro wq; go_simp; try with_reducible rfl
      try simp only [Act.put, List.setIfInBounds_toArray, List.set_cons_zero, List.set_cons_succ]
      refine Kt.G.takeP 12 { dst := some 7, op := Op.assign (Operand.tmp 47), type := 25, pos := "gadget.go:71", after := #[{ on := 8, ground := Ground.data }, { on := 11, ground := Ground.chain }, { on := 0, ground := Ground.phase }, { on := 1, ground := Ground.phase }, { on := 2, ground := Ground.phase }, { on := 3, ground := Ground.phase }, { on := 4, ground := Ground.phase }, { on := 5, ground := Ground.phase }, { on := 6, ground := Ground.phase }, { on := 7, ground := Ground.phase }, { on := 8, ground := Ground.phase }, { on := 9, ground := Ground.phase }, { on := 10, ground := Ground.phase }, { on := 11, ground := Ground.phase }], guard := none } ?_ (Kt.G.late (by kernel_rfl)) rfl (by kernel_rfl) (fun _ _ _ h => h) (by rfl) ?_ ?_
      rotate_left
      · intro wq; go_simp; try with_reducible rfl
      try simp only [Act.put, List.setIfInBounds_toArray, List.set_cons_zero, List.set_cons_succ]
      refine Kt.G.done (by kernel_rfl) (NoPanic.normal ?_) _
      clear cK fK
      go_wp2_with fail
      go_meet
      case rel => exact ⟨kK, rfl, rfl, rfl, Lib.hid ((hHeld.onB (Kt.below_setCells [.int .i64 1, .int .i64 ad, .int .i64 0] kK 0 _ _ (Nat.le_refl _) (Below.refl _ _)) hkz hkr).add (Kt.fill [.int .i64 1, .int .i64 ad, .int .i64 0] rK rfl))⟩
  case rest =>
    obtain ⟨k_g, rfl, rfl, rfl, HF3⟩ := hcut
    clear HF2
    go_upto_region 4 with (fail)
    go_cut [8, 9, 10] from 48 to 58 (fun p x y wx2 => ∃ kZ, p = .pointer (some ⟨kZ, 0, none⟩) ∧ x = .string ⟨#[]⟩ ∧ y = .int .i64 0 ∧ Hid (Kt.Fb w ((kZ, #[.int .i64 2, .int .i64 ad, .int .i64 0], 55) :: [(k_g, #[.int .i64 1, .int .i64 ad, .int .i64 0], 55), (w.heap.size, (shCs s F T), 53)]) wx2))
    case first =>
      refine Kt.G.start 12 (Kt.Fb w [(k_g, #[.int .i64 1, .int .i64 ad, .int .i64 0], 55), (w.heap.size, (shCs s F T), 53)]) (by kernel_rfl) HF3.out.drew (fun hHeld => ?_)
      generalize wc.drew = xx at *
      refine Kt.G.load_row 0 { dst := some 49, op := Op.load 53 (Operand.tmp 2), type := 53, pos := "gadget.go:72", after := #[], guard := none } 53 (Operand.tmp 2) w.heap.size 53 (shCs s F T) _ hHeld rfl (by kernel_rfl) (fun _ _ _ h => h) (by rfl) rfl rfl (fun _ h => h.row _ (List.Mem.tail _ (List.Mem.head _))) Try.underlying53 rfl (by kernel_rfl) ?_
      try simp only [Act.put, List.setIfInBounds_toArray, List.set_cons_zero, List.set_cons_succ]
      refine Kt.G.load_row 1 { dst := some 50, op := Op.load 55 (Operand.tmp 5), type := 55, pos := "gadget.go:72", after := #[], guard := none } 55 (Operand.tmp 5) k_g 55 #[.int .i64 1, .int .i64 ad, .int .i64 0] _ hHeld rfl (by kernel_rfl) (fun _ _ _ h => h) (by rfl) rfl rfl (fun _ h => h.row _ (List.Mem.head _)) Try.underlying55 rfl (by kernel_rfl) ?_
      try simp only [Act.put, List.setIfInBounds_toArray, List.set_cons_zero, List.set_cons_succ]
      refine Kt.G.takeP 2 { dst := some 51, op := Op.fieldAddr 53 (Operand.tmp 2) 1, type := 0, pos := "gadget.go:72", after := #[], guard := none } ?_ (fun _ => hHeld) rfl (by kernel_rfl) (fun _ _ _ h => h) (by rfl) ?_ ?_
      rotate_left
      · intro wq; go_simp; try with_reducible rfl
      try simp only [Act.put, List.setIfInBounds_toArray, List.set_cons_zero, List.set_cons_succ]
      refine Kt.G.takeP 3 { dst := some 52, op := Op.fieldAddr 24 (Operand.tmp 51) 0, type := 0, pos := "gadget.go:72", after := #[{ on := 2, ground := Ground.data }], guard := none } ?_ (fun _ => hHeld) rfl (by kernel_rfl) (fun _ _ _ h => h) (by rfl) ?_ ?_
      rotate_left
      · intro wq; go_simp; try with_reducible rfl
      try simp only [Act.put, List.setIfInBounds_toArray, List.set_cons_zero, List.set_cons_succ]
      refine Kt.G.take 4 { dst := some 53, op := Op.load 3 (Operand.tmp 52), type := 3, pos := "gadget.go:72", after := #[{ on := 3, ground := Ground.data }], guard := none } (.int .i64 s.cfg.va) hHeld rfl (by kernel_rfl) (fun _ _ _ h => h) (by rfl) ?_ ?_
      · intro wq hSw; have c := fun i => cell_of_row _ _ i _ _ _ (hSw.row _ (List.Mem.tail _ (List.Mem.head _))); unfold shCs at c; go_simp; try with_reducible rfl
      try simp only [Act.put, List.setIfInBounds_toArray, List.set_cons_zero, List.set_cons_succ]
      refine Kt.G.two 5 11 { dst := some 54, op := Op.call { callee := Callee.value (Operand.func 28), args := #[Operand.const (Value.int IntKind.i64 6), Operand.tmp 53, Operand.const (Value.int IntKind.i64 0), Operand.const (Value.int IntKind.i64 0)], argTypes := #[3, 3, 3, 3] }, type := 9, pos := "gadget.go:72", after := #[{ on := 4, ground := Ground.data }], guard := none } { dst := some 8, op := Op.alloc 55, type := 0, pos := "gadget.go:72", after := #[], guard := none } rfl rfl (by kernel_rfl) (by rfl) (by rfl) (fun K hK => ?_) (fun K hK => ?_)
      · go_simp
        refine (HA2.out _).mono ?_; rintro en xx ⟨rfl, hb⟩
        refine hK.out _ _ (fun _ => hHeld.on hb) (fun hHeld => ?_)
        have hHeld := hHeld rfl
        clear hK K
        try simp only [Act.put, List.setIfInBounds_toArray, List.set_cons_zero, List.set_cons_succ]
        try (replace rK := Kt.row_on hb rK)
        clear hb
        refine Kt.G.two 6 11 { dst := some 55, op := Op.call { callee := Callee.value (Operand.func 23), args := #[Operand.tmp 49, Operand.tmp 50, Operand.tmp 54], argTypes := #[53, 55, 9] }, type := 56, pos := "gadget.go:72", after := #[{ on := 0, ground := Ground.data }, { on := 1, ground := Ground.data }, { on := 5, ground := Ground.data }, { on := 5, ground := Ground.chain }], guard := none } { dst := some 8, op := Op.alloc 55, type := 0, pos := "gadget.go:72", after := #[], guard := none } rfl rfl (by kernel_rfl) (by rfl) (by rfl) (fun K hK => ?_) (fun K hK => ?_)
        · go_simp
          refine (K2.out _ hHeld.bel).mono ?_; rintro en xx ⟨rfl, hb⟩
          refine hK.out _ _ (fun _ => hHeld.on hb) (fun hHeld => ?_)
          have hHeld := hHeld rfl
          clear hK K
          try simp only [Act.put, List.setIfInBounds_toArray, List.set_cons_zero, List.set_cons_succ]
          try (replace rK := Kt.row_on hb rK)
          clear hb
          refine Kt.G.takeP 7 { dst := some 48, op := Op.move (Operand.tmp 55), type := 56, pos := "gadget.go:72", after := #[{ on := 6, ground := Ground.data }], guard := none } ?_ (fun _ => hHeld) rfl (by kernel_rfl) (fun _ _ _ h => h) (by rfl) ?_ ?_
          rotate_left
          · intro wq; go_simp; try with_reducible rfl
          try simp only [Act.put, List.setIfInBounds_toArray, List.set_cons_zero, List.set_cons_succ]
          refine Kt.G.takeP 8 { dst := some 56, op := Op.extract (Operand.tmp 48) 0, type := 55, pos := "gadget.go:72", after := #[{ on := 7, ground := Ground.data }], guard := none } ?_ (fun _ => hHeld) rfl (by kernel_rfl) (fun _ _ _ h => h) (by rfl) ?_ ?_
          rotate_left
          · intro wq; go_simp; try with_reducible rfl
          try simp only [Act.put, List.setIfInBounds_toArray, List.set_cons_zero, List.set_cons_succ]
          refine Kt.G.takeP 9 { dst := some 57, op := Op.extract (Operand.tmp 48) 1, type := 9, pos := "gadget.go:72", after := #[{ on := 7, ground := Ground.data }, { on := 12, ground := Ground.gcOnly Departure.lateStores }], guard := none } ?_ (fun _ => hHeld) rfl (by kernel_rfl) (fun _ _ _ h => h) (by rfl) ?_ ?_
          rotate_left
          · intro wq; go_simp; try with_reducible rfl
          try simp only [Act.put, List.setIfInBounds_toArray, List.set_cons_zero, List.set_cons_succ]
          refine Kt.G.takeP 10 { dst := some 58, op := Op.extract (Operand.tmp 48) 2, type := 25, pos := "gadget.go:72", after := #[{ on := 7, ground := Ground.data }, { on := 13, ground := Ground.gcOnly Departure.lateStores }], guard := none } ?_ (fun _ => hHeld) rfl (by kernel_rfl) (fun _ _ _ h => h) (by rfl) ?_ ?_
          rotate_left
          · intro wq; go_simp; try with_reducible rfl
          try simp only [Act.put, List.setIfInBounds_toArray, List.set_cons_zero, List.set_cons_succ]
          refine Kt.G.one 11 { dst := some 8, op := Op.alloc 55, type := 0, pos := "gadget.go:72", after := #[], guard := none } rfl (by kernel_rfl) (by rfl) (fun K hK => ?_)
          have hkz := hHeld.bel.size
          have hkr : ∀ r ∈ ([(k_g, #[.int .i64 1, .int .i64 ad, .int .i64 0], 55), (w.heap.size, (shCs s F T), 53)] : List (Nat × Array Value × TypeId)), r.1 < xx.heap.size := fun r hr => hHeld.lt hr
          go_simp
          refine hK.out _ _ (fun _ => hHeld.alloc _) (fun hHeld => ?_)
          have hHeld := hHeld rfl
          clear hK K
          try simp only [Act.put, List.setIfInBounds_toArray, List.set_cons_zero, List.set_cons_succ]
          have rK := heap_alloc_new xx (.cells #[.int .i64 0, .int .i64 0, .int .i64 0] 55)
          generalize hkK : xx.heap.size = kK at *
          clear hkK
          generalize xx.alloc (.cells #[.int .i64 0, .int .i64 0, .int .i64 0] 55) = xx at *
          refine Kt.G.one 12 { dst := none, op := Op.store 55 (Operand.tmp 8) (Operand.tmp 56), type := 0, pos := "gadget.go:72", after := #[{ on := 11, ground := Ground.data }, { on := 8, ground := Ground.data }, { on := 6, ground := Ground.chain }, { on := 0, ground := Ground.phase }, { on := 1, ground := Ground.phase }, { on := 2, ground := Ground.phase }, { on := 3, ground := Ground.phase }, { on := 4, ground := Ground.phase }, { on := 5, ground := Ground.phase }, { on := 6, ground := Ground.phase }, { on := 7, ground := Ground.phase }, { on := 8, ground := Ground.phase }, { on := 9, ground := Ground.textOnly Departure.lateStores }, { on := 10, ground := Ground.textOnly Departure.lateStores }, { on := 11, ground := Ground.phase }], guard := none } rfl (by kernel_rfl) (by rfl) (fun K hK => ?_)
          have cK := fun i => cell_of_row _ _ i _ _ _ rK; have fK := fun i => frozen_of_row _ _ i _ _ rK
          go_simp
          refine hK.out _ _ (Kt.G.late (by kernel_rfl)) (fun _ => ?_)
          clear hK K
          try simp only [Act.put, List.setIfInBounds_toArray, List.set_cons_zero, List.set_cons_succ]
          refine Kt.G.takeP 13 { dst := some 9, op := Op.assign (Operand.tmp 57), type := 9, pos := "gadget.go:72", after := #[{ on := 9, ground := Ground.data }, { on := 12, ground := Ground.chain }, { on := 0, ground := Ground.phase }, { on := 1, ground := Ground.phase }, { on := 2, ground := Ground.phase }, { on := 3, ground := Ground.phase }, { on := 4, ground := Ground.phase }, { on := 5, ground := Ground.phase }, { on := 6, ground := Ground.phase }, { on := 7, ground := Ground.phase }, { on := 8, ground := Ground.phase }, { on := 9, ground := Ground.phase }, { on := 10, ground := Ground.textOnly Departure.lateStores }, { on := 11, ground := Ground.phase }, { on := 12, ground := Ground.phase }], guard := none } ?_ (Kt.G.late (by kernel_rfl)) rfl (by kernel_rfl) (fun _ _ _ h => h) (by rfl) ?_ ?_
          rotate_left
          · intro wq; go_simp; try with_reducible rfl
          try simp only [Act.put, List.setIfInBounds_toArray, List.set_cons_zero, List.set_cons_succ]
          refine Kt.G.takeP 14 { dst := some 10, op := Op.assign (Operand.tmp 58), type := 25, pos := "gadget.go:72", after := #[{ on := 10, ground := Ground.data }, { on := 13, ground := Ground.chain }, { on := 0, ground := Ground.phase }, { on := 1, ground := Ground.phase }, { on := 2, ground := Ground.phase }, { on := 3, ground := Ground.phase }, { on := 4, ground := Ground.phase }, { on := 5, ground := Ground.phase }, { on := 6, ground := Ground.phase }, { on := 7, ground := Ground.phase }, { on := 8, ground := Ground.phase }, { on := 9, ground := Ground.phase }, { on := 10, ground := Ground.phase }, { on := 11, ground := Ground.phase }, { on := 12, ground := Ground.phase }, { on := 13, ground := Ground.phase }], guard := none } ?_ (Kt.G.late (by kernel_rfl)) rfl (by kernel_rfl) (fun _ _ _ h => h) (by rfl) ?_ ?_
          rotate_left
          · intro wq; go_simp; try with_reducible rfl
          try simp only [Act.put, List.setIfInBounds_toArray, List.set_cons_zero, List.set_cons_succ]
          refine Kt.G.done (by kernel_rfl) (NoPanic.normal ?_) _
          clear cK fK
          go_wp2_with fail
          go_meet
          case rel => exact ⟨kK, rfl, rfl, rfl, Lib.hid ((hHeld.onB (Kt.below_setCells [.int .i64 2, .int .i64 ad, .int .i64 0] kK 0 _ _ (Nat.le_refl _) (Below.refl _ _)) hkz hkr).add (Kt.fill [.int .i64 2, .int .i64 ad, .int .i64 0] rK rfl))⟩
        · have hkz := hHeld.bel.size
          have hkr : ∀ r ∈ ([(k_g, #[.int .i64 1, .int .i64 ad, .int .i64 0], 55), (w.heap.size, (shCs s F T), 53)] : List (Nat × Array Value × TypeId)), r.1 < xx.heap.size := fun r hr => hHeld.lt hr
          go_simp
          refine hK.out _ _ (fun _ => hHeld.alloc _) (fun hHeld => ?_)
          have hHeld := hHeld rfl
          clear hK K
          try simp only [Act.put, List.setIfInBounds_toArray, List.set_cons_zero, List.set_cons_succ]
          have rK := heap_alloc_new xx (.cells #[.int .i64 0, .int .i64 0, .int .i64 0] 55)
          generalize hkK : xx.heap.size = kK at *
          clear hkK
          generalize xx.alloc (.cells #[.int .i64 0, .int .i64 0, .int .i64 0] 55) = xx at *
          refine Kt.G.one 6 { dst := some 55, op := Op.call { callee := Callee.value (Operand.func 23), args := #[Operand.tmp 49, Operand.tmp 50, Operand.tmp 54], argTypes := #[53, 55, 9] }, type := 56, pos := "gadget.go:72", after := #[{ on := 0, ground := Ground.data }, { on := 1, ground := Ground.data }, { on := 5, ground := Ground.data }, { on := 5, ground := Ground.chain }], guard := none } rfl (by kernel_rfl) (by rfl) (fun K hK => ?_)
          go_simp
          refine (K2.out _ hHeld.bel).mono ?_; rintro en xx ⟨rfl, hb⟩
          refine hK.out _ _ (fun _ => hHeld.on hb) (fun hHeld => ?_)
          have hHeld := hHeld rfl
          clear hK K
          try simp only [Act.put, List.setIfInBounds_toArray, List.set_cons_zero, List.set_cons_succ]
          try (replace rK := Kt.row_on hb rK)
          clear hb
          refine Kt.G.takeP 7 { dst := some 48, op := Op.move (Operand.tmp 55), type := 56, pos := "gadget.go:72", after := #[{ on := 6, ground := Ground.data }], guard := none } ?_ (fun _ => hHeld) rfl (by kernel_rfl) (fun _ _ _ h => h) (by rfl) ?_ ?_
          rotate_left
          · intro wq; go_simp; try with_reducible rfl
          try simp only [Act.put, List.setIfInBounds_toArray, List.set_cons_zero, List.set_cons_succ]
          refine Kt.G.takeP 8 { dst := some 56, op := Op.extract (Operand.tmp 48) 0, type := 55, pos := "gadget.go:72", after := #[{ on := 7, ground := Ground.data }], guard := none } ?_ (fun _ => hHeld) rfl (by kernel_rfl) (fun _ _ _ h => h) (by rfl) ?_ ?_
          rotate_left
          · intro wq; go_simp; try with_reducible rfl
          try simp only [Act.put, List.setIfInBounds_toArray, List.set_cons_zero, List.set_cons_succ]
          refine Kt.G.takeP 9 { dst := some 57, op := Op.extract (Operand.tmp 48) 1, type := 9, pos := "gadget.go:72", after := #[{ on := 7, ground := Ground.data }, { on := 12, ground := Ground.gcOnly Departure.lateStores }], guard := none } ?_ (fun _ => hHeld) rfl (by kernel_rfl) (fun _ _ _ h => h) (by rfl) ?_ ?_
          rotate_left
          · intro wq; go_simp; try with_reducible rfl
          try simp only [Act.put, List.setIfInBounds_toArray, List.set_cons_zero, List.set_cons_succ]
          refine Kt.G.takeP 10 { dst := some 58, op := Op.extract (Operand.tmp 48) 2, type := 25, pos := "gadget.go:72", after := #[{ on := 7, ground := Ground.data }, { on := 13, ground := Ground.gcOnly Departure.lateStores }], guard := none } ?_ (fun _ => hHeld) rfl (by kernel_rfl) (fun _ _ _ h => h) (by rfl) ?_ ?_
          rotate_left
          · intro wq; go_simp; try with_reducible rfl
          try simp only [Act.put, List.setIfInBounds_toArray, List.set_cons_zero, List.set_cons_succ]
          refine Kt.G.one 12 { dst := none, op := Op.store 55 (Operand.tmp 8) (Operand.tmp 56), type := 0, pos := "gadget.go:72", after := #[{ on := 11, ground := Ground.data }, { on := 8, ground := Ground.data }, { on := 6, ground := Ground.chain }, { on := 0, ground := Ground.phase }, { on := 1, ground := Ground.phase }, { on := 2, ground := Ground.phase }, { on := 3, ground := Ground.phase }, { on := 4, ground := Ground.phase }, { on := 5, ground := Ground.phase }, { on := 6, ground := Ground.phase }, { on := 7, ground := Ground.phase }, { on := 8, ground := Ground.phase }, { on := 9, ground := Ground.textOnly Departure.lateStores }, { on := 10, ground := Ground.textOnly Departure.lateStores }, { on := 11, ground := Ground.phase }], guard := none } rfl (by kernel_rfl) (by rfl) (fun K hK => ?_)
          have cK := fun i => cell_of_row _ _ i _ _ _ rK; have fK := fun i => frozen_of_row _ _ i _ _ rK
          go_simp
          refine hK.out _ _ (Kt.G.late (by kernel_rfl)) (fun _ => ?_)
          clear hK K
          try simp only [Act.put, List.setIfInBounds_toArray, List.set_cons_zero, List.set_cons_succ]
          refine Kt.G.takeP 13 { dst := some 9, op := Op.assign (Operand.tmp 57), type := 9, pos := "gadget.go:72", after := #[{ on := 9, ground := Ground.data }, { on := 12, ground := Ground.chain }, { on := 0, ground := Ground.phase }, { on := 1, ground := Ground.phase }, { on := 2, ground := Ground.phase }, { on := 3, ground := Ground.phase }, { on := 4, ground := Ground.phase }, { on := 5, ground := Ground.phase }, { on := 6, ground := Ground.phase }, { on := 7, ground := Ground.phase }, { on := 8, ground := Ground.phase }, { on := 9, ground := Ground.phase }, { on := 10, ground := Ground.textOnly Departure.lateStores }, { on := 11, ground := Ground.phase }, { on := 12, ground := Ground.phase }], guard := none } ?_ (Kt.G.late (by kernel_rfl)) rfl (by kernel_rfl) (fun _ _ _ h => h) (by rfl) ?_ ?_
          rotate_left
          · intro wq; go_simp; try with_reducible rfl
          try simp only [Act.put, List.setIfInBounds_toArray, List.set_cons_zero, List.set_cons_succ]
          refine Kt.G.takeP 14 { dst := some 10, op := Op.assign (Operand.tmp 58), type := 25, pos := "gadget.go:72", after := #[{ on := 10, ground := Ground.data }, { on := 13, ground := Ground.chain }, { on := 0, ground := Ground.phase }, { on := 1, ground := Ground.phase }, { on := 2, ground := Ground.phase }, { on := 3, ground := Ground.phase }, { on := 4, ground := Ground.phase }, { on := 5, ground := Ground.phase }, { on := 6, ground := Ground.phase }, { on := 7, ground := Ground.phase }, { on := 8, ground := Ground.phase }, { on := 9, ground := Ground.phase }, { on := 10, ground := Ground.phase }, { on := 11, ground := Ground.phase }, { on := 12, ground := Ground.phase }, { on := 13, ground := Ground.phase }], guard := none } ?_ (Kt.G.late (by kernel_rfl)) rfl (by kernel_rfl) (fun _ _ _ h => h) (by rfl) ?_ ?_
          rotate_left
          · intro wq; go_simp; try with_reducible rfl
          try simp only [Act.put, List.setIfInBounds_toArray, List.set_cons_zero, List.set_cons_succ]
          refine Kt.G.done (by kernel_rfl) (NoPanic.normal ?_) _
          clear cK fK
          go_wp2_with fail
          go_meet
          case rel => exact ⟨kK, rfl, rfl, rfl, Lib.hid ((hHeld.onB (Kt.below_setCells [.int .i64 2, .int .i64 ad, .int .i64 0] kK 0 _ _ (Nat.le_refl _) (Below.refl _ _)) hkz hkr).add (Kt.fill [.int .i64 2, .int .i64 ad, .int .i64 0] rK rfl))⟩
      · have hkz := hHeld.bel.size
        have hkr : ∀ r ∈ ([(k_g, #[.int .i64 1, .int .i64 ad, .int .i64 0], 55), (w.heap.size, (shCs s F T), 53)] : List (Nat × Array Value × TypeId)), r.1 < xx.heap.size := fun r hr => hHeld.lt hr
        go_simp
        refine hK.out _ _ (fun _ => hHeld.alloc _) (fun hHeld => ?_)
        have hHeld := hHeld rfl
        clear hK K
        try simp only [Act.put, List.setIfInBounds_toArray, List.set_cons_zero, List.set_cons_succ]
        have rK := heap_alloc_new xx (.cells #[.int .i64 0, .int .i64 0, .int .i64 0] 55)
        generalize hkK : xx.heap.size = kK at *
        clear hkK
        generalize xx.alloc (.cells #[.int .i64 0, .int .i64 0, .int .i64 0] 55) = xx at *
        refine Kt.G.one 5 { dst := some 54, op := Op.call { callee := Callee.value (Operand.func 28), args := #[Operand.const (Value.int IntKind.i64 6), Operand.tmp 53, Operand.const (Value.int IntKind.i64 0), Operand.const (Value.int IntKind.i64 0)], argTypes := #[3, 3, 3, 3] }, type := 9, pos := "gadget.go:72", after := #[{ on := 4, ground := Ground.data }], guard := none } rfl (by kernel_rfl) (by rfl) (fun K hK => ?_)
        go_simp
        refine (HA2.out _).mono ?_; rintro en xx ⟨rfl, hb⟩
        refine hK.out _ _ (fun _ => hHeld.on hb) (fun hHeld => ?_)
        have hHeld := hHeld rfl
        clear hK K
        try simp only [Act.put, List.setIfInBounds_toArray, List.set_cons_zero, List.set_cons_succ]
        try (replace rK := Kt.row_on hb rK)
        clear hb
        refine Kt.G.one 6 { dst := some 55, op := Op.call { callee := Callee.value (Operand.func 23), args := #[Operand.tmp 49, Operand.tmp 50, Operand.tmp 54], argTypes := #[53, 55, 9] }, type := 56, pos := "gadget.go:72", after := #[{ on := 0, ground := Ground.data }, { on := 1, ground := Ground.data }, { on := 5, ground := Ground.data }, { on := 5, ground := Ground.chain }], guard := none } rfl (by kernel_rfl) (by rfl) (fun K hK => ?_)
        go_simp
        refine (K2.out _ hHeld.bel).mono ?_; rintro en xx ⟨rfl, hb⟩
        refine hK.out _ _ (fun _ => hHeld.on hb) (fun hHeld => ?_)
        have hHeld := hHeld rfl
        clear hK K
        try simp only [Act.put, List.setIfInBounds_toArray, List.set_cons_zero, List.set_cons_succ]
        try (replace rK := Kt.row_on hb rK)
        clear hb
        refine Kt.G.takeP 7 { dst := some 48, op := Op.move (Operand.tmp 55), type := 56, pos := "gadget.go:72", after := #[{ on := 6, ground := Ground.data }], guard := none } ?_ (fun _ => hHeld) rfl (by kernel_rfl) (fun _ _ _ h => h) (by rfl) ?_ ?_
        rotate_left
        · intro wq; go_simp; try with_reducible rfl
        try simp only [Act.put, List.setIfInBounds_toArray, List.set_cons_zero, List.set_cons_succ]
        refine Kt.G.takeP 8 { dst := some 56, op := Op.extract (Operand.tmp 48) 0, type := 55, pos := "gadget.go:72", after := #[{ on := 7, ground := Ground.data }], guard := none } ?_ (fun _ => hHeld) rfl (by kernel_rfl) (fun _ _ _ h => h) (by rfl) ?_ ?_
        rotate_left
        · intro wq; go_simp; try with_reducible rfl
        try simp only [Act.put, List.setIfInBounds_toArray, List.set_cons_zero, List.set_cons_succ]
        refine Kt.G.takeP 9 { dst := some 57, op := Op.extract (Operand.tmp 48) 1, type := 9, pos := "gadget.go:72", after := #[{ on := 7, ground := Ground.data }, { on := 12, ground := Ground.gcOnly Departure.lateStores }], guard := none } ?_ (fun _ => hHeld) rfl (by kernel_rfl) (fun _ _ _ h => h) (by rfl) ?_ ?_
        rotate_left
        · intro wq; go_simp; try with_reducible rfl
        try simp only [Act.put, List.setIfInBounds_toArray, List.set_cons_zero, List.set_cons_succ]
        refine Kt.G.takeP 10 { dst := some 58, op := Op.extract (Operand.tmp 48) 2, type := 25, pos := "gadget.go:72", after := #[{ on := 7, ground := Ground.data }, { on := 13, ground := Ground.gcOnly Departure.lateStores }], guard := none } ?_ (fun _ => hHeld) rfl (by kernel_rfl) (fun _ _ _ h => h) (by rfl) ?_ ?_
        rotate_left
        · intro wq; go_simp; try with_reducible rfl
        try simp only [Act.put, List.setIfInBounds_toArray, List.set_cons_zero, List.set_cons_succ]
        refine Kt.G.one 12 { dst := none, op := Op.store 55 (Operand.tmp 8) (Operand.tmp 56), type := 0, pos := "gadget.go:72", after := #[{ on := 11, ground := Ground.data }, { on := 8, ground := Ground.data }, { on := 6, ground := Ground.chain }, { on := 0, ground := Ground.phase }, { on := 1, ground := Ground.phase }, { on := 2, ground := Ground.phase }, { on := 3, ground := Ground.phase }, { on := 4, ground := Ground.phase }, { on := 5, ground := Ground.phase }, { on := 6, ground := Ground.phase }, { on := 7, ground := Ground.phase }, { on := 8, ground := Ground.phase }, { on := 9, ground := Ground.textOnly Departure.lateStores }, { on := 10, ground := Ground.textOnly Departure.lateStores }, { on := 11, ground := Ground.phase }], guard := none } rfl (by kernel_rfl) (by rfl) (fun K hK => ?_)
        have cK := fun i => cell_of_row _ _ i _ _ _ rK; have fK := fun i => frozen_of_row _ _ i _ _ rK
        go_simp
        refine hK.out _ _ (Kt.G.late (by kernel_rfl)) (fun _ => ?_)
        clear hK K
        try simp only [Act.put, List.setIfInBounds_toArray, List.set_cons_zero, List.set_cons_succ]
        refine Kt.G.takeP 13 { dst := some 9, op := Op.assign (Operand.tmp 57), type := 9, pos := "gadget.go:72", after := #[{ on := 9, ground := Ground.data }, { on := 12, ground := Ground.chain }, { on := 0, ground := Ground.phase }, { on := 1, ground := Ground.phase }, { on := 2, ground := Ground.phase }, { on := 3, ground := Ground.phase }, { on := 4, ground := Ground.phase }, { on := 5, ground := Ground.phase }, { on := 6, ground := Ground.phase }, { on := 7, ground := Ground.phase }, { on := 8, ground := Ground.phase }, { on := 9, ground := Ground.phase }, { on := 10, ground := Ground.textOnly Departure.lateStores }, { on := 11, ground := Ground.phase }, { on := 12, ground := Ground.phase }], guard := none } ?_ (Kt.G.late (by kernel_rfl)) rfl (by kernel_rfl) (fun _ _ _ h => h) (by rfl) ?_ ?_
        rotate_left
        · intro wq; go_simp; try with_reducible rfl
        try simp only [Act.put, List.setIfInBounds_toArray, List.set_cons_zero, List.set_cons_succ]
        refine Kt.G.takeP 14 { dst := some 10, op := Op.assign (Operand.tmp 58), type := 25, pos := "gadget.go:72", after := #[{ on := 10, ground := Ground.data }, { on := 13, ground := Ground.chain }, { on := 0, ground := Ground.phase }, { on := 1, ground := Ground.phase }, { on := 2, ground := Ground.phase }, { on := 3, ground := Ground.phase }, { on := 4, ground := Ground.phase }, { on := 5, ground := Ground.phase }, { on := 6, ground := Ground.phase }, { on := 7, ground := Ground.phase }, { on := 8, ground := Ground.phase }, { on := 9, ground := Ground.phase }, { on := 10, ground := Ground.phase }, { on := 11, ground := Ground.phase }, { on := 12, ground := Ground.phase }, { on := 13, ground := Ground.phase }], guard := none } ?_ (Kt.G.late (by kernel_rfl)) rfl (by kernel_rfl) (fun _ _ _ h => h) (by rfl) ?_ ?_
        rotate_left
        · intro wq; go_simp; try with_reducible rfl
        try simp only [Act.put, List.setIfInBounds_toArray, List.set_cons_zero, List.set_cons_succ]
        refine Kt.G.done (by kernel_rfl) (NoPanic.normal ?_) _
        clear cK fK
        go_wp2_with fail
        go_meet
        case rel => exact ⟨kK, rfl, rfl, rfl, Lib.hid ((hHeld.onB (Kt.below_setCells [.int .i64 2, .int .i64 ad, .int .i64 0] kK 0 _ _ (Nat.le_refl _) (Below.refl _ _)) hkz hkr).add (Kt.fill [.int .i64 2, .int .i64 ad, .int .i64 0] rK rfl))⟩
    case rest =>
      obtain ⟨k_h, rfl, rfl, rfl, HF4⟩ := hcut
      clear HF3
      go_upto_region 5 with (fail)
      go_cut [11, 12, 13] from 59 to 66 (fun p x y wx3 => ∃ kZ, p = .pointer (some ⟨kZ, 0, none⟩) ∧ x = .string S7 ∧ y = .int .i64 0 ∧ Hid (Kt.Fb w ((kZ, #[.int .i64 2, .int .i64 ad, .int .i64 0], 55) :: [(k_h, #[.int .i64 2, .int .i64 ad, .int .i64 0], 55), (k_g, #[.int .i64 1, .int .i64 ad, .int .i64 0], 55), (w.heap.size, (shCs s F T), 53)]) wx3))
      case first =>
        refine Kt.G.start 9 (Kt.Fb w [(k_h, #[.int .i64 2, .int .i64 ad, .int .i64 0], 55), (k_g, #[.int .i64 1, .int .i64 ad, .int .i64 0], 55), (w.heap.size, (shCs s F T), 53)]) (by kernel_rfl) HF4.out.drew (fun hHeld => ?_)
        generalize wc.drew = xx at *
        refine Kt.G.load_row 0 { dst := some 60, op := Op.load 53 (Operand.tmp 2), type := 53, pos := "gadget.go:73", after := #[], guard := none } 53 (Operand.tmp 2) w.heap.size 53 (shCs s F T) _ hHeld rfl (by kernel_rfl) (fun _ _ _ h => h) (by rfl) rfl rfl (fun _ h => h.row _ (List.Mem.tail _ (List.Mem.tail _ (List.Mem.head _)))) Try.underlying53 rfl (by kernel_rfl) ?_
        try simp only [Act.put, List.setIfInBounds_toArray, List.set_cons_zero, List.set_cons_succ]
        refine Kt.G.load_row 1 { dst := some 61, op := Op.load 55 (Operand.tmp 8), type := 55, pos := "gadget.go:73", after := #[], guard := none } 55 (Operand.tmp 8) k_h 55 #[.int .i64 2, .int .i64 ad, .int .i64 0] _ hHeld rfl (by kernel_rfl) (fun _ _ _ h => h) (by rfl) rfl rfl (fun _ h => h.row _ (List.Mem.head _)) Try.underlying55 rfl (by kernel_rfl) ?_
        try simp only [Act.put, List.setIfInBounds_toArray, List.set_cons_zero, List.set_cons_succ]
        refine Kt.G.two 2 8 { dst := some 62, op := Op.call { callee := Callee.value (Operand.func 28), args := #[Operand.const (Value.int IntKind.i64 7), Operand.const (Value.int IntKind.i64 0), Operand.const (Value.int IntKind.i64 0), Operand.const (Value.int IntKind.i64 1)], argTypes := #[3, 3, 3, 3] }, type := 9, pos := "gadget.go:73", after := #[], guard := none } { dst := some 11, op := Op.alloc 55, type := 0, pos := "gadget.go:73", after := #[], guard := none } rfl rfl (by kernel_rfl) (by rfl) (by rfl) (fun K hK => ?_) (fun K hK => ?_)
        · go_simp
          refine (HA3.out _).mono ?_; rintro en xx ⟨rfl, hb⟩
          refine hK.out _ _ (fun _ => hHeld.on hb) (fun hHeld => ?_)
          have hHeld := hHeld rfl
          clear hK K
          try simp only [Act.put, List.setIfInBounds_toArray, List.set_cons_zero, List.set_cons_succ]
          try (replace rK := Kt.row_on hb rK)
          clear hb
          refine Kt.G.two 3 8 { dst := some 63, op := Op.call { callee := Callee.value (Operand.func 23), args := #[Operand.tmp 60, Operand.tmp 61, Operand.tmp 62], argTypes := #[53, 55, 9] }, type := 56, pos := "gadget.go:73", after := #[{ on := 0, ground := Ground.data }, { on := 1, ground := Ground.data }, { on := 2, ground := Ground.data }, { on := 2, ground := Ground.chain }], guard := none } { dst := some 11, op := Op.alloc 55, type := 0, pos := "gadget.go:73", after := #[], guard := none } rfl rfl (by kernel_rfl) (by rfl) (by rfl) (fun K hK => ?_) (fun K hK => ?_)
          · go_simp
            refine (K3.out _ hHeld.bel).mono ?_; rintro en xx ⟨rfl, hb⟩
            refine hK.out _ _ (fun _ => hHeld.on hb) (fun hHeld => ?_)
            have hHeld := hHeld rfl
            clear hK K
            try simp only [Act.put, List.setIfInBounds_toArray, List.set_cons_zero, List.set_cons_succ]
            try (replace rK := Kt.row_on hb rK)
            clear hb
            refine Kt.G.takeP 4 { dst := some 59, op := Op.move (Operand.tmp 63), type := 56, pos := "gadget.go:73", after := #[{ on := 3, ground := Ground.data }], guard := none } ?_ (fun _ => hHeld) rfl (by kernel_rfl) (fun _ _ _ h => h) (by rfl) ?_ ?_
            rotate_left
            · intro wq; go_simp; try with_reducible rfl
            try simp only [Act.put, List.setIfInBounds_toArray, List.set_cons_zero, List.set_cons_succ]
            refine Kt.G.takeP 5 { dst := some 64, op := Op.extract (Operand.tmp 59) 0, type := 55, pos := "gadget.go:73", after := #[{ on := 4, ground := Ground.data }], guard := none } ?_ (fun _ => hHeld) rfl (by kernel_rfl) (fun _ _ _ h => h) (by rfl) ?_ ?_
            rotate_left
            · intro wq; go_simp; try with_reducible rfl
            try simp only [Act.put, List.setIfInBounds_toArray, List.set_cons_zero, List.set_cons_succ]
            refine Kt.G.takeP 6 { dst := some 65, op := Op.extract (Operand.tmp 59) 1, type := 9, pos := "gadget.go:73", after := #[{ on := 4, ground := Ground.data }, { on := 9, ground := Ground.gcOnly Departure.lateStores }], guard := none } ?_ (fun _ => hHeld) rfl (by kernel_rfl) (fun _ _ _ h => h) (by rfl) ?_ ?_
            rotate_left
            · intro wq; go_simp; try with_reducible rfl
            try simp only [Act.put, List.setIfInBounds_toArray, List.set_cons_zero, List.set_cons_succ]
            refine Kt.G.takeP 7 { dst := some 66, op := Op.extract (Operand.tmp 59) 2, type := 25, pos := "gadget.go:73", after := #[{ on := 4, ground := Ground.data }, { on := 10, ground := Ground.gcOnly Departure.lateStores }], guard := none } ?_ (fun _ => hHeld) rfl (by kernel_rfl) (fun _ _ _ h => h) (by rfl) ?_ ?_
            rotate_left
            · intro wq; go_simp; try with_reducible rfl
            try simp only [Act.put, List.setIfInBounds_toArray, List.set_cons_zero, List.set_cons_succ]
            refine Kt.G.one 8 { dst := some 11, op := Op.alloc 55, type := 0, pos := "gadget.go:73", after := #[], guard := none } rfl (by kernel_rfl) (by rfl) (fun K hK => ?_)
            have hkz := hHeld.bel.size
            have hkr : ∀ r ∈ ([(k_h, #[.int .i64 2, .int .i64 ad, .int .i64 0], 55), (k_g, #[.int .i64 1, .int .i64 ad, .int .i64 0], 55), (w.heap.size, (shCs s F T), 53)] : List (Nat × Array Value × TypeId)), r.1 < xx.heap.size := fun r hr => hHeld.lt hr
            go_simp
            refine hK.out _ _ (fun _ => hHeld.alloc _) (fun hHeld => ?_)
            have hHeld := hHeld rfl
            clear hK K
            try simp only [Act.put, List.setIfInBounds_toArray, List.set_cons_zero, List.set_cons_succ]
            have rK := heap_alloc_new xx (.cells #[.int .i64 0, .int .i64 0, .int .i64 0] 55)
            generalize hkK : xx.heap.size = kK at *
            clear hkK
            generalize xx.alloc (.cells #[.int .i64 0, .int .i64 0, .int .i64 0] 55) = xx at *
            refine Kt.G.one 9 { dst := none, op := Op.store 55 (Operand.tmp 11) (Operand.tmp 64), type := 0, pos := "gadget.go:73", after := #[{ on := 8, ground := Ground.data }, { on := 5, ground := Ground.data }, { on := 3, ground := Ground.chain }, { on := 0, ground := Ground.phase }, { on := 1, ground := Ground.phase }, { on := 2, ground := Ground.phase }, { on := 3, ground := Ground.phase }, { on := 4, ground := Ground.phase }, { on := 5, ground := Ground.phase }, { on := 6, ground := Ground.textOnly Departure.lateStores }, { on := 7, ground := Ground.textOnly Departure.lateStores }, { on := 8, ground := Ground.phase }], guard := none } rfl (by kernel_rfl) (by rfl) (fun K hK => ?_)
            have cK := fun i => cell_of_row _ _ i _ _ _ rK; have fK := fun i => frozen_of_row _ _ i _ _ rK
            go_simp
            refine hK.out _ _ (Kt.G.late (by kernel_rfl)) (fun _ => ?_)
            clear hK K
            try simp only [Act.put, List.setIfInBounds_toArray, List.set_cons_zero, List.set_cons_succ]
            refine Kt.G.takeP 10 { dst := some 12, op := Op.assign (Operand.tmp 65), type := 9, pos := "gadget.go:73", after := #[{ on := 6, ground := Ground.data }, { on := 9, ground := Ground.chain }, { on := 0, ground := Ground.phase }, { on := 1, ground := Ground.phase }, { on := 2, ground := Ground.phase }, { on := 3, ground := Ground.phase }, { on := 4, ground := Ground.phase }, { on := 5, ground := Ground.phase }, { on := 6, ground := Ground.phase }, { on := 7, ground := Ground.textOnly Departure.lateStores }, { on := 8, ground := Ground.phase }, { on := 9, ground := Ground.phase }], guard := none } ?_ (Kt.G.late (by kernel_rfl)) rfl (by kernel_rfl) (fun _ _ _ h => h) (by rfl) ?_ ?_
            rotate_left
            · intro wq; go_simp; try with_reducible rfl
            try simp only [Act.put, List.setIfInBounds_toArray, List.set_cons_zero, List.set_cons_succ]
            refine Kt.G.takeP 11 { dst := some 13, op := Op.assign (Operand.tmp 66), type := 25, pos := "gadget.go:73", after := #[{ on := 7, ground := Ground.data }, { on := 10, ground := Ground.chain }, { on := 0, ground := Ground.phase }, { on := 1, ground := Ground.phase }, { on := 2, ground := Ground.phase }, { on := 3, ground := Ground.phase }, { on := 4, ground := Ground.phase }, { on := 5, ground := Ground.phase }, { on := 6, ground := Ground.phase }, { on := 7, ground := Ground.phase }, { on := 8, ground := Ground.phase }, { on := 9, ground := Ground.phase }, { on := 10, ground := Ground.phase }], guard := none } ?_ (Kt.G.late (by kernel_rfl)) rfl (by kernel_rfl) (fun _ _ _ h => h) (by rfl) ?_ ?_
            rotate_left
            · intro wq; go_simp; try with_reducible rfl
            try simp only [Act.put, List.setIfInBounds_toArray, List.set_cons_zero, List.set_cons_succ]
            refine Kt.G.done (by kernel_rfl) (NoPanic.normal ?_) _
            clear cK fK
            go_wp2_with fail
            go_meet
            case rel => exact ⟨kK, rfl, rfl, rfl, Lib.hid ((hHeld.onB (Kt.below_setCells [.int .i64 2, .int .i64 ad, .int .i64 0] kK 0 _ _ (Nat.le_refl _) (Below.refl _ _)) hkz hkr).add (Kt.fill [.int .i64 2, .int .i64 ad, .int .i64 0] rK rfl))⟩
          · have hkz := hHeld.bel.size
            have hkr : ∀ r ∈ ([(k_h, #[.int .i64 2, .int .i64 ad, .int .i64 0], 55), (k_g, #[.int .i64 1, .int .i64 ad, .int .i64 0], 55), (w.heap.size, (shCs s F T), 53)] : List (Nat × Array Value × TypeId)), r.1 < xx.heap.size := fun r hr => hHeld.lt hr
            go_simp
            refine hK.out _ _ (fun _ => hHeld.alloc _) (fun hHeld => ?_)
            have hHeld := hHeld rfl
            clear hK K
            try simp only [Act.put, List.setIfInBounds_toArray, List.set_cons_zero, List.set_cons_succ]
            have rK := heap_alloc_new xx (.cells #[.int .i64 0, .int .i64 0, .int .i64 0] 55)
            generalize hkK : xx.heap.size = kK at *
            clear hkK
            generalize xx.alloc (.cells #[.int .i64 0, .int .i64 0, .int .i64 0] 55) = xx at *
            refine Kt.G.one 3 { dst := some 63, op := Op.call { callee := Callee.value (Operand.func 23), args := #[Operand.tmp 60, Operand.tmp 61, Operand.tmp 62], argTypes := #[53, 55, 9] }, type := 56, pos := "gadget.go:73", after := #[{ on := 0, ground := Ground.data }, { on := 1, ground := Ground.data }, { on := 2, ground := Ground.data }, { on := 2, ground := Ground.chain }], guard := none } rfl (by kernel_rfl) (by rfl) (fun K hK => ?_)
            go_simp
            refine (K3.out _ hHeld.bel).mono ?_; rintro en xx ⟨rfl, hb⟩
            refine hK.out _ _ (fun _ => hHeld.on hb) (fun hHeld => ?_)
            have hHeld := hHeld rfl
            clear hK K
            try simp only [Act.put, List.setIfInBounds_toArray, List.set_cons_zero, List.set_cons_succ]
            try (replace rK := Kt.row_on hb rK)
            clear hb
            refine Kt.G.takeP 4 { dst := some 59, op := Op.move (Operand.tmp 63), type := 56, pos := "gadget.go:73", after := #[{ on := 3, ground := Ground.data }], guard := none } ?_ (fun _ => hHeld) rfl (by kernel_rfl) (fun _ _ _ h => h) (by rfl) ?_ ?_
            rotate_left
            · intro wq; go_simp; try with_reducible rfl
            try simp only [Act.put, List.setIfInBounds_toArray, List.set_cons_zero, List.set_cons_succ]
            refine Kt.G.takeP 5 { dst := some 64, op := Op.extract (Operand.tmp 59) 0, type := 55, pos := "gadget.go:73", after := #[{ on := 4, ground := Ground.data }], guard := none } ?_ (fun _ => hHeld) rfl (by kernel_rfl) (fun _ _ _ h => h) (by rfl) ?_ ?_
            rotate_left
            · intro wq; go_simp; try with_reducible rfl
            try simp only [Act.put, List.setIfInBounds_toArray, List.set_cons_zero, List.set_cons_succ]
            refine Kt.G.takeP 6 { dst := some 65, op := Op.extract (Operand.tmp 59) 1, type := 9, pos := "gadget.go:73", after := #[{ on := 4, ground := Ground.data }, { on := 9, ground := Ground.gcOnly Departure.lateStores }], guard := none } ?_ (fun _ => hHeld) rfl (by kernel_rfl) (fun _ _ _ h => h) (by rfl) ?_ ?_
            rotate_left
            · intro wq; go_simp; try with_reducible rfl
            try simp only [Act.put, List.setIfInBounds_toArray, List.set_cons_zero, List.set_cons_succ]
            refine Kt.G.takeP 7 { dst := some 66, op := Op.extract (Operand.tmp 59) 2, type := 25, pos := "gadget.go:73", after := #[{ on := 4, ground := Ground.data }, { on := 10, ground := Ground.gcOnly Departure.lateStores }], guard := none } ?_ (fun _ => hHeld) rfl (by kernel_rfl) (fun _ _ _ h => h) (by rfl) ?_ ?_
            rotate_left
            · intro wq; go_simp; try with_reducible rfl
            try simp only [Act.put, List.setIfInBounds_toArray, List.set_cons_zero, List.set_cons_succ]
            refine Kt.G.one 9 { dst := none, op := Op.store 55 (Operand.tmp 11) (Operand.tmp 64), type := 0, pos := "gadget.go:73", after := #[{ on := 8, ground := Ground.data }, { on := 5, ground := Ground.data }, { on := 3, ground := Ground.chain }, { on := 0, ground := Ground.phase }, { on := 1, ground := Ground.phase }, { on := 2, ground := Ground.phase }, { on := 3, ground := Ground.phase }, { on := 4, ground := Ground.phase }, { on := 5, ground := Ground.phase }, { on := 6, ground := Ground.textOnly Departure.lateStores }, { on := 7, ground := Ground.textOnly Departure.lateStores }, { on := 8, ground := Ground.phase }], guard := none } rfl (by kernel_rfl) (by rfl) (fun K hK => ?_)
            have cK := fun i => cell_of_row _ _ i _ _ _ rK; have fK := fun i => frozen_of_row _ _ i _ _ rK
            go_simp
            refine hK.out _ _ (Kt.G.late (by kernel_rfl)) (fun _ => ?_)
            clear hK K
            try simp only [Act.put, List.setIfInBounds_toArray, List.set_cons_zero, List.set_cons_succ]
            refine Kt.G.takeP 10 { dst := some 12, op := Op.assign (Operand.tmp 65), type := 9, pos := "gadget.go:73", after := #[{ on := 6, ground := Ground.data }, { on := 9, ground := Ground.chain }, { on := 0, ground := Ground.phase }, { on := 1, ground := Ground.phase }, { on := 2, ground := Ground.phase }, { on := 3, ground := Ground.phase }, { on := 4, ground := Ground.phase }, { on := 5, ground := Ground.phase }, { on := 6, ground := Ground.phase }, { on := 7, ground := Ground.textOnly Departure.lateStores }, { on := 8, ground := Ground.phase }, { on := 9, ground := Ground.phase }], guard := none } ?_ (Kt.G.late (by kernel_rfl)) rfl (by kernel_rfl) (fun _ _ _ h => h) (by rfl) ?_ ?_
            rotate_left
            · intro wq; go_simp; try with_reducible rfl
            try simp only [Act.put, List.setIfInBounds_toArray, List.set_cons_zero, List.set_cons_succ]
            refine Kt.G.takeP 11 { dst := some 13, op := Op.assign (Operand.tmp 66), type := 25, pos := "gadget.go:73", after := #[{ on := 7, ground := Ground.data }, { on := 10, ground := Ground.chain }, { on := 0, ground := Ground.phase }, { on := 1, ground := Ground.phase }, { on := 2, ground := Ground.phase }, { on := 3, ground := Ground.phase }, { on := 4, ground := Ground.phase }, { on := 5, ground := Ground.phase }, { on := 6, ground := Ground.phase }, { on := 7, ground := Ground.phase }, { on := 8, ground := Ground.phase }, { on := 9, ground := Ground.phase }, { on := 10, ground := Ground.phase }], guard := none } ?_ (Kt.G.late (by kernel_rfl)) rfl (by kernel_rfl) (fun _ _ _ h => h) (by rfl) ?_ ?_
            rotate_left
            · intro wq; go_simp; try with_reducible rfl
            try simp only [Act.put, List.setIfInBounds_toArray, List.set_cons_zero, List.set_cons_succ]
            refine Kt.G.done (by kernel_rfl) (NoPanic.normal ?_) _
            clear cK fK
            go_wp2_with fail
            go_meet
            case rel => exact ⟨kK, rfl, rfl, rfl, Lib.hid ((hHeld.onB (Kt.below_setCells [.int .i64 2, .int .i64 ad, .int .i64 0] kK 0 _ _ (Nat.le_refl _) (Below.refl _ _)) hkz hkr).add (Kt.fill [.int .i64 2, .int .i64 ad, .int .i64 0] rK rfl))⟩
        · have hkz := hHeld.bel.size
          have hkr : ∀ r ∈ ([(k_h, #[.int .i64 2, .int .i64 ad, .int .i64 0], 55), (k_g, #[.int .i64 1, .int .i64 ad, .int .i64 0], 55), (w.heap.size, (shCs s F T), 53)] : List (Nat × Array Value × TypeId)), r.1 < xx.heap.size := fun r hr => hHeld.lt hr
          go_simp
          refine hK.out _ _ (fun _ => hHeld.alloc _) (fun hHeld => ?_)
          have hHeld := hHeld rfl
          clear hK K
          try simp only [Act.put, List.setIfInBounds_toArray, List.set_cons_zero, List.set_cons_succ]
          have rK := heap_alloc_new xx (.cells #[.int .i64 0, .int .i64 0, .int .i64 0] 55)
          generalize hkK : xx.heap.size = kK at *
          clear hkK
          generalize xx.alloc (.cells #[.int .i64 0, .int .i64 0, .int .i64 0] 55) = xx at *
          refine Kt.G.one 2 { dst := some 62, op := Op.call { callee := Callee.value (Operand.func 28), args := #[Operand.const (Value.int IntKind.i64 7), Operand.const (Value.int IntKind.i64 0), Operand.const (Value.int IntKind.i64 0), Operand.const (Value.int IntKind.i64 1)], argTypes := #[3, 3, 3, 3] }, type := 9, pos := "gadget.go:73", after := #[], guard := none } rfl (by kernel_rfl) (by rfl) (fun K hK => ?_)
          go_simp
          refine (HA3.out _).mono ?_; rintro en xx ⟨rfl, hb⟩
          refine hK.out _ _ (fun _ => hHeld.on hb) (fun hHeld => ?_)
          have hHeld := hHeld rfl
          clear hK K
          try simp only [Act.put, List.setIfInBounds_toArray, List.set_cons_zero, List.set_cons_succ]
          try (replace rK := Kt.row_on hb rK)
          clear hb
          refine Kt.G.one 3 { dst := some 63, op := Op.call { callee := Callee.value (Operand.func 23), args := #[Operand.tmp 60, Operand.tmp 61, Operand.tmp 62], argTypes := #[53, 55, 9] }, type := 56, pos := "gadget.go:73", after := #[{ on := 0, ground := Ground.data }, { on := 1, ground := Ground.data }, { on := 2, ground := Ground.data }, { on := 2, ground := Ground.chain }], guard := none } rfl (by kernel_rfl) (by rfl) (fun K hK => ?_)
          go_simp
          refine (K3.out _ hHeld.bel).mono ?_; rintro en xx ⟨rfl, hb⟩
          refine hK.out _ _ (fun _ => hHeld.on hb) (fun hHeld => ?_)
          have hHeld := hHeld rfl
          clear hK K
          try simp only [Act.put, List.setIfInBounds_toArray, List.set_cons_zero, List.set_cons_succ]
          try (replace rK := Kt.row_on hb rK)
          clear hb
          refine Kt.G.takeP 4 { dst := some 59, op := Op.move (Operand.tmp 63), type := 56, pos := "gadget.go:73", after := #[{ on := 3, ground := Ground.data }], guard := none } ?_ (fun _ => hHeld) rfl (by kernel_rfl) (fun _ _ _ h => h) (by rfl) ?_ ?_
          rotate_left
          · intro wq; go_simp; try with_reducible rfl
          try simp only [Act.put, List.setIfInBounds_toArray, List.set_cons_zero, List.set_cons_succ]
          refine Kt.G.takeP 5 { dst := some 64, op := Op.extract (Operand.tmp 59) 0, type := 55, pos := "gadget.go:73", after := #[{ on := 4, ground := Ground.data }], guard := none } ?_ (fun _ => hHeld) rfl (by kernel_rfl) (fun _ _ _ h => h) (by rfl) ?_ ?_
          rotate_left
          · intro wq; go_simp; try with_reducible rfl
          try simp only [Act.put, List.setIfInBounds_toArray, List.set_cons_zero, List.set_cons_succ]
          refine Kt.G.takeP 6 { dst := some 65, op := Op.extract (Operand.tmp 59) 1, type := 9, pos := "gadget.go:73", after := #[{ on := 4, ground := Ground.data }, { on := 9, ground := Ground.gcOnly Departure.lateStores }], guard := none } ?_ (fun _ => hHeld) rfl (by kernel_rfl) (fun _ _ _ h => h) (by rfl) ?_ ?_
          rotate_left
          · intro wq; go_simp; try with_reducible rfl
          try simp only [Act.put, List.setIfInBounds_toArray, List.set_cons_zero, List.set_cons_succ]
          refine Kt.G.takeP 7 { dst := some 66, op := Op.extract (Operand.tmp 59) 2, type := 25, pos := "gadget.go:73", after := #[{ on := 4, ground := Ground.data }, { on := 10, ground := Ground.gcOnly Departure.lateStores }], guard := none } ?_ (fun _ => hHeld) rfl (by kernel_rfl) (fun _ _ _ h => h) (by rfl) ?_ ?_
          rotate_left
          · intro wq; go_simp; try with_reducible rfl
          try simp only [Act.put, List.setIfInBounds_toArray, List.set_cons_zero, List.set_cons_succ]
          refine Kt.G.one 9 { dst := none, op := Op.store 55 (Operand.tmp 11) (Operand.tmp 64), type := 0, pos := "gadget.go:73", after := #[{ on := 8, ground := Ground.data }, { on := 5, ground := Ground.data }, { on := 3, ground := Ground.chain }, { on := 0, ground := Ground.phase }, { on := 1, ground := Ground.phase }, { on := 2, ground := Ground.phase }, { on := 3, ground := Ground.phase }, { on := 4, ground := Ground.phase }, { on := 5, ground := Ground.phase }, { on := 6, ground := Ground.textOnly Departure.lateStores }, { on := 7, ground := Ground.textOnly Departure.lateStores }, { on := 8, ground := Ground.phase }], guard := none } rfl (by kernel_rfl) (by rfl) (fun K hK => ?_)
          have cK := fun i => cell_of_row _ _ i _ _ _ rK; have fK := fun i => frozen_of_row _ _ i _ _ rK
          go_simp
          refine hK.out _ _ (Kt.G.late (by kernel_rfl)) (fun _ => ?_)
          clear hK K
          try simp only [Act.put, List.setIfInBounds_toArray, List.set_cons_zero, List.set_cons_succ]
          refine Kt.G.takeP 10 { dst := some 12, op := Op.assign (Operand.tmp 65), type := 9, pos := "gadget.go:73", after := #[{ on := 6, ground := Ground.data }, { on := 9, ground := Ground.chain }, { on := 0, ground := Ground.phase }, { on := 1, ground := Ground.phase }, { on := 2, ground := Ground.phase }, { on := 3, ground := Ground.phase }, { on := 4, ground := Ground.phase }, { on := 5, ground := Ground.phase }, { on := 6, ground := Ground.phase }, { on := 7, ground := Ground.textOnly Departure.lateStores }, { on := 8, ground := Ground.phase }, { on := 9, ground := Ground.phase }], guard := none } ?_ (Kt.G.late (by kernel_rfl)) rfl (by kernel_rfl) (fun _ _ _ h => h) (by rfl) ?_ ?_
          rotate_left
          · intro wq; go_simp; try with_reducible rfl
          try simp only [Act.put, List.setIfInBounds_toArray, List.set_cons_zero, List.set_cons_succ]
          refine Kt.G.takeP 11 { dst := some 13, op := Op.assign (Operand.tmp 66), type := 25, pos := "gadget.go:73", after := #[{ on := 7, ground := Ground.data }, { on := 10, ground := Ground.chain }, { on := 0, ground := Ground.phase }, { on := 1, ground := Ground.phase }, { on := 2, ground := Ground.phase }, { on := 3, ground := Ground.phase }, { on := 4, ground := Ground.phase }, { on := 5, ground := Ground.phase }, { on := 6, ground := Ground.phase }, { on := 7, ground := Ground.phase }, { on := 8, ground := Ground.phase }, { on := 9, ground := Ground.phase }, { on := 10, ground := Ground.phase }], guard := none } ?_ (Kt.G.late (by kernel_rfl)) rfl (by kernel_rfl) (fun _ _ _ h => h) (by rfl) ?_ ?_
          rotate_left
          · intro wq; go_simp; try with_reducible rfl
          try simp only [Act.put, List.setIfInBounds_toArray, List.set_cons_zero, List.set_cons_succ]
          refine Kt.G.done (by kernel_rfl) (NoPanic.normal ?_) _
          clear cK fK
          go_wp2_with fail
          go_meet
          case rel => exact ⟨kK, rfl, rfl, rfl, Lib.hid ((hHeld.onB (Kt.below_setCells [.int .i64 2, .int .i64 ad, .int .i64 0] kK 0 _ _ (Nat.le_refl _) (Below.refl _ _)) hkz hkr).add (Kt.fill [.int .i64 2, .int .i64 ad, .int .i64 0] rK rfl))⟩
      case rest =>
        obtain ⟨k_j3, rfl, rfl, rfl, HF5⟩ := hcut
        clear HF4
        go_upto_region 6 with (fail)
        go_cut [14, 15, 16] from 67 to 74 (fun p x y wx4 => ∃ kZ, p = .pointer (some ⟨kZ, 0, none⟩) ∧ x = .string ⟨#[]⟩ ∧ y = .int .i64 0 ∧ Hid (Kt.Fb w ((kZ, #[.int .i64 1, .int .i64 ad, .int .i64 0], 55) :: [(k_j3, #[.int .i64 2, .int .i64 ad, .int .i64 0], 55), (k_h, #[.int .i64 2, .int .i64 ad, .int .i64 0], 55), (k_g, #[.int .i64 1, .int .i64 ad, .int .i64 0], 55), (w.heap.size, (shCs s F T), 53)]) wx4))
        case first =>
          refine Kt.G.start 9 (Kt.Fb w [(k_j3, #[.int .i64 2, .int .i64 ad, .int .i64 0], 55), (k_h, #[.int .i64 2, .int .i64 ad, .int .i64 0], 55), (k_g, #[.int .i64 1, .int .i64 ad, .int .i64 0], 55), (w.heap.size, (shCs s F T), 53)]) (by kernel_rfl) HF5.out.drew (fun hHeld => ?_)
          generalize wc.drew = xx at *
          refine Kt.G.load_row 0 { dst := some 68, op := Op.load 53 (Operand.tmp 2), type := 53, pos := "gadget.go:74", after := #[], guard := none } 53 (Operand.tmp 2) w.heap.size 53 (shCs s F T) _ hHeld rfl (by kernel_rfl) (fun _ _ _ h => h) (by rfl) rfl rfl (fun _ h => h.row _ (List.Mem.tail _ (List.Mem.tail _ (List.Mem.tail _ (List.Mem.head _))))) Try.underlying53 rfl (by kernel_rfl) ?_
          try simp only [Act.put, List.setIfInBounds_toArray, List.set_cons_zero, List.set_cons_succ]
          refine Kt.G.load_row 1 { dst := some 69, op := Op.load 55 (Operand.tmp 8), type := 55, pos := "gadget.go:74", after := #[], guard := none } 55 (Operand.tmp 8) k_h 55 #[.int .i64 2, .int .i64 ad, .int .i64 0] _ hHeld rfl (by kernel_rfl) (fun _ _ _ h => h) (by rfl) rfl rfl (fun _ h => h.row _ (List.Mem.tail _ (List.Mem.head _))) Try.underlying55 rfl (by kernel_rfl) ?_
          try simp only [Act.put, List.setIfInBounds_toArray, List.set_cons_zero, List.set_cons_succ]
          refine Kt.G.two 2 8 { dst := some 70, op := Op.call { callee := Callee.value (Operand.func 28), args := #[Operand.const (Value.int IntKind.i64 6), Operand.const (Value.int IntKind.i64 0), Operand.const (Value.int IntKind.i64 0), Operand.const (Value.int IntKind.i64 0)], argTypes := #[3, 3, 3, 3] }, type := 9, pos := "gadget.go:74", after := #[], guard := none } { dst := some 14, op := Op.alloc 55, type := 0, pos := "gadget.go:74", after := #[], guard := none } rfl rfl (by kernel_rfl) (by rfl) (by rfl) (fun K hK => ?_) (fun K hK => ?_)
          · go_simp
            refine (HA4.out _).mono ?_; rintro en xx ⟨rfl, hb⟩
            refine hK.out _ _ (fun _ => hHeld.on hb) (fun hHeld => ?_)
            have hHeld := hHeld rfl
            clear hK K
            try simp only [Act.put, List.setIfInBounds_toArray, List.set_cons_zero, List.set_cons_succ]
            try (replace rK := Kt.row_on hb rK)
            clear hb
            refine Kt.G.two 3 8 { dst := some 71, op := Op.call { callee := Callee.value (Operand.func 23), args := #[Operand.tmp 68, Operand.tmp 69, Operand.tmp 70], argTypes := #[53, 55, 9] }, type := 56, pos := "gadget.go:74", after := #[{ on := 0, ground := Ground.data }, { on := 1, ground := Ground.data }, { on := 2, ground := Ground.data }, { on := 2, ground := Ground.chain }], guard := none } { dst := some 14, op := Op.alloc 55, type := 0, pos := "gadget.go:74", after := #[], guard := none } rfl rfl (by kernel_rfl) (by rfl) (by rfl) (fun K hK => ?_) (fun K hK => ?_)
            · go_simp
              refine (K4.out _ hHeld.bel).mono ?_; rintro en xx ⟨rfl, hb⟩
              refine hK.out _ _ (fun _ => hHeld.on hb) (fun hHeld => ?_)
              have hHeld := hHeld rfl
              clear hK K
              try simp only [Act.put, List.setIfInBounds_toArray, List.set_cons_zero, List.set_cons_succ]
              try (replace rK := Kt.row_on hb rK)
              clear hb
              refine Kt.G.takeP 4 { dst := some 67, op := Op.move (Operand.tmp 71), type := 56, pos := "gadget.go:74", after := #[{ on := 3, ground := Ground.data }], guard := none } ?_ (fun _ => hHeld) rfl (by kernel_rfl) (fun _ _ _ h => h) (by rfl) ?_ ?_
              rotate_left
              · intro wq; go_simp; try with_reducible rfl
              try simp only [Act.put, List.setIfInBounds_toArray, List.set_cons_zero, List.set_cons_succ]
              refine Kt.G.takeP 5 { dst := some 72, op := Op.extract (Operand.tmp 67) 0, type := 55, pos := "gadget.go:74", after := #[{ on := 4, ground := Ground.data }], guard := none } ?_ (fun _ => hHeld) rfl (by kernel_rfl) (fun _ _ _ h => h) (by rfl) ?_ ?_
              rotate_left
              · intro wq; go_simp; try with_reducible rfl
              try simp only [Act.put, List.setIfInBounds_toArray, List.set_cons_zero, List.set_cons_succ]
              refine Kt.G.takeP 6 { dst := some 73, op := Op.extract (Operand.tmp 67) 1, type := 9, pos := "gadget.go:74", after := #[{ on := 4, ground := Ground.data }, { on := 9, ground := Ground.gcOnly Departure.lateStores }], guard := none } ?_ (fun _ => hHeld) rfl (by kernel_rfl) (fun _ _ _ h => h) (by rfl) ?_ ?_
              rotate_left
              · intro wq; go_simp; try with_reducible rfl
              try simp only [Act.put, List.setIfInBounds_toArray, List.set_cons_zero, List.set_cons_succ]
              refine Kt.G.takeP 7 { dst := some 74, op := Op.extract (Operand.tmp 67) 2, type := 25, pos := "gadget.go:74", after := #[{ on := 4, ground := Ground.data }, { on := 10, ground := Ground.gcOnly Departure.lateStores }], guard := none } ?_ (fun _ => hHeld) rfl (by kernel_rfl) (fun _ _ _ h => h) (by rfl) ?_ ?_
              rotate_left
              · intro wq; go_simp; try with_reducible rfl
              try simp only [Act.put, List.setIfInBounds_toArray, List.set_cons_zero, List.set_cons_succ]
              refine Kt.G.one 8 { dst := some 14, op := Op.alloc 55, type := 0, pos := "gadget.go:74", after := #[], guard := none } rfl (by kernel_rfl) (by rfl) (fun K hK => ?_)
              have hkz := hHeld.bel.size
              have hkr : ∀ r ∈ ([(k_j3, #[.int .i64 2, .int .i64 ad, .int .i64 0], 55), (k_h, #[.int .i64 2, .int .i64 ad, .int .i64 0], 55), (k_g, #[.int .i64 1, .int .i64 ad, .int .i64 0], 55), (w.heap.size, (shCs s F T), 53)] : List (Nat × Array Value × TypeId)), r.1 < xx.heap.size := fun r hr => hHeld.lt hr
              go_simp
              refine hK.out _ _ (fun _ => hHeld.alloc _) (fun hHeld => ?_)
              have hHeld := hHeld rfl
              clear hK K
              try simp only [Act.put, List.setIfInBounds_toArray, List.set_cons_zero, List.set_cons_succ]
              have rK := heap_alloc_new xx (.cells #[.int .i64 0, .int .i64 0, .int .i64 0] 55)
              generalize hkK : xx.heap.size = kK at *
              clear hkK
              generalize xx.alloc (.cells #[.int .i64 0, .int .i64 0, .int .i64 0] 55) = xx at *
              refine Kt.G.one 9 { dst := none, op := Op.store 55 (Operand.tmp 14) (Operand.tmp 72), type := 0, pos := "gadget.go:74", after := #[{ on := 8, ground := Ground.data }, { on := 5, ground := Ground.data }, { on := 3, ground := Ground.chain }, { on := 0, ground := Ground.phase }, { on := 1, ground := Ground.phase }, { on := 2, ground := Ground.phase }, { on := 3, ground := Ground.phase }, { on := 4, ground := Ground.phase }, { on := 5, ground := Ground.phase }, { on := 6, ground := Ground.textOnly Departure.lateStores }, { on := 7, ground := Ground.textOnly Departure.lateStores }, { on := 8, ground := Ground.phase }], guard := none } rfl (by kernel_rfl) (by rfl) (fun K hK => ?_)
              have cK := fun i => cell_of_row _ _ i _ _ _ rK; have fK := fun i => frozen_of_row _ _ i _ _ rK
              go_simp
              refine hK.out _ _ (Kt.G.late (by kernel_rfl)) (fun _ => ?_)
              clear hK K
              try simp only [Act.put, List.setIfInBounds_toArray, List.set_cons_zero, List.set_cons_succ]
              refine Kt.G.takeP 10 { dst := some 15, op := Op.assign (Operand.tmp 73), type := 9, pos := "gadget.go:74", after := #[{ on := 6, ground := Ground.data }, { on := 9, ground := Ground.chain }, { on := 0, ground := Ground.phase }, { on := 1, ground := Ground.phase }, { on := 2, ground := Ground.phase }, { on := 3, ground := Ground.phase }, { on := 4, ground := Ground.phase }, { on := 5, ground := Ground.phase }, { on := 6, ground := Ground.phase }, { on := 7, ground := Ground.textOnly Departure.lateStores }, { on := 8, ground := Ground.phase }, { on := 9, ground := Ground.phase }], guard := none } ?_ (Kt.G.late (by kernel_rfl)) rfl (by kernel_rfl) (fun _ _ _ h => h) (by rfl) ?_ ?_
              rotate_left
              · intro wq; go_simp; try with_reducible rfl
              try simp only [Act.put, List.setIfInBounds_toArray, List.set_cons_zero, List.set_cons_succ]
              refine Kt.G.takeP 11 { dst := some 16, op := Op.assign (Operand.tmp 74), type := 25, pos := "gadget.go:74", after := #[{ on := 7, ground := Ground.data }, { on := 10, ground := Ground.chain }, { on := 0, ground := Ground.phase }, { on := 1, ground := Ground.phase }, { on := 2, ground := Ground.phase }, { on := 3, ground := Ground.phase }, { on := 4, ground := Ground.phase }, { on := 5, ground := Ground.phase }, { on := 6, ground := Ground.phase }, { on := 7, ground := Ground.phase }, { on := 8, ground := Ground.phase }, { on := 9, ground := Ground.phase }, { on := 10, ground := Ground.phase }], guard := none } ?_ (Kt.G.late (by kernel_rfl)) rfl (by kernel_rfl) (fun _ _ _ h => h) (by rfl) ?_ ?_
              rotate_left
              · intro wq; go_simp; try with_reducible rfl
              try simp only [Act.put, List.setIfInBounds_toArray, List.set_cons_zero, List.set_cons_succ]
              refine Kt.G.done (by kernel_rfl) (NoPanic.normal ?_) _
              clear cK fK
              go_wp2_with fail
              go_meet
              case rel => exact ⟨kK, rfl, rfl, rfl, Lib.hid ((hHeld.onB (Kt.below_setCells [.int .i64 1, .int .i64 ad, .int .i64 0] kK 0 _ _ (Nat.le_refl _) (Below.refl _ _)) hkz hkr).add (Kt.fill [.int .i64 1, .int .i64 ad, .int .i64 0] rK rfl))⟩
            · have hkz := hHeld.bel.size
              have hkr : ∀ r ∈ ([(k_j3, #[.int .i64 2, .int .i64 ad, .int .i64 0], 55), (k_h, #[.int .i64 2, .int .i64 ad, .int .i64 0], 55), (k_g, #[.int .i64 1, .int .i64 ad, .int .i64 0], 55), (w.heap.size, (shCs s F T), 53)] : List (Nat × Array Value × TypeId)), r.1 < xx.heap.size := fun r hr => hHeld.lt hr
              go_simp
              refine hK.out _ _ (fun _ => hHeld.alloc _) (fun hHeld => ?_)
              have hHeld := hHeld rfl
              clear hK K
              try simp only [Act.put, List.setIfInBounds_toArray, List.set_cons_zero, List.set_cons_succ]
              have rK := heap_alloc_new xx (.cells #[.int .i64 0, .int .i64 0, .int .i64 0] 55)
              generalize hkK : xx.heap.size = kK at *
              clear hkK
              generalize xx.alloc (.cells #[.int .i64 0, .int .i64 0, .int .i64 0] 55) = xx at *
              refine Kt.G.one 3 { dst := some 71, op := Op.call { callee := Callee.value (Operand.func 23), args := #[Operand.tmp 68, Operand.tmp 69, Operand.tmp 70], argTypes := #[53, 55, 9] }, type := 56, pos := "gadget.go:74", after := #[{ on := 0, ground := Ground.data }, { on := 1, ground := Ground.data }, { on := 2, ground := Ground.data }, { on := 2, ground := Ground.chain }], guard := none } rfl (by kernel_rfl) (by rfl) (fun K hK => ?_)
              go_simp
              refine (K4.out _ hHeld.bel).mono ?_; rintro en xx ⟨rfl, hb⟩
              refine hK.out _ _ (fun _ => hHeld.on hb) (fun hHeld => ?_)
              have hHeld := hHeld rfl
              clear hK K
              try simp only [Act.put, List.setIfInBounds_toArray, List.set_cons_zero, List.set_cons_succ]
              try (replace rK := Kt.row_on hb rK)
              clear hb
              refine Kt.G.takeP 4 { dst := some 67, op := Op.move (Operand.tmp 71), type := 56, pos := "gadget.go:74", after := #[{ on := 3, ground := Ground.data }], guard := none } ?_ (fun _ => hHeld) rfl (by kernel_rfl) (fun _ _ _ h => h) (by rfl) ?_ ?_
              rotate_left
              · intro wq; go_simp; try with_reducible rfl
              try simp only [Act.put, List.setIfInBounds_toArray, List.set_cons_zero, List.set_cons_succ]
              refine Kt.G.takeP 5 { dst := some 72, op := Op.extract (Operand.tmp 67) 0, type := 55, pos := "gadget.go:74", after := #[{ on := 4, ground := Ground.data }], guard := none } ?_ (fun _ => hHeld) rfl (by kernel_rfl) (fun _ _ _ h => h) (by rfl) ?_ ?_
              rotate_left
              · intro wq; go_simp; try with_reducible rfl
              try simp only [Act.put, List.setIfInBounds_toArray, List.set_cons_zero, List.set_cons_succ]
              refine Kt.G.takeP 6 { dst := some 73, op := Op.extract (Operand.tmp 67) 1, type := 9, pos := "gadget.go:74", after := #[{ on := 4, ground := Ground.data }, { on := 9, ground := Ground.gcOnly Departure.lateStores }], guard := none } ?_ (fun _ => hHeld) rfl (by kernel_rfl) (fun _ _ _ h => h) (by rfl) ?_ ?_
              rotate_left
              · intro wq; go_simp; try with_reducible rfl
              try simp only [Act.put, List.setIfInBounds_toArray, List.set_cons_zero, List.set_cons_succ]
              refine Kt.G.takeP 7 { dst := some 74, op := Op.extract (Operand.tmp 67) 2, type := 25, pos := "gadget.go:74", after := #[{ on := 4, ground := Ground.data }, { on := 10, ground := Ground.gcOnly Departure.lateStores }], guard := none } ?_ (fun _ => hHeld) rfl (by kernel_rfl) (fun _ _ _ h => h) (by rfl) ?_ ?_
              rotate_left
              · intro wq; go_simp; try with_reducible rfl
              try simp only [Act.put, List.setIfInBounds_toArray, List.set_cons_zero, List.set_cons_succ]
              refine Kt.G.one 9 { dst := none, op := Op.store 55 (Operand.tmp 14) (Operand.tmp 72), type := 0, pos := "gadget.go:74", after := #[{ on := 8, ground := Ground.data }, { on := 5, ground := Ground.data }, { on := 3, ground := Ground.chain }, { on := 0, ground := Ground.phase }, { on := 1, ground := Ground.phase }, { on := 2, ground := Ground.phase }, { on := 3, ground := Ground.phase }, { on := 4, ground := Ground.phase }, { on := 5, ground := Ground.phase }, { on := 6, ground := Ground.textOnly Departure.lateStores }, { on := 7, ground := Ground.textOnly Departure.lateStores }, { on := 8, ground := Ground.phase }], guard := none } rfl (by kernel_rfl) (by rfl) (fun K hK => ?_)
              have cK := fun i => cell_of_row _ _ i _ _ _ rK; have fK := fun i => frozen_of_row _ _ i _ _ rK
              go_simp
              refine hK.out _ _ (Kt.G.late (by kernel_rfl)) (fun _ => ?_)
              clear hK K
              try simp only [Act.put, List.setIfInBounds_toArray, List.set_cons_zero, List.set_cons_succ]
              refine Kt.G.takeP 10 { dst := some 15, op := Op.assign (Operand.tmp 73), type := 9, pos := "gadget.go:74", after := #[{ on := 6, ground := Ground.data }, { on := 9, ground := Ground.chain }, { on := 0, ground := Ground.phase }, { on := 1, ground := Ground.phase }, { on := 2, ground := Ground.phase }, { on := 3, ground := Ground.phase }, { on := 4, ground := Ground.phase }, { on := 5, ground := Ground.phase }, { on := 6, ground := Ground.phase }, { on := 7, ground := Ground.textOnly Departure.lateStores }, { on := 8, ground := Ground.phase }, { on := 9, ground := Ground.phase }], guard := none } ?_ (Kt.G.late (by kernel_rfl)) rfl (by kernel_rfl) (fun _ _ _ h => h) (by rfl) ?_ ?_
              rotate_left
              · intro wq; go_simp; try with_reducible rfl
              try simp only [Act.put, List.setIfInBounds_toArray, List.set_cons_zero, List.set_cons_succ]
              refine Kt.G.takeP 11 { dst := some 16, op := Op.assign (Operand.tmp 74), type := 25, pos := "gadget.go:74", after := #[{ on := 7, ground := Ground.data }, { on := 10, ground := Ground.chain }, { on := 0, ground := Ground.phase }, { on := 1, ground := Ground.phase }, { on := 2, ground := Ground.phase }, { on := 3, ground := Ground.phase }, { on := 4, ground := Ground.phase }, { on := 5, ground := Ground.phase }, { on := 6, ground := Ground.phase }, { on := 7, ground := Ground.phase }, { on := 8, ground := Ground.phase }, { on := 9, ground := Ground.phase }, { on := 10, ground := Ground.phase }], guard := none } ?_ (Kt.G.late (by kernel_rfl)) rfl (by kernel_rfl) (fun _ _ _ h => h) (by rfl) ?_ ?_
              rotate_left
              · intro wq; go_simp; try with_reducible rfl
              try simp only [Act.put, List.setIfInBounds_toArray, List.set_cons_zero, List.set_cons_succ]
              refine Kt.G.done (by kernel_rfl) (NoPanic.normal ?_) _
              clear cK fK
              go_wp2_with fail
              go_meet
              case rel => exact ⟨kK, rfl, rfl, rfl, Lib.hid ((hHeld.onB (Kt.below_setCells [.int .i64 1, .int .i64 ad, .int .i64 0] kK 0 _ _ (Nat.le_refl _) (Below.refl _ _)) hkz hkr).add (Kt.fill [.int .i64 1, .int .i64 ad, .int .i64 0] rK rfl))⟩
          · have hkz := hHeld.bel.size
            have hkr : ∀ r ∈ ([(k_j3, #[.int .i64 2, .int .i64 ad, .int .i64 0], 55), (k_h, #[.int .i64 2, .int .i64 ad, .int .i64 0], 55), (k_g, #[.int .i64 1, .int .i64 ad, .int .i64 0], 55), (w.heap.size, (shCs s F T), 53)] : List (Nat × Array Value × TypeId)), r.1 < xx.heap.size := fun r hr => hHeld.lt hr
            go_simp
            refine hK.out _ _ (fun _ => hHeld.alloc _) (fun hHeld => ?_)
            have hHeld := hHeld rfl
            clear hK K
            try simp only [Act.put, List.setIfInBounds_toArray, List.set_cons_zero, List.set_cons_succ]
            have rK := heap_alloc_new xx (.cells #[.int .i64 0, .int .i64 0, .int .i64 0] 55)
            generalize hkK : xx.heap.size = kK at *
            clear hkK
            generalize xx.alloc (.cells #[.int .i64 0, .int .i64 0, .int .i64 0] 55) = xx at *
            refine Kt.G.one 2 { dst := some 70, op := Op.call { callee := Callee.value (Operand.func 28), args := #[Operand.const (Value.int IntKind.i64 6), Operand.const (Value.int IntKind.i64 0), Operand.const (Value.int IntKind.i64 0), Operand.const (Value.int IntKind.i64 0)], argTypes := #[3, 3, 3, 3] }, type := 9, pos := "gadget.go:74", after := #[], guard := none } rfl (by kernel_rfl) (by rfl) (fun K hK => ?_)
            go_simp
            refine (HA4.out _).mono ?_; rintro en xx ⟨rfl, hb⟩
            refine hK.out _ _ (fun _ => hHeld.on hb) (fun hHeld => ?_)
            have hHeld := hHeld rfl
            clear hK K
            try simp only [Act.put, List.setIfInBounds_toArray, List.set_cons_zero, List.set_cons_succ]
            try (replace rK := Kt.row_on hb rK)
            clear hb
            refine Kt.G.one 3 { dst := some 71, op := Op.call { callee := Callee.value (Operand.func 23), args := #[Operand.tmp 68, Operand.tmp 69, Operand.tmp 70], argTypes := #[53, 55, 9] }, type := 56, pos := "gadget.go:74", after := #[{ on := 0, ground := Ground.data }, { on := 1, ground := Ground.data }, { on := 2, ground := Ground.data }, { on := 2, ground := Ground.chain }], guard := none } rfl (by kernel_rfl) (by rfl) (fun K hK => ?_)
            go_simp
            refine (K4.out _ hHeld.bel).mono ?_; rintro en xx ⟨rfl, hb⟩
            refine hK.out _ _ (fun _ => hHeld.on hb) (fun hHeld => ?_)
            have hHeld := hHeld rfl
            clear hK K
            try simp only [Act.put, List.setIfInBounds_toArray, List.set_cons_zero, List.set_cons_succ]
            try (replace rK := Kt.row_on hb rK)
            clear hb
            refine Kt.G.takeP 4 { dst := some 67, op := Op.move (Operand.tmp 71), type := 56, pos := "gadget.go:74", after := #[{ on := 3, ground := Ground.data }], guard := none } ?_ (fun _ => hHeld) rfl (by kernel_rfl) (fun _ _ _ h => h) (by rfl) ?_ ?_
            rotate_left
            · intro wq; go_simp; try with_reducible rfl
            try simp only [Act.put, List.setIfInBounds_toArray, List.set_cons_zero, List.set_cons_succ]
            refine Kt.G.takeP 5 { dst := some 72, op := Op.extract (Operand.tmp 67) 0, type := 55, pos := "gadget.go:74", after := #[{ on := 4, ground := Ground.data }], guard := none } ?_ (fun _ => hHeld) rfl (by kernel_rfl) (fun _ _ _ h => h) (by rfl) ?_ ?_
            rotate_left
            · intro wq; go_simp; try with_reducible rfl
            try simp only [Act.put, List.setIfInBounds_toArray, List.set_cons_zero, List.set_cons_succ]
            refine Kt.G.takeP 6 { dst := some 73, op := Op.extract (Operand.tmp 67) 1, type := 9, pos := "gadget.go:74", after := #[{ on := 4, ground := Ground.data }, { on := 9, ground := Ground.gcOnly Departure.lateStores }], guard := none } ?_ (fun _ => hHeld) rfl (by kernel_rfl) (fun _ _ _ h => h) (by rfl) ?_ ?_
            rotate_left
            · intro wq; go_simp; try with_reducible rfl
            try simp only [Act.put, List.setIfInBounds_toArray, List.set_cons_zero, List.set_cons_succ]
            refine Kt.G.takeP 7 { dst := some 74, op := Op.extract (Operand.tmp 67) 2, type := 25, pos := "gadget.go:74", after := #[{ on := 4, ground := Ground.data }, { on := 10, ground := Ground.gcOnly Departure.lateStores }], guard := none } ?_ (fun _ => hHeld) rfl (by kernel_rfl) (fun _ _ _ h => h) (by rfl) ?_ ?_
            rotate_left
            · intro wq; go_simp; try with_reducible rfl
            try simp only [Act.put, List.setIfInBounds_toArray, List.set_cons_zero, List.set_cons_succ]
            refine Kt.G.one 9 { dst := none, op := Op.store 55 (Operand.tmp 14) (Operand.tmp 72), type := 0, pos := "gadget.go:74", after := #[{ on := 8, ground := Ground.data }, { on := 5, ground := Ground.data }, { on := 3, ground := Ground.chain }, { on := 0, ground := Ground.phase }, { on := 1, ground := Ground.phase }, { on := 2, ground := Ground.phase }, { on := 3, ground := Ground.phase }, { on := 4, ground := Ground.phase }, { on := 5, ground := Ground.phase }, { on := 6, ground := Ground.textOnly Departure.lateStores }, { on := 7, ground := Ground.textOnly Departure.lateStores }, { on := 8, ground := Ground.phase }], guard := none } rfl (by kernel_rfl) (by rfl) (fun K hK => ?_)
            have cK := fun i => cell_of_row _ _ i _ _ _ rK; have fK := fun i => frozen_of_row _ _ i _ _ rK
            go_simp
            refine hK.out _ _ (Kt.G.late (by kernel_rfl)) (fun _ => ?_)
            clear hK K
            try simp only [Act.put, List.setIfInBounds_toArray, List.set_cons_zero, List.set_cons_succ]
            refine Kt.G.takeP 10 { dst := some 15, op := Op.assign (Operand.tmp 73), type := 9, pos := "gadget.go:74", after := #[{ on := 6, ground := Ground.data }, { on := 9, ground := Ground.chain }, { on := 0, ground := Ground.phase }, { on := 1, ground := Ground.phase }, { on := 2, ground := Ground.phase }, { on := 3, ground := Ground.phase }, { on := 4, ground := Ground.phase }, { on := 5, ground := Ground.phase }, { on := 6, ground := Ground.phase }, { on := 7, ground := Ground.textOnly Departure.lateStores }, { on := 8, ground := Ground.phase }, { on := 9, ground := Ground.phase }], guard := none } ?_ (Kt.G.late (by kernel_rfl)) rfl (by kernel_rfl) (fun _ _ _ h => h) (by rfl) ?_ ?_
            rotate_left
            · intro wq; go_simp; try with_reducible rfl
            try simp only [Act.put, List.setIfInBounds_toArray, List.set_cons_zero, List.set_cons_succ]
            refine Kt.G.takeP 11 { dst := some 16, op := Op.assign (Operand.tmp 74), type := 25, pos := "gadget.go:74", after := #[{ on := 7, ground := Ground.data }, { on := 10, ground := Ground.chain }, { on := 0, ground := Ground.phase }, { on := 1, ground := Ground.phase }, { on := 2, ground := Ground.phase }, { on := 3, ground := Ground.phase }, { on := 4, ground := Ground.phase }, { on := 5, ground := Ground.phase }, { on := 6, ground := Ground.phase }, { on := 7, ground := Ground.phase }, { on := 8, ground := Ground.phase }, { on := 9, ground := Ground.phase }, { on := 10, ground := Ground.phase }], guard := none } ?_ (Kt.G.late (by kernel_rfl)) rfl (by kernel_rfl) (fun _ _ _ h => h) (by rfl) ?_ ?_
            rotate_left
            · intro wq; go_simp; try with_reducible rfl
            try simp only [Act.put, List.setIfInBounds_toArray, List.set_cons_zero, List.set_cons_succ]
            refine Kt.G.done (by kernel_rfl) (NoPanic.normal ?_) _
            clear cK fK
            go_wp2_with fail
            go_meet
            case rel => exact ⟨kK, rfl, rfl, rfl, Lib.hid ((hHeld.onB (Kt.below_setCells [.int .i64 1, .int .i64 ad, .int .i64 0] kK 0 _ _ (Nat.le_refl _) (Below.refl _ _)) hkz hkr).add (Kt.fill [.int .i64 1, .int .i64 ad, .int .i64 0] rK rfl))⟩
        case rest =>
          obtain ⟨k_i, rfl, rfl, rfl, HF6⟩ := hcut
          clear HF5
          go_upto_region 7 with (fail)
          go_cut [17, 18, 19] from 75 to 82 (fun p x y wx5 => ∃ kZ, p = .pointer (some ⟨kZ, 0, none⟩) ∧ x = .string ⟨#[]⟩ ∧ y = .int .i64 0 ∧ Hid (Kt.Fb w ((kZ, #[.int .i64 0, .int .i64 0, .int .i64 0], 55) :: [(k_i, #[.int .i64 1, .int .i64 ad, .int .i64 0], 55), (k_j3, #[.int .i64 2, .int .i64 ad, .int .i64 0], 55), (k_h, #[.int .i64 2, .int .i64 ad, .int .i64 0], 55), (k_g, #[.int .i64 1, .int .i64 ad, .int .i64 0], 55), (w.heap.size, (shCs s F T), 53)]) wx5))
          case first =>
            refine Kt.G.start 9 (Kt.Fb w [(k_i, #[.int .i64 1, .int .i64 ad, .int .i64 0], 55), (k_j3, #[.int .i64 2, .int .i64 ad, .int .i64 0], 55), (k_h, #[.int .i64 2, .int .i64 ad, .int .i64 0], 55), (k_g, #[.int .i64 1, .int .i64 ad, .int .i64 0], 55), (w.heap.size, (shCs s F T), 53)]) (by kernel_rfl) HF6.out.drew (fun hHeld => ?_)
            generalize wc.drew = xx at *
            refine Kt.G.load_row 0 { dst := some 76, op := Op.load 53 (Operand.tmp 2), type := 53, pos := "gadget.go:75", after := #[], guard := none } 53 (Operand.tmp 2) w.heap.size 53 (shCs s F T) _ hHeld rfl (by kernel_rfl) (fun _ _ _ h => h) (by rfl) rfl rfl (fun _ h => h.row _ (List.Mem.tail _ (List.Mem.tail _ (List.Mem.tail _ (List.Mem.tail _ (List.Mem.head _)))))) Try.underlying53 rfl (by kernel_rfl) ?_
            try simp only [Act.put, List.setIfInBounds_toArray, List.set_cons_zero, List.set_cons_succ]
            refine Kt.G.load_row 1 { dst := some 77, op := Op.load 55 (Operand.tmp 14), type := 55, pos := "gadget.go:75", after := #[], guard := none } 55 (Operand.tmp 14) k_i 55 #[.int .i64 1, .int .i64 ad, .int .i64 0] _ hHeld rfl (by kernel_rfl) (fun _ _ _ h => h) (by rfl) rfl rfl (fun _ h => h.row _ (List.Mem.head _)) Try.underlying55 rfl (by kernel_rfl) ?_
            try simp only [Act.put, List.setIfInBounds_toArray, List.set_cons_zero, List.set_cons_succ]
            refine Kt.G.two 2 8 { dst := some 78, op := Op.call { callee := Callee.value (Operand.func 28), args := #[Operand.const (Value.int IntKind.i64 4), Operand.const (Value.int IntKind.i64 0), Operand.const (Value.int IntKind.i64 0), Operand.const (Value.int IntKind.i64 0)], argTypes := #[3, 3, 3, 3] }, type := 9, pos := "gadget.go:75", after := #[], guard := none } { dst := some 17, op := Op.alloc 55, type := 0, pos := "gadget.go:75", after := #[], guard := none } rfl rfl (by kernel_rfl) (by rfl) (by rfl) (fun K hK => ?_) (fun K hK => ?_)
            · go_simp
              refine (HA5.out _).mono ?_; rintro en xx ⟨rfl, hb⟩
              refine hK.out _ _ (fun _ => hHeld.on hb) (fun hHeld => ?_)
              have hHeld := hHeld rfl
              clear hK K
              try simp only [Act.put, List.setIfInBounds_toArray, List.set_cons_zero, List.set_cons_succ]
              try (replace rK := Kt.row_on hb rK)
              clear hb
              refine Kt.G.two 3 8 { dst := some 79, op := Op.call { callee := Callee.value (Operand.func 23), args := #[Operand.tmp 76, Operand.tmp 77, Operand.tmp 78], argTypes := #[53, 55, 9] }, type := 56, pos := "gadget.go:75", after := #[{ on := 0, ground := Ground.data }, { on := 1, ground := Ground.data }, { on := 2, ground := Ground.data }, { on := 2, ground := Ground.chain }], guard := none } { dst := some 17, op := Op.alloc 55, type := 0, pos := "gadget.go:75", after := #[], guard := none } rfl rfl (by kernel_rfl) (by rfl) (by rfl) (fun K hK => ?_) (fun K hK => ?_)
              · go_simp
                refine (K5.out _ hHeld.bel).mono ?_; rintro en xx ⟨rfl, hb⟩
                refine hK.out _ _ (fun _ => hHeld.on hb) (fun hHeld => ?_)
                have hHeld := hHeld rfl
                clear hK K
                try simp only [Act.put, List.setIfInBounds_toArray, List.set_cons_zero, List.set_cons_succ]
                try (replace rK := Kt.row_on hb rK)
                clear hb
                refine Kt.G.takeP 4 { dst := some 75, op := Op.move (Operand.tmp 79), type := 56, pos := "gadget.go:75", after := #[{ on := 3, ground := Ground.data }], guard := none } ?_ (fun _ => hHeld) rfl (by kernel_rfl) (fun _ _ _ h => h) (by rfl) ?_ ?_
                rotate_left
                · intro wq; go_simp; try with_reducible rfl
                try simp only [Act.put, List.setIfInBounds_toArray, List.set_cons_zero, List.set_cons_succ]
                refine Kt.G.takeP 5 { dst := some 80, op := Op.extract (Operand.tmp 75) 0, type := 55, pos := "gadget.go:75", after := #[{ on := 4, ground := Ground.data }], guard := none } ?_ (fun _ => hHeld) rfl (by kernel_rfl) (fun _ _ _ h => h) (by rfl) ?_ ?_
                rotate_left
                · intro wq; go_simp; try with_reducible rfl
                try simp only [Act.put, List.setIfInBounds_toArray, List.set_cons_zero, List.set_cons_succ]
                refine Kt.G.takeP 6 { dst := some 81, op := Op.extract (Operand.tmp 75) 1, type := 9, pos := "gadget.go:75", after := #[{ on := 4, ground := Ground.data }, { on := 9, ground := Ground.gcOnly Departure.lateStores }], guard := none } ?_ (fun _ => hHeld) rfl (by kernel_rfl) (fun _ _ _ h => h) (by rfl) ?_ ?_
                rotate_left
                · intro wq; go_simp; try with_reducible rfl
                try simp only [Act.put, List.setIfInBounds_toArray, List.set_cons_zero, List.set_cons_succ]
                refine Kt.G.takeP 7 { dst := some 82, op := Op.extract (Operand.tmp 75) 2, type := 25, pos := "gadget.go:75", after := #[{ on := 4, ground := Ground.data }, { on := 10, ground := Ground.gcOnly Departure.lateStores }], guard := none } ?_ (fun _ => hHeld) rfl (by kernel_rfl) (fun _ _ _ h => h) (by rfl) ?_ ?_
                rotate_left
                · intro wq; go_simp; try with_reducible rfl
                try simp only [Act.put, List.setIfInBounds_toArray, List.set_cons_zero, List.set_cons_succ]
                refine Kt.G.one 8 { dst := some 17, op := Op.alloc 55, type := 0, pos := "gadget.go:75", after := #[], guard := none } rfl (by kernel_rfl) (by rfl) (fun K hK => ?_)
                have hkz := hHeld.bel.size
                have hkr : ∀ r ∈ ([(k_i, #[.int .i64 1, .int .i64 ad, .int .i64 0], 55), (k_j3, #[.int .i64 2, .int .i64 ad, .int .i64 0], 55), (k_h, #[.int .i64 2, .int .i64 ad, .int .i64 0], 55), (k_g, #[.int .i64 1, .int .i64 ad, .int .i64 0], 55), (w.heap.size, (shCs s F T), 53)] : List (Nat × Array Value × TypeId)), r.1 < xx.heap.size := fun r hr => hHeld.lt hr
                go_simp
                refine hK.out _ _ (fun _ => hHeld.alloc _) (fun hHeld => ?_)
                have hHeld := hHeld rfl
                clear hK K
                try simp only [Act.put, List.setIfInBounds_toArray, List.set_cons_zero, List.set_cons_succ]
                have rK := heap_alloc_new xx (.cells #[.int .i64 0, .int .i64 0, .int .i64 0] 55)
                generalize hkK : xx.heap.size = kK at *
                clear hkK
                generalize xx.alloc (.cells #[.int .i64 0, .int .i64 0, .int .i64 0] 55) = xx at *
                refine Kt.G.one 9 { dst := none, op := Op.store 55 (Operand.tmp 17) (Operand.tmp 80), type := 0, pos := "gadget.go:75", after := #[{ on := 8, ground := Ground.data }, { on := 5, ground := Ground.data }, { on := 3, ground := Ground.chain }, { on := 0, ground := Ground.phase }, { on := 1, ground := Ground.phase }, { on := 2, ground := Ground.phase }, { on := 3, ground := Ground.phase }, { on := 4, ground := Ground.phase }, { on := 5, ground := Ground.phase }, { on := 6, ground := Ground.textOnly Departure.lateStores }, { on := 7, ground := Ground.textOnly Departure.lateStores }, { on := 8, ground := Ground.phase }], guard := none } rfl (by kernel_rfl) (by rfl) (fun K hK => ?_)
                have cK := fun i => cell_of_row _ _ i _ _ _ rK; have fK := fun i => frozen_of_row _ _ i _ _ rK
                go_simp
                refine hK.out _ _ (Kt.G.late (by kernel_rfl)) (fun _ => ?_)
                clear hK K
                try simp only [Act.put, List.setIfInBounds_toArray, List.set_cons_zero, List.set_cons_succ]
                refine Kt.G.takeP 10 { dst := some 18, op := Op.assign (Operand.tmp 81), type := 9, pos := "gadget.go:75", after := #[{ on := 6, ground := Ground.data }, { on := 9, ground := Ground.chain }, { on := 0, ground := Ground.phase }, { on := 1, ground := Ground.phase }, { on := 2, ground := Ground.phase }, { on := 3, ground := Ground.phase }, { on := 4, ground := Ground.phase }, { on := 5, ground := Ground.phase }, { on := 6, ground := Ground.phase }, { on := 7, ground := Ground.textOnly Departure.lateStores }, { on := 8, ground := Ground.phase }, { on := 9, ground := Ground.phase }], guard := none } ?_ (Kt.G.late (by kernel_rfl)) rfl (by kernel_rfl) (fun _ _ _ h => h) (by rfl) ?_ ?_
                rotate_left
                · intro wq; go_simp; try with_reducible rfl
                try simp only [Act.put, List.setIfInBounds_toArray, List.set_cons_zero, List.set_cons_succ]
                refine Kt.G.takeP 11 { dst := some 19, op := Op.assign (Operand.tmp 82), type := 25, pos := "gadget.go:75", after := #[{ on := 7, ground := Ground.data }, { on := 10, ground := Ground.chain }, { on := 0, ground := Ground.phase }, { on := 1, ground := Ground.phase }, { on := 2, ground := Ground.phase }, { on := 3, ground := Ground.phase }, { on := 4, ground := Ground.phase }, { on := 5, ground := Ground.phase }, { on := 6, ground := Ground.phase }, { on := 7, ground := Ground.phase }, { on := 8, ground := Ground.phase }, { on := 9, ground := Ground.phase }, { on := 10, ground := Ground.phase }], guard := none } ?_ (Kt.G.late (by kernel_rfl)) rfl (by kernel_rfl) (fun _ _ _ h => h) (by rfl) ?_ ?_
                rotate_left
                · intro wq; go_simp; try with_reducible rfl
                try simp only [Act.put, List.setIfInBounds_toArray, List.set_cons_zero, List.set_cons_succ]
                refine Kt.G.done (by kernel_rfl) (NoPanic.normal ?_) _
                clear cK fK
                go_wp2_with fail
                go_meet
                case rel => exact ⟨kK, rfl, rfl, rfl, Lib.hid ((hHeld.onB (Kt.below_setCells [.int .i64 0, .int .i64 0, .int .i64 0] kK 0 _ _ (Nat.le_refl _) (Below.refl _ _)) hkz hkr).add (Kt.fill [.int .i64 0, .int .i64 0, .int .i64 0] rK rfl))⟩
              · have hkz := hHeld.bel.size
                have hkr : ∀ r ∈ ([(k_i, #[.int .i64 1, .int .i64 ad, .int .i64 0], 55), (k_j3, #[.int .i64 2, .int .i64 ad, .int .i64 0], 55), (k_h, #[.int .i64 2, .int .i64 ad, .int .i64 0], 55), (k_g, #[.int .i64 1, .int .i64 ad, .int .i64 0], 55), (w.heap.size, (shCs s F T), 53)] : List (Nat × Array Value × TypeId)), r.1 < xx.heap.size := fun r hr => hHeld.lt hr
                go_simp
                refine hK.out _ _ (fun _ => hHeld.alloc _) (fun hHeld => ?_)
                have hHeld := hHeld rfl
                clear hK K
                try simp only [Act.put, List.setIfInBounds_toArray, List.set_cons_zero, List.set_cons_succ]
                have rK := heap_alloc_new xx (.cells #[.int .i64 0, .int .i64 0, .int .i64 0] 55)
                generalize hkK : xx.heap.size = kK at *
                clear hkK
                generalize xx.alloc (.cells #[.int .i64 0, .int .i64 0, .int .i64 0] 55) = xx at *
                refine Kt.G.one 3 { dst := some 79, op := Op.call { callee := Callee.value (Operand.func 23), args := #[Operand.tmp 76, Operand.tmp 77, Operand.tmp 78], argTypes := #[53, 55, 9] }, type := 56, pos := "gadget.go:75", after := #[{ on := 0, ground := Ground.data }, { on := 1, ground := Ground.data }, { on := 2, ground := Ground.data }, { on := 2, ground := Ground.chain }], guard := none } rfl (by kernel_rfl) (by rfl) (fun K hK => ?_)
                go_simp
                refine (K5.out _ hHeld.bel).mono ?_; rintro en xx ⟨rfl, hb⟩
                refine hK.out _ _ (fun _ => hHeld.on hb) (fun hHeld => ?_)
                have hHeld := hHeld rfl
                clear hK K
                try simp only [Act.put, List.setIfInBounds_toArray, List.set_cons_zero, List.set_cons_succ]
                try (replace rK := Kt.row_on hb rK)
                clear hb
                refine Kt.G.takeP 4 { dst := some 75, op := Op.move (Operand.tmp 79), type := 56, pos := "gadget.go:75", after := #[{ on := 3, ground := Ground.data }], guard := none } ?_ (fun _ => hHeld) rfl (by kernel_rfl) (fun _ _ _ h => h) (by rfl) ?_ ?_
                rotate_left
                · intro wq; go_simp; try with_reducible rfl
                try simp only [Act.put, List.setIfInBounds_toArray, List.set_cons_zero, List.set_cons_succ]
                refine Kt.G.takeP 5 { dst := some 80, op := Op.extract (Operand.tmp 75) 0, type := 55, pos := "gadget.go:75", after := #[{ on := 4, ground := Ground.data }], guard := none } ?_ (fun _ => hHeld) rfl (by kernel_rfl) (fun _ _ _ h => h) (by rfl) ?_ ?_
                rotate_left
                · intro wq; go_simp; try with_reducible rfl
                try simp only [Act.put, List.setIfInBounds_toArray, List.set_cons_zero, List.set_cons_succ]
                refine Kt.G.takeP 6 { dst := some 81, op := Op.extract (Operand.tmp 75) 1, type := 9, pos := "gadget.go:75", after := #[{ on := 4, ground := Ground.data }, { on := 9, ground := Ground.gcOnly Departure.lateStores }], guard := none } ?_ (fun _ => hHeld) rfl (by kernel_rfl) (fun _ _ _ h => h) (by rfl) ?_ ?_
                rotate_left
                · intro wq; go_simp; try with_reducible rfl
                try simp only [Act.put, List.setIfInBounds_toArray, List.set_cons_zero, List.set_cons_succ]
                refine Kt.G.takeP 7 { dst := some 82, op := Op.extract (Operand.tmp 75) 2, type := 25, pos := "gadget.go:75", after := #[{ on := 4, ground := Ground.data }, { on := 10, ground := Ground.gcOnly Departure.lateStores }], guard := none } ?_ (fun _ => hHeld) rfl (by kernel_rfl) (fun _ _ _ h => h) (by rfl) ?_ ?_
                rotate_left
                · intro wq; go_simp; try with_reducible rfl
                try simp only [Act.put, List.setIfInBounds_toArray, List.set_cons_zero, List.set_cons_succ]
                refine Kt.G.one 9 { dst := none, op := Op.store 55 (Operand.tmp 17) (Operand.tmp 80), type := 0, pos := "gadget.go:75", after := #[{ on := 8, ground := Ground.data }, { on := 5, ground := Ground.data }, { on := 3, ground := Ground.chain }, { on := 0, ground := Ground.phase }, { on := 1, ground := Ground.phase }, { on := 2, ground := Ground.phase }, { on := 3, ground := Ground.phase }, { on := 4, ground := Ground.phase }, { on := 5, ground := Ground.phase }, { on := 6, ground := Ground.textOnly Departure.lateStores }, { on := 7, ground := Ground.textOnly Departure.lateStores }, { on := 8, ground := Ground.phase }], guard := none } rfl (by kernel_rfl) (by rfl) (fun K hK => ?_)
                have cK := fun i => cell_of_row _ _ i _ _ _ rK; have fK := fun i => frozen_of_row _ _ i _ _ rK
                go_simp
                refine hK.out _ _ (Kt.G.late (by kernel_rfl)) (fun _ => ?_)
                clear hK K
                try simp only [Act.put, List.setIfInBounds_toArray, List.set_cons_zero, List.set_cons_succ]
                refine Kt.G.takeP 10 { dst := some 18, op := Op.assign (Operand.tmp 81), type := 9, pos := "gadget.go:75", after := #[{ on := 6, ground := Ground.data }, { on := 9, ground := Ground.chain }, { on := 0, ground := Ground.phase }, { on := 1, ground := Ground.phase }, { on := 2, ground := Ground.phase }, { on := 3, ground := Ground.phase }, { on := 4, ground := Ground.phase }, { on := 5, ground := Ground.phase }, { on := 6, ground := Ground.phase }, { on := 7, ground := Ground.textOnly Departure.lateStores }, { on := 8, ground := Ground.phase }, { on := 9, ground := Ground.phase }], guard := none } ?_ (Kt.G.late (by kernel_rfl)) rfl (by kernel_rfl) (fun _ _ _ h => h) (by rfl) ?_ ?_
                rotate_left
                · intro wq; go_simp; try with_reducible rfl
                try simp only [Act.put, List.setIfInBounds_toArray, List.set_cons_zero, List.set_cons_succ]
                refine Kt.G.takeP 11 { dst := some 19, op := Op.assign (Operand.tmp 82), type := 25, pos := "gadget.go:75", after := #[{ on := 7, ground := Ground.data }, { on := 10, ground := Ground.chain }, { on := 0, ground := Ground.phase }, { on := 1, ground := Ground.phase }, { on := 2, ground := Ground.phase }, { on := 3, ground := Ground.phase }, { on := 4, ground := Ground.phase }, { on := 5, ground := Ground.phase }, { on := 6, ground := Ground.phase }, { on := 7, ground := Ground.phase }, { on := 8, ground := Ground.phase }, { on := 9, ground := Ground.phase }, { on := 10, ground := Ground.phase }], guard := none } ?_ (Kt.G.late (by kernel_rfl)) rfl (by kernel_rfl) (fun _ _ _ h => h) (by rfl) ?_ ?_
                rotate_left
                · intro wq; go_simp; try with_reducible rfl
                try simp only [Act.put, List.setIfInBounds_toArray, List.set_cons_zero, List.set_cons_succ]
                refine Kt.G.done (by kernel_rfl) (NoPanic.normal ?_) _
                clear cK fK
                go_wp2_with fail
                go_meet
                case rel => exact ⟨kK, rfl, rfl, rfl, Lib.hid ((hHeld.onB (Kt.below_setCells [.int .i64 0, .int .i64 0, .int .i64 0] kK 0 _ _ (Nat.le_refl _) (Below.refl _ _)) hkz hkr).add (Kt.fill [.int .i64 0, .int .i64 0, .int .i64 0] rK rfl))⟩
            · have hkz := hHeld.bel.size
              have hkr : ∀ r ∈ ([(k_i, #[.int .i64 1, .int .i64 ad, .int .i64 0], 55), (k_j3, #[.int .i64 2, .int .i64 ad, .int .i64 0], 55), (k_h, #[.int .i64 2, .int .i64 ad, .int .i64 0], 55), (k_g, #[.int .i64 1, .int .i64 ad, .int .i64 0], 55), (w.heap.size, (shCs s F T), 53)] : List (Nat × Array Value × TypeId)), r.1 < xx.heap.size := fun r hr => hHeld.lt hr
              go_simp
              refine hK.out _ _ (fun _ => hHeld.alloc _) (fun hHeld => ?_)
              have hHeld := hHeld rfl
              clear hK K
              try simp only [Act.put, List.setIfInBounds_toArray, List.set_cons_zero, List.set_cons_succ]
              have rK := heap_alloc_new xx (.cells #[.int .i64 0, .int .i64 0, .int .i64 0] 55)
              generalize hkK : xx.heap.size = kK at *
              clear hkK
              generalize xx.alloc (.cells #[.int .i64 0, .int .i64 0, .int .i64 0] 55) = xx at *
              refine Kt.G.one 2 { dst := some 78, op := Op.call { callee := Callee.value (Operand.func 28), args := #[Operand.const (Value.int IntKind.i64 4), Operand.const (Value.int IntKind.i64 0), Operand.const (Value.int IntKind.i64 0), Operand.const (Value.int IntKind.i64 0)], argTypes := #[3, 3, 3, 3] }, type := 9, pos := "gadget.go:75", after := #[], guard := none } rfl (by kernel_rfl) (by rfl) (fun K hK => ?_)
              go_simp
              refine (HA5.out _).mono ?_; rintro en xx ⟨rfl, hb⟩
              refine hK.out _ _ (fun _ => hHeld.on hb) (fun hHeld => ?_)
              have hHeld := hHeld rfl
              clear hK K
              try simp only [Act.put, List.setIfInBounds_toArray, List.set_cons_zero, List.set_cons_succ]
              try (replace rK := Kt.row_on hb rK)
              clear hb
              refine Kt.G.one 3 { dst := some 79, op := Op.call { callee := Callee.value (Operand.func 23), args := #[Operand.tmp 76, Operand.tmp 77, Operand.tmp 78], argTypes := #[53, 55, 9] }, type := 56, pos := "gadget.go:75", after := #[{ on := 0, ground := Ground.data }, { on := 1, ground := Ground.data }, { on := 2, ground := Ground.data }, { on := 2, ground := Ground.chain }], guard := none } rfl (by kernel_rfl) (by rfl) (fun K hK => ?_)
              go_simp
              refine (K5.out _ hHeld.bel).mono ?_; rintro en xx ⟨rfl, hb⟩
              refine hK.out _ _ (fun _ => hHeld.on hb) (fun hHeld => ?_)
              have hHeld := hHeld rfl
              clear hK K
              try simp only [Act.put, List.setIfInBounds_toArray, List.set_cons_zero, List.set_cons_succ]
              try (replace rK := Kt.row_on hb rK)
              clear hb
              refine Kt.G.takeP 4 { dst := some 75, op := Op.move (Operand.tmp 79), type := 56, pos := "gadget.go:75", after := #[{ on := 3, ground := Ground.data }], guard := none } ?_ (fun _ => hHeld) rfl (by kernel_rfl) (fun _ _ _ h => h) (by rfl) ?_ ?_
              rotate_left
              · intro wq; go_simp; try with_reducible rfl
              try simp only [Act.put, List.setIfInBounds_toArray, List.set_cons_zero, List.set_cons_succ]
              refine Kt.G.takeP 5 { dst := some 80, op := Op.extract (Operand.tmp 75) 0, type := 55, pos := "gadget.go:75", after := #[{ on := 4, ground := Ground.data }], guard := none } ?_ (fun _ => hHeld) rfl (by kernel_rfl) (fun _ _ _ h => h) (by rfl) ?_ ?_
              rotate_left
              · intro wq; go_simp; try with_reducible rfl
              try simp only [Act.put, List.setIfInBounds_toArray, List.set_cons_zero, List.set_cons_succ]
              refine Kt.G.takeP 6 { dst := some 81, op := Op.extract (Operand.tmp 75) 1, type := 9, pos := "gadget.go:75", after := #[{ on := 4, ground := Ground.data }, { on := 9, ground := Ground.gcOnly Departure.lateStores }], guard := none } ?_ (fun _ => hHeld) rfl (by kernel_rfl) (fun _ _ _ h => h) (by rfl) ?_ ?_
              rotate_left
              · intro wq; go_simp; try with_reducible rfl
              try simp only [Act.put, List.setIfInBounds_toArray, List.set_cons_zero, List.set_cons_succ]
              refine Kt.G.takeP 7 { dst := some 82, op := Op.extract (Operand.tmp 75) 2, type := 25, pos := "gadget.go:75", after := #[{ on := 4, ground := Ground.data }, { on := 10, ground := Ground.gcOnly Departure.lateStores }], guard := none } ?_ (fun _ => hHeld) rfl (by kernel_rfl) (fun _ _ _ h => h) (by rfl) ?_ ?_
              rotate_left
              · intro wq; go_simp; try with_reducible rfl
              try simp only [Act.put, List.setIfInBounds_toArray, List.set_cons_zero, List.set_cons_succ]
              refine Kt.G.one 9 { dst := none, op := Op.store 55 (Operand.tmp 17) (Operand.tmp 80), type := 0, pos := "gadget.go:75", after := #[{ on := 8, ground := Ground.data }, { on := 5, ground := Ground.data }, { on := 3, ground := Ground.chain }, { on := 0, ground := Ground.phase }, { on := 1, ground := Ground.phase }, { on := 2, ground := Ground.phase }, { on := 3, ground := Ground.phase }, { on := 4, ground := Ground.phase }, { on := 5, ground := Ground.phase }, { on := 6, ground := Ground.textOnly Departure.lateStores }, { on := 7, ground := Ground.textOnly Departure.lateStores }, { on := 8, ground := Ground.phase }], guard := none } rfl (by kernel_rfl) (by rfl) (fun K hK => ?_)
              have cK := fun i => cell_of_row _ _ i _ _ _ rK; have fK := fun i => frozen_of_row _ _ i _ _ rK
              go_simp
              refine hK.out _ _ (Kt.G.late (by kernel_rfl)) (fun _ => ?_)
              clear hK K
              try simp only [Act.put, List.setIfInBounds_toArray, List.set_cons_zero, List.set_cons_succ]
              refine Kt.G.takeP 10 { dst := some 18, op := Op.assign (Operand.tmp 81), type := 9, pos := "gadget.go:75", after := #[{ on := 6, ground := Ground.data }, { on := 9, ground := Ground.chain }, { on := 0, ground := Ground.phase }, { on := 1, ground := Ground.phase }, { on := 2, ground := Ground.phase }, { on := 3, ground := Ground.phase }, { on := 4, ground := Ground.phase }, { on := 5, ground := Ground.phase }, { on := 6, ground := Ground.phase }, { on := 7, ground := Ground.textOnly Departure.lateStores }, { on := 8, ground := Ground.phase }, { on := 9, ground := Ground.phase }], guard := none } ?_ (Kt.G.late (by kernel_rfl)) rfl (by kernel_rfl) (fun _ _ _ h => h) (by rfl) ?_ ?_
              rotate_left
              · intro wq; go_simp; try with_reducible rfl
              try simp only [Act.put, List.setIfInBounds_toArray, List.set_cons_zero, List.set_cons_succ]
              refine Kt.G.takeP 11 { dst := some 19, op := Op.assign (Operand.tmp 82), type := 25, pos := "gadget.go:75", after := #[{ on := 7, ground := Ground.data }, { on := 10, ground := Ground.chain }, { on := 0, ground := Ground.phase }, { on := 1, ground := Ground.phase }, { on := 2, ground := Ground.phase }, { on := 3, ground := Ground.phase }, { on := 4, ground := Ground.phase }, { on := 5, ground := Ground.phase }, { on := 6, ground := Ground.phase }, { on := 7, ground := Ground.phase }, { on := 8, ground := Ground.phase }, { on := 9, ground := Ground.phase }, { on := 10, ground := Ground.phase }], guard := none } ?_ (Kt.G.late (by kernel_rfl)) rfl (by kernel_rfl) (fun _ _ _ h => h) (by rfl) ?_ ?_
              rotate_left
              · intro wq; go_simp; try with_reducible rfl
              try simp only [Act.put, List.setIfInBounds_toArray, List.set_cons_zero, List.set_cons_succ]
              refine Kt.G.done (by kernel_rfl) (NoPanic.normal ?_) _
              clear cK fK
              go_wp2_with fail
              go_meet
              case rel => exact ⟨kK, rfl, rfl, rfl, Lib.hid ((hHeld.onB (Kt.below_setCells [.int .i64 0, .int .i64 0, .int .i64 0] kK 0 _ _ (Nat.le_refl _) (Below.refl _ _)) hkz hkr).add (Kt.fill [.int .i64 0, .int .i64 0, .int .i64 0] rK rfl))⟩
          case rest =>
            obtain ⟨k_j, rfl, rfl, rfl, HF7⟩ := hcut
            clear HF6
            go_upto_region 8 with (fail)
            go_cut [20, 21, 22] from 83 to 91 (fun p x y wx6 => ∃ kZ, p = .pointer (some ⟨kZ, 0, none⟩) ∧ x = .string ⟨#[]⟩ ∧ y = .int .i64 8 ∧ Hid (Kt.Fb w ((kZ, #[.int .i64 2, .int .i64 ad, .int .i64 0], 55) :: [(k_j, #[.int .i64 0, .int .i64 0, .int .i64 0], 55), (k_i, #[.int .i64 1, .int .i64 ad, .int .i64 0], 55), (k_j3, #[.int .i64 2, .int .i64 ad, .int .i64 0], 55), (k_h, #[.int .i64 2, .int .i64 ad, .int .i64 0], 55), (k_g, #[.int .i64 1, .int .i64 ad, .int .i64 0], 55), (w.heap.size, (shCs s F T), 53)]) wx6))
            case first =>
              refine Kt.G.start 10 (Kt.Fb w [(k_j, #[.int .i64 0, .int .i64 0, .int .i64 0], 55), (k_i, #[.int .i64 1, .int .i64 ad, .int .i64 0], 55), (k_j3, #[.int .i64 2, .int .i64 ad, .int .i64 0], 55), (k_h, #[.int .i64 2, .int .i64 ad, .int .i64 0], 55), (k_g, #[.int .i64 1, .int .i64 ad, .int .i64 0], 55), (w.heap.size, (shCs s F T), 53)]) (by kernel_rfl) HF7.out.drew (fun hHeld => ?_)
              generalize wc.drew = xx at *
              refine Kt.G.load_row 0 { dst := some 84, op := Op.load 53 (Operand.tmp 2), type := 53, pos := "gadget.go:76", after := #[], guard := none } 53 (Operand.tmp 2) w.heap.size 53 (shCs s F T) _ hHeld rfl (by kernel_rfl) (fun _ _ _ h => h) (by rfl) rfl rfl (fun _ h => h.row _ (List.Mem.tail _ (List.Mem.tail _ (List.Mem.tail _ (List.Mem.tail _ (List.Mem.tail _ (List.Mem.head _))))))) Try.underlying53 rfl (by kernel_rfl) ?_
              try simp only [Act.put, List.setIfInBounds_toArray, List.set_cons_zero, List.set_cons_succ]
              refine Kt.G.load_row 1 { dst := some 85, op := Op.load 55 (Operand.tmp 8), type := 55, pos := "gadget.go:76", after := #[], guard := none } 55 (Operand.tmp 8) k_h 55 #[.int .i64 2, .int .i64 ad, .int .i64 0] _ hHeld rfl (by kernel_rfl) (fun _ _ _ h => h) (by rfl) rfl rfl (fun _ h => h.row _ (List.Mem.tail _ (List.Mem.tail _ (List.Mem.tail _ (List.Mem.head _))))) Try.underlying55 rfl (by kernel_rfl) ?_
              try simp only [Act.put, List.setIfInBounds_toArray, List.set_cons_zero, List.set_cons_succ]
              refine Kt.G.takeP 2 { dst := some 86, op := Op.move (Operand.tmp 1), type := 3, pos := "gadget.go:76", after := #[], guard := none } ?_ (fun _ => hHeld) rfl (by kernel_rfl) (fun _ _ _ h => h) (by rfl) ?_ ?_
              rotate_left
              · intro wq; go_simp; try with_reducible rfl
              try simp only [Act.put, List.setIfInBounds_toArray, List.set_cons_zero, List.set_cons_succ]
              refine Kt.G.two 3 9 { dst := some 87, op := Op.call { callee := Callee.value (Operand.func 28), args := #[Operand.const (Value.int IntKind.i64 4), Operand.tmp 86, Operand.const (Value.int IntKind.i64 0), Operand.const (Value.int IntKind.i64 0)], argTypes := #[3, 3, 3, 3] }, type := 9, pos := "gadget.go:76", after := #[{ on := 2, ground := Ground.data }], guard := none } { dst := some 20, op := Op.alloc 55, type := 0, pos := "gadget.go:76", after := #[], guard := none } rfl rfl (by kernel_rfl) (by rfl) (by rfl) (fun K hK => ?_) (fun K hK => ?_)
              · go_simp
                refine (HA1.out _).mono ?_; rintro en xx ⟨rfl, hb⟩
                refine hK.out _ _ (fun _ => hHeld.on hb) (fun hHeld => ?_)
                have hHeld := hHeld rfl
                clear hK K
                try simp only [Act.put, List.setIfInBounds_toArray, List.set_cons_zero, List.set_cons_succ]
                try (replace rK := Kt.row_on hb rK)
                clear hb
                refine Kt.G.two 4 9 { dst := some 88, op := Op.call { callee := Callee.value (Operand.func 23), args := #[Operand.tmp 84, Operand.tmp 85, Operand.tmp 87], argTypes := #[53, 55, 9] }, type := 56, pos := "gadget.go:76", after := #[{ on := 0, ground := Ground.data }, { on := 1, ground := Ground.data }, { on := 3, ground := Ground.data }, { on := 3, ground := Ground.chain }], guard := none } { dst := some 20, op := Op.alloc 55, type := 0, pos := "gadget.go:76", after := #[], guard := none } rfl rfl (by kernel_rfl) (by rfl) (by rfl) (fun K hK => ?_) (fun K hK => ?_)
                · go_simp
                  refine (K6.out _ hHeld.bel).mono ?_; rintro en xx ⟨rfl, hb⟩
                  refine hK.out _ _ (fun _ => hHeld.on hb) (fun hHeld => ?_)
                  have hHeld := hHeld rfl
                  clear hK K
                  try simp only [Act.put, List.setIfInBounds_toArray, List.set_cons_zero, List.set_cons_succ]
                  try (replace rK := Kt.row_on hb rK)
                  clear hb
                  refine Kt.G.takeP 5 { dst := some 83, op := Op.move (Operand.tmp 88), type := 56, pos := "gadget.go:76", after := #[{ on := 4, ground := Ground.data }], guard := none } ?_ (fun _ => hHeld) rfl (by kernel_rfl) (fun _ _ _ h => h) (by rfl) ?_ ?_
                  rotate_left
                  · intro wq; go_simp; try with_reducible rfl
                  try simp only [Act.put, List.setIfInBounds_toArray, List.set_cons_zero, List.set_cons_succ]
                  refine Kt.G.takeP 6 { dst := some 89, op := Op.extract (Operand.tmp 83) 0, type := 55, pos := "gadget.go:76", after := #[{ on := 5, ground := Ground.data }], guard := none } ?_ (fun _ => hHeld) rfl (by kernel_rfl) (fun _ _ _ h => h) (by rfl) ?_ ?_
                  rotate_left
                  · intro wq; go_simp; try with_reducible rfl
                  try simp only [Act.put, List.setIfInBounds_toArray, List.set_cons_zero, List.set_cons_succ]
                  refine Kt.G.takeP 7 { dst := some 90, op := Op.extract (Operand.tmp 83) 1, type := 9, pos := "gadget.go:76", after := #[{ on := 5, ground := Ground.data }, { on := 10, ground := Ground.gcOnly Departure.lateStores }], guard := none } ?_ (fun _ => hHeld) rfl (by kernel_rfl) (fun _ _ _ h => h) (by rfl) ?_ ?_
                  rotate_left
                  · intro wq; go_simp; try with_reducible rfl
                  try simp only [Act.put, List.setIfInBounds_toArray, List.set_cons_zero, List.set_cons_succ]
                  refine Kt.G.takeP 8 { dst := some 91, op := Op.extract (Operand.tmp 83) 2, type := 25, pos := "gadget.go:76", after := #[{ on := 5, ground := Ground.data }, { on := 11, ground := Ground.gcOnly Departure.lateStores }], guard := none } ?_ (fun _ => hHeld) rfl (by kernel_rfl) (fun _ _ _ h => h) (by rfl) ?_ ?_
                  rotate_left
                  · intro wq; go_simp; try with_reducible rfl
                  try simp only [Act.put, List.setIfInBounds_toArray, List.set_cons_zero, List.set_cons_succ]
                  refine Kt.G.one 9 { dst := some 20, op := Op.alloc 55, type := 0, pos := "gadget.go:76", after := #[], guard := none } rfl (by kernel_rfl) (by rfl) (fun K hK => ?_)
                  have hkz := hHeld.bel.size
                  have hkr : ∀ r ∈ ([(k_j, #[.int .i64 0, .int .i64 0, .int .i64 0], 55), (k_i, #[.int .i64 1, .int .i64 ad, .int .i64 0], 55), (k_j3, #[.int .i64 2, .int .i64 ad, .int .i64 0], 55), (k_h, #[.int .i64 2, .int .i64 ad, .int .i64 0], 55), (k_g, #[.int .i64 1, .int .i64 ad, .int .i64 0], 55), (w.heap.size, (shCs s F T), 53)] : List (Nat × Array Value × TypeId)), r.1 < xx.heap.size := fun r hr => hHeld.lt hr
                  go_simp
                  refine hK.out _ _ (fun _ => hHeld.alloc _) (fun hHeld => ?_)
                  have hHeld := hHeld rfl
                  clear hK K
                  try simp only [Act.put, List.setIfInBounds_toArray, List.set_cons_zero, List.set_cons_succ]
                  have rK := heap_alloc_new xx (.cells #[.int .i64 0, .int .i64 0, .int .i64 0] 55)
                  generalize hkK : xx.heap.size = kK at *
                  clear hkK
                  generalize xx.alloc (.cells #[.int .i64 0, .int .i64 0, .int .i64 0] 55) = xx at *
                  refine Kt.G.one 10 { dst := none, op := Op.store 55 (Operand.tmp 20) (Operand.tmp 89), type := 0, pos := "gadget.go:76", after := #[{ on := 9, ground := Ground.data }, { on := 6, ground := Ground.data }, { on := 4, ground := Ground.chain }, { on := 0, ground := Ground.phase }, { on := 1, ground := Ground.phase }, { on := 2, ground := Ground.phase }, { on := 3, ground := Ground.phase }, { on := 4, ground := Ground.phase }, { on := 5, ground := Ground.phase }, { on := 6, ground := Ground.phase }, { on := 7, ground := Ground.textOnly Departure.lateStores }, { on := 8, ground := Ground.textOnly Departure.lateStores }, { on := 9, ground := Ground.phase }], guard := none } rfl (by kernel_rfl) (by rfl) (fun K hK => ?_)
                  have cK := fun i => cell_of_row _ _ i _ _ _ rK; have fK := fun i => frozen_of_row _ _ i _ _ rK
                  go_simp
                  refine hK.out _ _ (Kt.G.late (by kernel_rfl)) (fun _ => ?_)
                  clear hK K
                  try simp only [Act.put, List.setIfInBounds_toArray, List.set_cons_zero, List.set_cons_succ]
                  refine Kt.G.takeP 11 { dst := some 21, op := Op.assign (Operand.tmp 90), type := 9, pos := "gadget.go:76", after := #[{ on := 7, ground := Ground.data }, { on := 10, ground := Ground.chain }, { on := 0, ground := Ground.phase }, { on := 1, ground := Ground.phase }, { on := 2, ground := Ground.phase }, { on := 3, ground := Ground.phase }, { on := 4, ground := Ground.phase }, { on := 5, ground := Ground.phase }, { on := 6, ground := Ground.phase }, { on := 7, ground := Ground.phase }, { on := 8, ground := Ground.textOnly Departure.lateStores }, { on := 9, ground := Ground.phase }, { on := 10, ground := Ground.phase }], guard := none } ?_ (Kt.G.late (by kernel_rfl)) rfl (by kernel_rfl) (fun _ _ _ h => h) (by rfl) ?_ ?_
                  rotate_left
                  · intro wq; go_simp; try with_reducible rfl
                  try simp only [Act.put, List.setIfInBounds_toArray, List.set_cons_zero, List.set_cons_succ]
                  refine Kt.G.takeP 12 { dst := some 22, op := Op.assign (Operand.tmp 91), type := 25, pos := "gadget.go:76", after := #[{ on := 8, ground := Ground.data }, { on := 11, ground := Ground.chain }, { on := 0, ground := Ground.phase }, { on := 1, ground := Ground.phase }, { on := 2, ground := Ground.phase }, { on := 3, ground := Ground.phase }, { on := 4, ground := Ground.phase }, { on := 5, ground := Ground.phase }, { on := 6, ground := Ground.phase }, { on := 7, ground := Ground.phase }, { on := 8, ground := Ground.phase }, { on := 9, ground := Ground.phase }, { on := 10, ground := Ground.phase }, { on := 11, ground := Ground.phase }], guard := none } ?_ (Kt.G.late (by kernel_rfl)) rfl (by kernel_rfl) (fun _ _ _ h => h) (by rfl) ?_ ?_
                  rotate_left
                  · intro wq; go_simp; try with_reducible rfl
                  try simp only [Act.put, List.setIfInBounds_toArray, List.set_cons_zero, List.set_cons_succ]
                  refine Kt.G.done (by kernel_rfl) (NoPanic.normal ?_) _
                  clear cK fK
                  go_wp2_with fail
                  go_meet
                  case rel => exact ⟨kK, rfl, rfl, rfl, Lib.hid ((hHeld.onB (Kt.below_setCells [.int .i64 2, .int .i64 ad, .int .i64 0] kK 0 _ _ (Nat.le_refl _) (Below.refl _ _)) hkz hkr).add (Kt.fill [.int .i64 2, .int .i64 ad, .int .i64 0] rK rfl))⟩
                · have hkz := hHeld.bel.size
                  have hkr : ∀ r ∈ ([(k_j, #[.int .i64 0, .int .i64 0, .int .i64 0], 55), (k_i, #[.int .i64 1, .int .i64 ad, .int .i64 0], 55), (k_j3, #[.int .i64 2, .int .i64 ad, .int .i64 0], 55), (k_h, #[.int .i64 2, .int .i64 ad, .int .i64 0], 55), (k_g, #[.int .i64 1, .int .i64 ad, .int .i64 0], 55), (w.heap.size, (shCs s F T), 53)] : List (Nat × Array Value × TypeId)), r.1 < xx.heap.size := fun r hr => hHeld.lt hr
                  go_simp
                  refine hK.out _ _ (fun _ => hHeld.alloc _) (fun hHeld => ?_)
                  have hHeld := hHeld rfl
                  clear hK K
                  try simp only [Act.put, List.setIfInBounds_toArray, List.set_cons_zero, List.set_cons_succ]
                  have rK := heap_alloc_new xx (.cells #[.int .i64 0, .int .i64 0, .int .i64 0] 55)
                  generalize hkK : xx.heap.size = kK at *
                  clear hkK
                  generalize xx.alloc (.cells #[.int .i64 0, .int .i64 0, .int .i64 0] 55) = xx at *
                  refine Kt.G.one 4 { dst := some 88, op := Op.call { callee := Callee.value (Operand.func 23), args := #[Operand.tmp 84, Operand.tmp 85, Operand.tmp 87], argTypes := #[53, 55, 9] }, type := 56, pos := "gadget.go:76", after := #[{ on := 0, ground := Ground.data }, { on := 1, ground := Ground.data }, { on := 3, ground := Ground.data }, { on := 3, ground := Ground.chain }], guard := none } rfl (by kernel_rfl) (by rfl) (fun K hK => ?_)
                  go_simp
                  refine (K6.out _ hHeld.bel).mono ?_; rintro en xx ⟨rfl, hb⟩
                  refine hK.out _ _ (fun _ => hHeld.on hb) (fun hHeld => ?_)
                  have hHeld := hHeld rfl
                  clear hK K
                  try simp only [Act.put, List.setIfInBounds_toArray, List.set_cons_zero, List.set_cons_succ]
                  try (replace rK := Kt.row_on hb rK)
                  clear hb
                  refine Kt.G.takeP 5 { dst := some 83, op := Op.move (Operand.tmp 88), type := 56, pos := "gadget.go:76", after := #[{ on := 4, ground := Ground.data }], guard := none } ?_ (fun _ => hHeld) rfl (by kernel_rfl) (fun _ _ _ h => h) (by rfl) ?_ ?_
                  rotate_left
                  · intro wq; go_simp; try with_reducible rfl
                  try simp only [Act.put, List.setIfInBounds_toArray, List.set_cons_zero, List.set_cons_succ]
                  refine Kt.G.takeP 6 { dst := some 89, op := Op.extract (Operand.tmp 83) 0, type := 55, pos := "gadget.go:76", after := #[{ on := 5, ground := Ground.data }], guard := none } ?_ (fun _ => hHeld) rfl (by kernel_rfl) (fun _ _ _ h => h) (by rfl) ?_ ?_
                  rotate_left
                  · intro wq; go_simp; try with_reducible rfl
                  try simp only [Act.put, List.setIfInBounds_toArray, List.set_cons_zero, List.set_cons_succ]
                  refine Kt.G.takeP 7 { dst := some 90, op := Op.extract (Operand.tmp 83) 1, type := 9, pos := "gadget.go:76", after := #[{ on := 5, ground := Ground.data }, { on := 10, ground := Ground.gcOnly Departure.lateStores }], guard := none } ?_ (fun _ => hHeld) rfl (by kernel_rfl) (fun _ _ _ h => h) (by rfl) ?_ ?_
                  rotate_left
                  · intro wq; go_simp; try with_reducible rfl
                  try simp only [Act.put, List.setIfInBounds_toArray, List.set_cons_zero, List.set_cons_succ]
                  refine Kt.G.takeP 8 { dst := some 91, op := Op.extract (Operand.tmp 83) 2, type := 25, pos := "gadget.go:76", after := #[{ on := 5, ground := Ground.data }, { on := 11, ground := Ground.gcOnly Departure.lateStores }], guard := none } ?_ (fun _ => hHeld) rfl (by kernel_rfl) (fun _ _ _ h => h) (by rfl) ?_ ?_
                  rotate_left
                  · intro wq; go_simp; try with_reducible rfl
                  try simp only [Act.put, List.setIfInBounds_toArray, List.set_cons_zero, List.set_cons_succ]
                  refine Kt.G.one 10 { dst := none, op := Op.store 55 (Operand.tmp 20) (Operand.tmp 89), type := 0, pos := "gadget.go:76", after := #[{ on := 9, ground := Ground.data }, { on := 6, ground := Ground.data }, { on := 4, ground := Ground.chain }, { on := 0, ground := Ground.phase }, { on := 1, ground := Ground.phase }, { on := 2, ground := Ground.phase }, { on := 3, ground := Ground.phase }, { on := 4, ground := Ground.phase }, { on := 5, ground := Ground.phase }, { on := 6, ground := Ground.phase }, { on := 7, ground := Ground.textOnly Departure.lateStores }, { on := 8, ground := Ground.textOnly Departure.lateStores }, { on := 9, ground := Ground.phase }], guard := none } rfl (by kernel_rfl) (by rfl) (fun K hK => ?_)
                  have cK := fun i => cell_of_row _ _ i _ _ _ rK; have fK := fun i => frozen_of_row _ _ i _ _ rK
                  go_simp
                  refine hK.out _ _ (Kt.G.late (by kernel_rfl)) (fun _ => ?_)
                  clear hK K
                  try simp only [Act.put, List.setIfInBounds_toArray, List.set_cons_zero, List.set_cons_succ]
                  refine Kt.G.takeP 11 { dst := some 21, op := Op.assign (Operand.tmp 90), type := 9, pos := "gadget.go:76", after := #[{ on := 7, ground := Ground.data }, { on := 10, ground := Ground.chain }, { on := 0, ground := Ground.phase }, { on := 1, ground := Ground.phase }, { on := 2, ground := Ground.phase }, { on := 3, ground := Ground.phase }, { on := 4, ground := Ground.phase }, { on := 5, ground := Ground.phase }, { on := 6, ground := Ground.phase }, { on := 7, ground := Ground.phase }, { on := 8, ground := Ground.textOnly Departure.lateStores }, { on := 9, ground := Ground.phase }, { on := 10, ground := Ground.phase }], guard := none } ?_ (Kt.G.late (by kernel_rfl)) rfl (by kernel_rfl) (fun _ _ _ h => h) (by rfl) ?_ ?_
                  rotate_left
                  · intro wq; go_simp; try with_reducible rfl
                  try simp only [Act.put, List.setIfInBounds_toArray, List.set_cons_zero, List.set_cons_succ]
                  refine Kt.G.takeP 12 { dst := some 22, op := Op.assign (Operand.tmp 91), type := 25, pos := "gadget.go:76", after := #[{ on := 8, ground := Ground.data }, { on := 11, ground := Ground.chain }, { on := 0, ground := Ground.phase }, { on := 1, ground := Ground.phase }, { on := 2, ground := Ground.phase }, { on := 3, ground := Ground.phase }, { on := 4, ground := Ground.phase }, { on := 5, ground := Ground.phase }, { on := 6, ground := Ground.phase }, { on := 7, ground := Ground.phase }, { on := 8, ground := Ground.phase }, { on := 9, ground := Ground.phase }, { on := 10, ground := Ground.phase }, { on := 11, ground := Ground.phase }], guard := none } ?_ (Kt.G.late (by kernel_rfl)) rfl (by kernel_rfl) (fun _ _ _ h => h) (by rfl) ?_ ?_
                  rotate_left
                  · intro wq; go_simp; try with_reducible rfl
                  try simp only [Act.put, List.setIfInBounds_toArray, List.set_cons_zero, List.set_cons_succ]
                  refine Kt.G.done (by kernel_rfl) (NoPanic.normal ?_) _
                  clear cK fK
                  go_wp2_with fail
                  go_meet
                  case rel => exact ⟨kK, rfl, rfl, rfl, Lib.hid ((hHeld.onB (Kt.below_setCells [.int .i64 2, .int .i64 ad, .int .i64 0] kK 0 _ _ (Nat.le_refl _) (Below.refl _ _)) hkz hkr).add (Kt.fill [.int .i64 2, .int .i64 ad, .int .i64 0] rK rfl))⟩
              · have hkz := hHeld.bel.size
                have hkr : ∀ r ∈ ([(k_j, #[.int .i64 0, .int .i64 0, .int .i64 0], 55), (k_i, #[.int .i64 1, .int .i64 ad, .int .i64 0], 55), (k_j3, #[.int .i64 2, .int .i64 ad, .int .i64 0], 55), (k_h, #[.int .i64 2, .int .i64 ad, .int .i64 0], 55), (k_g, #[.int .i64 1, .int .i64 ad, .int .i64 0], 55), (w.heap.size, (shCs s F T), 53)] : List (Nat × Array Value × TypeId)), r.1 < xx.heap.size := fun r hr => hHeld.lt hr
                go_simp
                refine hK.out _ _ (fun _ => hHeld.alloc _) (fun hHeld => ?_)
                have hHeld := hHeld rfl
                clear hK K
                try simp only [Act.put, List.setIfInBounds_toArray, List.set_cons_zero, List.set_cons_succ]
                have rK := heap_alloc_new xx (.cells #[.int .i64 0, .int .i64 0, .int .i64 0] 55)
                generalize hkK : xx.heap.size = kK at *
                clear hkK
                generalize xx.alloc (.cells #[.int .i64 0, .int .i64 0, .int .i64 0] 55) = xx at *
                refine Kt.G.one 3 { dst := some 87, op := Op.call { callee := Callee.value (Operand.func 28), args := #[Operand.const (Value.int IntKind.i64 4), Operand.tmp 86, Operand.const (Value.int IntKind.i64 0), Operand.const (Value.int IntKind.i64 0)], argTypes := #[3, 3, 3, 3] }, type := 9, pos := "gadget.go:76", after := #[{ on := 2, ground := Ground.data }], guard := none } rfl (by kernel_rfl) (by rfl) (fun K hK => ?_)
                go_simp
                refine (HA1.out _).mono ?_; rintro en xx ⟨rfl, hb⟩
                refine hK.out _ _ (fun _ => hHeld.on hb) (fun hHeld => ?_)
                have hHeld := hHeld rfl
                clear hK K
                try simp only [Act.put, List.setIfInBounds_toArray, List.set_cons_zero, List.set_cons_succ]
                try (replace rK := Kt.row_on hb rK)
                clear hb
                refine Kt.G.one 4 { dst := some 88, op := Op.call { callee := Callee.value (Operand.func 23), args := #[Operand.tmp 84, Operand.tmp 85, Operand.tmp 87], argTypes := #[53, 55, 9] }, type := 56, pos := "gadget.go:76", after := #[{ on := 0, ground := Ground.data }, { on := 1, ground := Ground.data }, { on := 3, ground := Ground.data }, { on := 3, ground := Ground.chain }], guard := none } rfl (by kernel_rfl) (by rfl) (fun K hK => ?_)
                go_simp
                refine (K6.out _ hHeld.bel).mono ?_; rintro en xx ⟨rfl, hb⟩
                refine hK.out _ _ (fun _ => hHeld.on hb) (fun hHeld => ?_)
                have hHeld := hHeld rfl
                clear hK K
                try simp only [Act.put, List.setIfInBounds_toArray, List.set_cons_zero, List.set_cons_succ]
                try (replace rK := Kt.row_on hb rK)
                clear hb
                refine Kt.G.takeP 5 { dst := some 83, op := Op.move (Operand.tmp 88), type := 56, pos := "gadget.go:76", after := #[{ on := 4, ground := Ground.data }], guard := none } ?_ (fun _ => hHeld) rfl (by kernel_rfl) (fun _ _ _ h => h) (by rfl) ?_ ?_
                rotate_left
                · intro wq; go_simp; try with_reducible rfl
                try simp only [Act.put, List.setIfInBounds_toArray, List.set_cons_zero, List.set_cons_succ]
                refine Kt.G.takeP 6 { dst := some 89, op := Op.extract (Operand.tmp 83) 0, type := 55, pos := "gadget.go:76", after := #[{ on := 5, ground := Ground.data }], guard := none } ?_ (fun _ => hHeld) rfl (by kernel_rfl) (fun _ _ _ h => h) (by rfl) ?_ ?_
                rotate_left
                · intro wq; go_simp; try with_reducible rfl
                try simp only [Act.put, List.setIfInBounds_toArray, List.set_cons_zero, List.set_cons_succ]
                refine Kt.G.takeP 7 { dst := some 90, op := Op.extract (Operand.tmp 83) 1, type := 9, pos := "gadget.go:76", after := #[{ on := 5, ground := Ground.data }, { on := 10, ground := Ground.gcOnly Departure.lateStores }], guard := none } ?_ (fun _ => hHeld) rfl (by kernel_rfl) (fun _ _ _ h => h) (by rfl) ?_ ?_
                rotate_left
                · intro wq; go_simp; try with_reducible rfl
                try simp only [Act.put, List.setIfInBounds_toArray, List.set_cons_zero, List.set_cons_succ]
                refine Kt.G.takeP 8 { dst := some 91, op := Op.extract (Operand.tmp 83) 2, type := 25, pos := "gadget.go:76", after := #[{ on := 5, ground := Ground.data }, { on := 11, ground := Ground.gcOnly Departure.lateStores }], guard := none } ?_ (fun _ => hHeld) rfl (by kernel_rfl) (fun _ _ _ h => h) (by rfl) ?_ ?_
                rotate_left
                · intro wq; go_simp; try with_reducible rfl
                try simp only [Act.put, List.setIfInBounds_toArray, List.set_cons_zero, List.set_cons_succ]
                refine Kt.G.one 10 { dst := none, op := Op.store 55 (Operand.tmp 20) (Operand.tmp 89), type := 0, pos := "gadget.go:76", after := #[{ on := 9, ground := Ground.data }, { on := 6, ground := Ground.data }, { on := 4, ground := Ground.chain }, { on := 0, ground := Ground.phase }, { on := 1, ground := Ground.phase }, { on := 2, ground := Ground.phase }, { on := 3, ground := Ground.phase }, { on := 4, ground := Ground.phase }, { on := 5, ground := Ground.phase }, { on := 6, ground := Ground.phase }, { on := 7, ground := Ground.textOnly Departure.lateStores }, { on := 8, ground := Ground.textOnly Departure.lateStores }, { on := 9, ground := Ground.phase }], guard := none } rfl (by kernel_rfl) (by rfl) (fun K hK => ?_)
                have cK := fun i => cell_of_row _ _ i _ _ _ rK; have fK := fun i => frozen_of_row _ _ i _ _ rK
                go_simp
                refine hK.out _ _ (Kt.G.late (by kernel_rfl)) (fun _ => ?_)
                clear hK K
                try simp only [Act.put, List.setIfInBounds_toArray, List.set_cons_zero, List.set_cons_succ]
                refine Kt.G.takeP 11 { dst := some 21, op := Op.assign (Operand.tmp 90), type := 9, pos := "gadget.go:76", after := #[{ on := 7, ground := Ground.data }, { on := 10, ground := Ground.chain }, { on := 0, ground := Ground.phase }, { on := 1, ground := Ground.phase }, { on := 2, ground := Ground.phase }, { on := 3, ground := Ground.phase }, { on := 4, ground := Ground.phase }, { on := 5, ground := Ground.phase }, { on := 6, ground := Ground.phase }, { on := 7, ground := Ground.phase }, { on := 8, ground := Ground.textOnly Departure.lateStores }, { on := 9, ground := Ground.phase }, { on := 10, ground := Ground.phase }], guard := none } ?_ (Kt.G.late (by kernel_rfl)) rfl (by kernel_rfl) (fun _ _ _ h => h) (by rfl) ?_ ?_
                rotate_left
                · intro wq; go_simp; try with_reducible rfl
                try simp only [Act.put, List.setIfInBounds_toArray, List.set_cons_zero, List.set_cons_succ]
                refine Kt.G.takeP 12 { dst := some 22, op := Op.assign (Operand.tmp 91), type := 25, pos := "gadget.go:76", after := #[{ on := 8, ground := Ground.data }, { on := 11, ground := Ground.chain }, { on := 0, ground := Ground.phase }, { on := 1, ground := Ground.phase }, { on := 2, ground := Ground.phase }, { on := 3, ground := Ground.phase }, { on := 4, ground := Ground.phase }, { on := 5, ground := Ground.phase }, { on := 6, ground := Ground.phase }, { on := 7, ground := Ground.phase }, { on := 8, ground := Ground.phase }, { on := 9, ground := Ground.phase }, { on := 10, ground := Ground.phase }, { on := 11, ground := Ground.phase }], guard := none } ?_ (Kt.G.late (by kernel_rfl)) rfl (by kernel_rfl) (fun _ _ _ h => h) (by rfl) ?_ ?_
                rotate_left
                · intro wq; go_simp; try with_reducible rfl
                try simp only [Act.put, List.setIfInBounds_toArray, List.set_cons_zero, List.set_cons_succ]
                refine Kt.G.done (by kernel_rfl) (NoPanic.normal ?_) _
                clear cK fK
                go_wp2_with fail
                go_meet
                case rel => exact ⟨kK, rfl, rfl, rfl, Lib.hid ((hHeld.onB (Kt.below_setCells [.int .i64 2, .int .i64 ad, .int .i64 0] kK 0 _ _ (Nat.le_refl _) (Below.refl _ _)) hkz hkr).add (Kt.fill [.int .i64 2, .int .i64 ad, .int .i64 0] rK rfl))⟩
            case rest =>
              obtain ⟨k_j6, rfl, rfl, rfl, HF8⟩ := hcut
              clear HF7
              have q_s := fun i => cell_of_row _ _ i _ _ _ (HF8.out.row _ (List.Mem.tail _ (List.Mem.tail _ (List.Mem.tail _ (List.Mem.tail _ (List.Mem.tail _ (List.Mem.tail _ (List.Mem.head _))))))))
              have q_g := fun i => cell_of_row _ _ i _ _ _ (HF8.out.row _ (List.Mem.tail _ (List.Mem.tail _ (List.Mem.tail _ (List.Mem.tail _ (List.Mem.tail _ (List.Mem.head _)))))))
              have q_h := fun i => cell_of_row _ _ i _ _ _ (HF8.out.row _ (List.Mem.tail _ (List.Mem.tail _ (List.Mem.tail _ (List.Mem.tail _ (List.Mem.head _))))))
              have q_i := fun i => cell_of_row _ _ i _ _ _ (HF8.out.row _ (List.Mem.tail _ (List.Mem.tail _ (List.Mem.head _))))
              have q_j := fun i => cell_of_row _ _ i _ _ _ (HF8.out.row _ (List.Mem.tail _ (List.Mem.head _)))
              unfold shCs at q_s
              rw [HVA.out] at q_s
              have hcv2 := HCV.out wc _ rfl
              have hz6 := HF8.out.lt (List.Mem.tail _ (List.Mem.tail _ (List.Mem.tail _ (List.Mem.tail _ (List.Mem.tail _ (List.Mem.head _))))))
              have hz7 := HF8.out.lt (List.Mem.tail _ (List.Mem.tail _ (List.Mem.head _)))
              have hz8 := HF8.out.lt (List.Mem.tail _ (List.Mem.head _))
              dsimp only at hz6 hz7 hz8
              go_wp2_with fail
              go_ret
              exact ⟨rfl, Kt.balloc HF8.out.bel _⟩
end Go.Proofs.Ytmddfpmchcmgiaa
