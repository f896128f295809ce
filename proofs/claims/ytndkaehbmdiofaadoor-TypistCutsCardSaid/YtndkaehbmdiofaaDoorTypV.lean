/- The law TypistCuts, walked. -/
import Derived.Test.YtndkaehbmdiofaaDoorTypJ
import Derived.Test.YtndkaehbmdiofaaDoorTypX
namespace Go.Proofs.YtndkaehbmdiofaaDoor
open Go.RowKit Go.Proofs.YtndkaehbmdiofaaDoor.Typ
theorem zero_v : St.zero.v = .agg zcs := rfl
theorem eql_zero (w : World) : (binOp .eql 37 (.agg zcs) (.agg zcs)).run Tryd.prog w = .ok (.bool true) w := eql_ty St.zero w
set_option maxRecDepth 100000 in
set_option maxHeartbeats 6400000 in
theorem cuts_calls (t : St) (a b : List Sk) (A1 A2 : Option Addr) (p1 p2 : Nat) (w0 : World) (hv : Kt.Ar w0 (.slice A1 a.length p1) 4 a.length (sks a)) (hv2 : Kt.Ar w0 (.slice A2 b.length p2) 4 b.length (sks b)) (hT : ∀ W, Below w0.heap.size w0 W → Lib.Utf8Tabs 0 1 W)
    (hla : a.length ≤ 4611686018427387904) (hlb : b.length ≤ 4611686018427387903) :
    Calls Tryd.prog 6 #[t.v, .slice A1 a.length p1, .slice A2 b.length p2] w0 fun e w' => e = .returned (.bool true) ∧ Below w0.heap.size w0 w' := by
  have HT := Lib.hid hT
  have HV := Lib.hid hv
  have HV2 := Lib.hid hv2
  have HLV := Lib.hid (fun W hW => tlives_calls W (fun X hX => HT.out X (Kt.bthen hW hX)))
  have HR0 := Lib.hid (heap_alloc_new w0 (.cells t.cs 37))
  have HB0 := Lib.hid (Kt.balloc (Below.refl _ w0) (.cells t.cs 37))
  have hw : IntKind.i64.wrap ((a.length : Int) + (b.length : Int)) = ((a.length + b.length : Nat) : Int) := by rw [IntWalk.i64_in _ (by omega)]; omega
  obtain ⟨n, hn⟩ : ∃ n, a.length + b.length = n := ⟨_, rfl⟩
  rw [hn] at hw
  have HN := Lib.hid hn
  obtain ⟨x, e, hxe⟩ : ∃ x e, typeP t a = (x, e) := ⟨_, _, rfl⟩
  have HX := Lib.hid hxe
  have HTA := Lib.hid (fun W hW => type_calls t a A1 p1 W (HV.out.on hW) (fun X hX => HT.out X (Kt.bthen hW hX)))
  rw [hxe] at HTA
  clear hv hv2 hT hla hlb hn hxe
  unfold St.v
  go_enter Tryd.func6, Tryd.ntmps6
  go_upto_region 1 with (fail)
  refine Kt.fold (fun X => Hid (X.heap[w0.heap.size]? = some (.cells t.cs 37 (0, 0)) ∧ Below w0.heap.size w0 X)) (Lib.hid ⟨HR0.out, HB0.out⟩) (fun W1 HW1 => ?_)
  clear HR0 HB0
  have hr := HW1.out.1
  unfold St.cs at hr
  have q := fun i => cell_of_row _ _ i _ _ _ hr
  clear hr
  unfold St.v at HTA
  unfold St.cs at HTA
  go_wp2_with fail
  refine (HTA.out _ HW1.out.2).mono ?_; rintro en w2 ⟨rfl, hb⟩
  have HW2 := Lib.hid (show w2.heap[w0.heap.size]? = some (.cells t.cs 37 (0, 0)) ∧ Below w0.heap.size w0 w2 from ⟨Kt.row_on hb HW1.out.1, Kt.bthen HW1.out.2 hb⟩)
  clear hb q HW1 HTA
  have HXB := Lib.hid (heap_alloc_new w2 (.cells x.cs 37))
  have HAL := Lib.hid (Kt.balloc (Below.refl _ w2) (.cells x.cs 37))
  unfold St.cs at HAL HXB
  go_upto_region 2 with (fail)
  refine Kt.fold (fun X => Hid (X.heap[w0.heap.size]? = some (.cells t.cs 37 (0, 0)) ∧ X.heap[w2.heap.size]? = some (.cells x.cs 37 (0, 0)) ∧ Below w0.heap.size w0 X)) (Lib.hid ⟨Kt.row_on HAL.out HW2.out.1, HXB.out, Kt.bthen HW2.out.2 HAL.out⟩) (fun W3 HW3 => ?_)
  obtain ⟨kx, hkx⟩ : ∃ k, w2.heap.size = k := ⟨_, rfl⟩
  rw [hkx] at HW3 ⊢
  clear hkx HXB HAL HW2
  go_wp2_with fail
  refine (HLV.out _ HW3.out.2.2).mono ?_; rintro en w4 ⟨rfl, hb⟩
  have HW4 := Lib.hid (show w4.heap[w0.heap.size]? = some (.cells t.cs 37 (0, 0)) ∧ w4.heap[kx]? = some (.cells x.cs 37 (0, 0)) ∧ Below w0.heap.size w0 w4 from ⟨Kt.row_on hb HW3.out.1, Kt.row_on hb HW3.out.2.1, Kt.bthen HW3.out.2.2 hb⟩)
  clear hb HW3
  by_cases he : e = 0
  · subst he
    by_cases hl : 400 < n
    · have hl' : (400 : Int) < n := by omega
      clear hl
      go_wp2_with fail
      refine (HLV.out _ HW4.out.2.2).mono ?_; rintro en w5 ⟨rfl, hb⟩
      have HB5 := Lib.hid (Kt.bthen HW4.out.2.2 hb)
      clear hb
      go_wp2_with fail
      go_ret
      exact ⟨rfl, HB5.out⟩
    · have hl' : ¬ (400 : Int) < n := by omega
      obtain ⟨hck, hcut0⟩ := cuts_plain HX.out (b := b) (by have := HN.out; omega)
      obtain ⟨y, f, hyf⟩ : ∃ y f, typeP x b = (y, f) := ⟨_, _, rfl⟩
      have hzf := hcut0.symm.trans hyf
      have HFM := Lib.hid (chk_fm.1 hck)
      have HTB := Lib.hid (fun W hW => type_calls x b A2 p2 W (HV2.out.on hW) (fun X hX => HT.out X (Kt.bthen hW hX)))
      rw [hyf] at HTB
      unfold St.v at HTB
      unfold St.cs at HTB
      have HZF := Lib.hid hzf
      have HL : Hid (a.length + b.length ≤ 400) := Lib.hid (by have := HN.out; omega)
      have hr := HW4.out.2.1
      unfold St.cs at hr
      have q := fun i => cell_of_row _ _ i _ _ _ hr
      clear hl hck hcut0 hyf hzf hr HX
      go_wp2_with fail
      refine (HTB.out _ HW4.out.2.2).mono ?_; rintro en w5 ⟨rfl, hb⟩
      have HAL := Lib.hid (Kt.balloc (Below.refl _ w5) (.cells y.cs 37))
      have HYB := Lib.hid (heap_alloc_new w5 (.cells y.cs 37))
      have HW5 := Lib.hid (show w5.heap[w0.heap.size]? = some (.cells t.cs 37 (0, 0)) ∧ w5.heap[kx]? = some (.cells x.cs 37 (0, 0)) ∧ Below w0.heap.size w0 w5 from ⟨Kt.row_on hb HW4.out.1, Kt.row_on hb HW4.out.2.1, Kt.bthen HW4.out.2.2 hb⟩)
      clear hb HW4 HTB q
      unfold St.cs at HAL HYB
      go_upto_region 5 with (fail)
      refine Kt.fold (fun X => Hid (X.heap[w0.heap.size]? = some (.cells t.cs 37 (0, 0)) ∧ X.heap[kx]? = some (.cells x.cs 37 (0, 0)) ∧ X.heap[w5.heap.size]? = some (.cells y.cs 37 (0, 0)) ∧ Below w0.heap.size w0 X)) (Lib.hid ⟨Kt.row_on HAL.out HW5.out.1, Kt.row_on HAL.out HW5.out.2.1, HYB.out, Kt.bthen HW5.out.2.2 HAL.out⟩) (fun W5 H5 => ?_)
      obtain ⟨ky, hky⟩ : ∃ k, w5.heap.size = k := ⟨_, rfl⟩
      rw [hky] at H5 ⊢
      clear hky HAL HYB HW5
      have HVB := Lib.hid (fun W (hW : Below W5.heap.size W5 W) => HV2.out.on (Kt.bthen H5.out.2.2.2 hW))
      have HCL := Lib.hid (fun W (hW : Below W5.heap.size W5 W) => sclone_calls (.slice A1 a.length p1) a.length (sks a) W (HV.out.on (Kt.bthen H5.out.2.2.2 hW)) (sks_one a) (by have := HL.out; omega))
      have HTZ : Hid (∀ W, Below W5.heap.size W5 W → ∀ A c, Kt.Sl W W5.heap.size 31 4 (.slice A (a.length + b.length) c) (a.length + b.length) (sks a ++ sks b) → Calls Tryd.prog 12 #[t.v, .slice A (a.length + b.length) c] W fun e w' => e = .returned (.tuple #[y.v, .int .i64 f]) ∧ Below W.heap.size W w') := Lib.hid fun W hW A c hs => by
        have h := type_calls t (a ++ b) A c W (by rw [List.length_append, sks_app]; exact Kt.Ar.of_sl hs) (fun X hX => HT.out X (Kt.bthen H5.out.2.2.2 (Kt.bthen hW hX)))
        rw [HZF.out, List.length_append] at h
        exact h
      unfold St.v at HTZ
      unfold St.cs at HTZ
      have HRB : Hid (∀ r ∈ [(w0.heap.size, #[.int .u64 (t.held.a.toNat : Int), .int .u64 (t.held.b.toNat : Int), .int .u64 (t.held.c.toNat : Int), .int .u64 (t.held.d.toNat : Int), .bool t.caps, .int .i64 t.dead, .int .i64 t.last, .int .i64 t.wait, .string t.text], 37)], (r : Nat × Array Value × TypeId).1 < W5.heap.size) := Lib.hid (by
        intro r hr
        rw [List.mem_singleton] at hr
        subst hr
        exact lt_of_row0 H5.out.1)
      go_cut [11, 12] from 49 to 57 (fun p e wx => ∃ kZ, p = .pointer (some ⟨kZ, 0, none⟩) ∧ e = .int .i64 f ∧ wx.heap[kZ]? = some (.cells y.cs 37 (0, 0)) ∧ Below W5.heap.size W5 wx)
      case first =>
        -- REGION 5
        have HF := (Kt.Fb.nil W5 (Below.refl _ _)).add H5.out.1
        refine Kt.G.start 10 (Kt.Fb W5 [(w0.heap.size, #[.int .u64 (t.held.a.toNat : Int), .int .u64 (t.held.b.toNat : Int), .int .u64 (t.held.c.toNat : Int), .int .u64 (t.held.d.toNat : Int), .bool t.caps, .int .i64 t.dead, .int .i64 t.last, .int .i64 t.wait, .string t.text], 37)]) (by kernel_rfl) HF.drew (fun hHeld => ?_)
        clear HF
        generalize W5.drew = x0 at *
        refine Kt.G.take 0 { dst := some 50, op := Op.load 37 (Operand.tmp 3), type := 37, pos := "typist.go:34", after := #[], guard := none } ?_ hHeld rfl (by kernel_rfl) (fun _ _ _ h => h) (by rfl) ?_ ?_
        rotate_left
        · intro w hSw; have r0 := hSw.row (w0.heap.size, #[.int .u64 (t.held.a.toNat : Int), .int .u64 (t.held.b.toNat : Int), .int .u64 (t.held.c.toNat : Int), .int .u64 (t.held.d.toNat : Int), .bool t.caps, .int .i64 t.dead, .int .i64 t.last, .int .i64 t.wait, .string t.text], 37) (by simp); have c0 := fun i => cell_of_row _ _ i _ _ _ r0; dsimp only at *; go_simp; try with_reducible rfl
        try simp only [Act.put, List.setIfInBounds_toArray, List.set_cons_zero, List.set_cons_succ]
        refine Kt.G.takeP 1 { dst := some 51, op := Op.move (Operand.tmp 1), type := 26, pos := "typist.go:34", after := #[], guard := none } ?_ (fun _ => hHeld) rfl (by kernel_rfl) (fun _ _ _ h => h) (by rfl) ?_ ?_
        rotate_left
        · intro w; go_simp; try with_reducible rfl
        try simp only [Act.put, List.setIfInBounds_toArray, List.set_cons_zero, List.set_cons_succ]
        refine Kt.G.takeP 3 { dst := some 53, op := Op.move (Operand.tmp 2), type := 26, pos := "typist.go:34", after := #[], guard := none } ?_ (fun _ => hHeld) rfl (by kernel_rfl) (fun _ _ _ h => h) (by rfl) ?_ ?_
        rotate_left
        · intro w; go_simp; try with_reducible rfl
        try simp only [Act.put, List.setIfInBounds_toArray, List.set_cons_zero, List.set_cons_succ]
        refine Kt.G.two 2 9 { dst := some 52, op := Op.call { callee := Callee.value (Operand.func 15), args := #[Operand.tmp 51], argTypes := #[26] }, type := 26, pos := "typist.go:34", after := #[{ on := 1, ground := Ground.data }], guard := none } { dst := some 11, op := Op.alloc 37, type := 0, pos := "typist.go:34", after := #[], guard := none } rfl rfl (by kernel_rfl) (by rfl) (by rfl) (fun K hK => ?_) (fun K hK => ?_)
        · try (have hkk := lt_of_row0 rK)
          have hszz := hHeld.bel.size
          go_simp
          refine (HCL.out _ hHeld.bel).mono ?_; rintro en x2 ⟨A3, c3, rfl, hs2, hb2⟩
          refine hK.out _ _ (fun _ => hHeld.on hb2) (fun hHeld => ?_)
          have hHeld := hHeld rfl
          clear hK K
          try simp only [Act.put, List.setIfInBounds_toArray, List.set_cons_zero, List.set_cons_succ]
          try (replace rK := Kt.row_on hb2 rK)
          try (have hne : ∀ k, (Value.slice A3 a.length c3).ownBlock = some k → k ≠ kZ := fun k hk => by have := (hs2.lt k hk).1; omega)
          have HS2 := Lib.hid (hs2.mono hszz)
          try clear hkk
          clear hs2 hb2 hszz
          refine Kt.G.two 4 9 { dst := some 54, op := Op.call { callee := Callee.builtin Builtin.append, args := #[Operand.tmp 52, Operand.tmp 53], argTypes := #[26, 26] }, type := 26, pos := "typist.go:34", after := #[{ on := 2, ground := Ground.data }, { on := 3, ground := Ground.data }, { on := 2, ground := Ground.chain }], guard := none } { dst := some 11, op := Op.alloc 37, type := 0, pos := "typist.go:34", after := #[], guard := none } rfl rfl (by kernel_rfl) (by rfl) (by rfl) (fun K hK => ?_) (fun K hK => ?_)
          · refine Kt.wp_append_ar (.tmp 52) (.tmp 53) 26 rfl W5.heap.size 31 (.agg #[.int .i64 0, .int .i64 0, .bool false, .int .i64 0]) 4 32 infoK Tryd.underlying26 rfl (by decide) _ _ _ rfl HS2.out _ _ _ rfl (HVB.out _ hHeld.bel) (sks_one _) (by have := HL.out; unfold maxLen; omega) (by have := HL.out; omega) hHeld.bel.size ?_
            intro A4 c4 x4 hs4 hb4 hz4 hk4 hl4
            try (replace rK := (hk4 kZ (lt_of_row0 rK) (fun e => hne _ e rfl)).trans rK)
            have HS4 := Lib.hid hs4
            have hF4 := hHeld.onB hb4 (Nat.le_refl _) HRB.out
            clear hs4 hb4 hz4 hk4 hl4 HS2
            refine hK.out _ _ (fun _ => hF4) (fun hHeld => ?_)
            have hHeld := hHeld rfl
            clear hK K
            try simp only [Act.put, List.setIfInBounds_toArray, List.set_cons_zero, List.set_cons_succ]
            clear hF4
            refine Kt.G.two 5 9 { dst := some 55, op := Op.call { callee := Callee.value (Operand.func 12), args := #[Operand.tmp 50, Operand.tmp 54], argTypes := #[37, 26] }, type := 39, pos := "typist.go:34", after := #[{ on := 0, ground := Ground.data }, { on := 4, ground := Ground.data }, { on := 4, ground := Ground.chain }], guard := none } { dst := some 11, op := Op.alloc 37, type := 0, pos := "typist.go:34", after := #[], guard := none } rfl rfl (by kernel_rfl) (by rfl) (by rfl) (fun K hK => ?_) (fun K hK => ?_)
            · go_simp
              refine (HTZ.out _ hHeld.bel A4 c4 HS4.out).mono ?_; rintro en x5 ⟨rfl, hb5⟩
              refine hK.out _ _ (fun _ => hHeld.on hb5) (fun hHeld => ?_)
              have hHeld := hHeld rfl
              clear hK K
              try simp only [Act.put, List.setIfInBounds_toArray, List.set_cons_zero, List.set_cons_succ]
              try (replace rK := Kt.row_on hb5 rK)
              clear hb5 HS4
              refine Kt.G.takeP 6 { dst := some 49, op := Op.move (Operand.tmp 55), type := 39, pos := "typist.go:34", after := #[{ on := 5, ground := Ground.data }], guard := none } ?_ (fun _ => hHeld) rfl (by kernel_rfl) (fun _ _ _ h => h) (by rfl) ?_ ?_
              rotate_left
              · intro w; go_simp; try with_reducible rfl
              try simp only [Act.put, List.setIfInBounds_toArray, List.set_cons_zero, List.set_cons_succ]
              refine Kt.G.takeP 7 { dst := some 56, op := Op.extract (Operand.tmp 49) 0, type := 37, pos := "typist.go:34", after := #[{ on := 6, ground := Ground.data }], guard := none } ?_ (fun _ => hHeld) rfl (by kernel_rfl) (fun _ _ _ h => h) (by rfl) ?_ ?_
              rotate_left
              · intro w; go_simp; try with_reducible rfl
              try simp only [Act.put, List.setIfInBounds_toArray, List.set_cons_zero, List.set_cons_succ]
              refine Kt.G.takeP 8 { dst := some 57, op := Op.extract (Operand.tmp 49) 1, type := 38, pos := "typist.go:34", after := #[{ on := 6, ground := Ground.data }, { on := 10, ground := Ground.gcOnly Departure.lateStores }], guard := none } ?_ (fun _ => hHeld) rfl (by kernel_rfl) (fun _ _ _ h => h) (by rfl) ?_ ?_
              rotate_left
              · intro w; go_simp; try with_reducible rfl
              try simp only [Act.put, List.setIfInBounds_toArray, List.set_cons_zero, List.set_cons_succ]
              refine Kt.G.one 9 { dst := some 11, op := Op.alloc 37, type := 0, pos := "typist.go:34", after := #[], guard := none } rfl (by kernel_rfl) (by rfl) (fun K hK => ?_)
              have hk0 : W5.heap.size ≤ x5.heap.size := hHeld.bel.size
              try (have hne : ∀ k, (Value.slice A3 a.length c3).ownBlock = some k → k ≠ x5.heap.size := fun k hk => by have := (HS2.out.lt k hk).2; omega)
              try (replace HS2 := Lib.hid (HS2.out.alloc (.cells #[.int .u64 0, .int .u64 0, .int .u64 0, .int .u64 0, .bool false, .int .i64 0, .int .i64 0, .int .i64 0, .string ⟨#[]⟩] 37)))
              try (replace HS4 := Lib.hid (HS4.out.alloc (.cells #[.int .u64 0, .int .u64 0, .int .u64 0, .int .u64 0, .bool false, .int .i64 0, .int .i64 0, .int .i64 0, .string ⟨#[]⟩] 37)))
              go_simp
              refine hK.out _ _ (fun _ => hHeld.alloc _) (fun hHeld => ?_)
              have hHeld := hHeld rfl
              clear hK K
              try simp only [Act.put, List.setIfInBounds_toArray, List.set_cons_zero, List.set_cons_succ]
              have rK := heap_alloc_new x5 (.cells #[.int .u64 0, .int .u64 0, .int .u64 0, .int .u64 0, .bool false, .int .i64 0, .int .i64 0, .int .i64 0, .string ⟨#[]⟩] 37)
              generalize hkZ : x5.heap.size = kZ at *
              clear hkZ
              generalize x5.alloc (.cells #[.int .u64 0, .int .u64 0, .int .u64 0, .int .u64 0, .bool false, .int .i64 0, .int .i64 0, .int .i64 0, .string ⟨#[]⟩] 37) = xk at *
              refine Kt.G.one 10 { dst := none, op := Op.store 37 (Operand.tmp 11) (Operand.tmp 56), type := 0, pos := "typist.go:34", after := #[{ on := 9, ground := Ground.data }, { on := 7, ground := Ground.data }, { on := 5, ground := Ground.chain }, { on := 0, ground := Ground.phase }, { on := 1, ground := Ground.phase }, { on := 2, ground := Ground.phase }, { on := 3, ground := Ground.phase }, { on := 4, ground := Ground.phase }, { on := 5, ground := Ground.phase }, { on := 6, ground := Ground.phase }, { on := 7, ground := Ground.phase }, { on := 8, ground := Ground.textOnly Departure.lateStores }, { on := 9, ground := Ground.phase }], guard := none } rfl (by kernel_rfl) (by rfl) (fun K hK => ?_)
              have cK := fun i => cell_of_row _ _ i _ _ _ rK; have fK := fun i => frozen_of_row _ _ i _ _ rK
              go_simp
              refine hK.out _ _ (Kt.G.late (by kernel_rfl)) (fun _ => ?_)
              clear hK K
              try simp only [Act.put, List.setIfInBounds_toArray, List.set_cons_zero, List.set_cons_succ]
              refine Kt.G.takeP 11 { dst := some 12, op := Op.assign (Operand.tmp 57), type := 38, pos := "typist.go:34", after := #[{ on := 8, ground := Ground.data }, { on := 10, ground := Ground.chain }, { on := 0, ground := Ground.phase }, { on := 1, ground := Ground.phase }, { on := 2, ground := Ground.phase }, { on := 3, ground := Ground.phase }, { on := 4, ground := Ground.phase }, { on := 5, ground := Ground.phase }, { on := 6, ground := Ground.phase }, { on := 7, ground := Ground.phase }, { on := 8, ground := Ground.phase }, { on := 9, ground := Ground.phase }, { on := 10, ground := Ground.phase }], guard := none } ?_ (Kt.G.late (by kernel_rfl)) rfl (by kernel_rfl) (fun _ _ _ h => h) (by rfl) ?_ ?_
              rotate_left
              · intro w; go_simp; try with_reducible rfl
              try simp only [Act.put, List.setIfInBounds_toArray, List.set_cons_zero, List.set_cons_succ]
              refine Kt.G.done (by kernel_rfl) (NoPanic.normal ?_) _
              go_wp2_with fail
              go_meet
              case rel =>
                exact ⟨kZ, rfl, rfl, Kt.fill [.int .u64 (y.held.a.toNat : Int), .int .u64 (y.held.b.toNat : Int), .int .u64 (y.held.c.toNat : Int), .int .u64 (y.held.d.toNat : Int), .bool y.caps, .int .i64 y.dead, .int .i64 y.last, .int .i64 y.wait, .string y.text] rK rfl, set9 hHeld.bel hk0 [.int .u64 (y.held.a.toNat : Int), .int .u64 (y.held.b.toNat : Int), .int .u64 (y.held.c.toNat : Int), .int .u64 (y.held.d.toNat : Int), .bool y.caps, .int .i64 y.dead, .int .i64 y.last, .int .i64 y.wait, .string y.text]⟩
            · have hk0 : W5.heap.size ≤ x4.heap.size := hHeld.bel.size
              try (have hne : ∀ k, (Value.slice A3 a.length c3).ownBlock = some k → k ≠ x4.heap.size := fun k hk => by have := (HS2.out.lt k hk).2; omega)
              try (replace HS2 := Lib.hid (HS2.out.alloc (.cells #[.int .u64 0, .int .u64 0, .int .u64 0, .int .u64 0, .bool false, .int .i64 0, .int .i64 0, .int .i64 0, .string ⟨#[]⟩] 37)))
              try (replace HS4 := Lib.hid (HS4.out.alloc (.cells #[.int .u64 0, .int .u64 0, .int .u64 0, .int .u64 0, .bool false, .int .i64 0, .int .i64 0, .int .i64 0, .string ⟨#[]⟩] 37)))
              go_simp
              refine hK.out _ _ (fun _ => hHeld.alloc _) (fun hHeld => ?_)
              have hHeld := hHeld rfl
              clear hK K
              try simp only [Act.put, List.setIfInBounds_toArray, List.set_cons_zero, List.set_cons_succ]
              have rK := heap_alloc_new x4 (.cells #[.int .u64 0, .int .u64 0, .int .u64 0, .int .u64 0, .bool false, .int .i64 0, .int .i64 0, .int .i64 0, .string ⟨#[]⟩] 37)
              generalize hkZ : x4.heap.size = kZ at *
              clear hkZ
              generalize x4.alloc (.cells #[.int .u64 0, .int .u64 0, .int .u64 0, .int .u64 0, .bool false, .int .i64 0, .int .i64 0, .int .i64 0, .string ⟨#[]⟩] 37) = xk at *
              refine Kt.G.one 5 { dst := some 55, op := Op.call { callee := Callee.value (Operand.func 12), args := #[Operand.tmp 50, Operand.tmp 54], argTypes := #[37, 26] }, type := 39, pos := "typist.go:34", after := #[{ on := 0, ground := Ground.data }, { on := 4, ground := Ground.data }, { on := 4, ground := Ground.chain }], guard := none } rfl (by kernel_rfl) (by rfl) (fun K hK => ?_)
              go_simp
              refine (HTZ.out _ hHeld.bel A4 c4 HS4.out).mono ?_; rintro en x5 ⟨rfl, hb5⟩
              refine hK.out _ _ (fun _ => hHeld.on hb5) (fun hHeld => ?_)
              have hHeld := hHeld rfl
              clear hK K
              try simp only [Act.put, List.setIfInBounds_toArray, List.set_cons_zero, List.set_cons_succ]
              try (replace rK := Kt.row_on hb5 rK)
              clear hb5 HS4
              refine Kt.G.takeP 6 { dst := some 49, op := Op.move (Operand.tmp 55), type := 39, pos := "typist.go:34", after := #[{ on := 5, ground := Ground.data }], guard := none } ?_ (fun _ => hHeld) rfl (by kernel_rfl) (fun _ _ _ h => h) (by rfl) ?_ ?_
              rotate_left
              · intro w; go_simp; try with_reducible rfl
              try simp only [Act.put, List.setIfInBounds_toArray, List.set_cons_zero, List.set_cons_succ]
              refine Kt.G.takeP 7 { dst := some 56, op := Op.extract (Operand.tmp 49) 0, type := 37, pos := "typist.go:34", after := #[{ on := 6, ground := Ground.data }], guard := none } ?_ (fun _ => hHeld) rfl (by kernel_rfl) (fun _ _ _ h => h) (by rfl) ?_ ?_
              rotate_left
              · intro w; go_simp; try with_reducible rfl
              try simp only [Act.put, List.setIfInBounds_toArray, List.set_cons_zero, List.set_cons_succ]
              refine Kt.G.takeP 8 { dst := some 57, op := Op.extract (Operand.tmp 49) 1, type := 38, pos := "typist.go:34", after := #[{ on := 6, ground := Ground.data }, { on := 10, ground := Ground.gcOnly Departure.lateStores }], guard := none } ?_ (fun _ => hHeld) rfl (by kernel_rfl) (fun _ _ _ h => h) (by rfl) ?_ ?_
              rotate_left
              · intro w; go_simp; try with_reducible rfl
              try simp only [Act.put, List.setIfInBounds_toArray, List.set_cons_zero, List.set_cons_succ]
              refine Kt.G.one 10 { dst := none, op := Op.store 37 (Operand.tmp 11) (Operand.tmp 56), type := 0, pos := "typist.go:34", after := #[{ on := 9, ground := Ground.data }, { on := 7, ground := Ground.data }, { on := 5, ground := Ground.chain }, { on := 0, ground := Ground.phase }, { on := 1, ground := Ground.phase }, { on := 2, ground := Ground.phase }, { on := 3, ground := Ground.phase }, { on := 4, ground := Ground.phase }, { on := 5, ground := Ground.phase }, { on := 6, ground := Ground.phase }, { on := 7, ground := Ground.phase }, { on := 8, ground := Ground.textOnly Departure.lateStores }, { on := 9, ground := Ground.phase }], guard := none } rfl (by kernel_rfl) (by rfl) (fun K hK => ?_)
              have cK := fun i => cell_of_row _ _ i _ _ _ rK; have fK := fun i => frozen_of_row _ _ i _ _ rK
              go_simp
              refine hK.out _ _ (Kt.G.late (by kernel_rfl)) (fun _ => ?_)
              clear hK K
              try simp only [Act.put, List.setIfInBounds_toArray, List.set_cons_zero, List.set_cons_succ]
              refine Kt.G.takeP 11 { dst := some 12, op := Op.assign (Operand.tmp 57), type := 38, pos := "typist.go:34", after := #[{ on := 8, ground := Ground.data }, { on := 10, ground := Ground.chain }, { on := 0, ground := Ground.phase }, { on := 1, ground := Ground.phase }, { on := 2, ground := Ground.phase }, { on := 3, ground := Ground.phase }, { on := 4, ground := Ground.phase }, { on := 5, ground := Ground.phase }, { on := 6, ground := Ground.phase }, { on := 7, ground := Ground.phase }, { on := 8, ground := Ground.phase }, { on := 9, ground := Ground.phase }, { on := 10, ground := Ground.phase }], guard := none } ?_ (Kt.G.late (by kernel_rfl)) rfl (by kernel_rfl) (fun _ _ _ h => h) (by rfl) ?_ ?_
              rotate_left
              · intro w; go_simp; try with_reducible rfl
              try simp only [Act.put, List.setIfInBounds_toArray, List.set_cons_zero, List.set_cons_succ]
              refine Kt.G.done (by kernel_rfl) (NoPanic.normal ?_) _
              go_wp2_with fail
              go_meet
              case rel =>
                exact ⟨kZ, rfl, rfl, Kt.fill [.int .u64 (y.held.a.toNat : Int), .int .u64 (y.held.b.toNat : Int), .int .u64 (y.held.c.toNat : Int), .int .u64 (y.held.d.toNat : Int), .bool y.caps, .int .i64 y.dead, .int .i64 y.last, .int .i64 y.wait, .string y.text] rK rfl, set9 hHeld.bel hk0 [.int .u64 (y.held.a.toNat : Int), .int .u64 (y.held.b.toNat : Int), .int .u64 (y.held.c.toNat : Int), .int .u64 (y.held.d.toNat : Int), .bool y.caps, .int .i64 y.dead, .int .i64 y.last, .int .i64 y.wait, .string y.text]⟩
          · have hk0 : W5.heap.size ≤ x2.heap.size := hHeld.bel.size
            try (have hne : ∀ k, (Value.slice A3 a.length c3).ownBlock = some k → k ≠ x2.heap.size := fun k hk => by have := (HS2.out.lt k hk).2; omega)
            try (replace HS2 := Lib.hid (HS2.out.alloc (.cells #[.int .u64 0, .int .u64 0, .int .u64 0, .int .u64 0, .bool false, .int .i64 0, .int .i64 0, .int .i64 0, .string ⟨#[]⟩] 37)))
            try (replace HS4 := Lib.hid (HS4.out.alloc (.cells #[.int .u64 0, .int .u64 0, .int .u64 0, .int .u64 0, .bool false, .int .i64 0, .int .i64 0, .int .i64 0, .string ⟨#[]⟩] 37)))
            go_simp
            refine hK.out _ _ (fun _ => hHeld.alloc _) (fun hHeld => ?_)
            have hHeld := hHeld rfl
            clear hK K
            try simp only [Act.put, List.setIfInBounds_toArray, List.set_cons_zero, List.set_cons_succ]
            have rK := heap_alloc_new x2 (.cells #[.int .u64 0, .int .u64 0, .int .u64 0, .int .u64 0, .bool false, .int .i64 0, .int .i64 0, .int .i64 0, .string ⟨#[]⟩] 37)
            generalize hkZ : x2.heap.size = kZ at *
            clear hkZ
            generalize x2.alloc (.cells #[.int .u64 0, .int .u64 0, .int .u64 0, .int .u64 0, .bool false, .int .i64 0, .int .i64 0, .int .i64 0, .string ⟨#[]⟩] 37) = xk at *
            refine Kt.G.one 4 { dst := some 54, op := Op.call { callee := Callee.builtin Builtin.append, args := #[Operand.tmp 52, Operand.tmp 53], argTypes := #[26, 26] }, type := 26, pos := "typist.go:34", after := #[{ on := 2, ground := Ground.data }, { on := 3, ground := Ground.data }, { on := 2, ground := Ground.chain }], guard := none } rfl (by kernel_rfl) (by rfl) (fun K hK => ?_)
            refine Kt.wp_append_ar (.tmp 52) (.tmp 53) 26 rfl W5.heap.size 31 (.agg #[.int .i64 0, .int .i64 0, .bool false, .int .i64 0]) 4 32 infoK Tryd.underlying26 rfl (by decide) _ _ _ rfl HS2.out _ _ _ rfl (HVB.out _ hHeld.bel) (sks_one _) (by have := HL.out; unfold maxLen; omega) (by have := HL.out; omega) hHeld.bel.size ?_
            intro A4 c4 x4 hs4 hb4 hz4 hk4 hl4
            try (replace rK := (hk4 kZ (lt_of_row0 rK) (fun e => hne _ e rfl)).trans rK)
            have HS4 := Lib.hid hs4
            have hF4 := hHeld.onB hb4 (Nat.le_refl _) HRB.out
            clear hs4 hb4 hz4 hk4 hl4 HS2
            refine hK.out _ _ (fun _ => hF4) (fun hHeld => ?_)
            have hHeld := hHeld rfl
            clear hK K
            try simp only [Act.put, List.setIfInBounds_toArray, List.set_cons_zero, List.set_cons_succ]
            clear hF4
            refine Kt.G.one 5 { dst := some 55, op := Op.call { callee := Callee.value (Operand.func 12), args := #[Operand.tmp 50, Operand.tmp 54], argTypes := #[37, 26] }, type := 39, pos := "typist.go:34", after := #[{ on := 0, ground := Ground.data }, { on := 4, ground := Ground.data }, { on := 4, ground := Ground.chain }], guard := none } rfl (by kernel_rfl) (by rfl) (fun K hK => ?_)
            go_simp
            refine (HTZ.out _ hHeld.bel A4 c4 HS4.out).mono ?_; rintro en x5 ⟨rfl, hb5⟩
            refine hK.out _ _ (fun _ => hHeld.on hb5) (fun hHeld => ?_)
            have hHeld := hHeld rfl
            clear hK K
            try simp only [Act.put, List.setIfInBounds_toArray, List.set_cons_zero, List.set_cons_succ]
            try (replace rK := Kt.row_on hb5 rK)
            clear hb5 HS4
            refine Kt.G.takeP 6 { dst := some 49, op := Op.move (Operand.tmp 55), type := 39, pos := "typist.go:34", after := #[{ on := 5, ground := Ground.data }], guard := none } ?_ (fun _ => hHeld) rfl (by kernel_rfl) (fun _ _ _ h => h) (by rfl) ?_ ?_
            rotate_left
            · intro w; go_simp; try with_reducible rfl
            try simp only [Act.put, List.setIfInBounds_toArray, List.set_cons_zero, List.set_cons_succ]
            refine Kt.G.takeP 7 { dst := some 56, op := Op.extract (Operand.tmp 49) 0, type := 37, pos := "typist.go:34", after := #[{ on := 6, ground := Ground.data }], guard := none } ?_ (fun _ => hHeld) rfl (by kernel_rfl) (fun _ _ _ h => h) (by rfl) ?_ ?_
            rotate_left
            · intro w; go_simp; try with_reducible rfl
            try simp only [Act.put, List.setIfInBounds_toArray, List.set_cons_zero, List.set_cons_succ]
            refine Kt.G.takeP 8 { dst := some 57, op := Op.extract (Operand.tmp 49) 1, type := 38, pos := "typist.go:34", after := #[{ on := 6, ground := Ground.data }, { on := 10, ground := Ground.gcOnly Departure.lateStores }], guard := none } ?_ (fun _ => hHeld) rfl (by kernel_rfl) (fun _ _ _ h => h) (by rfl) ?_ ?_
            rotate_left
            · intro w; go_simp; try with_reducible rfl
            try simp only [Act.put, List.setIfInBounds_toArray, List.set_cons_zero, List.set_cons_succ]
            refine Kt.G.one 10 { dst := none, op := Op.store 37 (Operand.tmp 11) (Operand.tmp 56), type := 0, pos := "typist.go:34", after := #[{ on := 9, ground := Ground.data }, { on := 7, ground := Ground.data }, { on := 5, ground := Ground.chain }, { on := 0, ground := Ground.phase }, { on := 1, ground := Ground.phase }, { on := 2, ground := Ground.phase }, { on := 3, ground := Ground.phase }, { on := 4, ground := Ground.phase }, { on := 5, ground := Ground.phase }, { on := 6, ground := Ground.phase }, { on := 7, ground := Ground.phase }, { on := 8, ground := Ground.textOnly Departure.lateStores }, { on := 9, ground := Ground.phase }], guard := none } rfl (by kernel_rfl) (by rfl) (fun K hK => ?_)
            have cK := fun i => cell_of_row _ _ i _ _ _ rK; have fK := fun i => frozen_of_row _ _ i _ _ rK
            go_simp
            refine hK.out _ _ (Kt.G.late (by kernel_rfl)) (fun _ => ?_)
            clear hK K
            try simp only [Act.put, List.setIfInBounds_toArray, List.set_cons_zero, List.set_cons_succ]
            refine Kt.G.takeP 11 { dst := some 12, op := Op.assign (Operand.tmp 57), type := 38, pos := "typist.go:34", after := #[{ on := 8, ground := Ground.data }, { on := 10, ground := Ground.chain }, { on := 0, ground := Ground.phase }, { on := 1, ground := Ground.phase }, { on := 2, ground := Ground.phase }, { on := 3, ground := Ground.phase }, { on := 4, ground := Ground.phase }, { on := 5, ground := Ground.phase }, { on := 6, ground := Ground.phase }, { on := 7, ground := Ground.phase }, { on := 8, ground := Ground.phase }, { on := 9, ground := Ground.phase }, { on := 10, ground := Ground.phase }], guard := none } ?_ (Kt.G.late (by kernel_rfl)) rfl (by kernel_rfl) (fun _ _ _ h => h) (by rfl) ?_ ?_
            rotate_left
            · intro w; go_simp; try with_reducible rfl
            try simp only [Act.put, List.setIfInBounds_toArray, List.set_cons_zero, List.set_cons_succ]
            refine Kt.G.done (by kernel_rfl) (NoPanic.normal ?_) _
            go_wp2_with fail
            go_meet
            case rel =>
              exact ⟨kZ, rfl, rfl, Kt.fill [.int .u64 (y.held.a.toNat : Int), .int .u64 (y.held.b.toNat : Int), .int .u64 (y.held.c.toNat : Int), .int .u64 (y.held.d.toNat : Int), .bool y.caps, .int .i64 y.dead, .int .i64 y.last, .int .i64 y.wait, .string y.text] rK rfl, set9 hHeld.bel hk0 [.int .u64 (y.held.a.toNat : Int), .int .u64 (y.held.b.toNat : Int), .int .u64 (y.held.c.toNat : Int), .int .u64 (y.held.d.toNat : Int), .bool y.caps, .int .i64 y.dead, .int .i64 y.last, .int .i64 y.wait, .string y.text]⟩
        · have hk0 : W5.heap.size ≤ x0.heap.size := hHeld.bel.size
          try (have hne : ∀ k, (Value.slice A3 a.length c3).ownBlock = some k → k ≠ x0.heap.size := fun k hk => by have := (HS2.out.lt k hk).2; omega)
          try (replace HS2 := Lib.hid (HS2.out.alloc (.cells #[.int .u64 0, .int .u64 0, .int .u64 0, .int .u64 0, .bool false, .int .i64 0, .int .i64 0, .int .i64 0, .string ⟨#[]⟩] 37)))
          try (replace HS4 := Lib.hid (HS4.out.alloc (.cells #[.int .u64 0, .int .u64 0, .int .u64 0, .int .u64 0, .bool false, .int .i64 0, .int .i64 0, .int .i64 0, .string ⟨#[]⟩] 37)))
          go_simp
          refine hK.out _ _ (fun _ => hHeld.alloc _) (fun hHeld => ?_)
          have hHeld := hHeld rfl
          clear hK K
          try simp only [Act.put, List.setIfInBounds_toArray, List.set_cons_zero, List.set_cons_succ]
          have rK := heap_alloc_new x0 (.cells #[.int .u64 0, .int .u64 0, .int .u64 0, .int .u64 0, .bool false, .int .i64 0, .int .i64 0, .int .i64 0, .string ⟨#[]⟩] 37)
          generalize hkZ : x0.heap.size = kZ at *
          clear hkZ
          generalize x0.alloc (.cells #[.int .u64 0, .int .u64 0, .int .u64 0, .int .u64 0, .bool false, .int .i64 0, .int .i64 0, .int .i64 0, .string ⟨#[]⟩] 37) = xk at *
          refine Kt.G.one 2 { dst := some 52, op := Op.call { callee := Callee.value (Operand.func 15), args := #[Operand.tmp 51], argTypes := #[26] }, type := 26, pos := "typist.go:34", after := #[{ on := 1, ground := Ground.data }], guard := none } rfl (by kernel_rfl) (by rfl) (fun K hK => ?_)
          try (have hkk := lt_of_row0 rK)
          have hszz := hHeld.bel.size
          go_simp
          refine (HCL.out _ hHeld.bel).mono ?_; rintro en x2 ⟨A3, c3, rfl, hs2, hb2⟩
          refine hK.out _ _ (fun _ => hHeld.on hb2) (fun hHeld => ?_)
          have hHeld := hHeld rfl
          clear hK K
          try simp only [Act.put, List.setIfInBounds_toArray, List.set_cons_zero, List.set_cons_succ]
          try (replace rK := Kt.row_on hb2 rK)
          try (have hne : ∀ k, (Value.slice A3 a.length c3).ownBlock = some k → k ≠ kZ := fun k hk => by have := (hs2.lt k hk).1; omega)
          have HS2 := Lib.hid (hs2.mono hszz)
          try clear hkk
          clear hs2 hb2 hszz
          refine Kt.G.one 4 { dst := some 54, op := Op.call { callee := Callee.builtin Builtin.append, args := #[Operand.tmp 52, Operand.tmp 53], argTypes := #[26, 26] }, type := 26, pos := "typist.go:34", after := #[{ on := 2, ground := Ground.data }, { on := 3, ground := Ground.data }, { on := 2, ground := Ground.chain }], guard := none } rfl (by kernel_rfl) (by rfl) (fun K hK => ?_)
          refine Kt.wp_append_ar (.tmp 52) (.tmp 53) 26 rfl W5.heap.size 31 (.agg #[.int .i64 0, .int .i64 0, .bool false, .int .i64 0]) 4 32 infoK Tryd.underlying26 rfl (by decide) _ _ _ rfl HS2.out _ _ _ rfl (HVB.out _ hHeld.bel) (sks_one _) (by have := HL.out; unfold maxLen; omega) (by have := HL.out; omega) hHeld.bel.size ?_
          intro A4 c4 x4 hs4 hb4 hz4 hk4 hl4
          try (replace rK := (hk4 kZ (lt_of_row0 rK) (fun e => hne _ e rfl)).trans rK)
          have HS4 := Lib.hid hs4
          have hF4 := hHeld.onB hb4 (Nat.le_refl _) HRB.out
          clear hs4 hb4 hz4 hk4 hl4 HS2
          refine hK.out _ _ (fun _ => hF4) (fun hHeld => ?_)
          have hHeld := hHeld rfl
          clear hK K
          try simp only [Act.put, List.setIfInBounds_toArray, List.set_cons_zero, List.set_cons_succ]
          clear hF4
          refine Kt.G.one 5 { dst := some 55, op := Op.call { callee := Callee.value (Operand.func 12), args := #[Operand.tmp 50, Operand.tmp 54], argTypes := #[37, 26] }, type := 39, pos := "typist.go:34", after := #[{ on := 0, ground := Ground.data }, { on := 4, ground := Ground.data }, { on := 4, ground := Ground.chain }], guard := none } rfl (by kernel_rfl) (by rfl) (fun K hK => ?_)
          go_simp
          refine (HTZ.out _ hHeld.bel A4 c4 HS4.out).mono ?_; rintro en x5 ⟨rfl, hb5⟩
          refine hK.out _ _ (fun _ => hHeld.on hb5) (fun hHeld => ?_)
          have hHeld := hHeld rfl
          clear hK K
          try simp only [Act.put, List.setIfInBounds_toArray, List.set_cons_zero, List.set_cons_succ]
          try (replace rK := Kt.row_on hb5 rK)
          clear hb5 HS4
          refine Kt.G.takeP 6 { dst := some 49, op := Op.move (Operand.tmp 55), type := 39, pos := "typist.go:34", after := #[{ on := 5, ground := Ground.data }], guard := none } ?_ (fun _ => hHeld) rfl (by kernel_rfl) (fun _ _ _ h => h) (by rfl) ?_ ?_
          rotate_left
          · intro w; go_simp; try with_reducible rfl
          try simp only [Act.put, List.setIfInBounds_toArray, List.set_cons_zero, List.set_cons_succ]
          refine Kt.G.takeP 7 { dst := some 56, op := Op.extract (Operand.tmp 49) 0, type := 37, pos := "typist.go:34", after := #[{ on := 6, ground := Ground.data }], guard := none } ?_ (fun _ => hHeld) rfl (by kernel_rfl) (fun _ _ _ h => h) (by rfl) ?_ ?_
          rotate_left
          · intro w; go_simp; try with_reducible rfl
          try simp only [Act.put, List.setIfInBounds_toArray, List.set_cons_zero, List.set_cons_succ]
          refine Kt.G.takeP 8 { dst := some 57, op := Op.extract (Operand.tmp 49) 1, type := 38, pos := "typist.go:34", after := #[{ on := 6, ground := Ground.data }, { on := 10, ground := Ground.gcOnly Departure.lateStores }], guard := none } ?_ (fun _ => hHeld) rfl (by kernel_rfl) (fun _ _ _ h => h) (by rfl) ?_ ?_
          rotate_left
          · intro w; go_simp; try with_reducible rfl
          try simp only [Act.put, List.setIfInBounds_toArray, List.set_cons_zero, List.set_cons_succ]
          refine Kt.G.one 10 { dst := none, op := Op.store 37 (Operand.tmp 11) (Operand.tmp 56), type := 0, pos := "typist.go:34", after := #[{ on := 9, ground := Ground.data }, { on := 7, ground := Ground.data }, { on := 5, ground := Ground.chain }, { on := 0, ground := Ground.phase }, { on := 1, ground := Ground.phase }, { on := 2, ground := Ground.phase }, { on := 3, ground := Ground.phase }, { on := 4, ground := Ground.phase }, { on := 5, ground := Ground.phase }, { on := 6, ground := Ground.phase }, { on := 7, ground := Ground.phase }, { on := 8, ground := Ground.textOnly Departure.lateStores }, { on := 9, ground := Ground.phase }], guard := none } rfl (by kernel_rfl) (by rfl) (fun K hK => ?_)
          have cK := fun i => cell_of_row _ _ i _ _ _ rK; have fK := fun i => frozen_of_row _ _ i _ _ rK
          go_simp
          refine hK.out _ _ (Kt.G.late (by kernel_rfl)) (fun _ => ?_)
          clear hK K
          try simp only [Act.put, List.setIfInBounds_toArray, List.set_cons_zero, List.set_cons_succ]
          refine Kt.G.takeP 11 { dst := some 12, op := Op.assign (Operand.tmp 57), type := 38, pos := "typist.go:34", after := #[{ on := 8, ground := Ground.data }, { on := 10, ground := Ground.chain }, { on := 0, ground := Ground.phase }, { on := 1, ground := Ground.phase }, { on := 2, ground := Ground.phase }, { on := 3, ground := Ground.phase }, { on := 4, ground := Ground.phase }, { on := 5, ground := Ground.phase }, { on := 6, ground := Ground.phase }, { on := 7, ground := Ground.phase }, { on := 8, ground := Ground.phase }, { on := 9, ground := Ground.phase }, { on := 10, ground := Ground.phase }], guard := none } ?_ (Kt.G.late (by kernel_rfl)) rfl (by kernel_rfl) (fun _ _ _ h => h) (by rfl) ?_ ?_
          rotate_left
          · intro w; go_simp; try with_reducible rfl
          try simp only [Act.put, List.setIfInBounds_toArray, List.set_cons_zero, List.set_cons_succ]
          refine Kt.G.done (by kernel_rfl) (NoPanic.normal ?_) _
          go_wp2_with fail
          go_meet
          case rel =>
            exact ⟨kZ, rfl, rfl, Kt.fill [.int .u64 (y.held.a.toNat : Int), .int .u64 (y.held.b.toNat : Int), .int .u64 (y.held.c.toNat : Int), .int .u64 (y.held.d.toNat : Int), .bool y.caps, .int .i64 y.dead, .int .i64 y.last, .int .i64 y.wait, .string y.text] rK rfl, set9 hHeld.bel hk0 [.int .u64 (y.held.a.toNat : Int), .int .u64 (y.held.b.toNat : Int), .int .u64 (y.held.c.toNat : Int), .int .u64 (y.held.d.toNat : Int), .bool y.caps, .int .i64 y.dead, .int .i64 y.last, .int .i64 y.wait, .string y.text]⟩
        -- END 5
      case rest =>
        obtain ⟨kZ, rfl, rfl, hrz, hbz⟩ := hcut
        have HZ := Lib.hid hrz
        have H6 := Lib.hid (show wc.heap[kx]? = some (.cells x.cs 37 (0, 0)) ∧ wc.heap[ky]? = some (.cells y.cs 37 (0, 0)) ∧ Below w0.heap.size w0 wc from ⟨Kt.row_on hbz H5.out.2.1, Kt.row_on hbz H5.out.2.2.1, Kt.bthen H5.out.2.2.2 hbz⟩)
        clear hrz hbz H5 HVB HCL HTZ HRB
        have HRX := Lib.hid (fun W => right_calls x W HFM.out)
        have hr := H6.out.1
        unfold St.cs at hr
        unfold St.v at HRX
        unfold St.cs at HRX
        have q := fun i => cell_of_row _ _ i _ _ _ hr
        clear hr
        go_wp2_with fail
        refine (HRX.out _).mono ?_; rintro en w7 ⟨rfl, hb⟩
        have r1 := Kt.row_on hb H6.out.2.1
        have r2 := Kt.row_on hb HZ.out
        have HB7 := Lib.hid (Kt.bthen H6.out.2.2 hb)
        have EQ := fun W => eql_ty y W
        have EG := fun u v W => guard_ty u v y.cs y.cs W
        unfold St.cs at r1 r2 EQ EG
        have q1 := fun i => cell_of_row _ _ i _ _ _ r1
        have q2 := fun i => cell_of_row _ _ i _ _ _ r2
        clear q r1 r2 hb
        go_wp2_with fail
        go_ret
        exact ⟨rfl, HB7.out⟩
  · have he' : (e != 0) = true := by rw [bne_iff_ne]; exact he
    have he2 : (e == 0) = false := by rw [beq_eq_false_iff_ne]; exact he
    obtain rfl : x = St.zero := typeP_err HX.out he
    have hr := HW4.out.2.1
    rw [zero_cs] at hr
    clear he
    go_wp2_with fail
    refine (HLV.out _ HW4.out.2.2).mono ?_; rintro en w5 ⟨rfl, hb⟩
    have HB5 := Lib.hid (Kt.bthen HW4.out.2.2 hb)
    have hr5 := Kt.row_on hb hr
    unfold zcs at hr5
    have q := fun i => cell_of_row _ _ i _ _ _ hr5
    have EQ := fun W => eql_zero W
    have EG := fun y z W => guard_ty y z zcs zcs W
    unfold zcs at EQ EG
    clear hb hr hr5
    go_wp2_with fail
    go_ret
    exact ⟨rfl, HB5.out⟩
theorem cuts_walk (v0 v1 v2 : Value) (w : World) (hT : Lib.Utf8Tabs 0 1 w) (r0 : Fr.RdV w reachBytes (.cat 4 (.cat 4 (.arr 4 1 (.int .u64)) .nil) (.cat 1 .bool (.cat 1 (.int .i64) (.cat 1 (.int .i64) (.cat 1 (.int .i64) (.cat 1 .string .nil)))))) v0) (r1 : Fr.RdV w reachBytes (.slice 4 (.cat 1 (.int .i64) (.cat 2 (.cat 1 (.int .i64) (.cat 1 .bool .nil)) (.cat 1 (.int .i64) .nil)))) v1) (r2 : Fr.RdV w reachBytes (.slice 4 (.cat 1 (.int .i64) (.cat 2 (.cat 1 (.int .i64) (.cat 1 .bool .nil)) (.cat 1 (.int .i64) .nil)))) v2) :
    Calls Tryd.prog 6 #[v0, v1, v2] w fun e w' => e = .returned (.bool true) ∧ Below w.heap.size w w' := by
  obtain ⟨t, rfl⟩ := st_of r0
  obtain ⟨els1, h1, l1, a1⟩ := Kt.ar_open r1 (by decide)
  obtain ⟨els2, h2, l2, a2⟩ := Kt.ar_open r2 (by decide)
  obtain ⟨a, ha, hfa⟩ := sk_of els1 (fun x hx => (h1 x hx).2)
  obtain ⟨b, hb, hfb⟩ := sk_of els2 (fun x hx => (h2 x hx).2)
  rw [← ha, hfa] at a1
  rw [← hb, hfb] at a2
  have ga : a.length ≤ 4611686018427387904 := by rw [ha]; exact Nat.le_trans l1 (by decide)
  have gb : b.length ≤ 4611686018427387903 := by rw [hb]; exact Nat.le_trans l2 (by decide)
  obtain ⟨A1, p1, rfl, _, _⟩ := a1.form
  obtain ⟨A2, p2, rfl, _, _⟩ := a2.form
  exact cuts_calls t a b A1 A2 p1 p2 w a1 a2 (fun W hW => Utf8Tabs_below hT hW) ga gb
end Go.Proofs.YtndkaehbmdiofaaDoor
