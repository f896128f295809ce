/- The law TopoOwn, walked (its first half). -/
import Derived.Test.YtmjcokmfjofgnaaTpoA
import Derived.Test.YtmjcokmfjofgnaaTri
import Derived.Test.YtmjcokmfjofgnaaTpoK
namespace Go.Proofs.Ytmjcokmfjofgnaa
open Go.RowKit Go.Shelf Go.Proofs.Ytmjcokmfjofgnaa.Rou Go.Proofs.Ytmjcokmfjofgnaa.Tpo
set_option maxHeartbeats 800000 in
theorem nclone2_calls (v : Value) (n : Nat) (xs : List Value) (w : World) (h : Kt.Ar w v 4 n xs) (h1 : ∀ u ∈ xs, u.oneCell' = true) (hn : n ≤ 2932031007402) :
    Calls Try.prog 17 #[v] w fun e w' => ∃ A c, e = .returned (.slice A n c) ∧ Kt.Sl w' w.heap.size 25 4 (.slice A n c) n xs ∧ Below w.heap.size w w' := by
  have qT : ∀ (w : World) (a : Option Addr) (n c n' c' : Nat), (binOp .eql 22 (.slice a n c) (.slice none n' c')).run Try.prog w = .ok (.bool a.isNone) w := fun w a n c n' c' => Lib.run_eql_slice_nil w _ _ a n c n' c' Try.underlying22
  obtain ⟨A, c, rfl, hnc, hx⟩ := h.form
  have hlen := h.len
  cases A with
  | none =>
    have hn0 : n = 0 := by
      rcases Nat.eq_zero_or_pos n with h0 | h0
      · exact h0
      · obtain ⟨b, o, e, _⟩ := hx h0; cases e
    subst hn0
    obtain rfl : xs = [] := List.eq_nil_of_length_eq_zero (by simpa using hlen)
    go_enter Try.func17, Try.ntmps17
    go_wp2
    go_ret
    exact ⟨none, 0, rfl, Kt.Sl.nil _ _ _ _, Below.refl _ _⟩
  | some ad =>
    have hnews : ∀ j u, xs[j]? = some u → (w.alloc (.cells #[] 25)).cell? (ad.add j) = some u := by
      intro j u hj
      obtain ⟨hj1, hj2⟩ := List.getElem?_eq_some_iff.1 hj
      obtain ⟨b, o, e, hb, hc⟩ := hx (by omega)
      injection e with e
      subst e
      rw [Addr.add_lit, World.cell?_alloc_lt _ _ _ (by exact hb), hc j hj1, hj2]
    have hs0 : Kt.Sl (w.alloc (.cells #[] 25)) w.heap.size 25 4 (.slice (some ⟨w.heap.size, 0, none⟩) 0 0) 0 [] :=
      ⟨rfl, .inr ⟨w.heap.size, 0, 0, #[], rfl, Nat.le_refl _, heap_alloc_new w _, Nat.le_refl _, by simp [maxLen], by simp, fun j u hj => by simp at hj⟩⟩
    go_enter Try.func17, Try.ntmps17
    go_wp2_with (
      refine Kt.append_sl _ (by rfl) (.tmp 5) (.tmp 6) 22 rfl w.heap.size 25 (.agg #[.slice none 0 0, .int .i64 0, .int .i64 0, .int .i64 0]) 4 48 infoN Try.underlying22 rfl (by decide) _ 0 [] rfl hs0 ad n c xs rfl hlen hnews h1 (by unfold maxLen; omega) (by omega) (by rw [World.size_alloc]; omega) ?_
      intro A' c' w1 hs1 hb1 hz1 hk1 hl1
      clear hk1 hl1 hs0 hnews hx)
    go_ret
    rw [Nat.zero_add] at hs1
    exact ⟨A', c', rfl, hs1, ((Below.refl _ w).alloc (Nat.le_refl _) _).trans hb1⟩
set_option maxRecDepth 100000 in
set_option maxHeartbeats 6400000 in
theorem town_calls (x : Nh) (l : List Nh) (V : Value) (q : List Int) (Aq : Option Addr) (cq : Nat) (w0 : World) (hv : Tr w0 V l) (hl : l.length * 48 ≤ 140737488351232) (hx : Rn w0 x) (hq : Wy w0 Aq cq q) (hql : q.length ≤ mx)
    (hpl : ∀ y ∈ l, y.n.path.length ≤ px) (hpx : x.n.path.length ≤ px) :
    Calls Try.prog 7 #[V, x.v, .slice Aq q.length cq] w0 fun e w' => e = .returned (.bool true) ∧ Below w0.heap.size w0 w' := by
  obtain ⟨A0, c0, rfl⟩ := hv.form
  obtain ⟨A, c, n⟩ := x
  obtain ⟨p, kd, po, se⟩ := n
  have hal := Kt.balloc (Below.refl _ w0) (.cells #[.slice A p.length c, .int .i64 kd, .int .i64 po, .int .i64 se] 25)
  have hrow := heap_alloc_new w0 (.cells #[.slice A p.length c, .int .i64 kd, .int .i64 po, .int .i64 se] 25)
  have HV := Lib.hid hv
  have HX := Lib.hid hx
  have HL := Lib.hid hl
  have HQ := Lib.hid hq
  have HQL := Lib.hid hql
  have HPL := Lib.hid (And.intro hpl hpx)
  have HB := Lib.hid hal
  have HR := Lib.hid hrow
  unfold Nh.v
  dsimp only
  clear hv hx hl hal hrow hq hql hpl hpx
  go_enter Try.func7, Try.ntmps7
  go_upto_region 2 with (fail)
  refine Kt.fold (fun X => Hid (X.heap[w0.heap.size]? = some (.cells #[.slice A p.length c, .int .i64 kd, .int .i64 po, .int .i64 se] 25 (0, 0)) ∧ Below w0.heap.size w0 X)) (Lib.hid ⟨HR.out, HB.out⟩) (fun W1 HW1 => ?_)
  clear HR HB
  have HCL := Lib.hid (fun W (hW : Below W1.heap.size W1 W) => nclone2_calls (.slice A0 l.length c0) l.length (ncs l) W ((HV.out.on HW1.out.2).on hW).ar (ncs_one l) (by have := HL.out; omega))
  go_cut [25, 26, 27] from 21 to 27 (fun v nn i wx => ∃ A1 c1, v = .slice A1 (l.length + 1) c1 ∧ nn = .int .i64 ((l.length + 1 : Nat) : Int) ∧ i = .int .i64 0 ∧ Kt.Sl wx W1.heap.size 25 4 (.slice A1 (l.length + 1) c1) (l.length + 1) (ncs (l ++ [⟨A, c, ⟨p, kd, po, se⟩⟩])) ∧ Below W1.heap.size W1 wx)
  case first =>
    have HNN : Hid (Value.int .i64 ((l.length : Int) + 1) = .int .i64 ((l.length + 1 : Nat) : Int)) := Lib.hid (by congr 1)
    -- REGION2
    have HF := (Kt.Fb.nil W1 (Below.refl _ _)).add HW1.out.1
    refine Kt.G.start 4 (Kt.Fb W1 [(w0.heap.size, #[.slice A p.length c, .int .i64 kd, .int .i64 po, .int .i64 se], 25)]) (by kernel_rfl) HF.drew (fun hHeld => ?_)
    clear HF
    generalize W1.drew = x0 at *
    refine Kt.G.takeP 0 { dst := some 21, op := Op.move (Operand.tmp 0), type := 22, pos := "topo.go:91", after := #[], guard := none } ?_ (fun _ => hHeld) rfl (by kernel_rfl) (fun _ _ _ h => h) (by rfl) ?_ ?_
    rotate_left
    · intro w; go_simp; try with_reducible rfl
    try simp only [Act.put, List.setIfInBounds_toArray, List.set_cons_zero, List.set_cons_succ]
    refine Kt.G.take 2 { dst := some 23, op := Op.load 25 (Operand.tmp 4), type := 25, pos := "topo.go:91", after := #[], guard := none } ?_ hHeld rfl (by kernel_rfl) (fun _ _ _ h => h) (by rfl) ?_ ?_
    rotate_left
    · intro w hSw; have r0 := hSw.row (w0.heap.size, #[.slice A p.length c, .int .i64 kd, .int .i64 po, .int .i64 se], 25) (by simp); have c0 := fun i => cell_of_row _ _ i _ _ _ r0; dsimp only at *; go_simp; try with_reducible rfl
    try simp only [Act.put, List.setIfInBounds_toArray, List.set_cons_zero, List.set_cons_succ]
    refine Kt.G.takeP 6 { dst := some 27, op := Op.move (Operand.const (Value.int IntKind.i64 0)), type := 3, pos := "topo.go:91", after := #[], guard := none } ?_ (fun _ => hHeld) rfl (by kernel_rfl) (fun _ _ _ h => h) (by rfl) ?_ ?_
    rotate_left
    · intro w; go_simp; try with_reducible rfl
    try simp only [Act.put, List.setIfInBounds_toArray, List.set_cons_zero, List.set_cons_succ]
    refine Kt.G.two 1 3 { dst := some 22, op := Op.call { callee := Callee.value (Operand.func 17), args := #[Operand.tmp 21], argTypes := #[22] }, type := 22, pos := "topo.go:91", after := #[{ on := 0, ground := Ground.data }], guard := none } { dst := some 24, op := Op.buildSlice 22 1 #[(0, Operand.tmp 23)], type := 22, pos := "topo.go:91", after := #[{ on := 2, ground := Ground.data }], guard := none } rfl rfl (by kernel_rfl) (by rfl) (by rfl) (fun K hK => ?_) (fun K hK => ?_)
    · have hszz := hHeld.bel.size
      go_simp
      refine (HCL.out _ hHeld.bel).mono ?_; rintro en x1 ⟨A1, c1, rfl, hs1, hb1⟩
      refine hK.out _ _ (fun _ => hHeld.on hb1) (fun hHeld => ?_)
      have hHeld := hHeld rfl
      clear hK K
      try simp only [Act.put, List.setIfInBounds_toArray, List.set_cons_zero, List.set_cons_succ]
      try (replace HAR := Lib.hid (HAR.out.on hb1))
      have HS1 := Lib.hid (hs1.mono hszz)
      clear hs1 hb1 hszz
      refine Kt.G.one 3 { dst := some 24, op := Op.buildSlice 22 1 #[(0, Operand.tmp 23)], type := 22, pos := "topo.go:91", after := #[{ on := 2, ground := Ground.data }], guard := none } rfl (by kernel_rfl) (by rfl) (fun K hK => ?_)
      go_simp
      refine hK.out _ _ (fun _ => hHeld.alloc _) (fun hHeld => ?_)
      have hHeld := hHeld rfl
      clear hK K
      try simp only [Act.put, List.setIfInBounds_toArray, List.set_cons_zero, List.set_cons_succ]
      have HAR := Lib.hid (Kt.Ar.new x1 #[.slice A p.length c, .int .i64 kd, .int .i64 po, .int .i64 se] 25 1 4 rfl)
      try (replace HS1 := Lib.hid (HS1.out.alloc (.cells #[.slice A p.length c, .int .i64 kd, .int .i64 po, .int .i64 se] 25)))
      generalize x1.alloc (.cells #[.slice A p.length c, .int .i64 kd, .int .i64 po, .int .i64 se] 25) = y3 at *
      refine Kt.G.one 4 { dst := some 25, op := Op.call { callee := Callee.builtin Builtin.append, args := #[Operand.tmp 22, Operand.tmp 24], argTypes := #[22, 22] }, type := 22, pos := "topo.go:91", after := #[{ on := 1, ground := Ground.data }, { on := 3, ground := Ground.data }, { on := 1, ground := Ground.chain }], guard := none } rfl (by kernel_rfl) (by rfl) (fun K hK => ?_)
      refine Kt.wp_append_ar (.tmp 22) (.tmp 24) 22 rfl W1.heap.size 25 (.agg #[.slice none 0 0, .int .i64 0, .int .i64 0, .int .i64 0]) 4 48 infoN Try.underlying22 rfl (by decide) _ _ _ rfl HS1.out _ _ _ rfl HAR.out (cs_one ⟨A, c, ⟨p, kd, po, se⟩⟩) (by have := HL.out; unfold maxLen; omega) (by have := HL.out; omega) hHeld.bel.size ?_
      intro A4 c4 x4 hs4 hb4 hz4 hk4 hl4
      have HB4 := Lib.hid (hHeld.bel.trans hb4)
      have HS4 := Lib.hid hs4
      refine hK.out _ _ (Kt.G.late (by kernel_rfl)) (fun _ => ?_)
      clear hK K
      try simp only [Act.put, List.setIfInBounds_toArray, List.set_cons_zero, List.set_cons_succ]
      clear hs4 hb4 hz4 hk4 hl4
      refine Kt.G.takeP 5 { dst := some 26, op := Op.call { callee := Callee.builtin Builtin.len, args := #[Operand.tmp 25], argTypes := #[22] }, type := 3, pos := "topo.go:91", after := #[{ on := 4, ground := Ground.data }], guard := none } ?_ (Kt.G.late (by kernel_rfl)) rfl (by kernel_rfl) (fun _ _ _ h => h) (by rfl) ?_ ?_
      rotate_left
      · intro w; go_simp; try with_reducible rfl
      try simp only [Act.put, List.setIfInBounds_toArray, List.set_cons_zero, List.set_cons_succ]
      refine Kt.G.done (by kernel_rfl) (NoPanic.normal ?_) _
      go_wp2_with fail
      go_meet
      case rel =>
        refine ⟨_, _, rfl, HNN.out, rfl, ?_, HB4.out⟩
        rw [ncs_app]
        exact HS4.out
    · go_simp
      refine hK.out _ _ (fun _ => hHeld.alloc _) (fun hHeld => ?_)
      have hHeld := hHeld rfl
      clear hK K
      try simp only [Act.put, List.setIfInBounds_toArray, List.set_cons_zero, List.set_cons_succ]
      have HAR := Lib.hid (Kt.Ar.new x0 #[.slice A p.length c, .int .i64 kd, .int .i64 po, .int .i64 se] 25 1 4 rfl)
      try (replace HS1 := Lib.hid (HS1.out.alloc (.cells #[.slice A p.length c, .int .i64 kd, .int .i64 po, .int .i64 se] 25)))
      generalize x0.alloc (.cells #[.slice A p.length c, .int .i64 kd, .int .i64 po, .int .i64 se] 25) = y3 at *
      refine Kt.G.one 1 { dst := some 22, op := Op.call { callee := Callee.value (Operand.func 17), args := #[Operand.tmp 21], argTypes := #[22] }, type := 22, pos := "topo.go:91", after := #[{ on := 0, ground := Ground.data }], guard := none } rfl (by kernel_rfl) (by rfl) (fun K hK => ?_)
      have hszz := hHeld.bel.size
      go_simp
      refine (HCL.out _ hHeld.bel).mono ?_; rintro en x1 ⟨A1, c1, rfl, hs1, hb1⟩
      refine hK.out _ _ (fun _ => hHeld.on hb1) (fun hHeld => ?_)
      have hHeld := hHeld rfl
      clear hK K
      try simp only [Act.put, List.setIfInBounds_toArray, List.set_cons_zero, List.set_cons_succ]
      try (replace HAR := Lib.hid (HAR.out.on hb1))
      have HS1 := Lib.hid (hs1.mono hszz)
      clear hs1 hb1 hszz
      refine Kt.G.one 4 { dst := some 25, op := Op.call { callee := Callee.builtin Builtin.append, args := #[Operand.tmp 22, Operand.tmp 24], argTypes := #[22, 22] }, type := 22, pos := "topo.go:91", after := #[{ on := 1, ground := Ground.data }, { on := 3, ground := Ground.data }, { on := 1, ground := Ground.chain }], guard := none } rfl (by kernel_rfl) (by rfl) (fun K hK => ?_)
      refine Kt.wp_append_ar (.tmp 22) (.tmp 24) 22 rfl W1.heap.size 25 (.agg #[.slice none 0 0, .int .i64 0, .int .i64 0, .int .i64 0]) 4 48 infoN Try.underlying22 rfl (by decide) _ _ _ rfl HS1.out _ _ _ rfl HAR.out (cs_one ⟨A, c, ⟨p, kd, po, se⟩⟩) (by have := HL.out; unfold maxLen; omega) (by have := HL.out; omega) hHeld.bel.size ?_
      intro A4 c4 x4 hs4 hb4 hz4 hk4 hl4
      have HB4 := Lib.hid (hHeld.bel.trans hb4)
      have HS4 := Lib.hid hs4
      refine hK.out _ _ (Kt.G.late (by kernel_rfl)) (fun _ => ?_)
      clear hK K
      try simp only [Act.put, List.setIfInBounds_toArray, List.set_cons_zero, List.set_cons_succ]
      clear hs4 hb4 hz4 hk4 hl4
      refine Kt.G.takeP 5 { dst := some 26, op := Op.call { callee := Callee.builtin Builtin.len, args := #[Operand.tmp 25], argTypes := #[22] }, type := 3, pos := "topo.go:91", after := #[{ on := 4, ground := Ground.data }], guard := none } ?_ (Kt.G.late (by kernel_rfl)) rfl (by kernel_rfl) (fun _ _ _ h => h) (by rfl) ?_ ?_
      rotate_left
      · intro w; go_simp; try with_reducible rfl
      try simp only [Act.put, List.setIfInBounds_toArray, List.set_cons_zero, List.set_cons_succ]
      refine Kt.G.done (by kernel_rfl) (NoPanic.normal ?_) _
      go_wp2_with fail
      go_meet
      case rel =>
        refine ⟨_, _, rfl, HNN.out, rfl, ?_, HB4.out⟩
        rw [ncs_app]
        exact HS4.out
    -- END2
  case rest =>
    obtain ⟨A1, c1, rfl, rfl, rfl, hs, hb⟩ := hcut
    obtain ⟨ll, hll⟩ : ∃ ll, l ++ [(⟨A, c, ⟨p, kd, po, se⟩⟩ : Nh)] = ll := ⟨_, rfl⟩
    have HLN : Hid (ll.length = l.length + 1 ∧ nds ll = nds l ++ [⟨p, kd, po, se⟩] ∧ ∀ y ∈ ll, y.n.path.length ≤ px) := Lib.hid (by
      rw [← hll]
      refine ⟨by rw [List.length_append]; rfl, by simp [nds], fun y hy => ?_⟩
      rcases List.mem_append.1 hy with hy | hy
      · exact HPL.out.1 y hy
      · rw [List.mem_singleton] at hy; subst hy; exact HPL.out.2)
    have HBL := Lib.hid (Kt.bthen HW1.out.2 hb)
    have HRL := Lib.hid (Kt.row_on hb HW1.out.1)
    have HTL : Hid (Tr wc (.slice A1 (l.length + 1) c1) ll) := Lib.hid (by
      refine ⟨?_, fun y hy => ?_⟩
      · rw [HLN.out.1, ← hll]; exact Kt.Ar.of_sl hs
      · rw [← hll] at hy
        rcases List.mem_append.1 hy with hy | hy
        · exact (HV.out.on HBL.out).rn y hy
        · rw [List.mem_singleton] at hy; subst hy; exact HX.out.on HBL.out)
    clear hs hb hll HW1 HCL
    obtain ⟨WL, hWL⟩ : ∃ W, wc = W := ⟨_, rfl⟩
    rw [hWL] at HBL HRL HTL ⊢
    clear hWL
    go_wp2_with fail
    go_loopw [7, 27] (fun V7 ii wr => ∃ (k : Nat) (A' : Option Addr) (c' : Nat) (l' : List Nh), ii = .int .i64 k ∧ V7 = .slice A' k c' ∧ Hid (k ≤ ll.length ∧ nds l' = (nds ll).take k ∧ l'.length = k) ∧ Hid (To wr WL.heap.size (.slice A' k c') l' ∧ Below WL.heap.size WL wr)) (fun _ ii _ => l.length + 1 - (intOf ii).toNat)
    case atStart => exact ⟨0, none, 0, [], rfl, rfl, Lib.hid ⟨Nat.zero_le _, rfl, rfl⟩, Lib.hid ⟨To.nil _ _, Below.refl _ _⟩⟩
    case round =>
      obtain ⟨k, A', c', l', rfl, rfl, HK, HWR⟩ := hrel
      by_cases hlt : k < ll.length
      · have ek : (k : Int) < ((l.length + 1 : Nat) : Int) := by have := HLN.out.1; omega
        have hw1 : wrap64 ((k : Int) + 1) = ((k + 1 : Nat) : Int) := by have := HL.out; have := HLN.out.1; unfold wrap64; omega
        obtain ⟨b, o, cc, hve, hb0, x0, x1, x2, x3⟩ := Tr.node (HTL.out.on HWR.out.2) k hlt
        rw [HLN.out.1] at hve
        cases hve
        have hrn := (HTL.out.nth k hlt).on HWR.out.2
        have hpx := HLN.out.2.2 _ (List.getElem_mem hlt)
        have HNX : Hid (∀ y : Nd, (ll[k]).n = y → (nds ll).take (k + 1) = (nds ll).take k ++ [y]) := Lib.hid (fun y hy => by
          rw [List.take_succ_eq_append_getElem (by rw [nds_len]; exact hlt), nds_at ll k hlt, hy])
        have HLT := Lib.hid (show k < ll.length from hlt)
        generalize ll[k] = y at *
        obtain ⟨Ax, cx, nx⟩ := y
        obtain ⟨pp, kx, ox, sx⟩ := nx
        dsimp only at x0 x1 x2 x3 hpx
        have HTK := Lib.hid (HNX.out _ rfl)
        dsimp only at HTK
        have b1 := Kt.balloc (Below.refl _ wr) (.cells #[.slice Ax pp.length cx, .int .i64 kx, .int .i64 ox, .int .i64 sx] 25)
        have hr1 := heap_alloc_new wr (.cells #[.slice Ax pp.length cx, .int .i64 kx, .int .i64 ox, .int .i64 sx] 25)
        have HCP := Lib.hid (icl_calls (.slice Ax pp.length cx) pp.length (inv pp) _ (hrn.way.on b1) (inv_one pp) hpx)
        have HB5 := Lib.hid b1
        have HR5 := Lib.hid hr1
        have HLE := Lib.hid hrn.le
        have ek2 : (k : Int) < (l.length : Int) + 1 := by omega
        clear hrn b1 hr1 HNX hlt hpx
        go_wp2_with fail
        refine HCP.out.mono ?_
        rintro e w5 ⟨A2, c2, rfl, hs2, hb⟩
        rw [World.size_alloc] at hs2
        have hr5 := Kt.row_on hb HR5.out
        have q5 := fun i => cell_of_row _ _ i _ _ _ hr5
        have f5 := fun i => frozen_of_row _ _ i _ _ hr5
        have hbs : Below wr.heap.size wr (w5.setCells wr.heap.size 0 [.slice A2 pp.length c2]) := Kt.below_setCells _ _ _ _ _ (Nat.le_refl _) (Kt.bthen HB5.out hb)
        have hsl := hs2.sets [.slice A2 pp.length c2] wr.heap.size 0 (fun k hk => by have := (hs2.lt k hk).1; omega)
        have b6 := Kt.balloc (Below.refl _ (w5.setCells wr.heap.size 0 [.slice A2 pp.length c2])) (.cells #[.slice A2 pp.length c2, .int .i64 kx, .int .i64 ox, .int .i64 sx] 25)
        have HB6 := Lib.hid (Kt.bthen hbs b6)
        have HWZ := Lib.hid HWR.out.2.size
        have HON : Hid (On _ WL.heap.size ⟨A2, c2, ⟨pp, kx, ox, sx⟩⟩) := Lib.hid ⟨(hsl.on b6).mono (Nat.le_trans HWZ.out (Nat.le_succ _)), HLE.out⟩
        have HAR := Lib.hid (Kt.Ar.new (w5.setCells wr.heap.size 0 [.slice A2 pp.length c2]) #[.slice A2 pp.length c2, .int .i64 kx, .int .i64 ox, .int .i64 sx] 25 1 4 rfl)
        have HTO := Lib.hid (HWR.out.1.onw HB6.out)
        have HS6 : Hid (Kt.Sl _ WL.heap.size 25 4 (.slice A' k c') k (ncs l')) := Lib.hid (by
          have := HTO.out.sl
          rw [HK.out.2.2] at this
          exact this)
        have HRB : Hid ((w5.setCells wr.heap.size 0 [.slice A2 pp.length c2]).heap[wr.heap.size]? = some (.cells #[.slice A2 pp.length c2, .int .i64 kx, .int .i64 ox, .int .i64 sx] 25 (0, 0))) := Lib.hid (heap_setCell_same _ _ _ _ _ _ hr5)
        clear hs2 hr5 hbs hsl b6 hb HCP x0 x1 x2 x3 HR5
        go_upto_region 6 with (fail)
        change Code.wp _ _ _ _ (w5.setCells wr.heap.size 0 [.slice A2 pp.length c2])
        generalize w5.setCells wr.heap.size 0 [.slice A2 pp.length c2] = W6 at *
        have hrb := HRB.out
        have q6 := fun i => cell_of_row _ _ i _ _ _ hrb
        clear hrb q5 f5
        go_wp2_with (
          refine Kt.append_ar (by rfl) (.tmp 35) (.tmp 37) 22 rfl WL.heap.size 25 (.agg #[.slice none 0 0, .int .i64 0, .int .i64 0, .int .i64 0]) 4 48 infoN Try.underlying22 rfl (by decide) (.slice A' k c') _ _ rfl HS6.out _ _ _ rfl HAR.out (cs_one ⟨A2, c2, ⟨pp, kx, ox, sx⟩⟩) (by have := HL.out; have := HLT.out; have := HLN.out.1; unfold maxLen; omega) (by have := HL.out; have := HLT.out; have := HLN.out.1; omega) (Nat.le_trans HWZ.out HB6.out.size) ?_
          intro A7 c7 w7 hs7 hb7 hz7 hk7 hl7)
        refine ⟨⟨k + 1, A7, c7, l' ++ [⟨A2, c2, ⟨pp, kx, ox, sx⟩⟩], by first | rfl | rw [hw1], rfl, Lib.hid ⟨HLT.out, ?_, ?_⟩, Lib.hid ⟨⟨?_, ?_⟩, ?_⟩⟩, by first | (have := HLN.out.1; rw [← this]; exact dec1 HLT.out) | (rw [hw1]; have := HLN.out.1; rw [← this]; exact dec1 HLT.out)⟩
        · rw [HTK.out, ← HK.out.2.1]; simp [nds]
        · rw [List.length_append, HK.out.2.2]; rfl
        · rw [List.length_append, HK.out.2.2, ncs_app]
          exact hs7
        · intro y hy
          rcases List.mem_append.1 hy with hy | hy
          · exact (HTO.out.on y hy).keep hk7 HS6.out
          · rw [List.mem_singleton] at hy
            subst hy
            exact HON.out.keep hk7 HS6.out
        · exact (Kt.bthen HWR.out.2 HB6.out).trans hb7
      · have ek : ¬ (k : Int) < ((l.length + 1 : Nat) : Int) := by have := HLN.out.1; omega
        have ek2 : ¬ (k : Int) < (l.length : Int) + 1 := by omega
        obtain rfl : k = ll.length := by have := HK.out.1; omega
        have HBF : Hid (nds l' = nds ll ∧ To wr WL.heap.size (.slice A' ll.length c') l') := Lib.hid ⟨by rw [HK.out.2.1, ← nds_len ll, List.take_length], HWR.out.1⟩
        have HBW := Lib.hid (Kt.bthen HBL.out HWR.out.2)
        have hrow := Kt.row_on HWR.out.2 HRL.out
        have q0 := fun i => cell_of_row _ _ i _ _ _ hrow
        have HRW := Lib.hid hrow
        clear hlt HK HWR HRL HBL HTL hrow
        have HP := Lib.hid (plug_calls ⟨A, c, ⟨p, kd, po, se⟩⟩ l (.slice A0 l.length c0) _ (HV.out.on HBW.out) (by have := HL.out; unfold mx; omega) (HX.out.on HBW.out))
        unfold Nh.v at HP
        dsimp only at HP
        go_wp2_with fail
        refine HP.out.mono ?_
        rintro e w1 ⟨z1, Va, la, rfl, hp⟩
        obtain ⟨Aa, ca, rfl⟩ := hp.own.tr.form
        have HTa := Lib.hid hp.own
        have HBa := Lib.hid (And.intro hp.bel (Kt.bthen HBW.out hp.bel))
        clear hp HP q0
        go_wp2_with fail
        refine (unplug_calls q Aq cq l _ _ (HV.out.on HBa.out.2) (by have := HL.out; unfold mx; omega) (HQ.out.on HBa.out.2) HQL.out).mono ?_
        rintro e w2 ⟨z2, Vb, lb, Vc, lc, rfl, hu⟩
        obtain ⟨Ab, cb, rfl⟩ := hu.own1.tr.form
        obtain ⟨Ac, ccc, rfl⟩ := hu.own2.tr.form
        have HTb := Lib.hid (And.intro (HTa.out.onw hu.bel) (And.intro hu.own1 (And.intro hu.own2 hu.ne)))
        have HBb := Lib.hid (And.intro (Kt.bthen HBa.out.1 hu.bel) (Kt.bthen HBa.out.2 hu.bel))
        clear hu
        go_wp2_with fail
        refine (tfind_calls q Aq cq l _ _ (HV.out.on HBb.out.2) (by have := HL.out; unfold mx; omega) (HQ.out.on HBb.out.2) HQL.out (fun y hy => by obtain ⟨x, hx, rfl⟩ := mem_nds.1 hy; exact HPL.out.1 x hx)).mono ?_
        rintro e w3 ⟨yd, okd, rfl, hd1, hd2, hd3, hond, hb⟩
        clear hd1 hd2 hd3
        obtain ⟨Ad, cd, ⟨pd, kkd, od, sd⟩⟩ := yd
        obtain ⟨rb1, rb2, rb3, hb3⟩ := box3 w3 #[.slice Ad pd.length cd, .int .i64 kkd, .int .i64 od, .int .i64 sd] #[.slice Ad pd.length cd, .int .i64 kkd, .int .i64 od, .int .i64 sd] #[.slice Aa la.length ca, .slice Ab lb.length cb, .slice Ac lc.length ccc, .slice (some ⟨w3.heap.size + 1, 0, none⟩) 1 1] 25 25 22
        have HBc := Lib.hid (Kt.bthen HBb.out.1 (Kt.bthen hb hb3))
        generalize wr = WP at *
        have HJ : Hid (JJ WP (w3.heap.size + 1 + 1) [.slice Aa la.length ca, .slice Ab lb.length cb, .slice Ac lc.length ccc, .slice (some ⟨w3.heap.size + 1, 0, none⟩) 1 1] _ ∧ Apt [.slice Aa la.length ca, .slice Ab lb.length cb, .slice Ac lc.length ccc, .slice (some ⟨w3.heap.size + 1, 0, none⟩) 1 1]) := Lib.hid (by
          have s1 := HBa.out.1.size
          have s2 := hb.size
          refine ⟨⟨HBc.out, rb3, [la, lb, lc, [⟨Ad, cd, ⟨pd, kkd, od, sd⟩⟩]], rfl, fun m hm hm' => ?_⟩, ?_⟩
          · have ta := ((HTb.out.1.onw hb).onw hb3).ts
            have tb := (((HTb.out.2.1.mono s1).onw hb).onw hb3).ts
            have tc := (((HTb.out.2.2.1.mono s1).onw hb).onw hb3).ts
            match m, hm, hm' with
            | 0, _, _ => exact ta
            | 1, _, _ => exact tb
            | 2, _, _ => exact tc
            | 3, _, _ =>
              refine ⟨⟨rfl, .inr ⟨w3.heap.size + 1, 0, 1, _, rfl, by have := HBb.out.1.size; omega, rb2, Nat.le_refl _, by decide, by show 0 + 1 * 4 ≤ 4; decide, fun j u hj => by rw [Nat.zero_add, ← Array.getElem?_toList]; exact hj⟩⟩, fun z hz => ?_⟩
              have hz' : z = (⟨Ad, cd, ⟨pd, kkd, od, sd⟩⟩ : Nh) := List.mem_singleton.1 hz
              subst hz'
              exact ((hond.mono (by have := HBb.out.1.size; omega)).on hb3).ir
          · refine apt4 (fun k h1 h2 => ?_) (fun k h1 h2 => ?_) (fun k h1 h2 => ?_) HTb.out.2.2.2 (fun k h1 h2 => ?_) (fun k h1 h2 => ?_)
            · have := (HTa.out.sl.lt k h1).2; have := (HTb.out.2.1.sl.lt k h2).1; omega
            · have := (HTa.out.sl.lt k h1).2; have := (HTb.out.2.2.1.sl.lt k h2).1; omega
            · have := (HTb.out.1.sl.lt k h1).2; simp [Value.ownBlock] at h2; omega
            · have := (HTb.out.2.1.sl.lt k h1).2; simp [Value.ownBlock] at h2; omega
            · have := (HTb.out.2.2.1.sl.lt k h1).2; simp [Value.ownBlock] at h2; omega)
        unfold Nh.v
        dsimp only
        clear hond hb rb1 rb2 rb3 hb3 HTa HTb HBa HBb
        obtain ⟨kK, hkK⟩ : ∃ k, w3.heap.size + 1 + 1 = k := ⟨_, rfl⟩
        obtain ⟨Vs, hVs⟩ : ∃ V : List Value, [.slice Aa la.length ca, .slice Ab lb.length cb, .slice Ac lc.length ccc, .slice (some ⟨w3.heap.size + 1, 0, none⟩) 1 1] = V := ⟨_, rfl⟩
        have HV4 : Hid (Vs.length = 4) := Lib.hid (by rw [← hVs]; rfl)
        go_wp2_with fail
        refine Kt.fold (fun X => Hid (JJ WP kK Vs X ∧ Apt Vs)) (Lib.hid (by rw [← hVs, ← hkK]; exact HJ.out)) (fun WJ HWJ => ?_)
        try rw [hkK]
        clear hkK hVs HJ HBc
        go_loopw [66] (fun ii wr => ∃ m : Nat, ii = .int .i64 m ∧ Hid (m ≤ 4) ∧ Hid (JJ WP kK Vs wr)) (fun ii _ => 4 - (intOf ii).toNat)
        case atStart => exact ⟨0, rfl, Lib.hid (Nat.zero_le _), Lib.hid HWJ.out.1⟩
        case round =>
          obtain ⟨m, rfl, HM4, HJJ⟩ := hrel
          by_cases hm4 : m < 4
          · have em : (m : Int) < 4 := by omega
            have hmw := up1 m (by omega)
            have hmv : m < Vs.length := by have := HV4.out; omega
            obtain ⟨ls0, hj0⟩ := HJJ.out.ls
            obtain ⟨Am, cm, hform, g1, g2⟩ := (hj0.ts m hmv (by rw [← hj0.len]; exact hmv)).sl.form
            obtain ⟨nm, hnm⟩ : ∃ n, (ls0[m]'(by rw [← hj0.len]; exact hmv)).length = n := ⟨_, rfl⟩
            rw [hnm] at hform
            have hcell := cell_of_row _ _ m _ _ _ HJJ.out.row
            rw [List.getElem?_toArray, List.getElem?_eq_getElem hmv, hform] at hcell
            have HMV := Lib.hid (show ∃ h : m < Vs.length, Vs[m] = .slice Am nm cm from ⟨hmv, hform⟩)
            have HM := Lib.hid hm4
            have HNM : Hid (nm ≤ maxLen) := Lib.hid (by
              have := (hj0.ts m hmv (by rw [← hj0.len]; exact hmv)).sl
              rw [hform, hnm] at this
              obtain ⟨_, _, e, h1, h2⟩ := this.form
              cases e
              omega)
            unfold maxLen at HNM
            clear hj0 hform hnm hmv hm4 g1 g2
            go_wp2_with fail
            clear hcell
            go_loopw [72] (fun ii wr => ∃ i : Nat, ii = .int .i64 i ∧ Hid (i ≤ nm) ∧ Hid (JJ WP kK Vs wr)) (fun ii _ => nm - (intOf ii).toNat)
            case atStart => exact ⟨0, rfl, Lib.hid (Nat.zero_le _), HJJ⟩
            case round =>
              obtain ⟨i, rfl, HI, HJI⟩ := hrel
              by_cases hin : i < nm
              · have ei : (i : Int) < nm := by omega
                have hiw : wrap64 ((i : Int) + 1) = ((i + 1 : Nat) : Int) := by have := HNM.out; unfold wrap64; omega
                obtain ⟨hmv, hform⟩ := HMV.out
                obtain ⟨ls, hj⟩ := HJI.out.ls
                have hml : m < ls.length := by rw [← hj.len]; exact hmv
                have hts := hj.ts m hmv hml
                rw [hform] at hts
                have hnl : nm = (ls[m]).length := by
                  obtain ⟨_, _, e, _, _⟩ := hts.sl.form
                  cases e
                  rfl
                rw [hnl] at hform hin
                have hts2 := hts
                rw [hnl] at hts2
                obtain ⟨g, o, cap, hv2, hg1, hg2, hg3, hg4, hcells, hfz⟩ := hts2.sl.cells (by omega)
                cases hv2
                obtain ⟨y, hy⟩ : ∃ y, (ls[m])[i]'hin = y := ⟨_, rfl⟩
                have hcs : ∀ r, r < 4 → wr.cell? ⟨g, o + (i * 4 + r), none⟩ = y.cs[r]? := fun r hr => by
                  have hb := hcells (i * 4 + r) (by rw [ncs_len]; omega)
                  rw [hb, ← hy, ← ncs_at _ i hin r hr, List.getElem?_eq_getElem]
                have x0 : wr.cell? ⟨g, o + i * 4, none⟩ = some (.slice y.A y.n.path.length y.c) := hcs 0 (by decide)
                have hir : IR wr WP.heap.size y := hts.ir y (by rw [← hy]; exact List.getElem_mem hin)
                have HJX : Hid (J wr WP.heap.size Vs ls ∧ ∃ (h1 : m < Vs.length) (h2 : m < ls.length) (h3 : i < (ls[m]).length), Vs[m] = .slice (some ⟨g, o, none⟩) (ls[m]).length cm ∧ (ls[m])[i] = y ∧ nm = (ls[m]).length) := Lib.hid ⟨hj, hmv, hml, hin, hform, hy, hnl⟩
                have HIN := Lib.hid (show i < nm by omega)
                have HYL : Hid (y.n.path.length ≤ 9223372036854775807) := Lib.hid (by
                  rcases hir with h | ⟨_, _, _, _, _, _, h, _⟩
                  · omega
                  · unfold maxLen at h; omega)
                obtain ⟨Ay, cy, ny⟩ := y
                obtain ⟨pp, ky, oy, sy⟩ := ny
                dsimp only at x0 HYL
                clear hmv hform hj hml hts hts2 hnl hg1 hg2 hg3 hg4 hcells hfz hy hcs hin
                go_wp2_with fail
                clear x0 hir
                go_loopw [81] (fun ii wr => ∃ k : Nat, ii = .int .i64 k ∧ Hid (k ≤ pp.length) ∧ Hid (Below WP.heap.size WP wr ∧ wr.heap[kK]? = some (.cells Vs.toArray 22 (0, 0)) ∧ J wr WP.heap.size Vs ls)) (fun ii _ => pp.length - (intOf ii).toNat)
                case atStart => exact ⟨0, rfl, Lib.hid (Nat.zero_le _), Lib.hid ⟨HJI.out.bel, HJI.out.row, HJX.out.1⟩⟩
                case round =>
                  obtain ⟨k, rfl, HK2, HW2⟩ := hrel
                  obtain ⟨h1, h2, h3, h4, h5, h6⟩ := HJX.out.2
                  have hts := HW2.out.2.2.ts m h1 h2
                  rw [h4] at hts
                  obtain ⟨g', o', cap', hv2, hg1, hg2, g3, g4, hcells, hfz⟩ := hts.sl.cells (by omega)
                  cases hv2
                  clear g3 g4
                  have hcs : ∀ r, r < 4 → wr.cell? ⟨g, o + (i * 4 + r), none⟩ = (⟨Ay, cy, ⟨pp, ky, oy, sy⟩⟩ : Nh).cs[r]? := fun r hr => by
                    have hb := hcells (i * 4 + r) (by rw [ncs_len]; omega)
                    rw [hb, ← h5, ← ncs_at _ i h3 r hr, List.getElem?_eq_getElem]
                  have x0 : wr.cell? ⟨g, o + i * 4, none⟩ = some (.slice Ay pp.length cy) := hcs 0 (by decide)
                  have x1 : wr.cell? ⟨g, o + i * 4 + 1, none⟩ = some (.int .i64 ky) := hcs 1 (by decide)
                  have x2 : wr.cell? ⟨g, o + i * 4 + 2, none⟩ = some (.int .i64 oy) := hcs 2 (by decide)
                  have x3 : wr.cell? ⟨g, o + i * 4 + 3, none⟩ = some (.int .i64 sy) := hcs 3 (by decide)
                  have hir := hts.ir ⟨Ay, cy, ⟨pp, ky, oy, sy⟩⟩ (by rw [← h5]; exact List.getElem_mem h3)
                  have ein : (i : Int) < nm := by have := HIN.out; omega
                  by_cases hkp : k < pp.length
                  · have ekp : (k : Int) < pp.length := by omega
                    have hkw : wrap64 ((k : Int) + 1) = ((k + 1 : Nat) : Int) := by have := HYL.out; unfold wrap64; omega
                    have hir2 : ∃ gp op cur, Ay = some ⟨gp, op, none⟩ ∧ WP.heap.size ≤ gp ∧ wr.heap[gp]? = some (.cells cur 3 (0, 0)) ∧ ∃ z, cur[op + k]? = some (.int .i64 z) := by
                      rcases hir with h0 | ⟨gp, op, cur, hA, hBg, hrow, _, hz⟩
                      · exact absurd h0 (Nat.ne_of_gt (Nat.lt_of_le_of_lt (Nat.zero_le k) hkp))
                      · exact ⟨gp, op, cur, hA, hBg, hrow, hz k hkp⟩
                    clear hir
                    obtain ⟨gp, op, cur, rfl, hBg, hrow, zv, hzv⟩ := hir2
                    have xk : wr.cell? ⟨gp, op + k, none⟩ = some (.int .i64 zv) := (cell_of_row _ _ _ _ _ _ hrow).trans hzv
                    have fk := fun j => frozen_of_row _ _ j _ _ hrow
                    have HKP := Lib.hid hkp
                    have HPUT : Hid (Below WP.heap.size WP (wr.setCells gp (op + k) [.int .i64 99]) ∧ (wr.setCells gp (op + k) [.int .i64 99]).heap[kK]? = some (.cells Vs.toArray 22 (0, 0)) ∧ J (wr.setCells gp (op + k) [.int .i64 99]) WP.heap.size Vs ls) := Lib.hid ⟨Kt.below_setCells _ _ _ _ _ hBg HW2.out.1, (Kt.setCells_other _ _ _ _ _ (ty_ne hrow HW2.out.2.1 (by decide))).trans HW2.out.2.1, HW2.out.2.2.put gp (op + k) 99 cur hrow⟩
                    clear h1 h2 h3 h4 h5 h6 hts hcells hcs hzv hrow hBg hg1 hg2 hkp
                    go_wp2_with fail
                    exact ⟨⟨k + 1, by first | rfl | rw [hkw], Lib.hid HKP.out, HPUT⟩, by first | exact dec1 HKP.out | (rw [hkw]; exact dec1 HKP.out)⟩
                  · have ekp : ¬ (k : Int) < pp.length := by omega
                    have f0 := fun j => hfz j
                    have HNODE : Hid (JJ WP kK Vs (wr.setCells g (o + i * 4) zz.cs)) := Lib.hid (by
                      obtain ⟨cur, hc⟩ := sl_row hts.sl (k := g) rfl
                      refine ⟨Kt.below_setCells _ _ _ _ _ hg1 HW2.out.1, (Kt.setCells_other _ _ _ _ _ (ty_ne hc HW2.out.2.1 (by decide))).trans HW2.out.2.1, _, HW2.out.2.2.node HWJ.out.2 m h1 h2 g o _ i h4 h3⟩)
                    clear h1 h2 h3 h4 h5 h6 hts hcells hcs hg1 hg2 hkp hir hfz
                    go_wp2_with fail
                    exact ⟨⟨i + 1, by first | rfl | rw [hiw], Lib.hid HIN.out, HNODE⟩, by first | exact dec1 HIN.out | (rw [hiw]; exact dec1 HIN.out)⟩
              · have ei : ¬ (i : Int) < nm := by omega
                clear hin
                go_wp2_with fail
                exact ⟨⟨m + 1, by first | rfl | rw [hmw], Lib.hid HM.out, HJI⟩, by first | exact dec1 HM.out | (rw [hmw]; exact dec1 HM.out)⟩
          · have em : ¬ (m : Int) < 4 := by omega
            clear hm4
            go_upto_region 25 with (fail)
            have HB25 : Hid (Below w0.heap.size w0 wr) := Lib.hid (Kt.bthen HBW.out HJJ.out.bel)
            have HR25 := Lib.hid (Kt.row_on HJJ.out.bel HRW.out)
            have HC25 := Lib.hid (fun W (hW : Below wr.heap.size wr W) => nclone2_calls (.slice A0 l.length c0) l.length (ncs l) W ((HV.out.on HB25.out).on hW).ar (ncs_one l) (by have := HL.out; omega))
            have HRB : Hid (∀ r ∈ [(w0.heap.size, #[.slice A p.length c, .int .i64 kd, .int .i64 po, .int .i64 se], 25)], (r : Nat × Array Value × TypeId).1 < wr.heap.size) := Lib.hid (by
              intro r hr
              rw [List.mem_singleton] at hr
              subst hr
              exact lt_of_row0 HR25.out)
            have HST25 : Hid (∀ W, Below wr.heap.size wr W → ∀ A1 c1, Kt.Sl W wr.heap.size 25 4 (.slice A1 (l.length + 1) c1) (l.length + 1) (ncs l ++ (⟨A, c, ⟨p, kd, po, se⟩⟩ : Nh).cs) → Calls Try.prog 12 #[.slice A' ll.length c', .slice A1 (l.length + 1) c1] W fun e w' => e = .returned (.bool true) ∧ Below W.heap.size W w') := Lib.hid (by
              intro W hW A1 c1 hs
              have hl' : l'.length = ll.length := by have := congrArg List.length HBF.out.1; rw [nds_len, nds_len] at this; exact this
              have hto := (HBF.out.2.onw (Kt.bthen HJJ.out.bel hW)).tr
              have hcat : Tr W (.slice A1 (l.length + 1) c1) (l ++ [⟨A, c, ⟨p, kd, po, se⟩⟩]) := ⟨by
                rw [List.length_append, ncs_app]
                exact Kt.Ar.of_sl hs, fun y hy => by
                rcases List.mem_append.1 hy with hy | hy
                · exact ((HV.out.on HB25.out).on hW).rn y hy
                · rw [List.mem_singleton] at hy; subst hy; exact (HX.out.on HB25.out).on hW⟩
              refine stree_calls l' (l ++ [⟨A, c, ⟨p, kd, po, se⟩⟩]) _ _ W ?_ hto hcat ?_
              · rw [HBF.out.1, HLN.out.2.1]; simp [nds]
              · rw [hl', HLN.out.1]; have := HL.out; unfold mx; omega)
            clear HBF HJJ HWJ HBW HRW
            -- REGION25
            have HF := (Kt.Fb.nil wr (Below.refl _ _)).add HR25.out
            refine Kt.G.start 8 (Kt.Fb wr [(w0.heap.size, #[.slice A p.length c, .int .i64 kd, .int .i64 po, .int .i64 se], 25)]) (by kernel_rfl) HF.drew (fun hHeld => ?_)
            clear HF
            generalize wr.drew = x0 at *
            refine Kt.G.one 0 { dst := some 98, op := Op.call { callee := Callee.value (Operand.func 10), args := #[], argTypes := #[] }, type := 4, pos := "topo.go:106", after := #[], guard := none } rfl (by kernel_rfl) (by rfl) (fun K hK => ?_)
            go_simp
            refine (plives_calls _).mono ?_; rintro en xl ⟨rfl, hb0⟩
            refine hK.out _ _ (fun _ => hHeld.on hb0) (fun hHeld => ?_)
            have hHeld := hHeld rfl
            clear hK K
            try simp only [Act.put, List.setIfInBounds_toArray, List.set_cons_zero, List.set_cons_succ]
            clear hb0
            refine Kt.G.takeP 1 { dst := some 99, op := Op.move (Operand.tmp 98), type := 4, pos := "topo.go:106", after := #[{ on := 0, ground := Ground.data }, { on := 0, ground := Ground.chain }], guard := none } ?_ (fun _ => hHeld) rfl (by kernel_rfl) (fun _ _ _ h => h) (by rfl) ?_ ?_
            rotate_left
            · intro w; go_simp; try with_reducible rfl
            try simp only [Act.put, List.setIfInBounds_toArray, List.set_cons_zero, List.set_cons_succ]
            refine Kt.G.takeP 2 { dst := some 100, op := Op.move (Operand.tmp 7), type := 22, pos := "topo.go:106", after := #[{ on := 1, ground := Ground.guard }], guard := some (1, true) } ?_ (fun _ => hHeld) rfl (by kernel_rfl) (fun _ _ _ h => h) (by rfl) ?_ ?_
            rotate_left
            · intro w; go_simp; try with_reducible rfl
            try simp only [Act.put, List.setIfInBounds_toArray, List.set_cons_zero, List.set_cons_succ]
            refine Kt.G.takeP 3 { dst := some 101, op := Op.move (Operand.tmp 0), type := 22, pos := "topo.go:106", after := #[{ on := 1, ground := Ground.guard }], guard := some (1, true) } ?_ (fun _ => hHeld) rfl (by kernel_rfl) (fun _ _ _ h => h) (by rfl) ?_ ?_
            rotate_left
            · intro w; go_simp; try with_reducible rfl
            try simp only [Act.put, List.setIfInBounds_toArray, List.set_cons_zero, List.set_cons_succ]
            refine Kt.G.take 5 { dst := some 103, op := Op.load 25 (Operand.tmp 4), type := 25, pos := "topo.go:106", after := #[{ on := 1, ground := Ground.guard }], guard := some (1, true) } ?_ hHeld rfl (by kernel_rfl) (fun _ _ _ h => h) (by rfl) ?_ ?_
            rotate_left
            · intro w hSw; have r0 := hSw.row (w0.heap.size, #[.slice A p.length c, .int .i64 kd, .int .i64 po, .int .i64 se], 25) (by simp); have c0 := fun i => cell_of_row _ _ i _ _ _ r0; dsimp only at *; go_simp; try with_reducible rfl
            try simp only [Act.put, List.setIfInBounds_toArray, List.set_cons_zero, List.set_cons_succ]
            refine Kt.G.two 4 6 { dst := some 102, op := Op.call { callee := Callee.value (Operand.func 17), args := #[Operand.tmp 101], argTypes := #[22] }, type := 22, pos := "topo.go:106", after := #[{ on := 3, ground := Ground.data }, { on := 1, ground := Ground.chain }, { on := 1, ground := Ground.guard }], guard := some (1, true) } { dst := some 104, op := Op.buildSlice 22 1 #[(0, Operand.tmp 103)], type := 22, pos := "topo.go:106", after := #[{ on := 5, ground := Ground.data }, { on := 1, ground := Ground.guard }], guard := some (1, true) } rfl rfl (by kernel_rfl) (by rfl) (by rfl) (fun K hK => ?_) (fun K hK => ?_)
            · have hszz := hHeld.bel.size
              go_simp
              refine (HC25.out _ hHeld.bel).mono ?_; rintro en x4 ⟨A4, c4, rfl, hs4, hb4⟩
              refine hK.out _ _ (fun _ => hHeld.on hb4) (fun hHeld => ?_)
              have hHeld := hHeld rfl
              clear hK K
              try simp only [Act.put, List.setIfInBounds_toArray, List.set_cons_zero, List.set_cons_succ]
              try (replace HAR := Lib.hid (HAR.out.on hb4))
              have HS4 := Lib.hid (hs4.mono hszz)
              clear hs4 hb4 hszz
              refine Kt.G.one 6 { dst := some 104, op := Op.buildSlice 22 1 #[(0, Operand.tmp 103)], type := 22, pos := "topo.go:106", after := #[{ on := 5, ground := Ground.data }, { on := 1, ground := Ground.guard }], guard := some (1, true) } rfl (by kernel_rfl) (by rfl) (fun K hK => ?_)
              go_simp
              refine hK.out _ _ (fun _ => hHeld.alloc _) (fun hHeld => ?_)
              have hHeld := hHeld rfl
              clear hK K
              try simp only [Act.put, List.setIfInBounds_toArray, List.set_cons_zero, List.set_cons_succ]
              have HAR := Lib.hid (Kt.Ar.new x4 #[.slice A p.length c, .int .i64 kd, .int .i64 po, .int .i64 se] 25 1 4 rfl)
              try (replace HS4 := Lib.hid (HS4.out.alloc (.cells #[.slice A p.length c, .int .i64 kd, .int .i64 po, .int .i64 se] 25)))
              generalize x4.alloc (.cells #[.slice A p.length c, .int .i64 kd, .int .i64 po, .int .i64 se] 25) = y6 at *
              refine Kt.G.one 7 { dst := some 105, op := Op.call { callee := Callee.builtin Builtin.append, args := #[Operand.tmp 102, Operand.tmp 104], argTypes := #[22, 22] }, type := 22, pos := "topo.go:106", after := #[{ on := 4, ground := Ground.data }, { on := 6, ground := Ground.data }, { on := 4, ground := Ground.chain }, { on := 1, ground := Ground.guard }], guard := some (1, true) } rfl (by kernel_rfl) (by rfl) (fun K hK => ?_)
              refine Kt.wp_append_ar (.tmp 102) (.tmp 104) 22 rfl wr.heap.size 25 (.agg #[.slice none 0 0, .int .i64 0, .int .i64 0, .int .i64 0]) 4 48 infoN Try.underlying22 rfl (by decide) _ _ _ rfl HS4.out _ _ _ rfl HAR.out (cs_one ⟨A, c, ⟨p, kd, po, se⟩⟩) (by have := HL.out; unfold maxLen; omega) (by have := HL.out; omega) hHeld.bel.size ?_
              intro A7 c7 x7 hs7 hb7 hz7 hk7 hl7
              have hF7 := hHeld.onB hb7 (Nat.le_refl _) HRB.out
              have HS7 : Hid (Kt.Sl x7 wr.heap.size 25 4 (.slice A7 (l.length + 1) c7) (l.length + 1) (ncs l ++ (⟨A, c, ⟨p, kd, po, se⟩⟩ : Nh).cs)) := Lib.hid hs7
              refine hK.out _ _ (fun _ => hF7) (fun hHeld => ?_)
              have hHeld := hHeld rfl
              clear hK K
              try simp only [Act.put, List.setIfInBounds_toArray, List.set_cons_zero, List.set_cons_succ]
              clear hs7 hb7 hz7 hk7 hl7 hF7 HS4 HAR
              refine Kt.G.one 8 { dst := some 106, op := Op.call { callee := Callee.value (Operand.func 12), args := #[Operand.tmp 100, Operand.tmp 105], argTypes := #[22, 22] }, type := 4, pos := "topo.go:106", after := #[{ on := 2, ground := Ground.data }, { on := 7, ground := Ground.data }, { on := 7, ground := Ground.chain }, { on := 1, ground := Ground.guard }], guard := some (1, true) } rfl (by kernel_rfl) (by rfl) (fun K hK => ?_)
              go_simp
              refine (HST25.out _ hHeld.bel _ _ HS7.out).mono ?_; rintro en x8 ⟨rfl, hb8⟩
              have HBE := Lib.hid (Kt.bthen HB25.out (Kt.bthen hHeld.bel hb8))
              refine hK.out _ _ (Kt.G.late (by kernel_rfl)) (fun _ => ?_)
              clear hK K
              try simp only [Act.put, List.setIfInBounds_toArray, List.set_cons_zero, List.set_cons_succ]
              clear hb8
              refine Kt.G.takeP 9 { dst := some 107, op := Op.pick (Operand.tmp 99) (Operand.tmp 106) (Operand.const (Value.bool false)), type := 4, pos := "topo.go:106", after := #[{ on := 1, ground := Ground.data }, { on := 8, ground := Ground.data }], guard := none } ?_ (Kt.G.late (by kernel_rfl)) rfl (by kernel_rfl) (fun _ _ _ h => h) (by rfl) ?_ ?_
              rotate_left
              · intro w; go_simp; try with_reducible rfl
              try simp only [Act.put, List.setIfInBounds_toArray, List.set_cons_zero, List.set_cons_succ]
              refine Kt.G.takeP 10 { dst := some 6, op := Op.assign (Operand.tmp 107), type := 4, pos := "topo.go:106", after := #[{ on := 9, ground := Ground.data }, { on := 8, ground := Ground.chain }, { on := 0, ground := Ground.phase }, { on := 1, ground := Ground.phase }, { on := 2, ground := Ground.phase }, { on := 3, ground := Ground.phase }, { on := 4, ground := Ground.phase }, { on := 5, ground := Ground.phase }, { on := 6, ground := Ground.phase }, { on := 7, ground := Ground.phase }, { on := 8, ground := Ground.phase }, { on := 9, ground := Ground.phase }], guard := none } ?_ (Kt.G.late (by kernel_rfl)) rfl (by kernel_rfl) (fun _ _ _ h => h) (by rfl) ?_ ?_
              rotate_left
              · intro w; go_simp; try with_reducible rfl
              try simp only [Act.put, List.setIfInBounds_toArray, List.set_cons_zero, List.set_cons_succ]
              refine Kt.G.done (by kernel_rfl) (NoPanic.normal ?_) _
              go_wp2_with fail
              go_ret
              exact ⟨rfl, HBE.out⟩
            · go_simp
              refine hK.out _ _ (fun _ => hHeld.alloc _) (fun hHeld => ?_)
              have hHeld := hHeld rfl
              clear hK K
              try simp only [Act.put, List.setIfInBounds_toArray, List.set_cons_zero, List.set_cons_succ]
              have HAR := Lib.hid (Kt.Ar.new xl #[.slice A p.length c, .int .i64 kd, .int .i64 po, .int .i64 se] 25 1 4 rfl)
              try (replace HS4 := Lib.hid (HS4.out.alloc (.cells #[.slice A p.length c, .int .i64 kd, .int .i64 po, .int .i64 se] 25)))
              generalize xl.alloc (.cells #[.slice A p.length c, .int .i64 kd, .int .i64 po, .int .i64 se] 25) = y6 at *
              refine Kt.G.one 4 { dst := some 102, op := Op.call { callee := Callee.value (Operand.func 17), args := #[Operand.tmp 101], argTypes := #[22] }, type := 22, pos := "topo.go:106", after := #[{ on := 3, ground := Ground.data }, { on := 1, ground := Ground.chain }, { on := 1, ground := Ground.guard }], guard := some (1, true) } rfl (by kernel_rfl) (by rfl) (fun K hK => ?_)
              have hszz := hHeld.bel.size
              go_simp
              refine (HC25.out _ hHeld.bel).mono ?_; rintro en x4 ⟨A4, c4, rfl, hs4, hb4⟩
              refine hK.out _ _ (fun _ => hHeld.on hb4) (fun hHeld => ?_)
              have hHeld := hHeld rfl
              clear hK K
              try simp only [Act.put, List.setIfInBounds_toArray, List.set_cons_zero, List.set_cons_succ]
              try (replace HAR := Lib.hid (HAR.out.on hb4))
              have HS4 := Lib.hid (hs4.mono hszz)
              clear hs4 hb4 hszz
              refine Kt.G.one 7 { dst := some 105, op := Op.call { callee := Callee.builtin Builtin.append, args := #[Operand.tmp 102, Operand.tmp 104], argTypes := #[22, 22] }, type := 22, pos := "topo.go:106", after := #[{ on := 4, ground := Ground.data }, { on := 6, ground := Ground.data }, { on := 4, ground := Ground.chain }, { on := 1, ground := Ground.guard }], guard := some (1, true) } rfl (by kernel_rfl) (by rfl) (fun K hK => ?_)
              refine Kt.wp_append_ar (.tmp 102) (.tmp 104) 22 rfl wr.heap.size 25 (.agg #[.slice none 0 0, .int .i64 0, .int .i64 0, .int .i64 0]) 4 48 infoN Try.underlying22 rfl (by decide) _ _ _ rfl HS4.out _ _ _ rfl HAR.out (cs_one ⟨A, c, ⟨p, kd, po, se⟩⟩) (by have := HL.out; unfold maxLen; omega) (by have := HL.out; omega) hHeld.bel.size ?_
              intro A7 c7 x7 hs7 hb7 hz7 hk7 hl7
              have hF7 := hHeld.onB hb7 (Nat.le_refl _) HRB.out
              have HS7 : Hid (Kt.Sl x7 wr.heap.size 25 4 (.slice A7 (l.length + 1) c7) (l.length + 1) (ncs l ++ (⟨A, c, ⟨p, kd, po, se⟩⟩ : Nh).cs)) := Lib.hid hs7
              refine hK.out _ _ (fun _ => hF7) (fun hHeld => ?_)
              have hHeld := hHeld rfl
              clear hK K
              try simp only [Act.put, List.setIfInBounds_toArray, List.set_cons_zero, List.set_cons_succ]
              clear hs7 hb7 hz7 hk7 hl7 hF7 HS4 HAR
              refine Kt.G.one 8 { dst := some 106, op := Op.call { callee := Callee.value (Operand.func 12), args := #[Operand.tmp 100, Operand.tmp 105], argTypes := #[22, 22] }, type := 4, pos := "topo.go:106", after := #[{ on := 2, ground := Ground.data }, { on := 7, ground := Ground.data }, { on := 7, ground := Ground.chain }, { on := 1, ground := Ground.guard }], guard := some (1, true) } rfl (by kernel_rfl) (by rfl) (fun K hK => ?_)
              go_simp
              refine (HST25.out _ hHeld.bel _ _ HS7.out).mono ?_; rintro en x8 ⟨rfl, hb8⟩
              have HBE := Lib.hid (Kt.bthen HB25.out (Kt.bthen hHeld.bel hb8))
              refine hK.out _ _ (Kt.G.late (by kernel_rfl)) (fun _ => ?_)
              clear hK K
              try simp only [Act.put, List.setIfInBounds_toArray, List.set_cons_zero, List.set_cons_succ]
              clear hb8
              refine Kt.G.takeP 9 { dst := some 107, op := Op.pick (Operand.tmp 99) (Operand.tmp 106) (Operand.const (Value.bool false)), type := 4, pos := "topo.go:106", after := #[{ on := 1, ground := Ground.data }, { on := 8, ground := Ground.data }], guard := none } ?_ (Kt.G.late (by kernel_rfl)) rfl (by kernel_rfl) (fun _ _ _ h => h) (by rfl) ?_ ?_
              rotate_left
              · intro w; go_simp; try with_reducible rfl
              try simp only [Act.put, List.setIfInBounds_toArray, List.set_cons_zero, List.set_cons_succ]
              refine Kt.G.takeP 10 { dst := some 6, op := Op.assign (Operand.tmp 107), type := 4, pos := "topo.go:106", after := #[{ on := 9, ground := Ground.data }, { on := 8, ground := Ground.chain }, { on := 0, ground := Ground.phase }, { on := 1, ground := Ground.phase }, { on := 2, ground := Ground.phase }, { on := 3, ground := Ground.phase }, { on := 4, ground := Ground.phase }, { on := 5, ground := Ground.phase }, { on := 6, ground := Ground.phase }, { on := 7, ground := Ground.phase }, { on := 8, ground := Ground.phase }, { on := 9, ground := Ground.phase }], guard := none } ?_ (Kt.G.late (by kernel_rfl)) rfl (by kernel_rfl) (fun _ _ _ h => h) (by rfl) ?_ ?_
              rotate_left
              · intro w; go_simp; try with_reducible rfl
              try simp only [Act.put, List.setIfInBounds_toArray, List.set_cons_zero, List.set_cons_succ]
              refine Kt.G.done (by kernel_rfl) (NoPanic.normal ?_) _
              go_wp2_with fail
              go_ret
              exact ⟨rfl, HBE.out⟩
            -- END25
theorem own_walk (v0 v1 v2 : Value) (w : World) (r0 : Fr.RdV w reachBytes (.slice 4 (.cat 1 (.slice 1 (.int .i64)) (.cat 1 (.int .i64) (.cat 1 (.int .i64) (.cat 1 (.int .i64) .nil))))) v0) (r1 : Fr.RdV w reachBytes (.cat 1 (.slice 1 (.int .i64)) (.cat 1 (.int .i64) (.cat 1 (.int .i64) (.cat 1 (.int .i64) .nil)))) v1) (r2 : Fr.RdV w reachBytes (.slice 1 (.int .i64)) v2)
    (m0 : ∀ a l c, v0 = .slice a l c → l * Try.prog.bytesOf 25 ≤ reachBytes) (n1 : ∀ (cs : Array Value) a l c, v1 = .agg cs → (cs.toList.drop 0).take 1 = [.slice a l c] → l * Try.prog.bytesOf 3 ≤ reachBytes)
    (e0 : ∀ ad l c, v0 = .slice (some ad) l c → ∀ k, k < l → ∀ a n c', w.cell? ((ad.add (k * Try.prog.cellsOf 25)).add 0) = some (.slice a n c') → n * Try.prog.bytesOf 3 ≤ reachBytes) :
    Calls Try.prog 7 #[v0, v1, v2] w fun e w' => e = .returned (.bool true) ∧ Below w.heap.size w w' := by
  have hb1 : Try.prog.bytesOf 25 = 48 := by kernel_rfl
  have hb2 : Try.prog.bytesOf 3 = 8 := by kernel_rfl
  have hc1 : Try.prog.cellsOf 25 = 4 := by kernel_rfl
  have hr : reachBytes = 140737488351232 := rfl
  rw [hb1, hr] at m0
  rw [hb2, hr] at n1 e0
  rw [hc1] at e0
  obtain ⟨l, hv, hl⟩ := tree_of r0
  obtain ⟨x, rfl, hx⟩ := node_of r1
  obtain ⟨Aq, cq, q, rfl, hq, hql⟩ := way_of r2
  refine town_calls x l v0 q Aq cq w hv ?_ hx hq hql (fun y hy => ?_) ?_
  · obtain ⟨A0, c0, e⟩ := hv.form
    exact m0 _ _ _ e
  · obtain ⟨k, hk, rfl⟩ := List.mem_iff_getElem.1 hy
    obtain ⟨b, o, c, e, _, x0, _, _, _⟩ := hv.node k hk
    have := e0 ⟨b, o, none⟩ _ _ e k hk (l[k]).A (l[k]).n.path.length (l[k]).c (by rw [Addr.add_lit, Addr.add_lit, Nat.add_zero]; exact x0)
    unfold px
    omega
  · have := n1 _ _ _ _ rfl rfl
    unfold px
    omega
end Go.Proofs.Ytmjcokmfjofgnaa
