/- The walk of keys.Apply. -/
import Derived.Test.YtfcmmeapinppaaaKeyM
namespace Go.Proofs.Ytfcmmeapinppaaa
open Go.RowKit
/-- events, by their cells -/
def kv (l : List (Fin 256 × Bool)) : List Value := l.flatMap fun x => [.int .i64 (x.1.val : Int), .bool x.2]
theorem kv_len (l : List (Fin 256 × Bool)) : (kv l).length = l.length * 2 := by
  induction l with
  | nil => rfl
  | cons x l ih => simp only [kv, List.flatMap_cons, List.length_append, List.length_cons, List.length_nil] at ih ⊢; omega
theorem kv_app (a b : List (Fin 256 × Bool)) : kv (a ++ b) = kv a ++ kv b := by simp [kv]
theorem kv_at (l : List (Fin 256 × Bool)) (k : Nat) (h : k < l.length) : (kv l)[k * 2]? = some (.int .i64 (l[k].1.val : Int)) ∧ (kv l)[k * 2 + 1]? = some (.bool l[k].2) := by
  induction l generalizing k with
  | nil => simp at h
  | cons x l ih =>
    cases k with
    | zero => exact ⟨rfl, rfl⟩
    | succ k =>
      have := ih k (by simpa using h)
      rw [show (k + 1) * 2 = k * 2 + 2 by omega]
      exact this
def appR (h : Hd) : List (Fin 256 × Bool) → Hd × Int
  | [] => (h, 0)
  | x :: l => if x.1.val < 4 then (Hd.zero, 1) else if h.has x.1.val = x.2 then (Hd.zero, 13) else appR (h.flip x.1.val) l
theorem store4 {w wr : World} {n B : Nat} (h : Below n w wr) (hB : n ≤ B) (a b c d : Value) : Below n w ((((wr.setCell ⟨B, 0, none⟩ a).setCell ⟨B, 1, none⟩ b).setCell ⟨B, 2, none⟩ c).setCell ⟨B, 3, none⟩ d) :=
  (((h.setCell (p := ⟨B, 0, none⟩) hB a).setCell (p := ⟨B, 1, none⟩) hB b).setCell (p := ⟨B, 2, none⟩) hB c).setCell (p := ⟨B, 3, none⟩) hB d
set_option maxRecDepth 100000 in
set_option maxHeartbeats 1600000 in
theorem apply_calls (h : Hd) (l : List (Fin 256 × Bool)) (V : Value) (w : World) (hv : Kt.Ar w V 2 l.length (kv l)) (hm : l.length ≤ 1099511627776) :
    Calls Try.prog 11 #[h.v, V] w fun e w' => e = .returned (.tuple #[(appR h l).1.v, .int .i64 (appR h l).2]) ∧ Below w.heap.size w w' := by
  obtain ⟨A0, c0, rfl, hc0, hcell⟩ := hv.form
  have HCELL := Lib.hid hcell
  have HM := Lib.hid hm
  clear hv hcell hm
  obtain ⟨R, hR⟩ : ∃ R, appR h l = R := ⟨_, rfl⟩
  have HR0 := Lib.hid hR
  rw [hR]
  clear hR
  unfold Hd.v
  go_enter Try.func11, Try.ntmps11
  unfold Hd.vs
  go_wp2_with fail
  have HH0 := Lib.hid (show ((w.alloc (.cells h.vs 27)).alloc (.cells Hd.zero.vs 27)).heap[w.heap.size]? = some (.cells h.vs 27 (0, 0)) from
    (Below.heap_alloc _ _ _ (by rw [World.size_alloc]; omega)).trans (heap_alloc_new w _))
  have HZ0 := Lib.hid (show ((w.alloc (.cells h.vs 27)).alloc (.cells Hd.zero.vs 27)).heap[w.heap.size + 1]? = some (.cells Hd.zero.vs 27 (0, 0)) from by
    have := heap_alloc_new (w.alloc (.cells h.vs 27)) (.cells Hd.zero.vs 27)
    rw [World.size_alloc] at this
    exact this)
  have HB := Lib.hid (Kt.balloc (Kt.balloc (Below.refl w.heap.size w) (.cells h.vs 27)) (.cells Hd.zero.vs 27))
  refine Kt.fold (fun W => W = ((w.alloc (.cells h.vs 27)).alloc (.cells Hd.zero.vs 27))) rfl (fun W hW => ?_)
  rw [← hW] at HH0 HZ0 HB
  clear hW
  go_loopw [10] (fun i wr => ∃ (k : Nat) (g : Hd), k ≤ l.length ∧ i = .int .i64 k ∧ Hid (wr.heap[w.heap.size]? = some (.cells g.vs 27 (0, 0))) ∧ Hid (wr.heap[w.heap.size + 1]? = some (.cells Hd.zero.vs 27 (0, 0))) ∧ Hid (appR g (l.drop k) = R) ∧ Hid (Below w.heap.size w wr)) (fun i _ => l.length - (intOf i).toNat)
  case atStart => exact ⟨0, h, Nat.zero_le _, rfl, HH0, HZ0, HR0, HB⟩
  case round =>
    clear HH0 HZ0 HR0 HB
    obtain ⟨k, g, hk, rfl, HH, HZ, HR, HB⟩ := hrel
    by_cases hlt : k < l.length
    · obtain ⟨b, o, rfl, hb0, hc1⟩ := HCELL.out (by omega)
      obtain ⟨i1, i2⟩ := kv_at l k hlt
      have hz := HB.out.size
      have hcx : ∀ j u, (kv l)[j]? = some u → wr.cell? ⟨b, o + j, none⟩ = some u := fun j u hj => by
        obtain ⟨hj1, rfl⟩ := List.getElem?_eq_some_iff.1 hj
        exact (HB.out.cell (p := ⟨b, o + j, none⟩) hb0).trans (hc1 j hj1)
      have x0 := hcx _ _ i1
      have x1 := hcx _ _ i2
      rw [← Nat.add_assoc] at x1
      have HRN : Hid ((if l[k].1.val < 4 then (Hd.zero, 1) else if g.has l[k].1.val = l[k].2 then (Hd.zero, 13) else appR (g.flip l[k].1.val) (l.drop (k + 1))) = R) := Lib.hid (by rw [← HR.out, List.drop_eq_getElem_cons hlt]; rfl)
      have hc256 := l[k].1.isLt
      generalize l[k].1.val = c at *
      generalize l[k].2 = d at *
      have ek : (k : Int) < l.length := by omega
      have ek0 : (0 : Int) ≤ k := by omega
      clear hc1 hcx i1 i2 hz HR
      have HC := Lib.hid (fun W => has_calls g c hc256 W)
      have HFL := Lib.hid (fun G W => flip_calls g c G hc256 W)
      have hgv : g.v = .agg g.vs := rfl
      rw [hgv] at HC
      go_upto_region 4 with (fail)
      have HH1 := Lib.hid (Kt.row_on (Kt.balloc (Below.refl _ wr) (.cells #[.int .i64 (c : Int), .bool d] 47)) HH.out)
      have HZ1 := Lib.hid (Kt.row_on (Kt.balloc (Below.refl _ wr) (.cells #[.int .i64 (c : Int), .bool d] 47)) HZ.out)
      have HK1 := Lib.hid (heap_alloc_new wr (.cells #[.int .i64 (c : Int), .bool d] 47))
      have HB1 := Lib.hid (Kt.balloc HB.out (.cells #[.int .i64 (c : Int), .bool d] 47))
      have HAZ : Hid (w.heap.size + 1 < wr.heap.size) := Lib.hid (Array.getElem?_eq_some_iff.1 HZ.out).1
      clear HH HZ HB x0 x1
      generalize hW1 : wr.alloc (.cells #[.int .i64 (c : Int), .bool d] 47) = W1 at *
      generalize wr.heap.size = K at *
      clear hW1
      have hh := HH1.out
      unfold Hd.vs at hh
      have p1 := fun i => cell_of_row _ _ i _ _ _ hh
      have p2 := fun i => cell_of_row _ _ i _ _ _ HK1.out
      have hzz := HZ1.out
      rw [zero_vs] at hzz
      have p3 := fun i => cell_of_row _ _ i _ _ _ hzz
      have pf := fun i => frozen_of_row _ _ i _ _ hzz
      clear hh hzz
      by_cases h4 : c < 4
      · have e4 : (c : Int) < 4 := by omega
        rw [if_pos h4] at HRN
        obtain rfl := HRN.out
        clear h4 HRN
        go_wp2_with fail
        exact bodyPost_ret (v := .tuple #[Hd.zero.v, .int .i64 1]) (by simp [Hd.v, zero_vs, p3, pf, results, Try.results11, go_sem]) rfl ⟨rfl, store4 HB1.out (Nat.le_succ _) _ _ _ _⟩
      · have e4 : (4 : Int) ≤ c := by omega
        have e5 : (c : Int) ≤ 255 := by omega
        rw [if_neg h4] at HRN
        clear h4 hc256
        go_upto_region 6 with (fail)
        have HF : W1.drew.heap[w.heap.size]? = some (.cells g.vs 27 (0, 0)) ∧ W1.drew.heap[K]? = some (.cells #[.int .i64 (c : Int), .bool d] 47 (0, 0)) := ⟨HH1.out, HK1.out⟩
        unfold Hd.vs at HF
        unfold Hd.vs at HC
        refine Kt.G.start 7 (fun W => W.heap[w.heap.size]? = some (.cells #[.int .u64 (g.a.toNat : Int), .int .u64 (g.b.toNat : Int), .int .u64 (g.c.toNat : Int), .int .u64 (g.d.toNat : Int)] 27 (0, 0)) ∧ W.heap[K]? = some (.cells #[.int .i64 (c : Int), .bool d] 47 (0, 0))) (by kernel_rfl) HF (fun hHeld => ?_)
        refine Kt.G.take 0 { dst := some 25, op := Op.load 27 (Operand.tmp 2), type := 27, pos := "keys.go:104", after := #[], guard := none } ?_ hHeld rfl (by kernel_rfl) (fun _ _ _ h => h) (by rfl) ?_ ?_
        rotate_left
        · intro w hSw; have q := fun i => cell_of_row _ _ i _ _ _ hSw.1; have q2 := fun i => cell_of_row _ _ i _ _ _ hSw.2; go_simp; try with_reducible rfl
        try simp only [Act.put, List.setIfInBounds_toArray, List.set_cons_zero, List.set_cons_succ]
        refine Kt.G.takeP 1 { dst := some 26, op := Op.fieldAddr 47 (Operand.tmp 7) 0, type := 0, pos := "keys.go:104", after := #[], guard := none } ?_ (fun _ => hHeld) rfl (by kernel_rfl) (fun _ _ _ h => h) (by rfl) ?_ ?_
        rotate_left
        · intro w; go_simp; try with_reducible rfl
        try simp only [Act.put, List.setIfInBounds_toArray, List.set_cons_zero, List.set_cons_succ]
        refine Kt.G.take 2 { dst := some 27, op := Op.load 3 (Operand.tmp 26), type := 3, pos := "keys.go:104", after := #[{ on := 1, ground := Ground.data }], guard := none } ?_ hHeld rfl (by kernel_rfl) (fun _ _ _ h => h) (by rfl) ?_ ?_
        rotate_left
        · intro w hSw; have q := fun i => cell_of_row _ _ i _ _ _ hSw.1; have q2 := fun i => cell_of_row _ _ i _ _ _ hSw.2; go_simp; try with_reducible rfl
        try simp only [Act.put, List.setIfInBounds_toArray, List.set_cons_zero, List.set_cons_succ]
        refine Kt.G.takeP 4 { dst := some 29, op := Op.fieldAddr 47 (Operand.tmp 7) 1, type := 0, pos := "keys.go:104", after := #[], guard := none } ?_ (fun _ => hHeld) rfl (by kernel_rfl) (fun _ _ _ h => h) (by rfl) ?_ ?_
        rotate_left
        · intro w; go_simp; try with_reducible rfl
        try simp only [Act.put, List.setIfInBounds_toArray, List.set_cons_zero, List.set_cons_succ]
        refine Kt.G.take 5 { dst := some 30, op := Op.load 4 (Operand.tmp 29), type := 4, pos := "keys.go:104", after := #[{ on := 4, ground := Ground.data }], guard := none } ?_ hHeld rfl (by kernel_rfl) (fun _ _ _ h => h) (by rfl) ?_ ?_
        rotate_left
        · intro w hSw; have q := fun i => cell_of_row _ _ i _ _ _ hSw.1; have q2 := fun i => cell_of_row _ _ i _ _ _ hSw.2; go_simp; try with_reducible rfl
        try simp only [Act.put, List.setIfInBounds_toArray, List.set_cons_zero, List.set_cons_succ]
        refine Kt.G.one 3 { dst := some 28, op := Op.call { callee := Callee.value (Operand.func 24), args := #[Operand.tmp 25, Operand.tmp 27], argTypes := #[27, 3] }, type := 4, pos := "keys.go:104", after := #[{ on := 0, ground := Ground.data }, { on := 2, ground := Ground.data }], guard := none } rfl (by kernel_rfl) (by rfl) (fun K hK => ?_)
        go_simp
        refine (HC.out _).mono ?_; rintro en w2 ⟨rfl, rfl⟩
        refine hK.out _ _ (fun _ => ⟨Kt.row_on (Kt.balloc (Below.refl _ _) _) hHeld.1, Kt.row_on (Kt.balloc (Below.refl _ _) _) hHeld.2⟩) (fun hHeld => ?_)
        have hHeld := hHeld rfl
        clear hK K
        try simp only [Act.put, List.setIfInBounds_toArray, List.set_cons_zero, List.set_cons_succ]
        refine Kt.G.takeP 6 { dst := some 31, op := Op.binOp BinOp.eql 4 (Operand.tmp 28) (Operand.tmp 30) 4, type := 4, pos := "keys.go:104", after := #[{ on := 3, ground := Ground.data }, { on := 5, ground := Ground.data }], guard := none } ?_ (fun _ => hHeld) rfl (by kernel_rfl) (fun _ _ _ h => h) (by rfl) ?_ ?_
        rotate_left
        · intro w; go_simp; try with_reducible rfl
        try simp only [Act.put, List.setIfInBounds_toArray, List.set_cons_zero, List.set_cons_succ]
        refine Kt.G.one 7 { dst := some 24, op := Op.assign (Operand.tmp 31), type := 4, pos := "keys.go:104", after := #[{ on := 6, ground := Ground.data }, { on := 3, ground := Ground.chain }], guard := none } rfl (by kernel_rfl) (by rfl) (fun K hK => ?_)
        go_simp
        refine hK.out _ _ (Kt.G.late (by kernel_rfl)) (fun _ => ?_)
        clear hK K
        try simp only [Act.put, List.setIfInBounds_toArray, List.set_cons_zero, List.set_cons_succ]
        refine Kt.G.done (by kernel_rfl) (NoPanic.normal ?_) _
        clear hHeld HF p1 p2 p3 pf hgv e4 e5 HC
        have hb2 : Below W1.heap.size W1 (W1.drew.alloc (.cells #[.int .u64 (g.a.toNat : Int), .int .u64 (g.b.toNat : Int), .int .u64 (g.c.toNat : Int), .int .u64 (g.d.toNat : Int)] 27)) := Kt.balloc (Below.refl _ W1).drew _
        have HH2 := Lib.hid (Kt.row_on hb2 HH1.out)
        have HZ2 := Lib.hid (Kt.row_on hb2 HZ1.out)
        have HK2 := Lib.hid (Kt.row_on hb2 HK1.out)
        have HB2 := Lib.hid (Kt.bthen HB1.out hb2)
        clear hb2 HH1 HZ1 HK1 HB1
        change Exit.then _ _ _ _ (W1.drew.alloc (.cells #[.int .u64 (g.a.toNat : Int), .int .u64 (g.b.toNat : Int), .int .u64 (g.c.toNat : Int), .int .u64 (g.d.toNat : Int)] 27))
        generalize W1.drew.alloc (.cells #[.int .u64 (g.a.toNat : Int), .int .u64 (g.b.toNat : Int), .int .u64 (g.c.toNat : Int), .int .u64 (g.d.toNat : Int)] 27) = W2 at *
        have p2 := fun i => cell_of_row _ _ i _ _ _ HK2.out
        have HQ : Hid ((g.has c == d) = decide (g.has c = d)) := Lib.hid rfl
        rw [HQ.out]
        clear HQ hHeld
        by_cases hh : g.has c = d
        · rw [if_pos hh] at HRN
          rw [decide_eq_true hh]
          obtain rfl := HRN.out
          have hzz := HZ2.out
          rw [zero_vs] at hzz
          have p3 := fun i => cell_of_row _ _ i _ _ _ hzz
          have pf := fun i => frozen_of_row _ _ i _ _ hzz
          clear hh hzz HRN HFL HH2
          go_wp2_with fail
          exact bodyPost_ret (v := .tuple #[Hd.zero.v, .int .i64 13]) (by simp [Hd.v, zero_vs, p3, pf, results, Try.results11, go_sem]) rfl ⟨rfl, store4 HB2.out (Nat.le_succ _) _ _ _ _⟩
        · rw [if_neg hh] at HRN
          rw [decide_eq_false hh]
          have HF2 := Lib.hid (HFL.out _ _ HH2.out)
          clear hh HFL HH2
          go_wp2_with fail
          refine HF2.out.mono ?_
          rintro e w3 ⟨rfl, hrow, hb, hoth⟩
          have HH3 := Lib.hid hrow
          have HZ3 := Lib.hid ((hoth _ (by omega)).trans HZ2.out)
          have HB3 := Lib.hid (HB2.out.trans hb)
          clear hrow hb hoth HZ2 HB2 HF2 p2 HK2
          go_wp2_with fail
          go_roundw
          case rel => exact ⟨k + 1, g.flip c, by omega, by have := HM.out; rw [show wrap64 ((k : Int) + 1) = ((k + 1 : Nat) : Int) by unfold wrap64; omega], HH3, HZ3, HRN, HB3⟩
          case measure =>
            rw [show wrap64 ((k : Int) + 1) = ((k + 1 : Nat) : Int) by have := HM.out; unfold wrap64; omega]
            simp [intOf] <;> omega
    · obtain rfl : k = l.length := by omega
      rw [List.drop_of_length_le (Nat.le_refl _)] at HR
      have e : (g, (0 : Int)) = R := HR.out
      subst e
      have hzz := HZ.out
      rw [zero_vs] at hzz
      have hh := HH.out
      unfold Hd.vs at hh
      have p1 := fun i => cell_of_row _ _ i _ _ _ hh
      have p3 := fun i => cell_of_row _ _ i _ _ _ hzz
      have pf := fun i => frozen_of_row _ _ i _ _ hzz
      clear hh hzz
      go_wp2_with fail
      exact bodyPost_ret (v := .tuple #[g.v, .int .i64 0]) (by simp [Hd.v, Hd.vs, zero_vs, p3, pf, results, Try.results11, go_sem]) rfl ⟨rfl, store4 HB.out (Nat.le_succ _) _ _ _ _⟩
end Go.Proofs.Ytfcmmeapinppaaa
