/- keys.Write walked. -/
import Derived.Test.YtfcmmeapinppaaaKeyO
import Derived.ArgAppend
import Derived.OwnWalkIn
namespace Go.Proofs.Ytfcmmeapinppaaa
open Go.RowKit Go.Shelf
attribute [local go_sem] Oper.semAt_some
theorem infoU8 : (Try.prog.info? 5).map (fun i => (i.zero, i.size, i.bytes)) = some (some (.int .u8 0), 1, 1) := by kernel_rfl
def u8v (l : List UInt8) : List Value := l.map fun b => .int .u8 (b.toNat : Int)
def zero8 : Array Value := #[.int .u8 0, .int .u8 0, .int .u8 0, .int .u8 0, .int .u8 0, .int .u8 0, .int .u8 0, .int .u8 0]
theorem make28 (W : World) : (Instr.makeSlice 23 (.int .i64 2) (.int .i64 8)).run Try.prog W = .ok (.slice (some ⟨W.heap.size, 0, none⟩) 2 8) (W.alloc (.cells zero8 5)) := by
  obtain ⟨i0, hi, hz0, hz1, hz2⟩ := info_parts infoU8
  have hr := run_make (P := Try.prog) W 23 5 i0 (.int .u8 0) Try.underlying23 hi hz0 .i64 .i64 2 8 (by omega) (by omega) (by rw [hz2]; omega) (by omega)
  simp only [hz1] at hr
  rw [show madeCells (Value.int .u8 0).cells (Int.toNat 8 * 1) = zero8 by kernel_rfl] at hr
  exact hr
/-- the row under way: in its first block as long as there is room, then somewhere -/
def Out (n₀ G b4 : Nat) (pre : List (Fin 256)) (W : World) : Prop :=
  ∃ V, Boxed W b4 23 V ∧ (((restB pre).length ≤ 6 ∧ V = .slice (some ⟨G, 0, none⟩) (2 + (restB pre).length) 8 ∧ W.heap[G]? = some (.cells (u8v (modB pre :: 0 :: (restB pre ++ List.replicate (6 - (restB pre).length) 0))).toArray 5 (0, 0))) ∨
    (6 < (restB pre).length ∧ W.ownsRow n₀ 5 1 V (2 + (restB pre).length) (u8v (modB pre :: 0 :: restB pre))))
theorem out_own (n₀ G b4 : Nat) : Own (Out n₀ G b4) := by
  rintro pre X Y row ⟨V, hv, h⟩ hg hrow
  refine ⟨V, hv.kept hg (fun e' => ?_), ?_⟩
  · obtain ⟨o, ho, hc⟩ := hrow b4 e'.symm
    rw [show X.heap[b4]? = _ from hv] at ho; cases ho; cases hc
  · rcases h with ⟨h1, h2, h3⟩ | ⟨h1, hr⟩
    · refine .inl ⟨h1, h2, (hg.block G (Array.getElem?_eq_some_iff.1 h3).1 (fun e' => ?_)).trans h3⟩
      obtain ⟨o, ho, hc⟩ := hrow G e'.symm
      rw [h3] at ho; cases ho; cases hc
    · refine .inr ⟨h1, hr.kept hg ?_⟩
      rcases hr.2 with ⟨rfl, _⟩ | ⟨g, cap, cur, rfl, _, hgb, _⟩
      · exact .inl rfl
      · refine .inr fun e' => ?_
        obtain ⟨o, ho, hc⟩ := hrow g (by simpa [Value.ownBlock] using e'.symm)
        rw [hgb] at ho; cases ho; cases hc
theorem or8_table : ∀ n : Fin 256, ∀ r : Fin 8, bits BinOp.or IntKind.u8 ((UInt8.ofNat n.val).toNat : Int) (2 ^ r.val % 256) = ((UInt8.ofNat n.val ||| UInt8.ofNat (2 ^ r.val)).toNat : Int) := by decide +kernel
theorem or8_is (x : UInt8) (r : Nat) (h : r < 8) : bits BinOp.or IntKind.u8 (x.toNat : Int) (2 ^ r % 256) = ((x ||| UInt8.ofNat (2 ^ r)).toNat : Int) := by
  have := or8_table ⟨x.toNat, x.toNat_lt⟩ ⟨r, h⟩
  dsimp only at this
  rwa [show UInt8.ofNat x.toNat = x by simp] at this
theorem u8v_head (a b : UInt8) (l : List UInt8) : (u8v (a :: l)).toArray.setIfInBounds 0 (.int .u8 (b.toNat : Int)) = (u8v (b :: l)).toArray := by simp [u8v]
theorem u8v_room (a b x : UInt8) (R : List UInt8) (k : Nat) : (u8v (a :: b :: (R ++ List.replicate (k + 1) 0))).toArray.setIfInBounds (2 + R.length) (.int .u8 (x.toNat : Int)) = (u8v (a :: b :: ((R ++ [x]) ++ List.replicate k 0))).toArray := by
  apply Array.toList_inj.1
  rw [Array.toList_setIfInBounds]
  simp only [u8v, List.map_cons, List.map_append, List.replicate_succ]
  rw [show 2 + R.length = R.length + 1 + 1 by omega, List.set_cons_succ, List.set_cons_succ, List.set_append_right _ _ (by simp)]
  simp
theorem own_head {W : World} {n₀ g cap k : Nat} {a : UInt8} {l : List UInt8} (h : W.ownsRow n₀ 5 1 (.slice (some ⟨g, 0, none⟩) k cap) k (u8v (a :: l))) (b : UInt8) :
    (W.setCell ⟨g, 0, none⟩ (.int .u8 (b.toNat : Int))).ownsRow n₀ 5 1 (.slice (some ⟨g, 0, none⟩) k cap) k (u8v (b :: l)) := by
  refine ⟨by have := h.1; simpa [u8v] using this, ?_⟩
  rcases h.2 with ⟨hv, _⟩ | ⟨g', cap', cur, hv, hb, hg, hn, hc, hs, ht⟩
  · cases hv
  · cases hv
    refine .inr ⟨g, cap, cur.setIfInBounds 0 (.int .u8 (b.toNat : Int)), rfl, hb, heap_setCell_same _ _ _ _ _ _ hg, hn, hc, by simpa using hs, ?_⟩
    rw [Array.toList_setIfInBounds, List.take_set, ht]
    simp [u8v]
theorem own_row {β : Type} {k : Nat} (c : Array Value) (t : TypeId) : Own (fun (_ : β) W => W.heap[k]? = some (.cells c t (0, 0))) := fun s W W' row hs hg hr =>
  (hg.block k (Array.getElem?_eq_some_iff.1 hs).1 (fun e => by
    obtain ⟨o, ho, hc⟩ := hr k e.symm
    rw [hs] at ho; cases ho; cases hc)).trans hs
theorem wpListIn_room {F : Fence} {n : Nat} {P : Program} (w : World) {ops : Array Oper} {rest : List Oper} {o : Oper} {a : Act} {Q : Exit → Act → World → Prop}
    (hg : o.guard = none) (s x : Operand) (t : TypeId) (hop : o.op = Op.call { callee := Callee.builtin Builtin.append, args := #[s, x], argTypes := #[t, t] })
    (e : TypeId) (i : TypeInfo) (h1 : P.underlying t = some (.slice e)) (h2 : P.info? e = some i) (h4 : i.size = 1)
    (G k cap : Nat) (cur : Array Value) (hs : a.eval s = .slice (some ⟨G, 0, none⟩) k cap) (hG : w.heap[G]? = some (.cells cur e (0, 0))) (ad : Addr) (c : Nat) (u : Value) (hx : a.eval x = .slice (some ad) 1 c)
    (hc : w.cell? (ad.add 0) = some u) (h1c : u.oneCell' = true) (b1 : k < cap) (b2 : k < cur.size)
    (hK : wpListIn F n P ops Q rest (a.put o.dst (.slice (some ⟨G, 0, none⟩) (k + 1) cap)) (w.setCell ⟨G, k, none⟩ u)) :
    wpListIn F n P ops Q (o :: rest) a w := by
  refine wpListIn_plain hg fun K hK' => ?_
  have hcell : (w.cell? ⟨G, k, none⟩).isSome = true := by
    rw [cell_of_row _ _ _ _ _ _ hG, Array.getElem?_eq_getElem b2]; rfl
  have hrun := run_append_room_cells (P := P) w t o.type e i h1 h2 G 0 k cap ad 1 c [u] (by rw [h4]; rfl) (fun j v hj => by
    match j with
    | 0 => injection hj with hj; subst hj; exact hc
    | j + 1 => simp at hj) (fun v hv => by rw [List.mem_singleton.1 hv]; exact h1c) b1 (fun j hj => by
      obtain rfl : j = 0 := by simpa using hj
      rw [h4, Nat.mul_one, Nat.zero_add, Nat.add_zero]; exact hcell) (fun j hj => frozen_of_row _ _ _ _ _ hG)
  rw [h4, Nat.mul_one, Nat.zero_add] at hrun
  unfold Oper.wpIn
  refine ⟨?_, ?_⟩
  · simp [Oper.about, hop, resolve, Target.leads, Sem.run_pure]
  · rw [Oper.semAt_plain F _ _ (by rw [hop]; intro c hc'; cases hc')]
    simp [execOp, hop, resolve, invoke, builtin, hs, hx, hrun, Result.andThen]
    exact hK' _ _ hK
set_option maxRecDepth 100000 in
set_option maxHeartbeats 2000000 in
theorem write_calls (x : Hd) (w : World) : Calls Try.prog 13 #[x.v] w fun e w' => ((∃ c : Fin 256, c ∈ codesL x 256 ∧ c.val < 4) → e = .returned (.tuple #[.string ⟨#[]⟩, .int .i64 4])) ∧ (x.ok → e = .returned (.tuple #[.string ⟨(wrS (codesL x 256)).toArray⟩, .int .i64 0])) ∧ Below w.heap.size w w' := by
  refine (callsIn_wide (n := 8)).1 ?_
  obtain ⟨i0, hi, hz0, hz1, hz2⟩ := info_parts infoU8
  refine callsIn_of_wp_marks Try.func13 rfl trivial ?_ rfl
  simp only [Try.ntmps13, List.size_toArray, List.length_cons, List.length_nil, Nat.reduceAdd, Nat.reduceSub, Array.replicate_succ, Array.replicate_zero, List.push_toArray, List.append_toArray, List.nil_append, List.cons_append]
  unfold Hd.v Hd.vs
  have MK := make28
  gi_wp2_with fail
  refine ⟨trivial, (codes_in _ x _).mono ?_⟩
  rintro e w1 ⟨rfl, hw1⟩
  clear MK
  obtain ⟨n, hn⟩ : ∃ n, w.heap.size = n := ⟨_, rfl⟩
  have R1 : w1.heap[n + 1]? = some (.cells #[.string ⟨#[]⟩] 9 (0, 0)) := by
    rw [hw1, ← hn]
    have := heap_alloc_new (w.alloc (.cells x.vs 27)) (.cells #[.string ⟨#[]⟩] 9)
    rw [World.size_alloc] at this
    exact (Below.heap_alloc _ _ _ (by simp only [World.size_alloc]; omega)).trans ((Below.heap_alloc _ _ _ (by simp only [World.size_alloc]; omega)).trans ((Below.heap_alloc _ _ _ (by simp only [World.size_alloc]; omega)).trans ((Below.heap_alloc _ _ _ (by simp only [World.size_alloc]; omega)).trans this)))
  have R2 : w1.heap[n + 1 + 1]? = some (.cells #[.int .i64 0] 28 (0, 0)) := by
    rw [hw1, ← hn]
    have := heap_alloc_new ((w.alloc (.cells x.vs 27)).alloc (.cells #[.string ⟨#[]⟩] 9)) (.cells #[.int .i64 0] 28)
    simp only [World.size_alloc] at this
    exact (Below.heap_alloc _ _ _ (by simp only [World.size_alloc]; omega)).trans ((Below.heap_alloc _ _ _ (by simp only [World.size_alloc]; omega)).trans ((Below.heap_alloc _ _ _ (by simp only [World.size_alloc]; omega)).trans this))
  have R3 : w1.heap[n + 1 + 1 + 1]? = some (.cells zero8 5 (0, 0)) := by
    rw [hw1, ← hn]
    have := heap_alloc_new (((w.alloc (.cells x.vs 27)).alloc (.cells #[.string ⟨#[]⟩] 9)).alloc (.cells #[.int .i64 0] 28)) (.cells zero8 5)
    simp only [World.size_alloc] at this
    exact (Below.heap_alloc _ _ _ (by simp only [World.size_alloc]; omega)).trans ((Below.heap_alloc _ _ _ (by simp only [World.size_alloc]; omega)).trans this)
  have R4 : Boxed w1 (n + 1 + 1 + 1 + 1) 23 (.slice (some ⟨n + 1 + 1 + 1, 0, none⟩) 2 8) := by
    rw [hw1, ← hn]
    have := heap_alloc_new ((((w.alloc (.cells x.vs 27)).alloc (.cells #[.string ⟨#[]⟩] 9)).alloc (.cells #[.int .i64 0] 28)).alloc (.cells zero8 5)) (.cells #[.slice (some ⟨w.heap.size + 1 + 1 + 1, 0, none⟩) 2 8] 23)
    simp only [World.size_alloc] at this
    exact (Below.heap_alloc _ _ _ (by simp only [World.size_alloc]; omega)).trans this
  have R5 : w1.heap[n + 1 + 1 + 1 + 1 + 1]? = some (.cells x.vs 27 (0, 0)) := by
    rw [hw1, ← hn]
    have := heap_alloc_new (((((w.alloc (.cells x.vs 27)).alloc (.cells #[.string ⟨#[]⟩] 9)).alloc (.cells #[.int .i64 0] 28)).alloc (.cells zero8 5)).alloc (.cells #[.slice (some ⟨w.heap.size + 1 + 1 + 1, 0, none⟩) 2 8] 23)) (.cells x.vs 27)
    simp only [World.size_alloc] at this
    exact this
  have hz : w1.heap.size = n + 6 := by rw [hw1, ← hn]; simp
  have hB1 : Below n w w1 := by
    rw [hw1, ← hn]
    exact Kt.balloc (Kt.balloc (Kt.balloc (Kt.balloc (Kt.balloc (Kt.balloc (Below.refl _ _) _) _) _) _) _) _
  clear hw1
  gi_wp2_with fail
  have hn8 : 1 ≤ 8 := by omega
  refine wpIn_rangeFunc_ownG (n := 8) rfl hn8 (gf := 27) (lb := #[.pointer (some ⟨n + 1 + 1 + 1 + 1 + 1, 0, none⟩)]) rfl trivial (enters_of Try.func27 (by kernel_rfl) rfl)
    (codes_stops 7 (by omega) (n + 1 + 1 + 1 + 1 + 1) x w1 (by omega) R5) KeepB.trans (fun W l o o' h1 h2 h3 h4 => KeepB.putObj (n := w1.heap.size) (by omega) W l o o' h1 h2 h3 h4) (Below.refl _ _) (fun _ => rfl)
    (fun pre W => (Out n (n + 1 + 1 + 1) (n + 1 + 1 + 1 + 1) pre W ∧ (∀ c ∈ pre, 4 ≤ c.val)) ∧ (W.heap[n + 1]? = some (.cells #[.string ⟨#[]⟩] 9 (0, 0)) ∧ W.heap[n + 1 + 1]? = some (.cells #[.int .i64 0] 28 (0, 0)) ∧ W.heap[n + 1 + 1 + 1 + 1 + 1]? = some (.cells x.vs 27 (0, 0))) ∧ Below n w W)
    (fun c pre W => c = .ret ∧ (∃ y ∈ pre, y.val < 4) ∧ (W.heap[n + 1]? = some (.cells #[.string ⟨#[]⟩] 9 (0, 0)) ∧ W.heap[n + 1 + 1]? = some (.cells #[.int .i64 4] 28 (0, 0))) ∧ Below n w W)
    (OwnFrom.and (OwnFrom.and (Own.from (out_own n (n + 1 + 1 + 1) (n + 1 + 1 + 1 + 1)) _) (fun _ _ _ _ hs _ _ => hs)) (OwnFrom.and (OwnFrom.and (ownFrom_row _ (by omega)) (OwnFrom.and (ownFrom_row _ (by omega)) (ownFrom_row _ (by omega)))) (ownFrom_below (by omega) (by omega))))
    (fun c => OwnFrom.and (fun _ _ _ _ hs _ _ => hs) (OwnFrom.and (fun _ _ _ _ hs _ _ => hs) (OwnFrom.and (OwnFrom.and (ownFrom_row _ (by omega)) (ownFrom_row _ (by omega))) (ownFrom_below (by omega) (by omega)))))
    ⟨⟨⟨_, R4, .inl ⟨by decide, rfl, R3⟩⟩, by simp⟩, ⟨R1, R2, R5⟩, hB1⟩
    (fun c => { tmps := #[x.v, .pointer (some ⟨n, 0, none⟩), .pointer (some ⟨n + 1, 0, none⟩), .pointer (some ⟨n + 1 + 1, 0, none⟩), .pointer (some ⟨n + 1 + 1 + 1 + 1, 0, none⟩), .int .i64 (c.val : Int), .slice (some ⟨n + 1 + 1 + 1, 0, none⟩) 2 8, x.v, .func (.func 27) #[] #[.pointer (some ⟨n + 1 + 1 + 1 + 1 + 1, 0, none⟩)], .int .i64 (c.val : Int), undef, undef, undef, undef, undef, undef, undef, undef, undef, undef, undef, undef, undef, undef, undef, undef, undef, undef, undef, undef, undef, undef, undef, undef, undef, undef, undef, undef, undef, undef, undef, undef, undef, undef], defers := [] }) ?assign ?body ?done ?stop
  case assign =>
    intro l c W K hK
    gi_wp2
    exact hK
  case stop =>
    rintro D c pre W hD hpre ⟨rfl, ⟨y, hy, hy4⟩, ⟨r1, r2⟩, hB⟩ hK
    gi_wp2
    refine ⟨by simp, .inl ⟨_, _, rfl, run_takeDeferred hK, ?_⟩⟩
    have q1 := fun i => (cell_of_row _ _ i _ _ _ ((World.putObj_heap_other (o := .deferred none) (show n + 1 ≠ D by omega)).trans r1))
    have q2 := fun i => (cell_of_row _ _ i _ _ _ ((World.putObj_heap_other (o := .deferred none) (show n + 1 + 1 ≠ D by omega)).trans r2))
    refine ⟨.tuple #[.string ⟨#[]⟩, .int .i64 4], by simp [q1, q2, results, Try.results13, go_sem], fun _ => rfl, fun hok => ?_, by rw [hn]; exact hB.trans (belowK_b (w := w) (by omega) W D _ _ (by omega) hK rfl rfl)⟩
    have h1 := (mem_codes x y 256 (by omega)).1 (hpre.subset hy)
    rw [hok _ hy4] at h1
    exact absurd h1.2 (by simp)
  case body =>
    rintro l pre c W ⟨⟨⟨V, hv, hcase⟩, h4⟩, ⟨r1, r2, r5⟩, hB⟩ hlt
    have hv1 := hv.cell
    have hv2 := hv.frozen
    by_cases c4 : c.val < 4
    · have e4 : (c.val : Int) < 4 := by omega
      have q1 := fun i => cell_of_row _ _ i _ _ _ r1
      have q2 := fun i => cell_of_row _ _ i _ _ _ r2
      have f1 := fun i => frozen_of_row _ _ i _ _ r1
      have f2 := fun i => frozen_of_row _ _ i _ _ r2
      clear hcase
      gi_wp2_with fail
      refine ⟨?_, rfl, ⟨c, by simp, c4⟩, ⟨?_, ?_⟩, ?_⟩
      · exact ((KeepsOthers.setCell _ _ _).trans (KeepsOthers.setCell _ _ _)).from _
      · exact (heap_setCell_other _ _ _ _ (by show n + 1 ≠ n + 1 + 1; omega)).trans (heap_setCell_same _ _ _ _ _ _ r1)
      · exact heap_setCell_same _ _ _ _ _ _ ((heap_setCell_other _ _ _ _ (by show n + 1 + 1 ≠ n + 1; omega)).trans r2)
      · exact (hB.setCell (p := ⟨n + 1, 0, none⟩) (by show n ≤ n + 1; omega) _).setCell (p := ⟨n + 1 + 1, 0, none⟩) (by show n ≤ n + 1 + 1; omega) _
    · have e4 : (4 : Int) ≤ (c.val : Int) := by omega
      by_cases hm : isMod c = true
      · have hm1 : 224 ≤ c.val ∧ c.val ≤ 231 := by simpa [isMod] using hm
        have e5 : (224 : Int) ≤ (c.val : Int) := by omega
        have e6 : (c.val : Int) ≤ 231 := by omega
        rcases hcase with ⟨ha, rfl, hrow⟩ | ⟨hb, hrow⟩
        · have p0 : W.cell? ⟨n + 1 + 1 + 1, 0, none⟩ = some (.int .u8 ((modB pre).toNat : Int)) := by rw [cell_of_row _ _ _ _ _ _ hrow]; rfl
          have pf : W.frozen? ⟨n + 1 + 1 + 1, 0, none⟩ = false := frozen_of_row _ _ _ _ _ hrow
          have hor := or8_is (modB pre) (c.val - 224) (by omega)
          obtain ⟨nb, hnb⟩ : ∃ b, modB pre ||| UInt8.ofNat (2 ^ (c.val - 224)) = b := ⟨_, rfl⟩
          rw [hnb] at hor
          have HNB : Hid (modB (pre ++ [c]) = nb) := Lib.hid (by rw [modB_snoc, if_pos hm, hnb])
          clear hnb
          gi_wp2_with fail
          refine ⟨(KeepsOthers.setCell _ _ _).from _, ⟨heap_setCell_other _ _ _ _ (by show n + 1 + 1 + 1 + 1 + 1 ≠ n + 1 + 1 + 1; omega), by simp⟩, ⟨⟨_, hv.other (by omega) _, .inl ⟨?_, ?_, ?_⟩⟩, ?_⟩, ⟨?_, ?_, ?_⟩, hB.setCell (p := ⟨n + 1 + 1 + 1, 0, none⟩) (by show n ≤ n + 1 + 1 + 1; omega) _⟩
          · rw [restB_snoc, if_pos hm]; exact ha
          · rw [restB_snoc, if_pos hm]
          · rw [restB_snoc, if_pos hm, HNB.out]
            exact (heap_setCell_same _ _ _ _ _ _ hrow).trans (by rw [u8v_head])
          · intro y hy
            rcases List.mem_append.1 hy with hy | hy
            · exact h4 y hy
            · rw [List.mem_singleton.1 hy]; omega
          · exact (heap_setCell_other _ _ _ _ (by show n + 1 ≠ n + 1 + 1 + 1; omega)).trans r1
          · exact (heap_setCell_other _ _ _ _ (by show n + 1 + 1 ≠ n + 1 + 1 + 1; omega)).trans r2
          · exact (heap_setCell_other _ _ _ _ (by show n + 1 + 1 + 1 + 1 + 1 ≠ n + 1 + 1 + 1; omega)).trans r5
        · have hrw := hrow
          rcases hrow.2 with ⟨_, h0⟩ | ⟨g', cap', cur, rfl, hbg, hg, hn', hc', hs', ht'⟩
          · omega
          have hcur : cur[0]? = some (.int .u8 ((modB pre).toNat : Int)) := by
            have : (cur.toList.take ((2 + (restB pre).length) * 1))[0]? = some (.int .u8 ((modB pre).toNat : Int)) := by rw [ht']; rfl
            rw [List.getElem?_take, if_pos (by omega)] at this
            simpa using this
          have p0 : W.cell? ⟨g', 0, none⟩ = some (.int .u8 ((modB pre).toNat : Int)) := by rw [cell_of_row _ _ _ _ _ _ hg]; exact hcur
          have pf : W.frozen? ⟨g', 0, none⟩ = false := frozen_of_row _ _ _ _ _ hg
          have hor := or8_is (modB pre) (c.val - 224) (by omega)
          obtain ⟨nb, hnb⟩ : ∃ b, modB pre ||| UInt8.ofNat (2 ^ (c.val - 224)) = b := ⟨_, rfl⟩
          rw [hnb] at hor
          have HNB : Hid (modB (pre ++ [c]) = nb) := Lib.hid (by rw [modB_snoc, if_pos hm, hnb])
          clear hnb
          have n1 := row_ne r1 (by decide) hrw
          have n2 := row_ne r2 (by decide) hrw
          have n5 := row_ne r5 (by decide) hrw
          have n4 : some (n + 1 + 1 + 1 + 1) ≠ (Value.slice (some ⟨g', 0, none⟩) (2 + (restB pre).length) cap').ownBlock := hv.not_row (by decide) hrw
          have hg8 : (0 : Int) < 2 + ((restB pre).length : Int) := by omega
          clear hcur ht' hs' hc'
          gi_wp2_with fail
          refine ⟨(KeepsOthers.setCell _ _ _).from _, ⟨heap_setCell_other _ _ _ _ (fun e => n5 (by rw [e]; rfl)), by simp⟩, ⟨⟨_, hv.other (fun e => n4 (by rw [e]; rfl)) _, .inr ⟨?_, ?_⟩⟩, ?_⟩, ⟨?_, ?_, ?_⟩, hB.setCell (p := ⟨g', 0, none⟩) hbg _⟩
          · rw [restB_snoc, if_pos hm]; exact hb
          · rw [restB_snoc, if_pos hm, HNB.out]
            exact own_head hrw _
          · intro y hy
            rcases List.mem_append.1 hy with hy | hy
            · exact h4 y hy
            · rw [List.mem_singleton.1 hy]; omega
          · exact (heap_setCell_other _ _ _ _ (fun e => n1 (by rw [e]; rfl))).trans r1
          · exact (heap_setCell_other _ _ _ _ (fun e => n2 (by rw [e]; rfl))).trans r2
          · exact (heap_setCell_other _ _ _ _ (fun e => n5 (by rw [e]; rfl))).trans r5
      · have hm1 : ¬ (224 ≤ c.val ∧ c.val ≤ 231) := by simpa [isMod] using hm
        have hm2 : ((c.val : Int) < 224) ∨ ((224 : Int) ≤ (c.val : Int) ∧ (231 : Int) < (c.val : Int)) := by omega
        have HM4 : Hid (∀ y ∈ pre ++ [c], 4 ≤ y.val) := Lib.hid (by
          intro y hy
          rcases List.mem_append.1 hy with hy | hy
          · exact h4 y hy
          · rw [List.mem_singleton.1 hy]; omega)
        have HRB : Hid (restB (pre ++ [c]) = restB pre ++ [UInt8.ofNat c.val]) := Lib.hid (by rw [restB_snoc, if_neg hm])
        have HMB : Hid (modB (pre ++ [c]) = modB pre) := Lib.hid (by rw [modB_snoc, if_neg hm])
        have HCV : Hid ((UInt8.ofNat c.val).toNat = c.val) := Lib.hid (Kt.u8n _ c.isLt)
        have hpl : (restB pre).length ≤ 256 := by
          have h1 : (restB pre).length ≤ pre.length := by unfold restB; rw [List.length_map]; exact List.length_filter_le _ _
          omega
        clear hm hm1 h4
        rcases hcase with ⟨ha, rfl, hrow⟩ | ⟨hb, hrow⟩
        · by_cases h6 : (restB pre).length < 6
          · have hcl : (u8v (modB pre :: 0 :: (restB pre ++ List.replicate (6 - (restB pre).length) 0))).toArray.size = 8 := by simp [u8v]; omega
            have hnew : (u8v (modB pre :: 0 :: (restB pre ++ List.replicate (6 - (restB pre).length) 0))).toArray.setIfInBounds (2 + (restB pre).length) (.int .u8 (c.val : Int)) = (u8v (modB (pre ++ [c]) :: 0 :: (restB (pre ++ [c]) ++ List.replicate (6 - (restB (pre ++ [c])).length) 0))).toArray := by
              rw [HMB.out, HRB.out, List.length_append]
              obtain ⟨k, hk⟩ : ∃ k, 6 - (restB pre).length = k + 1 := ⟨5 - (restB pre).length, by omega⟩
              have := u8v_room (modB pre) 0 (UInt8.ofNat c.val) (restB pre) k
              rw [HCV.out] at this
              rw [hk, this, show 6 - ((restB pre).length + [UInt8.ofNat c.val].length) = k by simp; omega]
            have hvB2 : Boxed ((W.alloc (.cells #[.int .u8 (c.val : Int)] 5)).setCell ⟨n + 1 + 1 + 1, 2 + (restB pre).length, none⟩ (.int .u8 (c.val : Int))) (n + 1 + 1 + 1 + 1) 23 (.slice (some ⟨n + 1 + 1 + 1, 0, none⟩) (2 + (restB pre).length) 8) :=
              (heap_setCell_other _ _ _ _ (by show n + 1 + 1 + 1 + 1 ≠ n + 1 + 1 + 1; omega)).trans (hv.alloc _)
            have hcB := hvB2.cell
            have hfB := hvB2.frozen
            have hrow1 := Kt.row_on (Kt.balloc (Below.refl _ _) (.cells #[.int .u8 (c.val : Int)] 5)) hrow
            have r11 := Kt.row_on (Kt.balloc (Below.refl _ _) (.cells #[.int .u8 (c.val : Int)] 5)) r1
            have r21 := Kt.row_on (Kt.balloc (Below.refl _ _) (.cells #[.int .u8 (c.val : Int)] 5)) r2
            have r51 := Kt.row_on (Kt.balloc (Below.refl _ _) (.cells #[.int .u8 (c.val : Int)] 5)) r5
            have hB2 : Below n w (W.alloc (.cells #[.int .u8 (c.val : Int)] 5)) := by rw [← hn] at hB ⊢; exact Kt.balloc hB _
            rcases hm2 with e5 | ⟨e5, e6⟩
            all_goals
              gi_wp2_with (gi_at_builtin; refine wpListIn_room _ rfl _ _ 23 rfl 5 i0 Try.underlying23 hi hz1 (n + 1 + 1 + 1) (2 + (restB pre).length) 8 _ rfl (Kt.row_on (Kt.balloc (Below.refl _ _) _) hrow) ⟨W.heap.size, 0, none⟩ 1 (.int .u8 (c.val : Int)) rfl (Kt.new_cells W #[.int .u8 (c.val : Int)] _ 0 _ rfl) rfl (by omega) (by rw [hcl]; omega) ?_)
              refine ⟨((KeepsOthers.alloc _ _).trans ((KeepsOthers.setCell _ _ _).trans (KeepsOthers.setCell _ _ _))).from _, ⟨?_, by simp⟩, ⟨⟨_, hvB2.set _, .inl ⟨?_, ?_, ?_⟩⟩, HM4.out⟩, ⟨?_, ?_, ?_⟩, (hB2.setCell (p := ⟨n + 1 + 1 + 1, 2 + (restB pre).length, none⟩) (by show n ≤ n + 1 + 1 + 1; omega) _).setCell (p := ⟨n + 1 + 1 + 1 + 1, 0, none⟩) (by show n ≤ n + 1 + 1 + 1 + 1; omega) _⟩
              · exact ((heap_setCell_other _ _ _ _ (by show n + 1 + 1 + 1 + 1 + 1 ≠ n + 1 + 1 + 1 + 1; omega)).trans ((heap_setCell_other _ _ _ _ (by show n + 1 + 1 + 1 + 1 + 1 ≠ n + 1 + 1 + 1; omega)).trans r51)).trans r5.symm
              · rw [HRB.out, List.length_append]; show _ + 1 ≤ 6; omega
              · rw [HRB.out, List.length_append]; rfl
              · refine (heap_setCell_other _ _ _ _ (by show n + 1 + 1 + 1 ≠ n + 1 + 1 + 1 + 1; omega)).trans ((heap_setCell_same _ _ _ _ _ _ hrow1).trans ?_)
                rw [hnew]
              · exact (heap_setCell_other _ _ _ _ (by show n + 1 ≠ n + 1 + 1 + 1 + 1; omega)).trans ((heap_setCell_other _ _ _ _ (by show n + 1 ≠ n + 1 + 1 + 1; omega)).trans r11)
              · exact (heap_setCell_other _ _ _ _ (by show n + 1 + 1 ≠ n + 1 + 1 + 1 + 1; omega)).trans ((heap_setCell_other _ _ _ _ (by show n + 1 + 1 ≠ n + 1 + 1 + 1; omega)).trans r21)
              · exact (heap_setCell_other _ _ _ _ (by show n + 1 + 1 + 1 + 1 + 1 ≠ n + 1 + 1 + 1 + 1; omega)).trans ((heap_setCell_other _ _ _ _ (by show n + 1 + 1 + 1 + 1 + 1 ≠ n + 1 + 1 + 1; omega)).trans r51)
          · have h66 : (restB pre).length = 6 := by omega
            have hown : W.ownsRow n 5 1 (.slice (some ⟨n + 1 + 1 + 1, 0, none⟩) (2 + (restB pre).length) 8) (2 + (restB pre).length) (u8v (modB pre :: 0 :: restB pre)) := by
              rw [h66] at hrow ⊢
              have hr0 : restB pre ++ List.replicate (6 - 6) 0 = restB pre := by simp
              rw [hr0] at hrow
              refine ⟨by simp [u8v, h66], .inr ⟨n + 1 + 1 + 1, 8, _, rfl, by omega, hrow, by omega, by unfold maxLen; omega, by simp [u8v, h66], ?_⟩⟩
              rw [List.take_of_length_le (by simp [u8v, h66])]
            have hbig : 6 < (restB (pre ++ [c])).length := by rw [HRB.out, List.length_append]; show 6 < _ + 1; omega
            clear h66 h6 ha hrow
            have hlen1 : (restB (pre ++ [c])).length = (restB pre).length + 1 := by rw [HRB.out, List.length_append]; rfl
            have hcells : u8v (modB (pre ++ [c]) :: 0 :: restB (pre ++ [c])) = u8v (modB pre :: 0 :: restB pre) ++ [.int .u8 (c.val : Int)] := by
              rw [HMB.out, HRB.out]; simp [u8v, HCV.out]
            rcases hm2 with e5 | ⟨e5, e6⟩
            all_goals
              gi_wp2_with (gi_at_builtin; refine wpListIn_append_own _ rfl _ _ 23 rfl n 5 i0 (.int .u8 0) 1 1 Try.underlying23 hi hz0 hz1 hz2 rfl (by decide) _ _ _ rfl (hown.alloc _) ⟨W.heap.size, 0, none⟩ 1 1 [.int .u8 (c.val : Int)] rfl rfl (Kt.new_cells W #[.int .u8 (c.val : Int)] _) (by simp [Value.oneCell']) (by unfold maxLen; omega) (by omega) (by have := hB.size; simp; omega) ?_; intro v' w4 hown' hgrow _; obtain ⟨g', cap', rfl⟩ := ownsRow_succ hown'; obtain ⟨hv1, hv3, hr2, hk2, hb2⟩ := hv.appended (by decide) hown (by rw [← hn]; exact hB.size) (by omega) hown' hgrow; have hc1 := hv1.cell; have hf1 := hv1.frozen)
              have q1 := row_after (u := .slice (some ⟨g', 0, none⟩) (2 + (restB pre).length + 1) cap') r1 (by decide) hown hgrow (show n + 1 ≠ n + 1 + 1 + 1 + 1 by omega)
              have q2 := row_after (u := .slice (some ⟨g', 0, none⟩) (2 + (restB pre).length + 1) cap') r2 (by decide) hown hgrow (show n + 1 + 1 ≠ n + 1 + 1 + 1 + 1 by omega)
              have q5 := row_after (u := .slice (some ⟨g', 0, none⟩) (2 + (restB pre).length + 1) cap') r5 (by decide) hown hgrow (show n + 1 + 1 + 1 + 1 + 1 ≠ n + 1 + 1 + 1 + 1 by omega)
              refine ⟨hk2.from _, ⟨q5.trans r5.symm, hb2.size⟩, ⟨⟨_, hv3, .inr ⟨hbig, ?_⟩⟩, HM4.out⟩, ⟨q1, q2, q5⟩, hB.trans hb2⟩
              rw [hlen1, hcells]
              exact hr2
        · have hown := hrow
          have hbig : 6 < (restB (pre ++ [c])).length := by rw [HRB.out, List.length_append]; show 6 < _ + 1; omega
          have hlen1 : (restB (pre ++ [c])).length = (restB pre).length + 1 := by rw [HRB.out, List.length_append]; rfl
          have hcells : u8v (modB (pre ++ [c]) :: 0 :: restB (pre ++ [c])) = u8v (modB pre :: 0 :: restB pre) ++ [.int .u8 (c.val : Int)] := by
            rw [HMB.out, HRB.out]; simp [u8v, HCV.out]
          rcases hm2 with e5 | ⟨e5, e6⟩
          all_goals
            gi_wp2_with (gi_at_builtin; refine wpListIn_append_own _ rfl _ _ 23 rfl n 5 i0 (.int .u8 0) 1 1 Try.underlying23 hi hz0 hz1 hz2 rfl (by decide) _ _ _ rfl (hown.alloc _) ⟨W.heap.size, 0, none⟩ 1 1 [.int .u8 (c.val : Int)] rfl rfl (Kt.new_cells W #[.int .u8 (c.val : Int)] _) (by simp [Value.oneCell']) (by unfold maxLen; omega) (by omega) (by have := hB.size; simp; omega) ?_; intro v' w4 hown' hgrow _; obtain ⟨g', cap', rfl⟩ := ownsRow_succ hown'; obtain ⟨hv1, hv3, hr2, hk2, hb2⟩ := hv.appended (by decide) hown (by rw [← hn]; exact hB.size) (by omega) hown' hgrow; have hc1 := hv1.cell; have hf1 := hv1.frozen)
            have q1 := row_after (u := .slice (some ⟨g', 0, none⟩) (2 + (restB pre).length + 1) cap') r1 (by decide) hown hgrow (show n + 1 ≠ n + 1 + 1 + 1 + 1 by omega)
            have q2 := row_after (u := .slice (some ⟨g', 0, none⟩) (2 + (restB pre).length + 1) cap') r2 (by decide) hown hgrow (show n + 1 + 1 ≠ n + 1 + 1 + 1 + 1 by omega)
            have q5 := row_after (u := .slice (some ⟨g', 0, none⟩) (2 + (restB pre).length + 1) cap') r5 (by decide) hown hgrow (show n + 1 + 1 + 1 + 1 + 1 ≠ n + 1 + 1 + 1 + 1 by omega)
            refine ⟨hk2.from _, ⟨q5.trans r5.symm, hb2.size⟩, ⟨⟨_, hv3, .inr ⟨hbig, ?_⟩⟩, HM4.out⟩, ⟨q1, q2, q5⟩, hB.trans hb2⟩
            rw [hlen1, hcells]
            exact hr2
  case done =>
    rintro D ys W hD rfl ⟨⟨⟨V, hv, hcase⟩, h4⟩, ⟨r1, r2, r5⟩, hB⟩ hK
    have hv1 := hv.cell
    have hv2 := hv.frozen
    have q1 := fun i => cell_of_row _ _ i _ _ _ r1
    have q2 := fun i => cell_of_row _ _ i _ _ _ r2
    have f1 := fun i => frozen_of_row _ _ i _ _ r1
    have f2 := fun i => frozen_of_row _ _ i _ _ r2
    have HBAD : Hid (¬ ∃ c : Fin 256, c ∈ codesL x 256 ∧ c.val < 4) := Lib.hid (fun ⟨c, hc, h⟩ => by have := h4 c hc; omega)
    have hrl : (restB (codesL x 256)).length ≤ 256 := Nat.le_trans (by unfold restB; rw [List.length_map]; exact List.length_filter_le _ _) (codesL_len x 256)
    obtain ⟨S, hS⟩ : ∃ S, wrS (codesL x 256) = S := ⟨_, rfl⟩
    have hS2 := hS
    unfold wrS at hS2
    generalize restB (codesL x 256) = R at *
    generalize modB (codesL x 256) = M at *
    rcases hcase with ⟨ha, rfl, hrow⟩ | ⟨hb, hrow⟩
    · rw [if_neg (by omega)] at hS2
      have hl8 : S.length = 8 := by rw [← hS]; exact wrS_len _
      rw [hS2] at hrow
      have hcv := Kt.conv_back (P := Try.prog) W 23 9 5 (n + 1 + 1 + 1) 0 8 8 S hl8.symm Try.underlying23 Try.underlying5 Try.underlying9 (fun j hj => by
        rw [Nat.zero_add, cell_of_row _ _ _ _ _ _ hrow]
        simp [u8v, List.getElem?_eq_getElem hj])
      have HS := Lib.hid hS
      have e1 : (2 : Int) + (R.length : Int) ≤ 8 := by omega
      clear hS hS2 hrow hl8 h4
      gi_wp2_with fail
      have hK2 : ((W.setCell ⟨n + 1, 0, none⟩ (.string ⟨S.toArray⟩)).setCell ⟨n + 1 + 1, 0, none⟩ (.int .i64 0)).heap[D]? = some (.deferred (some [])) :=
        (heap_setCell_other _ _ _ _ (by show D ≠ n + 1 + 1; omega)).trans ((heap_setCell_other _ _ _ _ (by show D ≠ n + 1; omega)).trans hK)
      have hB2 : Below n w ((W.setCell ⟨n + 1, 0, none⟩ (.string ⟨S.toArray⟩)).setCell ⟨n + 1 + 1, 0, none⟩ (.int .i64 0)) := (hB.setCell (p := ⟨n + 1, 0, none⟩) (by show n ≤ n + 1; omega) _).setCell (p := ⟨n + 1 + 1, 0, none⟩) (by show n ≤ n + 1 + 1; omega) _
      have t1 : ((W.setCell ⟨n + 1, 0, none⟩ (.string ⟨S.toArray⟩)).setCell ⟨n + 1 + 1, 0, none⟩ (.int .i64 0)).heap[n + 1]? = some (.cells #[.string ⟨S.toArray⟩] 9 (0, 0)) :=
        (heap_setCell_other _ _ _ _ (by show n + 1 ≠ n + 1 + 1; omega)).trans (heap_setCell_same _ _ _ _ _ _ r1)
      have t2 : ((W.setCell ⟨n + 1, 0, none⟩ (.string ⟨S.toArray⟩)).setCell ⟨n + 1 + 1, 0, none⟩ (.int .i64 0)).heap[n + 1 + 1]? = some (.cells #[.int .i64 0] 28 (0, 0)) :=
        heap_setCell_same _ _ _ _ _ _ ((heap_setCell_other _ _ _ _ (by show n + 1 + 1 ≠ n + 1; omega)).trans r2)
      clear q1 q2 f1 f2
      generalize (W.setCell ⟨n + 1, 0, none⟩ (.string ⟨S.toArray⟩)).setCell ⟨n + 1 + 1, 0, none⟩ (.int .i64 0) = W2 at *
      refine ⟨by simp, .inl ⟨_, _, rfl, run_takeDeferred hK2, ?_⟩⟩
      have q1 := fun i => (cell_of_row _ _ i _ _ _ ((World.putObj_heap_other (o := .deferred none) (show n + 1 ≠ D by omega)).trans t1))
      have q2 := fun i => (cell_of_row _ _ i _ _ _ ((World.putObj_heap_other (o := .deferred none) (show n + 1 + 1 ≠ D by omega)).trans t2))
      refine ⟨.tuple #[.string ⟨S.toArray⟩, .int .i64 0], by simp [q1, q2, results, Try.results13, go_sem], fun h => absurd h HBAD.out, fun _ => by rw [HS.out], by rw [hn]; exact hB2.trans (belowK_b (w := w) (by omega) W2 D _ _ (by omega) hK2 rfl rfl)⟩
    · rw [if_pos hb] at hS2
      have HS := Lib.hid hS
      have hrw := hrow
      rcases hrow.2 with ⟨_, h0⟩ | ⟨g', cap', cur, rfl, hbg, hg, hn', hc', hs', ht'⟩
      · omega
      have hcur : ∀ j, j < 2 → cur[j]? = (u8v (M :: 0 :: R))[j]? := fun j hj => by
        rw [← ht', List.getElem?_take, if_pos (by omega), Array.getElem?_toList]
      have hcv := Kt.conv_back (P := Try.prog) W 23 9 5 g' 0 2 cap' [M, 0] rfl Try.underlying23 Try.underlying5 Try.underlying9 (fun j hj => by
        rw [Nat.zero_add, cell_of_row _ _ _ _ _ _ hg, hcur j hj]
        match j, hj with
        | 0, _ => rfl
        | 1, _ => rfl)
      have hap : (⟨#[M, 0]⟩ : ByteArray) ++ ⟨#[1, 1, 1, 1, 1, 1]⟩ = ⟨S.toArray⟩ := by rw [← hS2]; rfl
      have e1 : (8 : Int) < (2 : Int) + (R.length : Int) := by omega
      have e2 : (2 : Int) ≤ (cap' : Int) := by omega
      clear hS hS2 hcur ht' hs' hc' h4
      gi_wp2_with fail
      have hK2 : ((W.setCell ⟨n + 1, 0, none⟩ (.string ⟨S.toArray⟩)).setCell ⟨n + 1 + 1, 0, none⟩ (.int .i64 0)).heap[D]? = some (.deferred (some [])) :=
        (heap_setCell_other _ _ _ _ (by show D ≠ n + 1 + 1; omega)).trans ((heap_setCell_other _ _ _ _ (by show D ≠ n + 1; omega)).trans hK)
      have hB2 : Below n w ((W.setCell ⟨n + 1, 0, none⟩ (.string ⟨S.toArray⟩)).setCell ⟨n + 1 + 1, 0, none⟩ (.int .i64 0)) := (hB.setCell (p := ⟨n + 1, 0, none⟩) (by show n ≤ n + 1; omega) _).setCell (p := ⟨n + 1 + 1, 0, none⟩) (by show n ≤ n + 1 + 1; omega) _
      have t1 : ((W.setCell ⟨n + 1, 0, none⟩ (.string ⟨S.toArray⟩)).setCell ⟨n + 1 + 1, 0, none⟩ (.int .i64 0)).heap[n + 1]? = some (.cells #[.string ⟨S.toArray⟩] 9 (0, 0)) :=
        (heap_setCell_other _ _ _ _ (by show n + 1 ≠ n + 1 + 1; omega)).trans (heap_setCell_same _ _ _ _ _ _ r1)
      have t2 : ((W.setCell ⟨n + 1, 0, none⟩ (.string ⟨S.toArray⟩)).setCell ⟨n + 1 + 1, 0, none⟩ (.int .i64 0)).heap[n + 1 + 1]? = some (.cells #[.int .i64 0] 28 (0, 0)) :=
        heap_setCell_same _ _ _ _ _ _ ((heap_setCell_other _ _ _ _ (by show n + 1 + 1 ≠ n + 1; omega)).trans r2)
      clear q1 q2 f1 f2
      generalize (W.setCell ⟨n + 1, 0, none⟩ (.string ⟨S.toArray⟩)).setCell ⟨n + 1 + 1, 0, none⟩ (.int .i64 0) = W2 at *
      refine ⟨by simp, .inl ⟨_, _, rfl, run_takeDeferred hK2, ?_⟩⟩
      have q1 := fun i => (cell_of_row _ _ i _ _ _ ((World.putObj_heap_other (o := .deferred none) (show n + 1 ≠ D by omega)).trans t1))
      have q2 := fun i => (cell_of_row _ _ i _ _ _ ((World.putObj_heap_other (o := .deferred none) (show n + 1 + 1 ≠ D by omega)).trans t2))
      refine ⟨.tuple #[.string ⟨S.toArray⟩, .int .i64 0], by simp [q1, q2, results, Try.results13, go_sem], fun h => absurd h HBAD.out, fun _ => by rw [HS.out], by rw [hn]; exact hB2.trans (belowK_b (w := w) (by omega) W2 D _ _ (by omega) hK2 rfl rfl)⟩
end Go.Proofs.Ytfcmmeapinppaaa
