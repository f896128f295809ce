/- slices.Equal at spans, SameArena. -/
import Derived.Test.YtdckakjfplhanaaArnT
import Derived.Test.YtdckakjfplhanaaEq
import Derived.Test.YtdckakjfplhanaaMid
import Derived.Test.YtdckakjfplhanaaSlm
import Derived.Deep.MidRow
namespace Go.Proofs.Ytdckakjfplhanaa
open Go.RowKit Go.Proofs.Ytdckakjfplhanaa.Arn
def spTy : Fr.Ty := .cat 1 (.int .i64) (.cat 1 (.int .i64) .nil)
theorem fit_eqs_calls : Fr.fits Try.prog 12 30 spTy = true := by kernel_rfl
theorem ok_eqs_calls : Fr.eqOk Try.prog 12 30 = true := by kernel_rfl
theorem sz_eqs_calls : (Try.prog.info? 30).map (·.size) = some 2 := by kernel_rfl
theorem neq_eqs_calls (X Y : List Value) (hx : Fr.Cl spTy X) (hy : Fr.Cl spTy Y) (w : World) : (binOp .neq 30 (.agg X.toArray) (.agg Y.toArray)).run Try.prog w = .ok (.bool (!@decide (X = Y) (Classical.propDecidable _))) w := by
  have h := (Fr.eql_agg (P := Try.prog) w 30 spTy 12 (by omega) fit_eqs_calls ok_eqs_calls rfl X.toArray Y.toArray hx hy rfl rfl).2
  rw [h]
  congr 2
  exact congrArg _ (decide_eq_decide.2 ⟨fun e => by simpa using congrArg Array.toList e, fun e => by rw [e]⟩)
set_option maxHeartbeats 1600000 in
theorem eqs_calls_same (u v : Value) (n : Nat) (xs ys : List Value) (w : World) (ha : Kt.Ar w u 2 n xs) (hb : Kt.Ar w v 2 n ys) (hx : ∀ i, i < n → Fr.Cl spTy ((xs.drop (i * 2)).take 2)) (hy : ∀ i, i < n → Fr.Cl spTy ((ys.drop (i * 2)).take 2)) (hm : n ≤ 8796093022208) :
    Calls Try.prog 24 #[u, v] w fun e w' => ∃ b, e = .returned (.bool b) ∧ (b = true ↔ xs = ys) ∧ Below w.heap.size w w' := by
  obtain ⟨A, c, rfl, _, hxa⟩ := ha.form
  obtain ⟨A', c', rfl, _, hxb⟩ := hb.form
  have HLX := Lib.hid ha.len
  have HLY := Lib.hid hb.len
  have HX := Lib.hid hx
  have HY := Lib.hid hy
  have HXA := Lib.hid hxa
  have HXB := Lib.hid hxb
  have HM := Lib.hid hm
  clear ha hb hx hy hxa hxb
  go_enter Try.func24, Try.ntmps24
  go_wp2_with fail
  go_loopw [13] (fun i wr => ∃ k : Nat, k ≤ n ∧ i = .int .i64 k ∧ Hid (xs.take (k * 2) = ys.take (k * 2)) ∧ Hid (Below w.heap.size w wr)) (fun i _ => n - (intOf i).toNat)
  case atStart => exact ⟨0, Nat.zero_le _, rfl, Lib.hid (by simp), Lib.hid (Below.refl _ _)⟩
  case round =>
    obtain ⟨k, hk, rfl, HP, HB⟩ := hrel
    by_cases hlt : k < n
    · obtain ⟨b, o, rfl, hb0, hc1⟩ := HXA.out (by omega)
      obtain ⟨b', o', rfl, hb0', hc1'⟩ := HXB.out (by omega)
      have hz := HB.out.size
      have hmul : k * 2 + 2 ≤ n * 2 := by rw [← Nat.succ_mul]; exact Nat.mul_le_mul_right _ hlt
      obtain ⟨X, hX⟩ : ∃ X, (xs.drop (k * 2)).take 2 = X := ⟨_, rfl⟩
      obtain ⟨Y, hY⟩ : ∃ Y, (ys.drop (k * 2)).take 2 = Y := ⟨_, rfl⟩
      have lX : X.length = 2 := by rw [← hX, List.length_take, List.length_drop, HLX.out]; omega
      have lY : Y.length = 2 := by rw [← hY, List.length_take, List.length_drop, HLY.out]; omega
      have cX := HX.out k hlt
      have cY := HY.out k hlt
      rw [hX] at cX
      rw [hY] at cY
      have RX : wr.rangeAt b (o + k * 2) X := fun j u hj => by
        have hj7 : j < 2 := by have := (List.getElem?_eq_some_iff.1 hj).1; omega
        rw [← hX, List.getElem?_take_of_lt hj7, List.getElem?_drop] at hj
        obtain ⟨hj1, rfl⟩ := List.getElem?_eq_some_iff.1 hj
        rw [Nat.add_assoc]
        exact (HB.out.cell (p := ⟨b, o + (k * 2 + j), none⟩) hb0).trans (hc1 _ hj1)
      have RY : wr.rangeAt b' (o' + k * 2) Y := fun j u hj => by
        have hj7 : j < 2 := by have := (List.getElem?_eq_some_iff.1 hj).1; omega
        rw [← hY, List.getElem?_take_of_lt hj7, List.getElem?_drop] at hj
        obtain ⟨hj1, rfl⟩ := List.getElem?_eq_some_iff.1 hj
        rw [Nat.add_assoc]
        exact (HB.out.cell (p := ⟨b', o' + (k * 2 + j), none⟩) hb0').trans (hc1' _ hj1)
      have NE := neq_eqs_calls X Y cX cY
      have HT : Hid ((xs.take ((k + 1) * 2) = ys.take ((k + 1) * 2) ↔ X = Y) ∧ (xs = ys → X = Y)) := Lib.hid ⟨by
        rw [Nat.succ_mul, List.take_add, List.take_add, HP.out, hX, hY]
        exact ⟨List.append_cancel_left, fun e => by rw [e]⟩, fun e => by rw [← hX, ← hY, e]⟩
      have RXY := Lib.hid (And.intro RX RY)
      have sX : (Try.prog.info? 30).map (·.size) = some X.length := by rw [lX]; exact sz_eqs_calls
      have sY : (Try.prog.info? 30).map (·.size) = some Y.length := by rw [lY]; exact sz_eqs_calls
      have b1 : (0 : Int) ≤ k := by omega
      have b2 : (k : Int) < n := by omega
      clear hX hY cX cY hc1 hc1' RX RY hmul hz lX lY
      obtain ⟨q, hq⟩ : ∃ q, @decide (X = Y) (Classical.propDecidable _) = q := ⟨_, rfl⟩
      rw [hq] at NE
      have HQ : Hid (q = true ↔ X = Y) := Lib.hid (by rw [← hq]; simp)
      clear hq
      go_wp2_with fail
      refine Kt.G.start 8 (fun W => W.rangeAt b (o + k * 2) X ∧ W.rangeAt b' (o' + k * 2) Y) (by kernel_rfl) RXY.out (fun hHeld => ?_)
      refine Kt.G.takeP 0 { dst := some 16, op := Op.move (Operand.tmp 0), type := 22, pos := "slices.go:25", after := #[], guard := none } ?_ (fun _ => hHeld) rfl (by kernel_rfl) (fun _ _ _ h => h) (by rfl) ?_ ?_
      rotate_left
      · intro w; go_simp; try with_reducible rfl
      try simp only [Act.put, List.setIfInBounds_toArray, List.set_cons_zero, List.set_cons_succ]
      refine Kt.G.takeP 1 { dst := some 17, op := Op.move (Operand.tmp 5), type := 3, pos := "slices.go:25", after := #[], guard := none } ?_ (fun _ => hHeld) rfl (by kernel_rfl) (fun _ _ _ h => h) (by rfl) ?_ ?_
      rotate_left
      · intro w; go_simp; try with_reducible rfl
      try simp only [Act.put, List.setIfInBounds_toArray, List.set_cons_zero, List.set_cons_succ]
      refine Kt.G.takeP 2 { dst := some 18, op := Op.indexAddr 22 (Operand.tmp 16) (Operand.tmp 17), type := 0, pos := "slices.go:25", after := #[{ on := 0, ground := Ground.data }, { on := 1, ground := Ground.data }], guard := none } ?_ (fun _ => hHeld) rfl (by kernel_rfl) (fun _ _ _ h => h) (by rfl) ?_ ?_
      rotate_left
      · intro w; go_simp; try with_reducible rfl
      try simp only [Act.put, List.setIfInBounds_toArray, List.set_cons_zero, List.set_cons_succ]
      refine Kt.G.load_mid 3 { dst := some 19, op := Op.load 30 (Operand.tmp 18), type := 30, pos := "slices.go:25", after := #[{ on := 2, ground := Ground.data }], guard := none } 30 (.tmp 18) b (o + k * 2) X _ hHeld rfl (by kernel_rfl) (fun _ _ _ h => h) (by rfl) rfl rfl (fun w hSw => hSw.1) Try.underlying30 rfl sX ?_
      try simp only [Act.put, List.setIfInBounds_toArray, List.set_cons_zero, List.set_cons_succ]
      refine Kt.G.takeP 4 { dst := some 20, op := Op.move (Operand.tmp 1), type := 22, pos := "slices.go:25", after := #[], guard := none } ?_ (fun _ => hHeld) rfl (by kernel_rfl) (fun _ _ _ h => h) (by rfl) ?_ ?_
      rotate_left
      · intro w; go_simp; try with_reducible rfl
      try simp only [Act.put, List.setIfInBounds_toArray, List.set_cons_zero, List.set_cons_succ]
      refine Kt.G.takeP 5 { dst := some 21, op := Op.move (Operand.tmp 5), type := 3, pos := "slices.go:25", after := #[], guard := none } ?_ (fun _ => hHeld) rfl (by kernel_rfl) (fun _ _ _ h => h) (by rfl) ?_ ?_
      rotate_left
      · intro w; go_simp; try with_reducible rfl
      try simp only [Act.put, List.setIfInBounds_toArray, List.set_cons_zero, List.set_cons_succ]
      refine Kt.G.takeP 6 { dst := some 22, op := Op.indexAddr 22 (Operand.tmp 20) (Operand.tmp 21), type := 0, pos := "slices.go:25", after := #[{ on := 4, ground := Ground.data }, { on := 5, ground := Ground.data }], guard := none } ?_ (fun _ => hHeld) rfl (by kernel_rfl) (fun _ _ _ h => h) (by rfl) ?_ ?_
      rotate_left
      · intro w; go_simp; try with_reducible rfl
      try simp only [Act.put, List.setIfInBounds_toArray, List.set_cons_zero, List.set_cons_succ]
      refine Kt.G.load_mid 7 { dst := some 23, op := Op.load 30 (Operand.tmp 22), type := 30, pos := "slices.go:25", after := #[{ on := 6, ground := Ground.data }], guard := none } 30 (.tmp 22) b' (o' + k * 2) Y _ hHeld rfl (by kernel_rfl) (fun _ _ _ h => h) (by rfl) rfl rfl (fun w hSw => hSw.2) Try.underlying30 rfl sY ?_
      try simp only [Act.put, List.setIfInBounds_toArray, List.set_cons_zero, List.set_cons_succ]
      refine Kt.G.one 8 { dst := some 24, op := Op.binOp BinOp.neq 30 (Operand.tmp 19) (Operand.tmp 23) 30, type := 4, pos := "slices.go:25", after := #[{ on := 3, ground := Ground.data }, { on := 7, ground := Ground.data }], guard := none } rfl (by kernel_rfl) (by rfl) (fun K hK => ?_)
      go_simp
      refine hK.out _ _ (Kt.G.late (by kernel_rfl)) (fun _ => ?_)
      clear hK K
      try simp only [Act.put, List.setIfInBounds_toArray, List.set_cons_zero, List.set_cons_succ]
      refine Kt.G.done (by kernel_rfl) (NoPanic.normal ?_) _
      cases q with
      | true =>
        go_wp2_with fail
        go_roundw
        case rel => exact ⟨k + 1, by omega, by go_num, Lib.hid (HT.out.1.2 (HQ.out.1 rfl)), Lib.hid HB.out.drew⟩
        case measure => (simp [intOf] <;> omega)
      | false =>
        go_wp2_with fail
        go_ret
        exact ⟨_, rfl, ⟨fun h => (by cases h), fun e => HQ.out.2 (HT.out.2 e)⟩, HB.out.drew⟩
    · obtain rfl : k = n := by omega
      clear hlt hk
      have HEQ : Hid (xs = ys) := Lib.hid (by
        have h := HP.out
        rwa [List.take_of_length_le (by rw [HLX.out]; exact Nat.le_refl _), List.take_of_length_le (by rw [HLY.out]; exact Nat.le_refl _)] at h)
      go_wp2_with fail
      go_ret
      exact ⟨_, rfl, ⟨fun _ => HEQ.out, fun _ => rfl⟩, HB.out⟩
theorem eqs_calls (u v : Value) (n m : Nat) (xs ys : List Value) (w : World) (ha : Kt.Ar w u 2 n xs) (hb : Kt.Ar w v 2 m ys) (hx : ∀ i, i < n → Fr.Cl spTy ((xs.drop (i * 2)).take 2)) (hy : ∀ i, i < m → Fr.Cl spTy ((ys.drop (i * 2)).take 2)) (hm : n ≤ 8796093022208) :
    Calls Try.prog 24 #[u, v] w fun e w' => ∃ b, e = .returned (.bool b) ∧ (b = true ↔ xs = ys) ∧ Below w.heap.size w w' := by
  by_cases hl : n = m
  · subst hl; exact eqs_calls_same u v n xs ys w ha hb hx hy hm
  · have HNE : Hid (¬ xs = ys) := Lib.hid (fun e => by
      have h1 := ha.len; have h2 := hb.len
      rw [e, h2] at h1
      omega)
    have e1 : ((n : Int) != m) = true := by rw [bne_iff_ne]; omega
    obtain ⟨A, c, rfl, _, _⟩ := ha.form
    obtain ⟨A', c', rfl, _, _⟩ := hb.form
    clear ha hb hx hy hl
    go_enter Try.func24, Try.ntmps24
    go_wp2_with fail
    go_ret
    exact ⟨_, rfl, ⟨fun h => (by cases h), fun e => absurd e HNE.out⟩, Below.refl _ _⟩
theorem spv_cut (l : List (Int × Int)) (i : Nat) (h : i < l.length) : ((spv l).drop (i * 2)).take 2 = [.int .i64 l[i].1, .int .i64 l[i].2] := by
  induction l generalizing i with
  | nil => simp at h
  | cons x l ih =>
    cases i with
    | zero => rfl
    | succ i =>
      have := ih i (by simpa using h)
      rw [show (i + 1) * 2 = i * 2 + 2 by omega]
      exact this
theorem spv_cl (l : List (Int × Int)) (i : Nat) (h : i < l.length) : Fr.Cl spTy (((spv l).drop (i * 2)).take 2) := by
  rw [spv_cut l i h]
  exact ⟨by simp, ⟨_, rfl⟩, by simp, ⟨_, rfl⟩, rfl⟩
theorem spv_inj : ∀ (l m : List (Int × Int)), spv l = spv m → l = m
  | [], [], _ => rfl
  | [], _ :: _, h => by cases h
  | _ :: _, [], h => by cases h
  | x :: l, y :: m, h => by
    obtain ⟨a1, a2⟩ := x
    obtain ⟨b1, b2⟩ := y
    have h2 : Value.int .i64 a1 :: .int .i64 a2 :: spv l = .int .i64 b1 :: .int .i64 b2 :: spv m := h
    simp only [List.cons.injEq, Value.int.injEq, true_and] at h2
    obtain ⟨rfl, rfl, h3⟩ := h2
    rw [spv_inj l m h3]
theorem spans_of {w : World} {B : Nat} : ∀ (els : List (List Value)), (∀ x ∈ els, x.length = 2 ∧ Fr.Rd w B spTy x) → ∃ l : List (Int × Int), l.length = els.length ∧ els.flatten = spv l
  | [], _ => ⟨[], rfl, rfl⟩
  | x :: els, h => by
    obtain ⟨l, h1, h2⟩ := spans_of els (fun y hy => h y (by simp [hy]))
    obtain ⟨hl, _, ⟨a, ha, _⟩, _, ⟨b, hb, _⟩, _⟩ := h x (by simp)
    refine ⟨(a, b) :: l, by simp [h1], ?_⟩
    have e : x = [.int .i64 a, .int .i64 b] := by
      match x, hl with
      | [p, q], _ =>
        simp only [List.take_succ_cons, List.take_zero, List.drop_succ_cons, List.drop_zero, List.cons.injEq, and_true] at ha hb
        rw [ha, hb]
    rw [List.flatten_cons, h2, e]; rfl
theorem ar_spans {w : World} {B : Nat} {v : Value} (r : Fr.RdV w B (.slice 2 spTy) v) : ∃ l : List (Int × Int), l.length ≤ B ∧ Kt.Ar w v 2 l.length (spv l) := by
  obtain ⟨els, h1, h2, h3⟩ := Kt.ar_open r (by omega)
  obtain ⟨l, n1, n2⟩ := spans_of els h1
  rw [← n1, n2] at h3
  exact ⟨l, by omega, h3⟩
set_option maxRecDepth 100000 in
set_option maxHeartbeats 1600000 in
theorem same_calls (s1 s2 : Int) (l m : List (Int × Int)) (U V : Value) (w : World) (hu : Kt.Ar w U 2 l.length (spv l)) (hv : Kt.Ar w V 2 m.length (spv m)) (hm : l.length ≤ 8796093022208) :
    Calls Try.prog 12 #[.agg #[.int .i64 s1, U], .agg #[.int .i64 s2, V]] w fun e w' => ∃ q, e = .returned (.bool q) ∧ (q = true ↔ s1 = s2 ∧ l = m) ∧ Below w.heap.size w w' := by
  obtain ⟨A0, c0, rfl, _, _⟩ := hu.form
  obtain ⟨A1, c1, rfl, _, _⟩ := hv.form
  have hb := Kt.balloc (Kt.balloc (Below.refl _ w) (.cells #[.int .i64 s1, .slice A0 l.length c0] 24)) (.cells #[.int .i64 s2, .slice A1 m.length c1] 24)
  have HB := Lib.hid hb
  have hr2 := heap_alloc_new (w.alloc (.cells #[.int .i64 s1, .slice A0 l.length c0] 24)) (.cells #[.int .i64 s2, .slice A1 m.length c1] 24)
  rw [World.size_alloc] at hr2
  have hr1 := (Below.heap_alloc (w.alloc (.cells #[.int .i64 s1, .slice A0 l.length c0] 24)) (.cells #[.int .i64 s2, .slice A1 m.length c1] 24) w.heap.size (by rw [World.size_alloc]; omega)).trans (heap_alloc_new w _)
  have q1 := fun i => cell_of_row _ _ i _ _ _ hr1
  have q2 := fun i => cell_of_row _ _ i _ _ _ hr2
  have HE := Lib.hid (eqs_calls _ _ l.length m.length (spv l) (spv m) _ (hu.on hb) (hv.on hb) (spv_cl l) (spv_cl m) hm)
  clear hu hv hb hr1 hr2 hm
  by_cases h : s1 = s2
  · subst h
    go_enter Try.func12, Try.ntmps12
    go_wp2_with fail
    refine HE.out.mono ?_
    rintro e w1 ⟨q, rfl, hq, hb1⟩
    have HQ := Lib.hid hq
    have HB1 := Lib.hid (Kt.bthen HB.out hb1)
    clear hq hb1 HE HB q1 q2
    go_wp2_with fail
    go_ret
    exact ⟨_, rfl, ⟨fun h => ⟨trivial, spv_inj _ _ (HQ.out.1 h)⟩, fun h => HQ.out.2 (by rw [h.2])⟩, HB1.out⟩
  · have HN := Lib.hid h
    go_enter Try.func12, Try.ntmps12
    go_wp2_with fail
    go_ret
    exact ⟨_, rfl, ⟨fun h => absurd h (by simp), fun h => absurd h.1 HN.out⟩, HB.out⟩
end Go.Proofs.Ytdckakjfplhanaa
