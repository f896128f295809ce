/- bulk: statuses written, wraps and statuses read: walked. -/
import Derived.Test.YtafiedhjjnapoaaBlkR
import Derived.BigQuiet
namespace Go.Proofs.Ytafiedhjjnapoaa
open Go.RowKit Go.Proofs.Ytafiedhjjnapoaa.Scs Go.Proofs.Ytafiedhjjnapoaa.Blk
theorem str_ne {a b : ByteArray} (h : a ≠ b) : (a.toList == b.toList) = false := by
  rw [beq_eq_false_iff_ne, Lib.toList_data, Lib.toList_data]
  exact fun e => h (ext_bytes e)
def stV (x : St) : Value := .agg #[.int .i64 x.tag, .int .i64 x.res, .int .i64 x.code]
theorem stat_mid (x : St) (h : OkS x) : usbs ++ le4 x.tag.toNat ++ le4 x.res.toNat ++ (⟨(List.map (fun (n : Int) => UInt8.ofNat n.toNat) [IntKind.u8.wrap x.code]).toArray⟩ : ByteArray) = statT x := by
  have wr : ∀ x : Int, IntKind.u8.wrap x = x % 256 := fun x => by rfl
  have h1 := h.c1; have h2 := h.c2
  have e1 : UInt8.ofNat (IntKind.u8.wrap x.code).toNat = UInt8.ofNat x.code.toNat := by
    rw [wr]; congr 1; omega
  simp only [List.map_cons, List.map_nil, e1]
  rfl
theorem writeW_calls (x : Wr) (w : World) : Calls Try.prog 54 #[wrV x] w fun e w' => e = .returned (.tuple #[.string (writeW x).1, .int .i64 (writeW x).2]) ∧ Below w.heap.size w w' := by
  by_cases h : OkW x
  · have e : writeW x = (wrapT x, 0) := if_pos h
    rw [e]
    cases hi : x.inn
    · exact wrap_good_false x hi h w
    · exact wrap_good_true x hi h w
  · have e : writeW x = (ByteArray.empty, 1) := if_neg h
    rw [e]
    exact wrap_bad x h w
theorem stat_bad (x : St) (h : ¬ OkS x) (w : World) :
    Calls Try.prog 69 #[stV x] w fun e w' => e = .returned (.tuple #[.string ⟨#[]⟩, .int .i64 1]) ∧ Below w.heap.size w w' := by
  have h6 : in32 x.tag = false ∨ (in32 x.tag = true ∧ in32 x.res = false) ∨ (in32 x.tag = true ∧ in32 x.res = true ∧ (x.code < 0 ∨ (0 ≤ x.code ∧ 2 < x.code))) := by
    unfold in32
    simp only [decide_eq_false_iff_not, decide_eq_true_eq]
    by_cases a : 0 ≤ x.tag ∧ x.tag < 4294967296
    · by_cases b : 0 ≤ x.res ∧ x.res < 4294967296
      · refine .inr (.inr ⟨a, b, ?_⟩)
        by_cases c1 : x.code < 0
        · exact .inl c1
        by_cases c2 : 2 < x.code
        · exact .inr (by omega)
        · exact absurd ⟨a.1, a.2, b.1, b.2, by omega, by omega⟩ h
      · exact .inr (.inl ⟨a, b⟩)
    · exact .inl a
  clear h
  unfold stV
  rcases h6 with h1 | ⟨h1, h2⟩ | ⟨h1, h2, h3⟩
  · go_enter Try.func69, Try.ntmps69
    go_wp2_with fail
    refine (is32_calls _ _).mono ?_; rintro e w1 ⟨rfl, rfl⟩
    rw [h1]
    go_wp2_with fail
    refine bodyPost_ret (v := .tuple #[.string ⟨#[]⟩, .int .i64 1]) (by simp [results, Try.results69]) rfl ?_
    exact ⟨rfl, Kt.balloc (Below.refl _ _) _⟩
  · go_enter Try.func69, Try.ntmps69
    go_wp2_with fail
    refine (is32_calls _ _).mono ?_; rintro e w1 ⟨rfl, rfl⟩
    rw [h1]
    go_wp2_with fail
    refine (is32_calls _ _).mono ?_; rintro e w1 ⟨rfl, rfl⟩
    rw [h2]
    go_wp2_with fail
    refine bodyPost_ret (v := .tuple #[.string ⟨#[]⟩, .int .i64 1]) (by simp [results, Try.results69]) rfl ?_
    exact ⟨rfl, Kt.balloc (Below.refl _ _) _⟩
  · rcases h3 with h3 | ⟨h3, h4⟩
    all_goals
      go_enter Try.func69, Try.ntmps69
      go_wp2_with fail
      refine (is32_calls _ _).mono ?_; rintro e w1 ⟨rfl, rfl⟩
      rw [h1]
      go_wp2_with fail
      refine (is32_calls _ _).mono ?_; rintro e w1 ⟨rfl, rfl⟩
      rw [h2]
      go_wp2_with fail
      refine bodyPost_ret (v := .tuple #[.string ⟨#[]⟩, .int .i64 1]) (by simp [results, Try.results69]) rfl ?_
      exact ⟨rfl, Kt.balloc (Below.refl _ _) _⟩
set_option maxRecDepth 100000 in
set_option maxHeartbeats 1600000 in
theorem stat_good (x : St) (h : OkS x) (w0 : World) :
    Calls Try.prog 69 #[stV x] w0 fun e w' => e = .returned (.tuple #[.string (statT x), .int .i64 0]) ∧ Below w0.heap.size w0 w' := by
  have HO := Lib.hid h
  obtain ⟨B2, hB2⟩ : ∃ B, le4 x.tag.toNat = B := ⟨_, rfl⟩
  obtain ⟨B6, hB6⟩ : ∃ B, le4 x.res.toNat = B := ⟨_, rfl⟩
  have sB2 : B2.size = 4 := by rw [← hB2]; rfl
  have sB6 : B6.size = 4 := by rw [← hB6]; rfl
  have HL : Hid (∀ W, Calls Try.prog 62 #[.int .i64 x.tag] W fun e w' => e = .returned (.string B2) ∧ Below W.heap.size W w') := Lib.hid fun W => by
    have h1 := h.t1; have h2 := h.t2
    have := blong_calls x.tag.toNat (by omega) W
    rw [show ((x.tag.toNat : Nat) : Int) = x.tag by omega, hB2] at this
    exact this
  have HM : Hid (∀ W, Calls Try.prog 62 #[.int .i64 x.res] W fun e w' => e = .returned (.string B6) ∧ Below W.heap.size W w') := Lib.hid fun W => by
    have h1 := h.r1; have h2 := h.r2
    have := blong_calls x.res.toNat (by omega) W
    rw [show ((x.res.toNat : Nat) : Int) = x.res by omega, hB6] at this
    exact this
  have g1 : in32 x.tag = true := decide_eq_true ⟨h.t1, h.t2⟩
  have g2 : in32 x.res = true := decide_eq_true ⟨h.r1, h.r2⟩
  have g3 : ¬ x.code < 0 := by have := h.c1; omega
  have g4 : ¬ 2 < x.code := by have := h.c2; omega
  clear h
  unfold stV
  go_enter Try.func69, Try.ntmps69
  go_wp2_with fail
  refine (is32_calls _ _).mono ?_; rintro e w1 ⟨rfl, rfl⟩
  rw [g1]
  go_wp2_with fail
  refine (is32_calls _ _).mono ?_; rintro e w1 ⟨rfl, rfl⟩
  rw [g2]
  go_upto_region 3 with (fail)
  clear g1 g2 g3 g4
  -- REGION WS
  obtain ⟨B11, hB11⟩ : ∃ B : ByteArray, (⟨(List.map (fun (n : Int) => UInt8.ofNat n.toNat) [IntKind.u8.wrap x.code]).toArray⟩ : ByteArray) = B := ⟨_, rfl⟩
  have sB11 : B11.size = 1 := by rw [← hB11]; rfl
  have HE : Hid ((⟨#[85, 83, 66, 83]⟩ : ByteArray) ++ B2 ++ B6 ++ B11 = statT x) := Lib.hid (by rw [← hB11, ← hB2, ← hB6]; exact stat_mid x HO.out)
  have HF := ((Kt.Fb.nil w0 (Kt.balloc (Below.refl _ w0) _)).add (heap_alloc_new w0 (.cells #[.int .i64 x.tag, .int .i64 x.res, .int .i64 x.code] 107))).drew
  refine Kt.G.start 14 (Kt.Fb w0 [(w0.heap.size, #[.int .i64 x.tag, .int .i64 x.res, .int .i64 x.code], 107)]) (by kernel_rfl) HF (fun hHeld => ?_)
  clear HF
  generalize (w0.alloc (.cells #[.int .i64 x.tag, .int .i64 x.res, .int .i64 x.code] 107)).drew = x0 at *
  refine Kt.G.takeP 0 { dst := some 24, op := Op.fieldAddr 107 (Operand.tmp 1) 0, type := 0, pos := "bulk.go:49", after := #[], guard := none } ?_ (fun _ => hHeld) rfl (by kernel_rfl) (fun _ _ _ h => h) (by rfl) ?_ ?_
  rotate_left
  · intro w; go_simp; try with_reducible rfl
  try simp only [Act.put, List.setIfInBounds_toArray, List.set_cons_zero, List.set_cons_succ]
  refine Kt.G.take 1 { dst := some 25, op := Op.load 3 (Operand.tmp 24), type := 3, pos := "bulk.go:49", after := #[{ on := 0, ground := Ground.data }], guard := none } ?_ hHeld rfl (by kernel_rfl) (fun _ _ _ h => h) (by rfl) ?_ ?_
  rotate_left
  · intro w hSw; have r0 := hSw.row (w0.heap.size, #[.int .i64 x.tag, .int .i64 x.res, .int .i64 x.code], 107) (by simp); have c0 := fun i => cell_of_row _ _ i _ _ _ r0; dsimp only at *; go_simp; try with_reducible rfl
  try simp only [Act.put, List.setIfInBounds_toArray, List.set_cons_zero, List.set_cons_succ]
  refine Kt.G.takeP 4 { dst := some 28, op := Op.fieldAddr 107 (Operand.tmp 1) 1, type := 0, pos := "bulk.go:49", after := #[], guard := none } ?_ (fun _ => hHeld) rfl (by kernel_rfl) (fun _ _ _ h => h) (by rfl) ?_ ?_
  rotate_left
  · intro w; go_simp; try with_reducible rfl
  try simp only [Act.put, List.setIfInBounds_toArray, List.set_cons_zero, List.set_cons_succ]
  refine Kt.G.take 5 { dst := some 29, op := Op.load 3 (Operand.tmp 28), type := 3, pos := "bulk.go:49", after := #[{ on := 4, ground := Ground.data }], guard := none } ?_ hHeld rfl (by kernel_rfl) (fun _ _ _ h => h) (by rfl) ?_ ?_
  rotate_left
  · intro w hSw; have r0 := hSw.row (w0.heap.size, #[.int .i64 x.tag, .int .i64 x.res, .int .i64 x.code], 107) (by simp); have c0 := fun i => cell_of_row _ _ i _ _ _ r0; dsimp only at *; go_simp; try with_reducible rfl
  try simp only [Act.put, List.setIfInBounds_toArray, List.set_cons_zero, List.set_cons_succ]
  refine Kt.G.takeP 8 { dst := some 32, op := Op.fieldAddr 107 (Operand.tmp 1) 2, type := 0, pos := "bulk.go:49", after := #[], guard := none } ?_ (fun _ => hHeld) rfl (by kernel_rfl) (fun _ _ _ h => h) (by rfl) ?_ ?_
  rotate_left
  · intro w; go_simp; try with_reducible rfl
  try simp only [Act.put, List.setIfInBounds_toArray, List.set_cons_zero, List.set_cons_succ]
  refine Kt.G.take 9 { dst := some 33, op := Op.load 3 (Operand.tmp 32), type := 3, pos := "bulk.go:49", after := #[{ on := 8, ground := Ground.data }], guard := none } ?_ hHeld rfl (by kernel_rfl) (fun _ _ _ h => h) (by rfl) ?_ ?_
  rotate_left
  · intro w hSw; have r0 := hSw.row (w0.heap.size, #[.int .i64 x.tag, .int .i64 x.res, .int .i64 x.code], 107) (by simp); have c0 := fun i => cell_of_row _ _ i _ _ _ r0; dsimp only at *; go_simp; try with_reducible rfl
  try simp only [Act.put, List.setIfInBounds_toArray, List.set_cons_zero, List.set_cons_succ]
  refine Kt.G.takeP 10 { dst := some 34, op := Op.convert 3 5 (Operand.tmp 33), type := 5, pos := "bulk.go:49", after := #[{ on := 9, ground := Ground.data }], guard := none } ?_ (fun _ => hHeld) rfl (by kernel_rfl) (fun _ _ _ h => h) (by rfl) ?_ ?_
  rotate_left
  · intro w; go_simp; try with_reducible rfl
  try simp only [Act.put, List.setIfInBounds_toArray, List.set_cons_zero, List.set_cons_succ]
  refine Kt.G.two 2 11 { dst := some 26, op := Op.call { callee := Callee.value (Operand.func 62), args := #[Operand.tmp 25], argTypes := #[3] }, type := 9, pos := "bulk.go:49", after := #[{ on := 1, ground := Ground.data }], guard := none } { dst := some 35, op := Op.buildSlice 56 1 #[(0, Operand.tmp 34)], type := 56, pos := "bulk.go:49", after := #[{ on := 10, ground := Ground.data }], guard := none } rfl rfl (by kernel_rfl) (by rfl) (by rfl) (fun K hK => ?_) (fun K hK => ?_)
  · go_simp
    refine (HL.out _).mono ?_; rintro en x2 ⟨rfl, hb2⟩
    refine hK.out _ _ (fun _ => hHeld.on hb2) (fun hHeld => ?_)
    have hHeld := hHeld rfl
    clear hK K
    try simp only [Act.put, List.setIfInBounds_toArray, List.set_cons_zero, List.set_cons_succ]
    clear hb2
    refine Kt.G.takeP 3 { dst := some 27, op := Op.binOp BinOp.add 9 (Operand.const (Value.string { data := #[85, 83, 66, 83] })) (Operand.tmp 26) 9, type := 9, pos := "bulk.go:49", after := #[{ on := 2, ground := Ground.data }], guard := none } ?_ (fun _ => hHeld) rfl (by kernel_rfl) (fun _ _ _ h => h) (by rfl) ?_ ?_
    rotate_left
    · intro w; go_simp; try with_reducible rfl
    try simp only [Act.put, List.setIfInBounds_toArray, List.set_cons_zero, List.set_cons_succ]
    refine Kt.G.two 6 11 { dst := some 30, op := Op.call { callee := Callee.value (Operand.func 62), args := #[Operand.tmp 29], argTypes := #[3] }, type := 9, pos := "bulk.go:49", after := #[{ on := 5, ground := Ground.data }, { on := 2, ground := Ground.chain }], guard := none } { dst := some 35, op := Op.buildSlice 56 1 #[(0, Operand.tmp 34)], type := 56, pos := "bulk.go:49", after := #[{ on := 10, ground := Ground.data }], guard := none } rfl rfl (by kernel_rfl) (by rfl) (by rfl) (fun K hK => ?_) (fun K hK => ?_)
    · go_simp
      refine (HM.out _).mono ?_; rintro en x6 ⟨rfl, hb6⟩
      refine hK.out _ _ (fun _ => hHeld.on hb6) (fun hHeld => ?_)
      have hHeld := hHeld rfl
      clear hK K
      try simp only [Act.put, List.setIfInBounds_toArray, List.set_cons_zero, List.set_cons_succ]
      clear hb6
      refine Kt.G.takeP 7 { dst := some 31, op := Op.binOp BinOp.add 9 (Operand.tmp 27) (Operand.tmp 30) 9, type := 9, pos := "bulk.go:49", after := #[{ on := 3, ground := Ground.data }, { on := 6, ground := Ground.data }], guard := none } ?_ (fun _ => hHeld) rfl (by kernel_rfl) (fun _ _ _ h => h) (by rfl) ?_ ?_
      rotate_left
      · intro w; go_simp; try with_reducible rfl
      try simp only [Act.put, List.setIfInBounds_toArray, List.set_cons_zero, List.set_cons_succ]
      refine Kt.G.one 11 { dst := some 35, op := Op.buildSlice 56 1 #[(0, Operand.tmp 34)], type := 56, pos := "bulk.go:49", after := #[{ on := 10, ground := Ground.data }], guard := none } rfl (by kernel_rfl) (by rfl) (fun K hK => ?_)
      have hz11 := hHeld.bel.size
      go_simp
      refine hK.out _ _ (fun _ => hHeld.alloc _) (fun hHeld => ?_)
      have hHeld := hHeld rfl
      clear hK K
      try simp only [Act.put, List.setIfInBounds_toArray, List.set_cons_zero, List.set_cons_succ]
      have hHeld := hHeld.add (heap_alloc_new x6 (.cells #[.int .u8 (IntKind.u8.wrap x.code)] 5))
      generalize hK11 : x6.heap.size = K11 at *
      clear hK11
      generalize x6.alloc (.cells #[.int .u8 (IntKind.u8.wrap x.code)] 5) = y11 at *
      refine Kt.G.more (F' := Kt.Fb w0 ((K11, #[.int .u8 (IntKind.u8.wrap x.code)], 5) :: [(w0.heap.size, #[.int .i64 x.tag, .int .i64 x.res, .int .i64 x.code], 107)])) (fun _ h => Kt.Fb.less h) _ _ _ _ ?_
      refine Kt.G.take 12 { dst := some 36, op := Op.convert 56 9 (Operand.tmp 35), type := 9, pos := "bulk.go:49", after := #[{ on := 11, ground := Ground.data }], guard := none } (.string B11) hHeld rfl (by kernel_rfl) (fun _ _ _ h => h) (by rfl) ?_ ?_
      · intro w hSw; have hcv := Kt.cv_row [IntKind.u8.wrap x.code] #[.int .u8 (IntKind.u8.wrap x.code)] 1 K11 rfl rfl (hSw.row (K11, #[.int .u8 (IntKind.u8.wrap x.code)], 5) (by simp)); rw [hB11] at hcv; go_simp; try with_reducible rfl
      try simp only [Act.put, List.setIfInBounds_toArray, List.set_cons_zero, List.set_cons_succ]
      refine Kt.G.takeP 13 { dst := some 37, op := Op.binOp BinOp.add 9 (Operand.tmp 31) (Operand.tmp 36) 9, type := 9, pos := "bulk.go:49", after := #[{ on := 7, ground := Ground.data }, { on := 12, ground := Ground.data }], guard := none } ?_ (fun _ => hHeld) rfl (by kernel_rfl) (fun _ _ _ h => h) (by rfl) ?_ ?_
      rotate_left
      · intro w; go_simp; try with_reducible rfl
      try simp only [Act.put, List.setIfInBounds_toArray, List.set_cons_zero, List.set_cons_succ]
      refine Kt.G.one 14 { dst := some 2, op := Op.assign (Operand.tmp 37), type := 9, pos := "bulk.go:49", after := #[{ on := 13, ground := Ground.data }, { on := 6, ground := Ground.chain }, { on := 0, ground := Ground.phase }, { on := 1, ground := Ground.phase }, { on := 2, ground := Ground.phase }, { on := 3, ground := Ground.phase }, { on := 4, ground := Ground.phase }, { on := 5, ground := Ground.phase }, { on := 6, ground := Ground.phase }, { on := 7, ground := Ground.phase }, { on := 8, ground := Ground.phase }, { on := 9, ground := Ground.phase }, { on := 10, ground := Ground.phase }, { on := 11, ground := Ground.phase }, { on := 12, ground := Ground.phase }, { on := 13, ground := Ground.phase }], guard := none } rfl (by kernel_rfl) (by rfl) (fun K hK => ?_)
      go_simp
      refine hK.out _ _ (Kt.G.late (by kernel_rfl)) (fun _ => ?_)
      clear hK K
      try simp only [Act.put, List.setIfInBounds_toArray, List.set_cons_zero, List.set_cons_succ]
      refine Kt.G.takeP 15 { dst := some 3, op := Op.assign (Operand.const (Value.int IntKind.i64 0)), type := 28, pos := "bulk.go:49", after := #[{ on := 14, ground := Ground.chain }, { on := 0, ground := Ground.phase }, { on := 1, ground := Ground.phase }, { on := 2, ground := Ground.phase }, { on := 3, ground := Ground.phase }, { on := 4, ground := Ground.phase }, { on := 5, ground := Ground.phase }, { on := 6, ground := Ground.phase }, { on := 7, ground := Ground.phase }, { on := 8, ground := Ground.phase }, { on := 9, ground := Ground.phase }, { on := 10, ground := Ground.phase }, { on := 11, ground := Ground.phase }, { on := 12, ground := Ground.phase }, { on := 13, ground := Ground.phase }, { on := 14, ground := Ground.phase }], guard := none } ?_ (Kt.G.late (by kernel_rfl)) rfl (by kernel_rfl) (fun _ _ _ h => h) (by rfl) ?_ ?_
      rotate_left
      · intro w; go_simp; try with_reducible rfl
      try simp only [Act.put, List.setIfInBounds_toArray, List.set_cons_zero, List.set_cons_succ]
      refine Kt.G.done (by kernel_rfl) (NoPanic.normal ?_) _
      go_wp2_with fail
      refine bodyPost_ret (v := .tuple #[.string ((⟨#[85, 83, 66, 83]⟩ : ByteArray) ++ B2 ++ B6 ++ B11), .int .i64 0]) (by simp [results, Try.results69]) rfl ?_
      exact ⟨by rw [HE.out], hHeld.bel⟩
    · have hz11 := hHeld.bel.size
      go_simp
      refine hK.out _ _ (fun _ => hHeld.alloc _) (fun hHeld => ?_)
      have hHeld := hHeld rfl
      clear hK K
      try simp only [Act.put, List.setIfInBounds_toArray, List.set_cons_zero, List.set_cons_succ]
      have hHeld := hHeld.add (heap_alloc_new x2 (.cells #[.int .u8 (IntKind.u8.wrap x.code)] 5))
      generalize hK11 : x2.heap.size = K11 at *
      clear hK11
      generalize x2.alloc (.cells #[.int .u8 (IntKind.u8.wrap x.code)] 5) = y11 at *
      refine Kt.G.more (F' := Kt.Fb w0 ((K11, #[.int .u8 (IntKind.u8.wrap x.code)], 5) :: [(w0.heap.size, #[.int .i64 x.tag, .int .i64 x.res, .int .i64 x.code], 107)])) (fun _ h => Kt.Fb.less h) _ _ _ _ ?_
      refine Kt.G.take 12 { dst := some 36, op := Op.convert 56 9 (Operand.tmp 35), type := 9, pos := "bulk.go:49", after := #[{ on := 11, ground := Ground.data }], guard := none } (.string B11) hHeld rfl (by kernel_rfl) (fun _ _ _ h => h) (by rfl) ?_ ?_
      · intro w hSw; have hcv := Kt.cv_row [IntKind.u8.wrap x.code] #[.int .u8 (IntKind.u8.wrap x.code)] 1 K11 rfl rfl (hSw.row (K11, #[.int .u8 (IntKind.u8.wrap x.code)], 5) (by simp)); rw [hB11] at hcv; go_simp; try with_reducible rfl
      try simp only [Act.put, List.setIfInBounds_toArray, List.set_cons_zero, List.set_cons_succ]
      refine Kt.G.one 6 { dst := some 30, op := Op.call { callee := Callee.value (Operand.func 62), args := #[Operand.tmp 29], argTypes := #[3] }, type := 9, pos := "bulk.go:49", after := #[{ on := 5, ground := Ground.data }, { on := 2, ground := Ground.chain }], guard := none } rfl (by kernel_rfl) (by rfl) (fun K hK => ?_)
      go_simp
      refine (HM.out _).mono ?_; rintro en x6 ⟨rfl, hb6⟩
      refine hK.out _ _ (fun _ => hHeld.on hb6) (fun hHeld => ?_)
      have hHeld := hHeld rfl
      clear hK K
      try simp only [Act.put, List.setIfInBounds_toArray, List.set_cons_zero, List.set_cons_succ]
      clear hb6
      refine Kt.G.takeP 7 { dst := some 31, op := Op.binOp BinOp.add 9 (Operand.tmp 27) (Operand.tmp 30) 9, type := 9, pos := "bulk.go:49", after := #[{ on := 3, ground := Ground.data }, { on := 6, ground := Ground.data }], guard := none } ?_ (fun _ => hHeld) rfl (by kernel_rfl) (fun _ _ _ h => h) (by rfl) ?_ ?_
      rotate_left
      · intro w; go_simp; try with_reducible rfl
      try simp only [Act.put, List.setIfInBounds_toArray, List.set_cons_zero, List.set_cons_succ]
      refine Kt.G.takeP 13 { dst := some 37, op := Op.binOp BinOp.add 9 (Operand.tmp 31) (Operand.tmp 36) 9, type := 9, pos := "bulk.go:49", after := #[{ on := 7, ground := Ground.data }, { on := 12, ground := Ground.data }], guard := none } ?_ (fun _ => hHeld) rfl (by kernel_rfl) (fun _ _ _ h => h) (by rfl) ?_ ?_
      rotate_left
      · intro w; go_simp; try with_reducible rfl
      try simp only [Act.put, List.setIfInBounds_toArray, List.set_cons_zero, List.set_cons_succ]
      refine Kt.G.one 14 { dst := some 2, op := Op.assign (Operand.tmp 37), type := 9, pos := "bulk.go:49", after := #[{ on := 13, ground := Ground.data }, { on := 6, ground := Ground.chain }, { on := 0, ground := Ground.phase }, { on := 1, ground := Ground.phase }, { on := 2, ground := Ground.phase }, { on := 3, ground := Ground.phase }, { on := 4, ground := Ground.phase }, { on := 5, ground := Ground.phase }, { on := 6, ground := Ground.phase }, { on := 7, ground := Ground.phase }, { on := 8, ground := Ground.phase }, { on := 9, ground := Ground.phase }, { on := 10, ground := Ground.phase }, { on := 11, ground := Ground.phase }, { on := 12, ground := Ground.phase }, { on := 13, ground := Ground.phase }], guard := none } rfl (by kernel_rfl) (by rfl) (fun K hK => ?_)
      go_simp
      refine hK.out _ _ (Kt.G.late (by kernel_rfl)) (fun _ => ?_)
      clear hK K
      try simp only [Act.put, List.setIfInBounds_toArray, List.set_cons_zero, List.set_cons_succ]
      refine Kt.G.takeP 15 { dst := some 3, op := Op.assign (Operand.const (Value.int IntKind.i64 0)), type := 28, pos := "bulk.go:49", after := #[{ on := 14, ground := Ground.chain }, { on := 0, ground := Ground.phase }, { on := 1, ground := Ground.phase }, { on := 2, ground := Ground.phase }, { on := 3, ground := Ground.phase }, { on := 4, ground := Ground.phase }, { on := 5, ground := Ground.phase }, { on := 6, ground := Ground.phase }, { on := 7, ground := Ground.phase }, { on := 8, ground := Ground.phase }, { on := 9, ground := Ground.phase }, { on := 10, ground := Ground.phase }, { on := 11, ground := Ground.phase }, { on := 12, ground := Ground.phase }, { on := 13, ground := Ground.phase }, { on := 14, ground := Ground.phase }], guard := none } ?_ (Kt.G.late (by kernel_rfl)) rfl (by kernel_rfl) (fun _ _ _ h => h) (by rfl) ?_ ?_
      rotate_left
      · intro w; go_simp; try with_reducible rfl
      try simp only [Act.put, List.setIfInBounds_toArray, List.set_cons_zero, List.set_cons_succ]
      refine Kt.G.done (by kernel_rfl) (NoPanic.normal ?_) _
      go_wp2_with fail
      refine bodyPost_ret (v := .tuple #[.string ((⟨#[85, 83, 66, 83]⟩ : ByteArray) ++ B2 ++ B6 ++ B11), .int .i64 0]) (by simp [results, Try.results69]) rfl ?_
      exact ⟨by rw [HE.out], hHeld.bel⟩
  · have hz11 := hHeld.bel.size
    go_simp
    refine hK.out _ _ (fun _ => hHeld.alloc _) (fun hHeld => ?_)
    have hHeld := hHeld rfl
    clear hK K
    try simp only [Act.put, List.setIfInBounds_toArray, List.set_cons_zero, List.set_cons_succ]
    have hHeld := hHeld.add (heap_alloc_new x0 (.cells #[.int .u8 (IntKind.u8.wrap x.code)] 5))
    generalize hK11 : x0.heap.size = K11 at *
    clear hK11
    generalize x0.alloc (.cells #[.int .u8 (IntKind.u8.wrap x.code)] 5) = y11 at *
    refine Kt.G.more (F' := Kt.Fb w0 ((K11, #[.int .u8 (IntKind.u8.wrap x.code)], 5) :: [(w0.heap.size, #[.int .i64 x.tag, .int .i64 x.res, .int .i64 x.code], 107)])) (fun _ h => Kt.Fb.less h) _ _ _ _ ?_
    refine Kt.G.take 12 { dst := some 36, op := Op.convert 56 9 (Operand.tmp 35), type := 9, pos := "bulk.go:49", after := #[{ on := 11, ground := Ground.data }], guard := none } (.string B11) hHeld rfl (by kernel_rfl) (fun _ _ _ h => h) (by rfl) ?_ ?_
    · intro w hSw; have hcv := Kt.cv_row [IntKind.u8.wrap x.code] #[.int .u8 (IntKind.u8.wrap x.code)] 1 K11 rfl rfl (hSw.row (K11, #[.int .u8 (IntKind.u8.wrap x.code)], 5) (by simp)); rw [hB11] at hcv; go_simp; try with_reducible rfl
    try simp only [Act.put, List.setIfInBounds_toArray, List.set_cons_zero, List.set_cons_succ]
    refine Kt.G.one 2 { dst := some 26, op := Op.call { callee := Callee.value (Operand.func 62), args := #[Operand.tmp 25], argTypes := #[3] }, type := 9, pos := "bulk.go:49", after := #[{ on := 1, ground := Ground.data }], guard := none } rfl (by kernel_rfl) (by rfl) (fun K hK => ?_)
    go_simp
    refine (HL.out _).mono ?_; rintro en x2 ⟨rfl, hb2⟩
    refine hK.out _ _ (fun _ => hHeld.on hb2) (fun hHeld => ?_)
    have hHeld := hHeld rfl
    clear hK K
    try simp only [Act.put, List.setIfInBounds_toArray, List.set_cons_zero, List.set_cons_succ]
    clear hb2
    refine Kt.G.takeP 3 { dst := some 27, op := Op.binOp BinOp.add 9 (Operand.const (Value.string { data := #[85, 83, 66, 83] })) (Operand.tmp 26) 9, type := 9, pos := "bulk.go:49", after := #[{ on := 2, ground := Ground.data }], guard := none } ?_ (fun _ => hHeld) rfl (by kernel_rfl) (fun _ _ _ h => h) (by rfl) ?_ ?_
    rotate_left
    · intro w; go_simp; try with_reducible rfl
    try simp only [Act.put, List.setIfInBounds_toArray, List.set_cons_zero, List.set_cons_succ]
    refine Kt.G.one 6 { dst := some 30, op := Op.call { callee := Callee.value (Operand.func 62), args := #[Operand.tmp 29], argTypes := #[3] }, type := 9, pos := "bulk.go:49", after := #[{ on := 5, ground := Ground.data }, { on := 2, ground := Ground.chain }], guard := none } rfl (by kernel_rfl) (by rfl) (fun K hK => ?_)
    go_simp
    refine (HM.out _).mono ?_; rintro en x6 ⟨rfl, hb6⟩
    refine hK.out _ _ (fun _ => hHeld.on hb6) (fun hHeld => ?_)
    have hHeld := hHeld rfl
    clear hK K
    try simp only [Act.put, List.setIfInBounds_toArray, List.set_cons_zero, List.set_cons_succ]
    clear hb6
    refine Kt.G.takeP 7 { dst := some 31, op := Op.binOp BinOp.add 9 (Operand.tmp 27) (Operand.tmp 30) 9, type := 9, pos := "bulk.go:49", after := #[{ on := 3, ground := Ground.data }, { on := 6, ground := Ground.data }], guard := none } ?_ (fun _ => hHeld) rfl (by kernel_rfl) (fun _ _ _ h => h) (by rfl) ?_ ?_
    rotate_left
    · intro w; go_simp; try with_reducible rfl
    try simp only [Act.put, List.setIfInBounds_toArray, List.set_cons_zero, List.set_cons_succ]
    refine Kt.G.takeP 13 { dst := some 37, op := Op.binOp BinOp.add 9 (Operand.tmp 31) (Operand.tmp 36) 9, type := 9, pos := "bulk.go:49", after := #[{ on := 7, ground := Ground.data }, { on := 12, ground := Ground.data }], guard := none } ?_ (fun _ => hHeld) rfl (by kernel_rfl) (fun _ _ _ h => h) (by rfl) ?_ ?_
    rotate_left
    · intro w; go_simp; try with_reducible rfl
    try simp only [Act.put, List.setIfInBounds_toArray, List.set_cons_zero, List.set_cons_succ]
    refine Kt.G.one 14 { dst := some 2, op := Op.assign (Operand.tmp 37), type := 9, pos := "bulk.go:49", after := #[{ on := 13, ground := Ground.data }, { on := 6, ground := Ground.chain }, { on := 0, ground := Ground.phase }, { on := 1, ground := Ground.phase }, { on := 2, ground := Ground.phase }, { on := 3, ground := Ground.phase }, { on := 4, ground := Ground.phase }, { on := 5, ground := Ground.phase }, { on := 6, ground := Ground.phase }, { on := 7, ground := Ground.phase }, { on := 8, ground := Ground.phase }, { on := 9, ground := Ground.phase }, { on := 10, ground := Ground.phase }, { on := 11, ground := Ground.phase }, { on := 12, ground := Ground.phase }, { on := 13, ground := Ground.phase }], guard := none } rfl (by kernel_rfl) (by rfl) (fun K hK => ?_)
    go_simp
    refine hK.out _ _ (Kt.G.late (by kernel_rfl)) (fun _ => ?_)
    clear hK K
    try simp only [Act.put, List.setIfInBounds_toArray, List.set_cons_zero, List.set_cons_succ]
    refine Kt.G.takeP 15 { dst := some 3, op := Op.assign (Operand.const (Value.int IntKind.i64 0)), type := 28, pos := "bulk.go:49", after := #[{ on := 14, ground := Ground.chain }, { on := 0, ground := Ground.phase }, { on := 1, ground := Ground.phase }, { on := 2, ground := Ground.phase }, { on := 3, ground := Ground.phase }, { on := 4, ground := Ground.phase }, { on := 5, ground := Ground.phase }, { on := 6, ground := Ground.phase }, { on := 7, ground := Ground.phase }, { on := 8, ground := Ground.phase }, { on := 9, ground := Ground.phase }, { on := 10, ground := Ground.phase }, { on := 11, ground := Ground.phase }, { on := 12, ground := Ground.phase }, { on := 13, ground := Ground.phase }, { on := 14, ground := Ground.phase }], guard := none } ?_ (Kt.G.late (by kernel_rfl)) rfl (by kernel_rfl) (fun _ _ _ h => h) (by rfl) ?_ ?_
    rotate_left
    · intro w; go_simp; try with_reducible rfl
    try simp only [Act.put, List.setIfInBounds_toArray, List.set_cons_zero, List.set_cons_succ]
    refine Kt.G.done (by kernel_rfl) (NoPanic.normal ?_) _
    go_wp2_with fail
    refine bodyPost_ret (v := .tuple #[.string ((⟨#[85, 83, 66, 83]⟩ : ByteArray) ++ B2 ++ B6 ++ B11), .int .i64 0]) (by simp [results, Try.results69]) rfl ?_
    exact ⟨by rw [HE.out], hHeld.bel⟩
  -- END WS
theorem writeS_calls (x : St) (w : World) : Calls Try.prog 69 #[stV x] w fun e w' => e = .returned (.tuple #[.string (writeS x).1, .int .i64 (writeS x).2]) ∧ Below w.heap.size w w' := by
  by_cases h : OkS x
  · have e : writeS x = (statT x, 0) := if_pos h
    rw [e]
    exact stat_good x h w
  · have e : writeS x = (ByteArray.empty, 1) := if_neg h
    rw [e]
    exact stat_bad x h w
theorem ld_w {W : World} {g : Nat} {a b c d e : Value} (h : W.heap[g]? = some (.cells #[a, b, c, d, e] 75 (0, 0))) : (loadVar 75 ⟨g, 0, none⟩).run Try.prog W = .ok (.agg #[a, b, c, d, e]) W :=
  run_loadVar_row W g 75 75 #[a, b, c, d, e] (0, 0) _ h Try.underlying75 rfl (by kernel_rfl)
theorem ld_s {W : World} {g : Nat} {a b c : Value} (h : W.heap[g]? = some (.cells #[a, b, c] 107 (0, 0))) : (loadVar 107 ⟨g, 0, none⟩).run Try.prog W = .ok (.agg #[a, b, c]) W :=
  run_loadVar_row W g 107 107 #[a, b, c] (0, 0) _ h Try.underlying107 rfl (by kernel_rfl)
theorem readS_short (s : ByteArray) (h : s.size < 13) (w : World) :
    Calls Try.prog 65 #[.string s] w fun e w' => e = .returned (.tuple #[.agg #[.int .i64 0, .int .i64 0, .int .i64 0], .int .i64 3]) ∧ Below w.heap.size w w' := by
  have hs : (s.size : Int) < 13 := by omega
  clear h
  go_enter Try.func65, Try.ntmps65
  go_wp2_with fail
  have hW := ld_s (heap_alloc_new w (.cells #[.int .i64 0, .int .i64 0, .int .i64 0] 107))
  refine bodyPost_ret (v := .tuple #[.agg #[.int .i64 0, .int .i64 0, .int .i64 0], .int .i64 3]) (by simp [results, Try.results65, asAddr, hW]) rfl ?_
  exact ⟨rfl, Kt.balloc (Below.refl _ _) _⟩
set_option maxRecDepth 100000 in
set_option maxHeartbeats 1600000 in
theorem readS_long (s : ByteArray) (h : 13 ≤ s.size) (w0 : World) :
    Calls Try.prog 65 #[.string s] w0 fun e w' => e = .returned (.tuple #[stV (readS s).1, .int .i64 (readS s).2]) ∧ Below w0.heap.size w0 w' := by
  have hs : ¬ (s.size : Int) < 13 := by omega
  have i12 : (12 : Int) < s.size := by omega
  obtain ⟨tg, htg⟩ : ∃ z : Int, (num4 s 4 : Int) = z := ⟨_, rfl⟩
  obtain ⟨rs, hln⟩ : ∃ z : Int, (num4 s 8 : Int) = z := ⟨_, rfl⟩
  have HL : Hid (∀ W, Calls Try.prog 68 #[.string s, .int .i64 4] W fun e w' => e = .returned (.int .i64 tg) ∧ Below W.heap.size W w') := Lib.hid fun W => by
    rw [← htg]; exact longAt_calls s 4 (.inl rfl) (by omega) W
  have HM : Hid (∀ W, Calls Try.prog 68 #[.string s, .int .i64 8] W fun e w' => e = .returned (.int .i64 rs) ∧ Below W.heap.size W w') := Lib.hid fun W => by
    rw [← hln]; exact longAt_calls s 8 (.inr rfl) (by omega) W
  obtain ⟨cd, hcd⟩ : ∃ z : Int, (bt s 12 : Int) = z := ⟨_, rfl⟩
  have hc12 : IntKind.i64.wrap ((s[12]'(by omega)).toNat : Int) = cd := by rw [← bt_get, wr_in _ (by have := bt_lt s 12; omega)]; exact hcd
  have HX : Hid (unS s = ⟨tg, rs, cd⟩) := Lib.hid (by rw [← htg, ← hln, ← hcd]; rfl)
  have HZ := Lib.hid h
  go_enter Try.func65, Try.ntmps65
  go_upto_region 3 with (fail)
  clear hs
  go_cut [4] from 11 to 18 (fun v wx => ∃ kB, v = .pointer (some ⟨kB, 0, none⟩) ∧ w0.heap.size < kB ∧ wx.heap[kB]? = some (.cells #[.int .i64 tg, .int .i64 rs, .int .i64 cd] 107 (0, 0)) ∧ wx.heap[w0.heap.size]? = some (.cells #[.int .i64 0, .int .i64 0, .int .i64 0] 107 (0, 0)) ∧ Below w0.heap.size w0 wx)
  case first =>
    -- REGION RS
    have HF := ((Kt.Fb.nil w0 (Kt.balloc (Below.refl _ w0) _)).add (heap_alloc_new w0 (.cells #[.int .i64 0, .int .i64 0, .int .i64 0] 107))).drew
    refine Kt.G.start 9 (Kt.Fb w0 [(w0.heap.size, #[.int .i64 0, .int .i64 0, .int .i64 0], 107)]) (by kernel_rfl) HF (fun hHeld => ?_)
    clear HF
    generalize (w0.alloc (.cells #[.int .i64 0, .int .i64 0, .int .i64 0] 107)).drew = x0 at *
    refine Kt.G.takeP 0 { dst := some 11, op := Op.move (Operand.tmp 0), type := 9, pos := "bulk.go:57", after := #[], guard := none } ?_ (fun _ => hHeld) rfl (by kernel_rfl) (fun _ _ _ h => h) (by rfl) ?_ ?_
    rotate_left
    · intro w; go_simp; try with_reducible rfl
    try simp only [Act.put, List.setIfInBounds_toArray, List.set_cons_zero, List.set_cons_succ]
    refine Kt.G.takeP 2 { dst := some 13, op := Op.move (Operand.tmp 0), type := 9, pos := "bulk.go:57", after := #[], guard := none } ?_ (fun _ => hHeld) rfl (by kernel_rfl) (fun _ _ _ h => h) (by rfl) ?_ ?_
    rotate_left
    · intro w; go_simp; try with_reducible rfl
    try simp only [Act.put, List.setIfInBounds_toArray, List.set_cons_zero, List.set_cons_succ]
    refine Kt.G.takeP 4 { dst := some 15, op := Op.move (Operand.tmp 0), type := 9, pos := "bulk.go:57", after := #[], guard := none } ?_ (fun _ => hHeld) rfl (by kernel_rfl) (fun _ _ _ h => h) (by rfl) ?_ ?_
    rotate_left
    · intro w; go_simp; try with_reducible rfl
    try simp only [Act.put, List.setIfInBounds_toArray, List.set_cons_zero, List.set_cons_succ]
    refine Kt.G.takeP 5 { dst := some 16, op := Op.index 9 (Operand.tmp 15) (Operand.const (Value.int IntKind.i64 12)), type := 5, pos := "bulk.go:57", after := #[{ on := 4, ground := Ground.data }], guard := none } ?_ (fun _ => hHeld) rfl (by kernel_rfl) (fun _ _ _ h => h) (by rfl) ?_ ?_
    rotate_left
    · intro w; go_simp; try with_reducible rfl
    try simp only [Act.put, List.setIfInBounds_toArray, List.set_cons_zero, List.set_cons_succ]
    refine Kt.G.takeP 6 { dst := some 17, op := Op.convert 5 3 (Operand.tmp 16), type := 3, pos := "bulk.go:57", after := #[{ on := 5, ground := Ground.data }], guard := none } ?_ (fun _ => hHeld) rfl (by kernel_rfl) (fun _ _ _ h => h) (by rfl) ?_ ?_
    rotate_left
    · intro w; go_simp; try with_reducible rfl
    try simp only [Act.put, List.setIfInBounds_toArray, List.set_cons_zero, List.set_cons_succ]
    refine Kt.G.two 1 8 { dst := some 12, op := Op.call { callee := Callee.value (Operand.func 68), args := #[Operand.tmp 11, Operand.const (Value.int IntKind.i64 4)], argTypes := #[9, 3] }, type := 3, pos := "bulk.go:57", after := #[{ on := 0, ground := Ground.data }], guard := none } { dst := some 4, op := Op.alloc 107, type := 0, pos := "bulk.go:57", after := #[], guard := none } rfl rfl (by kernel_rfl) (by rfl) (by rfl) (fun K hK => ?_) (fun K hK => ?_)
    · go_simp
      refine (HL.out _).mono ?_; rintro en x1 ⟨rfl, hb1⟩
      refine hK.out _ _ (fun _ => hHeld.on hb1) (fun hHeld => ?_)
      have hHeld := hHeld rfl
      clear hK K
      try simp only [Act.put, List.setIfInBounds_toArray, List.set_cons_zero, List.set_cons_succ]
      try (replace rK := Kt.row_on hb1 rK)
      clear hb1
      refine Kt.G.two 3 8 { dst := some 14, op := Op.call { callee := Callee.value (Operand.func 68), args := #[Operand.tmp 13, Operand.const (Value.int IntKind.i64 8)], argTypes := #[9, 3] }, type := 3, pos := "bulk.go:57", after := #[{ on := 2, ground := Ground.data }, { on := 1, ground := Ground.chain }], guard := none } { dst := some 4, op := Op.alloc 107, type := 0, pos := "bulk.go:57", after := #[], guard := none } rfl rfl (by kernel_rfl) (by rfl) (by rfl) (fun K hK => ?_) (fun K hK => ?_)
      · go_simp
        refine (HM.out _).mono ?_; rintro en x3 ⟨rfl, hb3⟩
        refine hK.out _ _ (fun _ => hHeld.on hb3) (fun hHeld => ?_)
        have hHeld := hHeld rfl
        clear hK K
        try simp only [Act.put, List.setIfInBounds_toArray, List.set_cons_zero, List.set_cons_succ]
        try (replace rK := Kt.row_on hb3 rK)
        clear hb3
        refine Kt.G.takeP 7 { dst := some 18, op := Op.build 107 #[(0, Operand.tmp 12), (1, Operand.tmp 14), (2, Operand.tmp 17)], type := 107, pos := "bulk.go:57", after := #[{ on := 1, ground := Ground.data }, { on := 3, ground := Ground.data }, { on := 6, ground := Ground.data }], guard := none } ?_ (fun _ => hHeld) rfl (by kernel_rfl) (fun _ _ _ h => h) (by rfl) ?_ ?_
        rotate_left
        · intro w; go_simp; try with_reducible rfl
        try simp only [Act.put, List.setIfInBounds_toArray, List.set_cons_zero, List.set_cons_succ]
        refine Kt.G.one 8 { dst := some 4, op := Op.alloc 107, type := 0, pos := "bulk.go:57", after := #[], guard := none } rfl (by kernel_rfl) (by rfl) (fun K hK => ?_)
        have hHeld0 := hHeld
        go_simp
        refine hK.out _ _ (fun _ => hHeld.alloc _) (fun hHeld => ?_)
        have hHeld := hHeld rfl
        clear hK K
        try simp only [Act.put, List.setIfInBounds_toArray, List.set_cons_zero, List.set_cons_succ]
        have rK := heap_alloc_new x3 (.cells #[.int .i64 0, .int .i64 0, .int .i64 0] 107)
        have hk0 : w0.heap.size < x3.heap.size := hHeld0.lt (r := (w0.heap.size, #[.int .i64 0, .int .i64 0, .int .i64 0], 107)) (by simp)
        clear hHeld0
        generalize hkB : x3.heap.size = kB at *
        clear hkB
        generalize x3.alloc (.cells #[.int .i64 0, .int .i64 0, .int .i64 0] 107) = xk at *
        refine Kt.G.one 9 { dst := none, op := Op.store 107 (Operand.tmp 4) (Operand.tmp 18), type := 0, pos := "bulk.go:57", after := #[{ on := 8, ground := Ground.data }, { on := 7, ground := Ground.data }, { on := 3, ground := Ground.chain }, { on := 0, ground := Ground.phase }, { on := 1, ground := Ground.phase }, { on := 2, ground := Ground.phase }, { on := 3, ground := Ground.phase }, { on := 4, ground := Ground.phase }, { on := 5, ground := Ground.phase }, { on := 6, ground := Ground.phase }, { on := 7, ground := Ground.phase }, { on := 8, ground := Ground.phase }], guard := none } rfl (by kernel_rfl) (by rfl) (fun K hK => ?_)
        have cK := fun i => cell_of_row _ _ i _ _ _ rK; have fK := fun i => frozen_of_row _ _ i _ _ rK
        go_simp
        refine hK.out _ _ (Kt.G.late (by kernel_rfl)) (fun _ => ?_)
        clear hK K
        try simp only [Act.put, List.setIfInBounds_toArray, List.set_cons_zero, List.set_cons_succ]
        refine Kt.G.done (by kernel_rfl) (NoPanic.normal ?_) _
        go_wp2_with fail
        go_meet
        case rel =>
          exact ⟨kB, rfl, hk0, Kt.fill [.int .i64 tg, .int .i64 rs, .int .i64 cd] rK rfl, (Kt.setCells_other [.int .i64 tg, .int .i64 rs, .int .i64 cd] kB 0 _ _ (Nat.ne_of_lt hk0)).trans (hHeld.row (w0.heap.size, #[.int .i64 0, .int .i64 0, .int .i64 0], 107) (by simp)), Kt.below_setCells [.int .i64 tg, .int .i64 rs, .int .i64 cd] kB 0 _ _ (Nat.le_of_lt hk0) hHeld.bel⟩
      · have hHeld0 := hHeld
        go_simp
        refine hK.out _ _ (fun _ => hHeld.alloc _) (fun hHeld => ?_)
        have hHeld := hHeld rfl
        clear hK K
        try simp only [Act.put, List.setIfInBounds_toArray, List.set_cons_zero, List.set_cons_succ]
        have rK := heap_alloc_new x1 (.cells #[.int .i64 0, .int .i64 0, .int .i64 0] 107)
        have hk0 : w0.heap.size < x1.heap.size := hHeld0.lt (r := (w0.heap.size, #[.int .i64 0, .int .i64 0, .int .i64 0], 107)) (by simp)
        clear hHeld0
        generalize hkB : x1.heap.size = kB at *
        clear hkB
        generalize x1.alloc (.cells #[.int .i64 0, .int .i64 0, .int .i64 0] 107) = xk at *
        refine Kt.G.one 3 { dst := some 14, op := Op.call { callee := Callee.value (Operand.func 68), args := #[Operand.tmp 13, Operand.const (Value.int IntKind.i64 8)], argTypes := #[9, 3] }, type := 3, pos := "bulk.go:57", after := #[{ on := 2, ground := Ground.data }, { on := 1, ground := Ground.chain }], guard := none } rfl (by kernel_rfl) (by rfl) (fun K hK => ?_)
        go_simp
        refine (HM.out _).mono ?_; rintro en x3 ⟨rfl, hb3⟩
        refine hK.out _ _ (fun _ => hHeld.on hb3) (fun hHeld => ?_)
        have hHeld := hHeld rfl
        clear hK K
        try simp only [Act.put, List.setIfInBounds_toArray, List.set_cons_zero, List.set_cons_succ]
        try (replace rK := Kt.row_on hb3 rK)
        clear hb3
        refine Kt.G.takeP 7 { dst := some 18, op := Op.build 107 #[(0, Operand.tmp 12), (1, Operand.tmp 14), (2, Operand.tmp 17)], type := 107, pos := "bulk.go:57", after := #[{ on := 1, ground := Ground.data }, { on := 3, ground := Ground.data }, { on := 6, ground := Ground.data }], guard := none } ?_ (fun _ => hHeld) rfl (by kernel_rfl) (fun _ _ _ h => h) (by rfl) ?_ ?_
        rotate_left
        · intro w; go_simp; try with_reducible rfl
        try simp only [Act.put, List.setIfInBounds_toArray, List.set_cons_zero, List.set_cons_succ]
        refine Kt.G.one 9 { dst := none, op := Op.store 107 (Operand.tmp 4) (Operand.tmp 18), type := 0, pos := "bulk.go:57", after := #[{ on := 8, ground := Ground.data }, { on := 7, ground := Ground.data }, { on := 3, ground := Ground.chain }, { on := 0, ground := Ground.phase }, { on := 1, ground := Ground.phase }, { on := 2, ground := Ground.phase }, { on := 3, ground := Ground.phase }, { on := 4, ground := Ground.phase }, { on := 5, ground := Ground.phase }, { on := 6, ground := Ground.phase }, { on := 7, ground := Ground.phase }, { on := 8, ground := Ground.phase }], guard := none } rfl (by kernel_rfl) (by rfl) (fun K hK => ?_)
        have cK := fun i => cell_of_row _ _ i _ _ _ rK; have fK := fun i => frozen_of_row _ _ i _ _ rK
        go_simp
        refine hK.out _ _ (Kt.G.late (by kernel_rfl)) (fun _ => ?_)
        clear hK K
        try simp only [Act.put, List.setIfInBounds_toArray, List.set_cons_zero, List.set_cons_succ]
        refine Kt.G.done (by kernel_rfl) (NoPanic.normal ?_) _
        go_wp2_with fail
        go_meet
        case rel =>
          exact ⟨kB, rfl, hk0, Kt.fill [.int .i64 tg, .int .i64 rs, .int .i64 cd] rK rfl, (Kt.setCells_other [.int .i64 tg, .int .i64 rs, .int .i64 cd] kB 0 _ _ (Nat.ne_of_lt hk0)).trans (hHeld.row (w0.heap.size, #[.int .i64 0, .int .i64 0, .int .i64 0], 107) (by simp)), Kt.below_setCells [.int .i64 tg, .int .i64 rs, .int .i64 cd] kB 0 _ _ (Nat.le_of_lt hk0) hHeld.bel⟩
    · have hHeld0 := hHeld
      go_simp
      refine hK.out _ _ (fun _ => hHeld.alloc _) (fun hHeld => ?_)
      have hHeld := hHeld rfl
      clear hK K
      try simp only [Act.put, List.setIfInBounds_toArray, List.set_cons_zero, List.set_cons_succ]
      have rK := heap_alloc_new x0 (.cells #[.int .i64 0, .int .i64 0, .int .i64 0] 107)
      have hk0 : w0.heap.size < x0.heap.size := hHeld0.lt (r := (w0.heap.size, #[.int .i64 0, .int .i64 0, .int .i64 0], 107)) (by simp)
      clear hHeld0
      generalize hkB : x0.heap.size = kB at *
      clear hkB
      generalize x0.alloc (.cells #[.int .i64 0, .int .i64 0, .int .i64 0] 107) = xk at *
      refine Kt.G.one 1 { dst := some 12, op := Op.call { callee := Callee.value (Operand.func 68), args := #[Operand.tmp 11, Operand.const (Value.int IntKind.i64 4)], argTypes := #[9, 3] }, type := 3, pos := "bulk.go:57", after := #[{ on := 0, ground := Ground.data }], guard := none } rfl (by kernel_rfl) (by rfl) (fun K hK => ?_)
      go_simp
      refine (HL.out _).mono ?_; rintro en x1 ⟨rfl, hb1⟩
      refine hK.out _ _ (fun _ => hHeld.on hb1) (fun hHeld => ?_)
      have hHeld := hHeld rfl
      clear hK K
      try simp only [Act.put, List.setIfInBounds_toArray, List.set_cons_zero, List.set_cons_succ]
      try (replace rK := Kt.row_on hb1 rK)
      clear hb1
      refine Kt.G.one 3 { dst := some 14, op := Op.call { callee := Callee.value (Operand.func 68), args := #[Operand.tmp 13, Operand.const (Value.int IntKind.i64 8)], argTypes := #[9, 3] }, type := 3, pos := "bulk.go:57", after := #[{ on := 2, ground := Ground.data }, { on := 1, ground := Ground.chain }], guard := none } rfl (by kernel_rfl) (by rfl) (fun K hK => ?_)
      go_simp
      refine (HM.out _).mono ?_; rintro en x3 ⟨rfl, hb3⟩
      refine hK.out _ _ (fun _ => hHeld.on hb3) (fun hHeld => ?_)
      have hHeld := hHeld rfl
      clear hK K
      try simp only [Act.put, List.setIfInBounds_toArray, List.set_cons_zero, List.set_cons_succ]
      try (replace rK := Kt.row_on hb3 rK)
      clear hb3
      refine Kt.G.takeP 7 { dst := some 18, op := Op.build 107 #[(0, Operand.tmp 12), (1, Operand.tmp 14), (2, Operand.tmp 17)], type := 107, pos := "bulk.go:57", after := #[{ on := 1, ground := Ground.data }, { on := 3, ground := Ground.data }, { on := 6, ground := Ground.data }], guard := none } ?_ (fun _ => hHeld) rfl (by kernel_rfl) (fun _ _ _ h => h) (by rfl) ?_ ?_
      rotate_left
      · intro w; go_simp; try with_reducible rfl
      try simp only [Act.put, List.setIfInBounds_toArray, List.set_cons_zero, List.set_cons_succ]
      refine Kt.G.one 9 { dst := none, op := Op.store 107 (Operand.tmp 4) (Operand.tmp 18), type := 0, pos := "bulk.go:57", after := #[{ on := 8, ground := Ground.data }, { on := 7, ground := Ground.data }, { on := 3, ground := Ground.chain }, { on := 0, ground := Ground.phase }, { on := 1, ground := Ground.phase }, { on := 2, ground := Ground.phase }, { on := 3, ground := Ground.phase }, { on := 4, ground := Ground.phase }, { on := 5, ground := Ground.phase }, { on := 6, ground := Ground.phase }, { on := 7, ground := Ground.phase }, { on := 8, ground := Ground.phase }], guard := none } rfl (by kernel_rfl) (by rfl) (fun K hK => ?_)
      have cK := fun i => cell_of_row _ _ i _ _ _ rK; have fK := fun i => frozen_of_row _ _ i _ _ rK
      go_simp
      refine hK.out _ _ (Kt.G.late (by kernel_rfl)) (fun _ => ?_)
      clear hK K
      try simp only [Act.put, List.setIfInBounds_toArray, List.set_cons_zero, List.set_cons_succ]
      refine Kt.G.done (by kernel_rfl) (NoPanic.normal ?_) _
      go_wp2_with fail
      go_meet
      case rel =>
        exact ⟨kB, rfl, hk0, Kt.fill [.int .i64 tg, .int .i64 rs, .int .i64 cd] rK rfl, (Kt.setCells_other [.int .i64 tg, .int .i64 rs, .int .i64 cd] kB 0 _ _ (Nat.ne_of_lt hk0)).trans (hHeld.row (w0.heap.size, #[.int .i64 0, .int .i64 0, .int .i64 0], 107) (by simp)), Kt.below_setCells [.int .i64 tg, .int .i64 rs, .int .i64 cd] kB 0 _ _ (Nat.le_of_lt hk0) hHeld.bel⟩
    -- END RS
  case rest =>
    obtain ⟨kB, rfl, hk, rK, r2, hbel⟩ := hcut
    have HB := Lib.hid hbel
    have HRK := Lib.hid rK
    have HR := Lib.hid r2
    have q := fun i => cell_of_row _ _ i _ _ _ rK
    clear hbel rK r2 hc12 HL HM htg hln hcd i12
    go_wp2_with fail
    refine (writeS_calls ⟨tg, rs, cd⟩ _).mono ?_
    rintro e w2 ⟨rfl, hb⟩
    have HB2 := Lib.hid (Kt.bthen HB.out hb)
    have HRK2 := Lib.hid (Kt.row_on hb HRK.out)
    have HR2 := Lib.hid (Kt.row_on hb HR.out)
    clear hb HB HRK HR q
    obtain ⟨T, E, hT⟩ : ∃ T E, writeS ⟨tg, rs, cd⟩ = (T, E) := ⟨_, _, rfl⟩
    rw [hT]
    have HT := Lib.hid hT
    have q := fun i => cell_of_row _ _ i _ _ _ HRK2.out
    have q2 := fun i => cell_of_row _ _ i _ _ _ HR2.out
    have f2 := fun i => frozen_of_row _ _ i _ _ HR2.out
    have HN := Lib.hid (Nat.le_of_lt hk)
    clear hT hk
    by_cases hok : OkS (unS s) ∧ statT (unS s) = s
    · have hrd : readS s = (unS s, 0) := by unfold readS; rw [if_neg (by have := HZ.out; omega), if_pos hok]
      have e : writeS ⟨tg, rs, cd⟩ = (s, 0) := by
        rw [← HX.out]
        exact (if_pos hok.1).trans (by rw [hok.2])
      rw [HT.out] at e
      cases e
      have HRD := Lib.hid hrd
      clear hok hrd
      go_wp2_with fail
      have hW := ld_s (Kt.fill [.int .i64 tg, .int .i64 rs, .int .i64 cd] HR2.out rfl)
      simp only [World.setCells, Nat.zero_add, Nat.reduceAdd] at hW
      refine bodyPost_ret (v := .tuple #[.agg #[.int .i64 tg, .int .i64 rs, .int .i64 cd], .int .i64 0]) (by simp [results, Try.results65, asAddr, hW]) rfl ?_
      exact ⟨by rw [HRD.out, HX.out]; rfl, Kt.below_setCells [.int .i64 tg, .int .i64 rs, .int .i64 cd] w0.heap.size 0 w2 w0 (Nat.le_refl _) HB2.out⟩
    · have hrd : readS s = (zeroS, 4) := by unfold readS; rw [if_neg (by have := HZ.out; omega), if_neg hok]
      have hne : (E != 0) = true ∨ (E = 0 ∧ (T.toList == s.toList) = false) := by
        rw [HX.out] at hok
        by_cases ho : OkS ⟨tg, rs, cd⟩
        · have e : writeS ⟨tg, rs, cd⟩ = (statT ⟨tg, rs, cd⟩, 0) := if_pos ho
          rw [HT.out] at e
          cases e
          exact .inr ⟨rfl, str_ne fun q => hok ⟨ho, q⟩⟩
        · have e : writeS ⟨tg, rs, cd⟩ = (ByteArray.empty, 1) := if_neg ho
          rw [HT.out] at e
          cases e
          exact .inl rfl
      have HRD := Lib.hid hrd
      clear hok hrd
      rcases hne with h1 | ⟨rfl, h1⟩
      all_goals
        go_wp2_with fail
        have hW := ld_s (Kt.fill [.int .i64 0, .int .i64 0, .int .i64 0] HR2.out rfl)
        simp only [World.setCells, Nat.zero_add, Nat.reduceAdd] at hW
        refine bodyPost_ret (v := .tuple #[.agg #[.int .i64 0, .int .i64 0, .int .i64 0], .int .i64 4]) (by simp [results, Try.results65, asAddr, hW]) rfl ?_
        exact ⟨by rw [HRD.out]; rfl, Kt.below_setCells [.int .i64 0, .int .i64 0, .int .i64 0] w0.heap.size 0 w2 w0 (Nat.le_refl _) HB2.out⟩
theorem readS_calls (s : ByteArray) (w : World) :
    Calls Try.prog 65 #[.string s] w fun e w' => e = .returned (.tuple #[stV (readS s).1, .int .i64 (readS s).2]) ∧ Below w.heap.size w w' := by
  by_cases h : s.size < 13
  · have e : readS s = (zeroS, 3) := if_pos h
    rw [e]
    exact readS_short s h w
  · exact readS_long s (by omega) w
theorem readW_short (s : ByteArray) (h : s.size < 31) (w : World) :
    Calls Try.prog 73 #[.string s] w fun e w' => e = .returned (.tuple #[.agg #[.int .i64 0, .int .i64 0, .bool false, .int .i64 0, .string ⟨#[]⟩], .int .i64 3]) ∧ Below w.heap.size w w' := by
  have hs : (s.size : Int) < 31 := by omega
  clear h
  go_enter Try.func73, Try.ntmps73
  go_wp2_with fail
  have hW := ld_w (heap_alloc_new w (.cells #[.int .i64 0, .int .i64 0, .bool false, .int .i64 0, .string ⟨#[]⟩] 75))
  refine bodyPost_ret (v := .tuple #[.agg #[.int .i64 0, .int .i64 0, .bool false, .int .i64 0, .string ⟨#[]⟩], .int .i64 3]) (by simp [results, Try.results73, asAddr, hW]) rfl ?_
  exact ⟨rfl, Kt.balloc (Below.refl _ _) _⟩
set_option maxRecDepth 100000 in
set_option maxHeartbeats 1600000 in
theorem readW_long (s : ByteArray) (h : 31 ≤ s.size) (w0 : World) :
    Calls Try.prog 73 #[.string s] w0 fun e w' => e = .returned (.tuple #[wrV (readW s).1, .int .i64 (readW s).2]) ∧ Below w0.heap.size w0 w' := by
  have hs : ¬ (s.size : Int) < 31 := by omega
  have i12 : (12 : Int) < s.size := by omega
  obtain ⟨tg, htg⟩ : ∃ z : Int, (num4 s 4 : Int) = z := ⟨_, rfl⟩
  obtain ⟨ln, hln⟩ : ∃ z : Int, (num4 s 8 : Int) = z := ⟨_, rfl⟩
  have HL : Hid (∀ W, Calls Try.prog 68 #[.string s, .int .i64 4] W fun e w' => e = .returned (.int .i64 tg) ∧ Below W.heap.size W w') := Lib.hid fun W => by
    rw [← htg]; exact longAt_calls s 4 (.inl rfl) (by omega) W
  have HM : Hid (∀ W, Calls Try.prog 68 #[.string s, .int .i64 8] W fun e w' => e = .returned (.int .i64 ln) ∧ Below W.heap.size W w') := Lib.hid fun W => by
    rw [← hln]; exact longAt_calls s 8 (.inr rfl) (by omega) W
  have i13 : (13 : Int) < s.size := by omega
  have i14 : (14 : Int) < s.size := by omega
  obtain ⟨inn, hinn⟩ : ∃ z : Bool, (bt s 12 == 128) = z := ⟨_, rfl⟩
  obtain ⟨un, hun⟩ : ∃ z : Int, (bt s 13 : Int) = z := ⟨_, rfl⟩
  obtain ⟨cmd, hcmd⟩ : ∃ z : ByteArray, s.extract 15 (15 + min (bt s 14) 16) = z := ⟨_, rfl⟩
  have hc12 : (((s[12]'(by omega)).toNat : Int) == 128) = inn := by
    rw [← bt_get, ← hinn]
    rw [Bool.eq_iff_iff, beq_iff_eq, beq_iff_eq]
    omega
  have hc13 : IntKind.i64.wrap ((s[13]'(by omega)).toNat : Int) = un := by rw [← bt_get, wr_in _ (by have := bt_lt s 13; omega)]; exact hun
  obtain ⟨b14, hb14⟩ : ∃ z : Nat, bt s 14 = z := ⟨_, rfl⟩
  rw [hb14] at hcmd
  have hc14 : IntKind.i64.wrap ((s[14]'(by omega)).toNat : Int) = b14 := by rw [← bt_get, hb14, wr_in _ (by have := bt_lt s 14; omega)]
  obtain ⟨e15, he15⟩ : ∃ z : Int, 15 + min (b14 : Int) 16 = z := ⟨_, rfl⟩
  have hw15 : IntKind.i64.wrap (15 + min (b14 : Int) 16) = e15 := by rw [he15, IntWalk.i64_left]; unfold wrap64; omega
  have lo15 : (15 : Int) ≤ e15 := by omega
  have hi15 : e15 ≤ s.size := by omega
  have hx15 : s.extract 15 e15.toNat = cmd := by rw [← hcmd]; congr 1; omega
  rw [← hb14] at hcmd
  clear he15
  have HX : Hid (unW s = ⟨tg, ln, inn, un, cmd⟩) := Lib.hid (by rw [← htg, ← hln, ← hinn, ← hun, ← hcmd]; rfl)
  have HZ := Lib.hid h
  go_enter Try.func73, Try.ntmps73
  go_upto_region 3 with (fail)
  clear hs
  go_cut [4] from 11 to 28 (fun v wx => ∃ kB, v = .pointer (some ⟨kB, 0, none⟩) ∧ w0.heap.size < kB ∧ wx.heap[kB]? = some (.cells #[.int .i64 tg, .int .i64 ln, .bool inn, .int .i64 un, .string cmd] 75 (0, 0)) ∧ wx.heap[w0.heap.size]? = some (.cells #[.int .i64 0, .int .i64 0, .bool false, .int .i64 0, .string ⟨#[]⟩] 75 (0, 0)) ∧ Below w0.heap.size w0 wx)
  case first =>
    -- REGION RW
    have HF := ((Kt.Fb.nil w0 (Kt.balloc (Below.refl _ w0) _)).add (heap_alloc_new w0 (.cells #[.int .i64 0, .int .i64 0, .bool false, .int .i64 0, .string ⟨#[]⟩] 75))).drew
    refine Kt.G.start 19 (Kt.Fb w0 [(w0.heap.size, #[.int .i64 0, .int .i64 0, .bool false, .int .i64 0, .string ⟨#[]⟩], 75)]) (by kernel_rfl) HF (fun hHeld => ?_)
    clear HF
    generalize (w0.alloc (.cells #[.int .i64 0, .int .i64 0, .bool false, .int .i64 0, .string ⟨#[]⟩] 75)).drew = x0 at *
    refine Kt.G.takeP 0 { dst := some 11, op := Op.move (Operand.tmp 0), type := 9, pos := "bulk.go:37", after := #[], guard := none } ?_ (fun _ => hHeld) rfl (by kernel_rfl) (fun _ _ _ h => h) (by rfl) ?_ ?_
    rotate_left
    · intro w; go_simp; try with_reducible rfl
    try simp only [Act.put, List.setIfInBounds_toArray, List.set_cons_zero, List.set_cons_succ]
    refine Kt.G.takeP 2 { dst := some 13, op := Op.move (Operand.tmp 0), type := 9, pos := "bulk.go:37", after := #[], guard := none } ?_ (fun _ => hHeld) rfl (by kernel_rfl) (fun _ _ _ h => h) (by rfl) ?_ ?_
    rotate_left
    · intro w; go_simp; try with_reducible rfl
    try simp only [Act.put, List.setIfInBounds_toArray, List.set_cons_zero, List.set_cons_succ]
    refine Kt.G.takeP 4 { dst := some 15, op := Op.move (Operand.tmp 0), type := 9, pos := "bulk.go:37", after := #[], guard := none } ?_ (fun _ => hHeld) rfl (by kernel_rfl) (fun _ _ _ h => h) (by rfl) ?_ ?_
    rotate_left
    · intro w; go_simp; try with_reducible rfl
    try simp only [Act.put, List.setIfInBounds_toArray, List.set_cons_zero, List.set_cons_succ]
    refine Kt.G.takeP 5 { dst := some 16, op := Op.index 9 (Operand.tmp 15) (Operand.const (Value.int IntKind.i64 12)), type := 5, pos := "bulk.go:37", after := #[{ on := 4, ground := Ground.data }], guard := none } ?_ (fun _ => hHeld) rfl (by kernel_rfl) (fun _ _ _ h => h) (by rfl) ?_ ?_
    rotate_left
    · intro w; go_simp; try with_reducible rfl
    try simp only [Act.put, List.setIfInBounds_toArray, List.set_cons_zero, List.set_cons_succ]
    refine Kt.G.takeP 6 { dst := some 17, op := Op.binOp BinOp.eql 5 (Operand.tmp 16) (Operand.const (Value.int IntKind.u8 128)) 5, type := 4, pos := "bulk.go:37", after := #[{ on := 5, ground := Ground.data }], guard := none } ?_ (fun _ => hHeld) rfl (by kernel_rfl) (fun _ _ _ h => h) (by rfl) ?_ ?_
    rotate_left
    · intro w; go_simp; try with_reducible rfl
    try simp only [Act.put, List.setIfInBounds_toArray, List.set_cons_zero, List.set_cons_succ]
    refine Kt.G.takeP 7 { dst := some 18, op := Op.move (Operand.tmp 0), type := 9, pos := "bulk.go:37", after := #[], guard := none } ?_ (fun _ => hHeld) rfl (by kernel_rfl) (fun _ _ _ h => h) (by rfl) ?_ ?_
    rotate_left
    · intro w; go_simp; try with_reducible rfl
    try simp only [Act.put, List.setIfInBounds_toArray, List.set_cons_zero, List.set_cons_succ]
    refine Kt.G.takeP 8 { dst := some 19, op := Op.index 9 (Operand.tmp 18) (Operand.const (Value.int IntKind.i64 13)), type := 5, pos := "bulk.go:37", after := #[{ on := 7, ground := Ground.data }], guard := none } ?_ (fun _ => hHeld) rfl (by kernel_rfl) (fun _ _ _ h => h) (by rfl) ?_ ?_
    rotate_left
    · intro w; go_simp; try with_reducible rfl
    try simp only [Act.put, List.setIfInBounds_toArray, List.set_cons_zero, List.set_cons_succ]
    refine Kt.G.takeP 9 { dst := some 20, op := Op.convert 5 3 (Operand.tmp 19), type := 3, pos := "bulk.go:37", after := #[{ on := 8, ground := Ground.data }], guard := none } ?_ (fun _ => hHeld) rfl (by kernel_rfl) (fun _ _ _ h => h) (by rfl) ?_ ?_
    rotate_left
    · intro w; go_simp; try with_reducible rfl
    try simp only [Act.put, List.setIfInBounds_toArray, List.set_cons_zero, List.set_cons_succ]
    refine Kt.G.takeP 10 { dst := some 21, op := Op.move (Operand.tmp 0), type := 9, pos := "bulk.go:37", after := #[], guard := none } ?_ (fun _ => hHeld) rfl (by kernel_rfl) (fun _ _ _ h => h) (by rfl) ?_ ?_
    rotate_left
    · intro w; go_simp; try with_reducible rfl
    try simp only [Act.put, List.setIfInBounds_toArray, List.set_cons_zero, List.set_cons_succ]
    refine Kt.G.takeP 11 { dst := some 22, op := Op.move (Operand.tmp 0), type := 9, pos := "bulk.go:37", after := #[], guard := none } ?_ (fun _ => hHeld) rfl (by kernel_rfl) (fun _ _ _ h => h) (by rfl) ?_ ?_
    rotate_left
    · intro w; go_simp; try with_reducible rfl
    try simp only [Act.put, List.setIfInBounds_toArray, List.set_cons_zero, List.set_cons_succ]
    refine Kt.G.takeP 12 { dst := some 23, op := Op.index 9 (Operand.tmp 22) (Operand.const (Value.int IntKind.i64 14)), type := 5, pos := "bulk.go:37", after := #[{ on := 11, ground := Ground.data }], guard := none } ?_ (fun _ => hHeld) rfl (by kernel_rfl) (fun _ _ _ h => h) (by rfl) ?_ ?_
    rotate_left
    · intro w; go_simp; try with_reducible rfl
    try simp only [Act.put, List.setIfInBounds_toArray, List.set_cons_zero, List.set_cons_succ]
    refine Kt.G.takeP 13 { dst := some 24, op := Op.convert 5 3 (Operand.tmp 23), type := 3, pos := "bulk.go:37", after := #[{ on := 12, ground := Ground.data }], guard := none } ?_ (fun _ => hHeld) rfl (by kernel_rfl) (fun _ _ _ h => h) (by rfl) ?_ ?_
    rotate_left
    · intro w; go_simp; try with_reducible rfl
    try simp only [Act.put, List.setIfInBounds_toArray, List.set_cons_zero, List.set_cons_succ]
    refine Kt.G.takeP 14 { dst := some 25, op := Op.call { callee := Callee.builtin Builtin.min, args := #[Operand.tmp 24, Operand.const (Value.int IntKind.i64 16)], argTypes := #[3, 3] }, type := 3, pos := "bulk.go:37", after := #[{ on := 13, ground := Ground.data }], guard := none } ?_ (fun _ => hHeld) rfl (by kernel_rfl) (fun _ _ _ h => h) (by rfl) ?_ ?_
    rotate_left
    · intro w; go_simp; try with_reducible rfl
    try simp only [Act.put, List.setIfInBounds_toArray, List.set_cons_zero, List.set_cons_succ]
    refine Kt.G.takeP 15 { dst := some 26, op := Op.binOp BinOp.add 3 (Operand.const (Value.int IntKind.i64 15)) (Operand.tmp 25) 3, type := 3, pos := "bulk.go:37", after := #[{ on := 14, ground := Ground.data }], guard := none } ?_ (fun _ => hHeld) rfl (by kernel_rfl) (fun _ _ _ h => h) (by rfl) ?_ ?_
    rotate_left
    · intro w; go_simp; try with_reducible rfl
    try simp only [Act.put, List.setIfInBounds_toArray, List.set_cons_zero, List.set_cons_succ]
    refine Kt.G.takeP 16 { dst := some 27, op := Op.slice 9 (Operand.tmp 21) (some (Operand.const (Value.int IntKind.i64 15))) (some (Operand.tmp 26)) none, type := 9, pos := "bulk.go:37", after := #[{ on := 10, ground := Ground.data }, { on := 15, ground := Ground.data }], guard := none } ?_ (fun _ => hHeld) rfl (by kernel_rfl) (fun _ _ _ h => h) (by rfl) ?_ ?_
    rotate_left
    · intro w; go_simp; try with_reducible rfl
    try simp only [Act.put, List.setIfInBounds_toArray, List.set_cons_zero, List.set_cons_succ]
    refine Kt.G.two 1 18 { dst := some 12, op := Op.call { callee := Callee.value (Operand.func 68), args := #[Operand.tmp 11, Operand.const (Value.int IntKind.i64 4)], argTypes := #[9, 3] }, type := 3, pos := "bulk.go:37", after := #[{ on := 0, ground := Ground.data }], guard := none } { dst := some 4, op := Op.alloc 75, type := 0, pos := "bulk.go:37", after := #[], guard := none } rfl rfl (by kernel_rfl) (by rfl) (by rfl) (fun K hK => ?_) (fun K hK => ?_)
    · go_simp
      refine (HL.out _).mono ?_; rintro en x1 ⟨rfl, hb1⟩
      refine hK.out _ _ (fun _ => hHeld.on hb1) (fun hHeld => ?_)
      have hHeld := hHeld rfl
      clear hK K
      try simp only [Act.put, List.setIfInBounds_toArray, List.set_cons_zero, List.set_cons_succ]
      try (replace rK := Kt.row_on hb1 rK)
      clear hb1
      refine Kt.G.two 3 18 { dst := some 14, op := Op.call { callee := Callee.value (Operand.func 68), args := #[Operand.tmp 13, Operand.const (Value.int IntKind.i64 8)], argTypes := #[9, 3] }, type := 3, pos := "bulk.go:37", after := #[{ on := 2, ground := Ground.data }, { on := 1, ground := Ground.chain }], guard := none } { dst := some 4, op := Op.alloc 75, type := 0, pos := "bulk.go:37", after := #[], guard := none } rfl rfl (by kernel_rfl) (by rfl) (by rfl) (fun K hK => ?_) (fun K hK => ?_)
      · go_simp
        refine (HM.out _).mono ?_; rintro en x3 ⟨rfl, hb3⟩
        refine hK.out _ _ (fun _ => hHeld.on hb3) (fun hHeld => ?_)
        have hHeld := hHeld rfl
        clear hK K
        try simp only [Act.put, List.setIfInBounds_toArray, List.set_cons_zero, List.set_cons_succ]
        try (replace rK := Kt.row_on hb3 rK)
        clear hb3
        refine Kt.G.takeP 17 { dst := some 28, op := Op.build 75 #[(0, Operand.tmp 12), (1, Operand.tmp 14), (2, Operand.tmp 17), (3, Operand.tmp 20), (4, Operand.tmp 27)], type := 75, pos := "bulk.go:37", after := #[{ on := 1, ground := Ground.data }, { on := 3, ground := Ground.data }, { on := 6, ground := Ground.data }, { on := 9, ground := Ground.data }, { on := 16, ground := Ground.data }], guard := none } ?_ (fun _ => hHeld) rfl (by kernel_rfl) (fun _ _ _ h => h) (by rfl) ?_ ?_
        rotate_left
        · intro w; go_simp; try with_reducible rfl
        try simp only [Act.put, List.setIfInBounds_toArray, List.set_cons_zero, List.set_cons_succ]
        refine Kt.G.one 18 { dst := some 4, op := Op.alloc 75, type := 0, pos := "bulk.go:37", after := #[], guard := none } rfl (by kernel_rfl) (by rfl) (fun K hK => ?_)
        have hHeld0 := hHeld
        go_simp
        refine hK.out _ _ (fun _ => hHeld.alloc _) (fun hHeld => ?_)
        have hHeld := hHeld rfl
        clear hK K
        try simp only [Act.put, List.setIfInBounds_toArray, List.set_cons_zero, List.set_cons_succ]
        have rK := heap_alloc_new x3 (.cells #[.int .i64 0, .int .i64 0, .bool false, .int .i64 0, .string ⟨#[]⟩] 75)
        have hk0 : w0.heap.size < x3.heap.size := hHeld0.lt (r := (w0.heap.size, #[.int .i64 0, .int .i64 0, .bool false, .int .i64 0, .string ⟨#[]⟩], 75)) (by simp)
        clear hHeld0
        generalize hkB : x3.heap.size = kB at *
        clear hkB
        generalize x3.alloc (.cells #[.int .i64 0, .int .i64 0, .bool false, .int .i64 0, .string ⟨#[]⟩] 75) = xk at *
        refine Kt.G.one 19 { dst := none, op := Op.store 75 (Operand.tmp 4) (Operand.tmp 28), type := 0, pos := "bulk.go:37", after := #[{ on := 18, ground := Ground.data }, { on := 17, ground := Ground.data }, { on := 3, ground := Ground.chain }, { on := 0, ground := Ground.phase }, { on := 1, ground := Ground.phase }, { on := 2, ground := Ground.phase }, { on := 3, ground := Ground.phase }, { on := 4, ground := Ground.phase }, { on := 5, ground := Ground.phase }, { on := 6, ground := Ground.phase }, { on := 7, ground := Ground.phase }, { on := 8, ground := Ground.phase }, { on := 9, ground := Ground.phase }, { on := 10, ground := Ground.phase }, { on := 11, ground := Ground.phase }, { on := 12, ground := Ground.phase }, { on := 13, ground := Ground.phase }, { on := 14, ground := Ground.phase }, { on := 15, ground := Ground.phase }, { on := 16, ground := Ground.phase }, { on := 17, ground := Ground.phase }, { on := 18, ground := Ground.phase }], guard := none } rfl (by kernel_rfl) (by rfl) (fun K hK => ?_)
        have cK := fun i => cell_of_row _ _ i _ _ _ rK; have fK := fun i => frozen_of_row _ _ i _ _ rK
        go_simp
        refine hK.out _ _ (Kt.G.late (by kernel_rfl)) (fun _ => ?_)
        clear hK K
        try simp only [Act.put, List.setIfInBounds_toArray, List.set_cons_zero, List.set_cons_succ]
        refine Kt.G.done (by kernel_rfl) (NoPanic.normal ?_) _
        go_wp2_with fail
        go_meet
        case rel =>
          exact ⟨kB, rfl, hk0, Kt.fill [.int .i64 tg, .int .i64 ln, .bool inn, .int .i64 un, .string cmd] rK rfl, (Kt.setCells_other [.int .i64 tg, .int .i64 ln, .bool inn, .int .i64 un, .string cmd] kB 0 _ _ (Nat.ne_of_lt hk0)).trans (hHeld.row (w0.heap.size, #[.int .i64 0, .int .i64 0, .bool false, .int .i64 0, .string ⟨#[]⟩], 75) (by simp)), Kt.below_setCells [.int .i64 tg, .int .i64 ln, .bool inn, .int .i64 un, .string cmd] kB 0 _ _ (Nat.le_of_lt hk0) hHeld.bel⟩
      · have hHeld0 := hHeld
        go_simp
        refine hK.out _ _ (fun _ => hHeld.alloc _) (fun hHeld => ?_)
        have hHeld := hHeld rfl
        clear hK K
        try simp only [Act.put, List.setIfInBounds_toArray, List.set_cons_zero, List.set_cons_succ]
        have rK := heap_alloc_new x1 (.cells #[.int .i64 0, .int .i64 0, .bool false, .int .i64 0, .string ⟨#[]⟩] 75)
        have hk0 : w0.heap.size < x1.heap.size := hHeld0.lt (r := (w0.heap.size, #[.int .i64 0, .int .i64 0, .bool false, .int .i64 0, .string ⟨#[]⟩], 75)) (by simp)
        clear hHeld0
        generalize hkB : x1.heap.size = kB at *
        clear hkB
        generalize x1.alloc (.cells #[.int .i64 0, .int .i64 0, .bool false, .int .i64 0, .string ⟨#[]⟩] 75) = xk at *
        refine Kt.G.one 3 { dst := some 14, op := Op.call { callee := Callee.value (Operand.func 68), args := #[Operand.tmp 13, Operand.const (Value.int IntKind.i64 8)], argTypes := #[9, 3] }, type := 3, pos := "bulk.go:37", after := #[{ on := 2, ground := Ground.data }, { on := 1, ground := Ground.chain }], guard := none } rfl (by kernel_rfl) (by rfl) (fun K hK => ?_)
        go_simp
        refine (HM.out _).mono ?_; rintro en x3 ⟨rfl, hb3⟩
        refine hK.out _ _ (fun _ => hHeld.on hb3) (fun hHeld => ?_)
        have hHeld := hHeld rfl
        clear hK K
        try simp only [Act.put, List.setIfInBounds_toArray, List.set_cons_zero, List.set_cons_succ]
        try (replace rK := Kt.row_on hb3 rK)
        clear hb3
        refine Kt.G.takeP 17 { dst := some 28, op := Op.build 75 #[(0, Operand.tmp 12), (1, Operand.tmp 14), (2, Operand.tmp 17), (3, Operand.tmp 20), (4, Operand.tmp 27)], type := 75, pos := "bulk.go:37", after := #[{ on := 1, ground := Ground.data }, { on := 3, ground := Ground.data }, { on := 6, ground := Ground.data }, { on := 9, ground := Ground.data }, { on := 16, ground := Ground.data }], guard := none } ?_ (fun _ => hHeld) rfl (by kernel_rfl) (fun _ _ _ h => h) (by rfl) ?_ ?_
        rotate_left
        · intro w; go_simp; try with_reducible rfl
        try simp only [Act.put, List.setIfInBounds_toArray, List.set_cons_zero, List.set_cons_succ]
        refine Kt.G.one 19 { dst := none, op := Op.store 75 (Operand.tmp 4) (Operand.tmp 28), type := 0, pos := "bulk.go:37", after := #[{ on := 18, ground := Ground.data }, { on := 17, ground := Ground.data }, { on := 3, ground := Ground.chain }, { on := 0, ground := Ground.phase }, { on := 1, ground := Ground.phase }, { on := 2, ground := Ground.phase }, { on := 3, ground := Ground.phase }, { on := 4, ground := Ground.phase }, { on := 5, ground := Ground.phase }, { on := 6, ground := Ground.phase }, { on := 7, ground := Ground.phase }, { on := 8, ground := Ground.phase }, { on := 9, ground := Ground.phase }, { on := 10, ground := Ground.phase }, { on := 11, ground := Ground.phase }, { on := 12, ground := Ground.phase }, { on := 13, ground := Ground.phase }, { on := 14, ground := Ground.phase }, { on := 15, ground := Ground.phase }, { on := 16, ground := Ground.phase }, { on := 17, ground := Ground.phase }, { on := 18, ground := Ground.phase }], guard := none } rfl (by kernel_rfl) (by rfl) (fun K hK => ?_)
        have cK := fun i => cell_of_row _ _ i _ _ _ rK; have fK := fun i => frozen_of_row _ _ i _ _ rK
        go_simp
        refine hK.out _ _ (Kt.G.late (by kernel_rfl)) (fun _ => ?_)
        clear hK K
        try simp only [Act.put, List.setIfInBounds_toArray, List.set_cons_zero, List.set_cons_succ]
        refine Kt.G.done (by kernel_rfl) (NoPanic.normal ?_) _
        go_wp2_with fail
        go_meet
        case rel =>
          exact ⟨kB, rfl, hk0, Kt.fill [.int .i64 tg, .int .i64 ln, .bool inn, .int .i64 un, .string cmd] rK rfl, (Kt.setCells_other [.int .i64 tg, .int .i64 ln, .bool inn, .int .i64 un, .string cmd] kB 0 _ _ (Nat.ne_of_lt hk0)).trans (hHeld.row (w0.heap.size, #[.int .i64 0, .int .i64 0, .bool false, .int .i64 0, .string ⟨#[]⟩], 75) (by simp)), Kt.below_setCells [.int .i64 tg, .int .i64 ln, .bool inn, .int .i64 un, .string cmd] kB 0 _ _ (Nat.le_of_lt hk0) hHeld.bel⟩
    · have hHeld0 := hHeld
      go_simp
      refine hK.out _ _ (fun _ => hHeld.alloc _) (fun hHeld => ?_)
      have hHeld := hHeld rfl
      clear hK K
      try simp only [Act.put, List.setIfInBounds_toArray, List.set_cons_zero, List.set_cons_succ]
      have rK := heap_alloc_new x0 (.cells #[.int .i64 0, .int .i64 0, .bool false, .int .i64 0, .string ⟨#[]⟩] 75)
      have hk0 : w0.heap.size < x0.heap.size := hHeld0.lt (r := (w0.heap.size, #[.int .i64 0, .int .i64 0, .bool false, .int .i64 0, .string ⟨#[]⟩], 75)) (by simp)
      clear hHeld0
      generalize hkB : x0.heap.size = kB at *
      clear hkB
      generalize x0.alloc (.cells #[.int .i64 0, .int .i64 0, .bool false, .int .i64 0, .string ⟨#[]⟩] 75) = xk at *
      refine Kt.G.one 1 { dst := some 12, op := Op.call { callee := Callee.value (Operand.func 68), args := #[Operand.tmp 11, Operand.const (Value.int IntKind.i64 4)], argTypes := #[9, 3] }, type := 3, pos := "bulk.go:37", after := #[{ on := 0, ground := Ground.data }], guard := none } rfl (by kernel_rfl) (by rfl) (fun K hK => ?_)
      go_simp
      refine (HL.out _).mono ?_; rintro en x1 ⟨rfl, hb1⟩
      refine hK.out _ _ (fun _ => hHeld.on hb1) (fun hHeld => ?_)
      have hHeld := hHeld rfl
      clear hK K
      try simp only [Act.put, List.setIfInBounds_toArray, List.set_cons_zero, List.set_cons_succ]
      try (replace rK := Kt.row_on hb1 rK)
      clear hb1
      refine Kt.G.one 3 { dst := some 14, op := Op.call { callee := Callee.value (Operand.func 68), args := #[Operand.tmp 13, Operand.const (Value.int IntKind.i64 8)], argTypes := #[9, 3] }, type := 3, pos := "bulk.go:37", after := #[{ on := 2, ground := Ground.data }, { on := 1, ground := Ground.chain }], guard := none } rfl (by kernel_rfl) (by rfl) (fun K hK => ?_)
      go_simp
      refine (HM.out _).mono ?_; rintro en x3 ⟨rfl, hb3⟩
      refine hK.out _ _ (fun _ => hHeld.on hb3) (fun hHeld => ?_)
      have hHeld := hHeld rfl
      clear hK K
      try simp only [Act.put, List.setIfInBounds_toArray, List.set_cons_zero, List.set_cons_succ]
      try (replace rK := Kt.row_on hb3 rK)
      clear hb3
      refine Kt.G.takeP 17 { dst := some 28, op := Op.build 75 #[(0, Operand.tmp 12), (1, Operand.tmp 14), (2, Operand.tmp 17), (3, Operand.tmp 20), (4, Operand.tmp 27)], type := 75, pos := "bulk.go:37", after := #[{ on := 1, ground := Ground.data }, { on := 3, ground := Ground.data }, { on := 6, ground := Ground.data }, { on := 9, ground := Ground.data }, { on := 16, ground := Ground.data }], guard := none } ?_ (fun _ => hHeld) rfl (by kernel_rfl) (fun _ _ _ h => h) (by rfl) ?_ ?_
      rotate_left
      · intro w; go_simp; try with_reducible rfl
      try simp only [Act.put, List.setIfInBounds_toArray, List.set_cons_zero, List.set_cons_succ]
      refine Kt.G.one 19 { dst := none, op := Op.store 75 (Operand.tmp 4) (Operand.tmp 28), type := 0, pos := "bulk.go:37", after := #[{ on := 18, ground := Ground.data }, { on := 17, ground := Ground.data }, { on := 3, ground := Ground.chain }, { on := 0, ground := Ground.phase }, { on := 1, ground := Ground.phase }, { on := 2, ground := Ground.phase }, { on := 3, ground := Ground.phase }, { on := 4, ground := Ground.phase }, { on := 5, ground := Ground.phase }, { on := 6, ground := Ground.phase }, { on := 7, ground := Ground.phase }, { on := 8, ground := Ground.phase }, { on := 9, ground := Ground.phase }, { on := 10, ground := Ground.phase }, { on := 11, ground := Ground.phase }, { on := 12, ground := Ground.phase }, { on := 13, ground := Ground.phase }, { on := 14, ground := Ground.phase }, { on := 15, ground := Ground.phase }, { on := 16, ground := Ground.phase }, { on := 17, ground := Ground.phase }, { on := 18, ground := Ground.phase }], guard := none } rfl (by kernel_rfl) (by rfl) (fun K hK => ?_)
      have cK := fun i => cell_of_row _ _ i _ _ _ rK; have fK := fun i => frozen_of_row _ _ i _ _ rK
      go_simp
      refine hK.out _ _ (Kt.G.late (by kernel_rfl)) (fun _ => ?_)
      clear hK K
      try simp only [Act.put, List.setIfInBounds_toArray, List.set_cons_zero, List.set_cons_succ]
      refine Kt.G.done (by kernel_rfl) (NoPanic.normal ?_) _
      go_wp2_with fail
      go_meet
      case rel =>
        exact ⟨kB, rfl, hk0, Kt.fill [.int .i64 tg, .int .i64 ln, .bool inn, .int .i64 un, .string cmd] rK rfl, (Kt.setCells_other [.int .i64 tg, .int .i64 ln, .bool inn, .int .i64 un, .string cmd] kB 0 _ _ (Nat.ne_of_lt hk0)).trans (hHeld.row (w0.heap.size, #[.int .i64 0, .int .i64 0, .bool false, .int .i64 0, .string ⟨#[]⟩], 75) (by simp)), Kt.below_setCells [.int .i64 tg, .int .i64 ln, .bool inn, .int .i64 un, .string cmd] kB 0 _ _ (Nat.le_of_lt hk0) hHeld.bel⟩
    -- END RW
  case rest =>
    obtain ⟨kB, rfl, hk, rK, r2, hbel⟩ := hcut
    have HB := Lib.hid hbel
    have HRK := Lib.hid rK
    have HR := Lib.hid r2
    have q := fun i => cell_of_row _ _ i _ _ _ rK
    clear hbel rK r2 hc12 hc13 hc14 hw15 lo15 hi15 hx15 HL HM htg hln hinn hun hcmd hb14 i12 i13 i14
    go_wp2_with fail
    refine (writeW_calls ⟨tg, ln, inn, un, cmd⟩ _).mono ?_
    rintro e w2 ⟨rfl, hb⟩
    have HB2 := Lib.hid (Kt.bthen HB.out hb)
    have HRK2 := Lib.hid (Kt.row_on hb HRK.out)
    have HR2 := Lib.hid (Kt.row_on hb HR.out)
    clear hb HB HRK HR q
    obtain ⟨T, E, hT⟩ : ∃ T E, writeW ⟨tg, ln, inn, un, cmd⟩ = (T, E) := ⟨_, _, rfl⟩
    rw [hT]
    have HT := Lib.hid hT
    have q := fun i => cell_of_row _ _ i _ _ _ HRK2.out
    have q2 := fun i => cell_of_row _ _ i _ _ _ HR2.out
    have f2 := fun i => frozen_of_row _ _ i _ _ HR2.out
    have HN := Lib.hid (Nat.le_of_lt hk)
    clear hT hk
    by_cases hok : OkW (unW s) ∧ wrapT (unW s) = s
    · have hrd : readW s = (unW s, 0) := by unfold readW; rw [if_neg (by have := HZ.out; omega), if_pos hok]
      have e : writeW ⟨tg, ln, inn, un, cmd⟩ = (s, 0) := by
        rw [← HX.out]
        exact (if_pos hok.1).trans (by rw [hok.2])
      rw [HT.out] at e
      cases e
      have HRD := Lib.hid hrd
      clear hok hrd
      go_wp2_with fail
      have hW := ld_w (Kt.fill [.int .i64 tg, .int .i64 ln, .bool inn, .int .i64 un, .string cmd] HR2.out rfl)
      simp only [World.setCells, Nat.zero_add, Nat.reduceAdd] at hW
      refine bodyPost_ret (v := .tuple #[.agg #[.int .i64 tg, .int .i64 ln, .bool inn, .int .i64 un, .string cmd], .int .i64 0]) (by simp [results, Try.results73, asAddr, hW]) rfl ?_
      exact ⟨by rw [HRD.out, HX.out]; rfl, Kt.below_setCells [.int .i64 tg, .int .i64 ln, .bool inn, .int .i64 un, .string cmd] w0.heap.size 0 w2 w0 (Nat.le_refl _) HB2.out⟩
    · have hrd : readW s = (zeroW, 4) := by unfold readW; rw [if_neg (by have := HZ.out; omega), if_neg hok]
      have hne : (E != 0) = true ∨ (E = 0 ∧ (T.toList == s.toList) = false) := by
        rw [HX.out] at hok
        by_cases ho : OkW ⟨tg, ln, inn, un, cmd⟩
        · have e : writeW ⟨tg, ln, inn, un, cmd⟩ = (wrapT ⟨tg, ln, inn, un, cmd⟩, 0) := if_pos ho
          rw [HT.out] at e
          cases e
          exact .inr ⟨rfl, str_ne fun q => hok ⟨ho, q⟩⟩
        · have e : writeW ⟨tg, ln, inn, un, cmd⟩ = (ByteArray.empty, 1) := if_neg ho
          rw [HT.out] at e
          cases e
          exact .inl rfl
      have HRD := Lib.hid hrd
      clear hok hrd
      rcases hne with h1 | ⟨rfl, h1⟩
      all_goals
        go_wp2_with fail
        have hW := ld_w (Kt.fill [.int .i64 0, .int .i64 0, .bool false, .int .i64 0, .string ⟨#[]⟩] HR2.out rfl)
        simp only [World.setCells, Nat.zero_add, Nat.reduceAdd] at hW
        refine bodyPost_ret (v := .tuple #[.agg #[.int .i64 0, .int .i64 0, .bool false, .int .i64 0, .string ⟨#[]⟩], .int .i64 4]) (by simp [results, Try.results73, asAddr, hW]) rfl ?_
        exact ⟨by rw [HRD.out]; rfl, Kt.below_setCells [.int .i64 0, .int .i64 0, .bool false, .int .i64 0, .string ⟨#[]⟩] w0.heap.size 0 w2 w0 (Nat.le_refl _) HB2.out⟩
theorem readW_calls (s : ByteArray) (w : World) :
    Calls Try.prog 73 #[.string s] w fun e w' => e = .returned (.tuple #[wrV (readW s).1, .int .i64 (readW s).2]) ∧ Below w.heap.size w w' := by
  by_cases h : s.size < 31
  · have e : readW s = (zeroW, 3) := if_pos h
    rw [e]
    exact readW_short s h w
  · exact readW_long s (by omega) w
end Go.Proofs.Ytafiedhjjnapoaa
