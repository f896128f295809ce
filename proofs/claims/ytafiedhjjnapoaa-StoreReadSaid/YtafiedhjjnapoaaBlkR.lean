/- bulk: WriteWrap walked. -/
import Derived.Test.YtafiedhjjnapoaaBlkV
import Derived.Test.YtafiedhjjnapoaaShelf
import Derived.Deep.CutBlock
import Derived.Deep.CutRange
namespace Go.Proofs.Ytafiedhjjnapoaa
open Go.RowKit Go.Proofs.Ytafiedhjjnapoaa.Scs Go.Proofs.Ytafiedhjjnapoaa.Blk
def wrV (x : Wr) : Value := .agg #[.int .i64 x.tag, .int .i64 x.len, .bool x.inn, .int .i64 x.unit, .string x.cmd]
theorem rep0 : ∀ n : Nat, (⟨(Lib.repeatL (⟨#[0]⟩ : ByteArray).data.toList n).toArray⟩ : ByteArray) = zeros n := by
  have h : ∀ n : Nat, Lib.repeatL [(0 : UInt8)] n = List.replicate n 0 := by
    intro n
    induction n with
    | zero => rfl
    | succ n ih => simp [Lib.repeatL, ih, List.replicate_succ]
  intro n
  show (⟨(Lib.repeatL [(0 : UInt8)] n).toArray⟩ : ByteArray) = _
  rw [h]; rfl
theorem wrap_mid (x : Wr) (fl : Int) (hf : fl = if x.inn then 128 else 0) (h : OkW x) :
    usbc ++ le4 x.tag.toNat ++ le4 x.len.toNat ++ (⟨(List.map (fun (n : Int) => UInt8.ofNat n.toNat) [fl, IntKind.u8.wrap x.unit, IntKind.u8.wrap (x.cmd.size : Int)]).toArray⟩ : ByteArray) ++ x.cmd = wrapS x := by
  have wr : ∀ x : Int, IntKind.u8.wrap x = x % 256 := fun x => by rfl
  have h1 := h.u1; have h2 := h.u2; have h3 := h.c2
  have e1 : UInt8.ofNat (IntKind.u8.wrap x.unit).toNat = UInt8.ofNat x.unit.toNat := by
    rw [wr]; congr 1; omega
  have e2 : UInt8.ofNat (IntKind.u8.wrap (x.cmd.size : Int)).toNat = UInt8.ofNat x.cmd.size := by
    rw [wr]; congr 1; omega
  have e3 : UInt8.ofNat fl.toNat = flag x.inn := by
    rw [hf]; cases x.inn <;> rfl
  simp only [List.map_cons, List.map_nil, e1, e2, e3]
  rfl
theorem wrap_bad (x : Wr) (h : ¬ OkW x) (w : World) :
    Calls Try.prog 54 #[wrV x] w fun e w' => e = .returned (.tuple #[.string ⟨#[]⟩, .int .i64 1]) ∧ Below w.heap.size w w' := by
  have h6 : in32 x.tag = false ∨ (in32 x.tag = true ∧ in32 x.len = false) ∨ (in32 x.tag = true ∧ in32 x.len = true ∧ (x.unit < 0 ∨ (0 ≤ x.unit ∧ 15 < x.unit) ∨ (0 ≤ x.unit ∧ x.unit ≤ 15 ∧ (x.cmd.size : Int) < 1) ∨ (0 ≤ x.unit ∧ x.unit ≤ 15 ∧ 1 ≤ (x.cmd.size : Int) ∧ 16 < (x.cmd.size : Int)))) := by
    unfold in32
    simp only [decide_eq_false_iff_not, decide_eq_true_eq]
    by_cases a : 0 ≤ x.tag ∧ x.tag < 4294967296
    · by_cases b : 0 ≤ x.len ∧ x.len < 4294967296
      · refine .inr (.inr ⟨a, b, ?_⟩)
        by_cases c1 : x.unit < 0
        · exact .inl c1
        by_cases c2 : 15 < x.unit
        · exact .inr (.inl (by omega))
        by_cases c3 : (x.cmd.size : Int) < 1
        · exact .inr (.inr (.inl (by omega)))
        · by_cases c4 : 16 < (x.cmd.size : Int)
          · exact .inr (.inr (.inr (by omega)))
          · exact absurd ⟨a.1, a.2, b.1, b.2, by omega, by omega, by omega, by omega⟩ h
      · exact .inr (.inl ⟨a, b⟩)
    · exact .inl a
  clear h
  unfold wrV
  rcases h6 with h1 | ⟨h1, h2⟩ | ⟨h1, h2, h3⟩
  · go_enter Try.func54, Try.ntmps54
    go_wp2_with fail
    refine (is32_calls _ _).mono ?_; rintro e w1 ⟨rfl, rfl⟩
    rw [h1]
    go_wp2_with fail
    refine bodyPost_ret (v := .tuple #[.string ⟨#[]⟩, .int .i64 1]) (by simp [results, Try.results54]) rfl ?_
    exact ⟨rfl, Kt.balloc (Below.refl _ _) _⟩
  · go_enter Try.func54, Try.ntmps54
    go_wp2_with fail
    refine (is32_calls _ _).mono ?_; rintro e w1 ⟨rfl, rfl⟩
    rw [h1]
    go_wp2_with fail
    refine (is32_calls _ _).mono ?_; rintro e w1 ⟨rfl, rfl⟩
    rw [h2]
    go_wp2_with fail
    refine bodyPost_ret (v := .tuple #[.string ⟨#[]⟩, .int .i64 1]) (by simp [results, Try.results54]) rfl ?_
    exact ⟨rfl, Kt.balloc (Below.refl _ _) _⟩
  · rcases h3 with h3 | ⟨h3, h4⟩ | ⟨h3, h4, h5⟩ | ⟨h3, h4, h5, h6⟩
    all_goals
      go_enter Try.func54, Try.ntmps54
      go_wp2_with fail
      refine (is32_calls _ _).mono ?_; rintro e w1 ⟨rfl, rfl⟩
      rw [h1]
      go_wp2_with fail
      refine (is32_calls _ _).mono ?_; rintro e w1 ⟨rfl, rfl⟩
      rw [h2]
      go_wp2_with fail
      refine bodyPost_ret (v := .tuple #[.string ⟨#[]⟩, .int .i64 1]) (by simp [results, Try.results54]) rfl ?_
      exact ⟨rfl, Kt.balloc (Below.refl _ _) _⟩
set_option maxRecDepth 100000 in
set_option maxHeartbeats 1600000 in
theorem wrap_good_true (x : Wr) (hin : x.inn = true) (h : OkW x) (w0 : World) :
    Calls Try.prog 54 #[wrV x] w0 fun e w' => e = .returned (.tuple #[.string (wrapT x), .int .i64 0]) ∧ Below w0.heap.size w0 w' := by
  have HO := Lib.hid h
  obtain ⟨B2, hB2⟩ : ∃ B, le4 x.tag.toNat = B := ⟨_, rfl⟩
  obtain ⟨B6, hB6⟩ : ∃ B, le4 x.len.toNat = B := ⟨_, rfl⟩
  have sB2 : B2.size = 4 := by rw [← hB2]; rfl
  have sB6 : B6.size = 4 := by rw [← hB6]; rfl
  have HL : Hid (∀ W, Calls Try.prog 62 #[.int .i64 x.tag] W fun e w' => e = .returned (.string B2) ∧ Below W.heap.size W w') := Lib.hid fun W => by
    have h1 := h.t1; have h2 := h.t2
    have := blong_calls x.tag.toNat (by omega) W
    rw [show ((x.tag.toNat : Nat) : Int) = x.tag by omega, hB2] at this
    exact this
  have HM : Hid (∀ W, Calls Try.prog 62 #[.int .i64 x.len] W fun e w' => e = .returned (.string B6) ∧ Below W.heap.size W w') := Lib.hid fun W => by
    have h1 := h.l1; have h2 := h.l2
    have := blong_calls x.len.toNat (by omega) W
    rw [show ((x.len.toNat : Nat) : Int) = x.len by omega, hB6] at this
    exact this
  have g1 : in32 x.tag = true := decide_eq_true ⟨h.t1, h.t2⟩
  have g2 : in32 x.len = true := decide_eq_true ⟨h.l1, h.l2⟩
  have g3 : ¬ x.unit < 0 := by have := h.u1; omega
  have g4 : ¬ 15 < x.unit := by have := h.u2; omega
  have g5 : ¬ (x.cmd.size : Int) < 1 := by have := h.c1; omega
  have g6 : ¬ 16 < (x.cmd.size : Int) := by have := h.c2; omega
  have g7 : x.cmd.size ≤ 16 := h.c2
  have g8 : ¬ 9223372036854775807 < 15 + x.cmd.size := by omega
  have HR : Hid (∀ W, Calls Try.prog 27 #[.string ⟨#[0]⟩, .int .i64 (31 - ((wrapS x).size : Int))] W fun e w' => e = .returned (.string (zeros (31 - (wrapS x).size))) ∧ Below W.heap.size W w') := Lib.hid fun W => by
    have hs := wrapS_size x
    have := Try.strings_Repeat ⟨#[0]⟩ (31 - (wrapS x).size) W (by omega) (by rw [show (⟨#[0]⟩ : ByteArray).size = 1 from rfl, Nat.one_mul]; omega)
    rw [rep0, show ((31 - (wrapS x).size : Nat) : Int) = 31 - ((wrapS x).size : Int) by omega] at this
    exact this
  have HT : Hid (wrapS x ++ zeros (31 - (wrapS x).size) = wrapT x) := Lib.hid rfl
  have hws : (wrapS x).size = 15 + x.cmd.size := wrapS_size x
  have hzs := zeros_size (31 - (wrapS x).size)
  clear h
  unfold wrV
  rw [hin]
  go_enter Try.func54, Try.ntmps54
  go_wp2_with fail
  refine (is32_calls _ _).mono ?_; rintro e w1 ⟨rfl, rfl⟩
  rw [g1]
  go_wp2_with fail
  refine (is32_calls _ _).mono ?_; rintro e w1 ⟨rfl, rfl⟩
  rw [g2]
  go_upto_region 6 with (fail)
  clear g1 g2 g3 g4 g5 g6
  go_cut [5] from 40 to 61 (fun v wx => v = .string (wrapS x) ∧ Below w0.heap.size w0 wx)
  case first =>
    clear hws hzs HR HT
    -- REGION 128
    obtain ⟨B16, hB16⟩ : ∃ B : ByteArray, (⟨(List.map (fun (n : Int) => UInt8.ofNat n.toNat) [128, IntKind.u8.wrap x.unit, IntKind.u8.wrap (x.cmd.size : Int)]).toArray⟩ : ByteArray) = B := ⟨_, rfl⟩
    have sB16 : B16.size = 3 := by rw [← hB16]; rfl
    have HE : Hid ((⟨#[85, 83, 66, 67]⟩ : ByteArray) ++ B2 ++ B6 ++ B16 ++ x.cmd = wrapS x) := Lib.hid (by rw [← hB16, ← hB2, ← hB6]; exact wrap_mid x 128 (by rw [hin]; rfl) HO.out)
    have HF := ((Kt.Fb.nil w0 (Kt.balloc (Below.refl _ w0) _)).add (heap_alloc_new w0 (.cells #[.int .i64 x.tag, .int .i64 x.len, .bool true, .int .i64 x.unit, .string x.cmd] 75))).drew
    refine Kt.G.start 22 (Kt.Fb w0 [(w0.heap.size, #[.int .i64 x.tag, .int .i64 x.len, .bool true, .int .i64 x.unit, .string x.cmd], 75)]) (by kernel_rfl) HF (fun hHeld => ?_)
    clear HF
    generalize (w0.alloc (.cells #[.int .i64 x.tag, .int .i64 x.len, .bool true, .int .i64 x.unit, .string x.cmd] 75)).drew = x0 at *
    refine Kt.G.takeP 0 { dst := some 40, op := Op.fieldAddr 75 (Operand.tmp 1) 0, type := 0, pos := "bulk.go:28", after := #[], guard := none } ?_ (fun _ => hHeld) rfl (by kernel_rfl) (fun _ _ _ h => h) (by rfl) ?_ ?_
    rotate_left
    · intro w; go_simp; try with_reducible rfl
    try simp only [Act.put, List.setIfInBounds_toArray, List.set_cons_zero, List.set_cons_succ]
    refine Kt.G.take 1 { dst := some 41, op := Op.load 3 (Operand.tmp 40), type := 3, pos := "bulk.go:28", after := #[{ on := 0, ground := Ground.data }], guard := none } ?_ hHeld rfl (by kernel_rfl) (fun _ _ _ h => h) (by rfl) ?_ ?_
    rotate_left
    · intro w hSw; have r0 := hSw.row (w0.heap.size, #[.int .i64 x.tag, .int .i64 x.len, .bool true, .int .i64 x.unit, .string x.cmd], 75) (by simp); have c0 := fun i => cell_of_row _ _ i _ _ _ r0; dsimp only at *; go_simp; try with_reducible rfl
    try simp only [Act.put, List.setIfInBounds_toArray, List.set_cons_zero, List.set_cons_succ]
    refine Kt.G.takeP 4 { dst := some 44, op := Op.fieldAddr 75 (Operand.tmp 1) 1, type := 0, pos := "bulk.go:28", after := #[], guard := none } ?_ (fun _ => hHeld) rfl (by kernel_rfl) (fun _ _ _ h => h) (by rfl) ?_ ?_
    rotate_left
    · intro w; go_simp; try with_reducible rfl
    try simp only [Act.put, List.setIfInBounds_toArray, List.set_cons_zero, List.set_cons_succ]
    refine Kt.G.take 5 { dst := some 45, op := Op.load 3 (Operand.tmp 44), type := 3, pos := "bulk.go:28", after := #[{ on := 4, ground := Ground.data }], guard := none } ?_ hHeld rfl (by kernel_rfl) (fun _ _ _ h => h) (by rfl) ?_ ?_
    rotate_left
    · intro w hSw; have r0 := hSw.row (w0.heap.size, #[.int .i64 x.tag, .int .i64 x.len, .bool true, .int .i64 x.unit, .string x.cmd], 75) (by simp); have c0 := fun i => cell_of_row _ _ i _ _ _ r0; dsimp only at *; go_simp; try with_reducible rfl
    try simp only [Act.put, List.setIfInBounds_toArray, List.set_cons_zero, List.set_cons_succ]
    refine Kt.G.takeP 8 { dst := some 48, op := Op.move (Operand.tmp 4), type := 5, pos := "bulk.go:28", after := #[], guard := none } ?_ (fun _ => hHeld) rfl (by kernel_rfl) (fun _ _ _ h => h) (by rfl) ?_ ?_
    rotate_left
    · intro w; go_simp; try with_reducible rfl
    try simp only [Act.put, List.setIfInBounds_toArray, List.set_cons_zero, List.set_cons_succ]
    refine Kt.G.takeP 9 { dst := some 49, op := Op.fieldAddr 75 (Operand.tmp 1) 3, type := 0, pos := "bulk.go:28", after := #[], guard := none } ?_ (fun _ => hHeld) rfl (by kernel_rfl) (fun _ _ _ h => h) (by rfl) ?_ ?_
    rotate_left
    · intro w; go_simp; try with_reducible rfl
    try simp only [Act.put, List.setIfInBounds_toArray, List.set_cons_zero, List.set_cons_succ]
    refine Kt.G.take 10 { dst := some 50, op := Op.load 3 (Operand.tmp 49), type := 3, pos := "bulk.go:28", after := #[{ on := 9, ground := Ground.data }], guard := none } ?_ hHeld rfl (by kernel_rfl) (fun _ _ _ h => h) (by rfl) ?_ ?_
    rotate_left
    · intro w hSw; have r0 := hSw.row (w0.heap.size, #[.int .i64 x.tag, .int .i64 x.len, .bool true, .int .i64 x.unit, .string x.cmd], 75) (by simp); have c0 := fun i => cell_of_row _ _ i _ _ _ r0; dsimp only at *; go_simp; try with_reducible rfl
    try simp only [Act.put, List.setIfInBounds_toArray, List.set_cons_zero, List.set_cons_succ]
    refine Kt.G.takeP 11 { dst := some 51, op := Op.convert 3 5 (Operand.tmp 50), type := 5, pos := "bulk.go:28", after := #[{ on := 10, ground := Ground.data }], guard := none } ?_ (fun _ => hHeld) rfl (by kernel_rfl) (fun _ _ _ h => h) (by rfl) ?_ ?_
    rotate_left
    · intro w; go_simp; try with_reducible rfl
    try simp only [Act.put, List.setIfInBounds_toArray, List.set_cons_zero, List.set_cons_succ]
    refine Kt.G.takeP 12 { dst := some 52, op := Op.fieldAddr 75 (Operand.tmp 1) 4, type := 0, pos := "bulk.go:28", after := #[], guard := none } ?_ (fun _ => hHeld) rfl (by kernel_rfl) (fun _ _ _ h => h) (by rfl) ?_ ?_
    rotate_left
    · intro w; go_simp; try with_reducible rfl
    try simp only [Act.put, List.setIfInBounds_toArray, List.set_cons_zero, List.set_cons_succ]
    refine Kt.G.take 13 { dst := some 53, op := Op.load 9 (Operand.tmp 52), type := 9, pos := "bulk.go:28", after := #[{ on := 12, ground := Ground.data }], guard := none } ?_ hHeld rfl (by kernel_rfl) (fun _ _ _ h => h) (by rfl) ?_ ?_
    rotate_left
    · intro w hSw; have r0 := hSw.row (w0.heap.size, #[.int .i64 x.tag, .int .i64 x.len, .bool true, .int .i64 x.unit, .string x.cmd], 75) (by simp); have c0 := fun i => cell_of_row _ _ i _ _ _ r0; dsimp only at *; go_simp; try with_reducible rfl
    try simp only [Act.put, List.setIfInBounds_toArray, List.set_cons_zero, List.set_cons_succ]
    refine Kt.G.takeP 14 { dst := some 54, op := Op.call { callee := Callee.builtin Builtin.len, args := #[Operand.tmp 53], argTypes := #[9] }, type := 3, pos := "bulk.go:28", after := #[{ on := 13, ground := Ground.data }], guard := none } ?_ (fun _ => hHeld) rfl (by kernel_rfl) (fun _ _ _ h => h) (by rfl) ?_ ?_
    rotate_left
    · intro w; go_simp; try with_reducible rfl
    try simp only [Act.put, List.setIfInBounds_toArray, List.set_cons_zero, List.set_cons_succ]
    refine Kt.G.takeP 15 { dst := some 55, op := Op.convert 3 5 (Operand.tmp 54), type := 5, pos := "bulk.go:28", after := #[{ on := 14, ground := Ground.data }], guard := none } ?_ (fun _ => hHeld) rfl (by kernel_rfl) (fun _ _ _ h => h) (by rfl) ?_ ?_
    rotate_left
    · intro w; go_simp; try with_reducible rfl
    try simp only [Act.put, List.setIfInBounds_toArray, List.set_cons_zero, List.set_cons_succ]
    refine Kt.G.takeP 19 { dst := some 59, op := Op.fieldAddr 75 (Operand.tmp 1) 4, type := 0, pos := "bulk.go:28", after := #[], guard := none } ?_ (fun _ => hHeld) rfl (by kernel_rfl) (fun _ _ _ h => h) (by rfl) ?_ ?_
    rotate_left
    · intro w; go_simp; try with_reducible rfl
    try simp only [Act.put, List.setIfInBounds_toArray, List.set_cons_zero, List.set_cons_succ]
    refine Kt.G.take 20 { dst := some 60, op := Op.load 9 (Operand.tmp 59), type := 9, pos := "bulk.go:28", after := #[{ on := 19, ground := Ground.data }], guard := none } ?_ hHeld rfl (by kernel_rfl) (fun _ _ _ h => h) (by rfl) ?_ ?_
    rotate_left
    · intro w hSw; have r0 := hSw.row (w0.heap.size, #[.int .i64 x.tag, .int .i64 x.len, .bool true, .int .i64 x.unit, .string x.cmd], 75) (by simp); have c0 := fun i => cell_of_row _ _ i _ _ _ r0; dsimp only at *; go_simp; try with_reducible rfl
    try simp only [Act.put, List.setIfInBounds_toArray, List.set_cons_zero, List.set_cons_succ]
    refine Kt.G.two 2 16 { dst := some 42, op := Op.call { callee := Callee.value (Operand.func 62), args := #[Operand.tmp 41], argTypes := #[3] }, type := 9, pos := "bulk.go:28", after := #[{ on := 1, ground := Ground.data }], guard := none } { dst := some 56, op := Op.buildSlice 56 3 #[(0, Operand.tmp 48), (1, Operand.tmp 51), (2, Operand.tmp 55)], type := 56, pos := "bulk.go:28", after := #[{ on := 8, ground := Ground.data }, { on := 11, ground := Ground.data }, { on := 15, ground := Ground.data }], guard := none } rfl rfl (by kernel_rfl) (by rfl) (by rfl) (fun K hK => ?_) (fun K hK => ?_)
    · go_simp
      refine (HL.out _).mono ?_; rintro en x2 ⟨rfl, hb2⟩
      refine hK.out _ _ (fun _ => hHeld.on hb2) (fun hHeld => ?_)
      have hHeld := hHeld rfl
      clear hK K
      try simp only [Act.put, List.setIfInBounds_toArray, List.set_cons_zero, List.set_cons_succ]
      clear hb2
      refine Kt.G.takeP 3 { dst := some 43, op := Op.binOp BinOp.add 9 (Operand.const (Value.string { data := #[85, 83, 66, 67] })) (Operand.tmp 42) 9, type := 9, pos := "bulk.go:28", after := #[{ on := 2, ground := Ground.data }], guard := none } ?_ (fun _ => hHeld) rfl (by kernel_rfl) (fun _ _ _ h => h) (by rfl) ?_ ?_
      rotate_left
      · intro w; go_simp; try with_reducible rfl
      try simp only [Act.put, List.setIfInBounds_toArray, List.set_cons_zero, List.set_cons_succ]
      refine Kt.G.two 6 16 { dst := some 46, op := Op.call { callee := Callee.value (Operand.func 62), args := #[Operand.tmp 45], argTypes := #[3] }, type := 9, pos := "bulk.go:28", after := #[{ on := 5, ground := Ground.data }, { on := 2, ground := Ground.chain }], guard := none } { dst := some 56, op := Op.buildSlice 56 3 #[(0, Operand.tmp 48), (1, Operand.tmp 51), (2, Operand.tmp 55)], type := 56, pos := "bulk.go:28", after := #[{ on := 8, ground := Ground.data }, { on := 11, ground := Ground.data }, { on := 15, ground := Ground.data }], guard := none } rfl rfl (by kernel_rfl) (by rfl) (by rfl) (fun K hK => ?_) (fun K hK => ?_)
      · go_simp
        refine (HM.out _).mono ?_; rintro en x6 ⟨rfl, hb6⟩
        refine hK.out _ _ (fun _ => hHeld.on hb6) (fun hHeld => ?_)
        have hHeld := hHeld rfl
        clear hK K
        try simp only [Act.put, List.setIfInBounds_toArray, List.set_cons_zero, List.set_cons_succ]
        clear hb6
        refine Kt.G.takeP 7 { dst := some 47, op := Op.binOp BinOp.add 9 (Operand.tmp 43) (Operand.tmp 46) 9, type := 9, pos := "bulk.go:28", after := #[{ on := 3, ground := Ground.data }, { on := 6, ground := Ground.data }], guard := none } ?_ (fun _ => hHeld) rfl (by kernel_rfl) (fun _ _ _ h => h) (by rfl) ?_ ?_
        rotate_left
        · intro w; go_simp; try with_reducible rfl
        try simp only [Act.put, List.setIfInBounds_toArray, List.set_cons_zero, List.set_cons_succ]
        refine Kt.G.one 16 { dst := some 56, op := Op.buildSlice 56 3 #[(0, Operand.tmp 48), (1, Operand.tmp 51), (2, Operand.tmp 55)], type := 56, pos := "bulk.go:28", after := #[{ on := 8, ground := Ground.data }, { on := 11, ground := Ground.data }, { on := 15, ground := Ground.data }], guard := none } rfl (by kernel_rfl) (by rfl) (fun K hK => ?_)
        have hz16 := hHeld.bel.size
        go_simp
        refine hK.out _ _ (fun _ => hHeld.alloc _) (fun hHeld => ?_)
        have hHeld := hHeld rfl
        clear hK K
        try simp only [Act.put, List.setIfInBounds_toArray, List.set_cons_zero, List.set_cons_succ]
        have hHeld := hHeld.add (heap_alloc_new x6 (.cells #[.int .u8 128, .int .u8 (IntKind.u8.wrap x.unit), .int .u8 (IntKind.u8.wrap (x.cmd.size : Int))] 5))
        generalize hK16 : x6.heap.size = K16 at *
        clear hK16
        generalize x6.alloc (.cells #[.int .u8 128, .int .u8 (IntKind.u8.wrap x.unit), .int .u8 (IntKind.u8.wrap (x.cmd.size : Int))] 5) = y16 at *
        refine Kt.G.more (F' := Kt.Fb w0 ((K16, #[.int .u8 128, .int .u8 (IntKind.u8.wrap x.unit), .int .u8 (IntKind.u8.wrap (x.cmd.size : Int))], 5) :: [(w0.heap.size, #[.int .i64 x.tag, .int .i64 x.len, .bool true, .int .i64 x.unit, .string x.cmd], 75)])) (fun _ h => Kt.Fb.less h) _ _ _ _ ?_
        refine Kt.G.take 17 { dst := some 57, op := Op.convert 56 9 (Operand.tmp 56), type := 9, pos := "bulk.go:28", after := #[{ on := 16, ground := Ground.data }], guard := none } (.string B16) hHeld rfl (by kernel_rfl) (fun _ _ _ h => h) (by rfl) ?_ ?_
        · intro w hSw; have hcv := Kt.cv_row [128, IntKind.u8.wrap x.unit, IntKind.u8.wrap (x.cmd.size : Int)] #[.int .u8 128, .int .u8 (IntKind.u8.wrap x.unit), .int .u8 (IntKind.u8.wrap (x.cmd.size : Int))] 3 K16 rfl rfl (hSw.row (K16, #[.int .u8 128, .int .u8 (IntKind.u8.wrap x.unit), .int .u8 (IntKind.u8.wrap (x.cmd.size : Int))], 5) (by simp)); rw [hB16] at hcv; go_simp; try with_reducible rfl
        try simp only [Act.put, List.setIfInBounds_toArray, List.set_cons_zero, List.set_cons_succ]
        refine Kt.G.takeP 18 { dst := some 58, op := Op.binOp BinOp.add 9 (Operand.tmp 47) (Operand.tmp 57) 9, type := 9, pos := "bulk.go:28", after := #[{ on := 7, ground := Ground.data }, { on := 17, ground := Ground.data }], guard := none } ?_ (fun _ => hHeld) rfl (by kernel_rfl) (fun _ _ _ h => h) (by rfl) ?_ ?_
        rotate_left
        · intro w; go_simp; try with_reducible rfl
        try simp only [Act.put, List.setIfInBounds_toArray, List.set_cons_zero, List.set_cons_succ]
        refine Kt.G.takeP 21 { dst := some 61, op := Op.binOp BinOp.add 9 (Operand.tmp 58) (Operand.tmp 60) 9, type := 9, pos := "bulk.go:28", after := #[{ on := 18, ground := Ground.data }, { on := 20, ground := Ground.data }], guard := none } ?_ (fun _ => hHeld) rfl (by kernel_rfl) (fun _ _ _ h => h) (by rfl) ?_ ?_
        rotate_left
        · intro w; go_simp; try with_reducible rfl
        try simp only [Act.put, List.setIfInBounds_toArray, List.set_cons_zero, List.set_cons_succ]
        refine Kt.G.one 22 { dst := some 5, op := Op.assign (Operand.tmp 61), type := 9, pos := "bulk.go:28", after := #[{ on := 21, ground := Ground.data }, { on := 6, ground := Ground.chain }, { on := 0, ground := Ground.phase }, { on := 1, ground := Ground.phase }, { on := 2, ground := Ground.phase }, { on := 3, ground := Ground.phase }, { on := 4, ground := Ground.phase }, { on := 5, ground := Ground.phase }, { on := 6, ground := Ground.phase }, { on := 7, ground := Ground.phase }, { on := 8, ground := Ground.phase }, { on := 9, ground := Ground.phase }, { on := 10, ground := Ground.phase }, { on := 11, ground := Ground.phase }, { on := 12, ground := Ground.phase }, { on := 13, ground := Ground.phase }, { on := 14, ground := Ground.phase }, { on := 15, ground := Ground.phase }, { on := 16, ground := Ground.phase }, { on := 17, ground := Ground.phase }, { on := 18, ground := Ground.phase }, { on := 19, ground := Ground.phase }, { on := 20, ground := Ground.phase }, { on := 21, ground := Ground.phase }], guard := none } rfl (by kernel_rfl) (by rfl) (fun K hK => ?_)
        go_simp
        refine hK.out _ _ (Kt.G.late (by kernel_rfl)) (fun _ => ?_)
        clear hK K
        try simp only [Act.put, List.setIfInBounds_toArray, List.set_cons_zero, List.set_cons_succ]
        refine Kt.G.done (by kernel_rfl) (NoPanic.normal ?_) _
        go_wp2_with fail
        go_meet
        exact ⟨by rw [HE.out], hHeld.bel⟩
      · have hz16 := hHeld.bel.size
        go_simp
        refine hK.out _ _ (fun _ => hHeld.alloc _) (fun hHeld => ?_)
        have hHeld := hHeld rfl
        clear hK K
        try simp only [Act.put, List.setIfInBounds_toArray, List.set_cons_zero, List.set_cons_succ]
        have hHeld := hHeld.add (heap_alloc_new x2 (.cells #[.int .u8 128, .int .u8 (IntKind.u8.wrap x.unit), .int .u8 (IntKind.u8.wrap (x.cmd.size : Int))] 5))
        generalize hK16 : x2.heap.size = K16 at *
        clear hK16
        generalize x2.alloc (.cells #[.int .u8 128, .int .u8 (IntKind.u8.wrap x.unit), .int .u8 (IntKind.u8.wrap (x.cmd.size : Int))] 5) = y16 at *
        refine Kt.G.more (F' := Kt.Fb w0 ((K16, #[.int .u8 128, .int .u8 (IntKind.u8.wrap x.unit), .int .u8 (IntKind.u8.wrap (x.cmd.size : Int))], 5) :: [(w0.heap.size, #[.int .i64 x.tag, .int .i64 x.len, .bool true, .int .i64 x.unit, .string x.cmd], 75)])) (fun _ h => Kt.Fb.less h) _ _ _ _ ?_
        refine Kt.G.take 17 { dst := some 57, op := Op.convert 56 9 (Operand.tmp 56), type := 9, pos := "bulk.go:28", after := #[{ on := 16, ground := Ground.data }], guard := none } (.string B16) hHeld rfl (by kernel_rfl) (fun _ _ _ h => h) (by rfl) ?_ ?_
        · intro w hSw; have hcv := Kt.cv_row [128, IntKind.u8.wrap x.unit, IntKind.u8.wrap (x.cmd.size : Int)] #[.int .u8 128, .int .u8 (IntKind.u8.wrap x.unit), .int .u8 (IntKind.u8.wrap (x.cmd.size : Int))] 3 K16 rfl rfl (hSw.row (K16, #[.int .u8 128, .int .u8 (IntKind.u8.wrap x.unit), .int .u8 (IntKind.u8.wrap (x.cmd.size : Int))], 5) (by simp)); rw [hB16] at hcv; go_simp; try with_reducible rfl
        try simp only [Act.put, List.setIfInBounds_toArray, List.set_cons_zero, List.set_cons_succ]
        refine Kt.G.one 6 { dst := some 46, op := Op.call { callee := Callee.value (Operand.func 62), args := #[Operand.tmp 45], argTypes := #[3] }, type := 9, pos := "bulk.go:28", after := #[{ on := 5, ground := Ground.data }, { on := 2, ground := Ground.chain }], guard := none } rfl (by kernel_rfl) (by rfl) (fun K hK => ?_)
        go_simp
        refine (HM.out _).mono ?_; rintro en x6 ⟨rfl, hb6⟩
        refine hK.out _ _ (fun _ => hHeld.on hb6) (fun hHeld => ?_)
        have hHeld := hHeld rfl
        clear hK K
        try simp only [Act.put, List.setIfInBounds_toArray, List.set_cons_zero, List.set_cons_succ]
        clear hb6
        refine Kt.G.takeP 7 { dst := some 47, op := Op.binOp BinOp.add 9 (Operand.tmp 43) (Operand.tmp 46) 9, type := 9, pos := "bulk.go:28", after := #[{ on := 3, ground := Ground.data }, { on := 6, ground := Ground.data }], guard := none } ?_ (fun _ => hHeld) rfl (by kernel_rfl) (fun _ _ _ h => h) (by rfl) ?_ ?_
        rotate_left
        · intro w; go_simp; try with_reducible rfl
        try simp only [Act.put, List.setIfInBounds_toArray, List.set_cons_zero, List.set_cons_succ]
        refine Kt.G.takeP 18 { dst := some 58, op := Op.binOp BinOp.add 9 (Operand.tmp 47) (Operand.tmp 57) 9, type := 9, pos := "bulk.go:28", after := #[{ on := 7, ground := Ground.data }, { on := 17, ground := Ground.data }], guard := none } ?_ (fun _ => hHeld) rfl (by kernel_rfl) (fun _ _ _ h => h) (by rfl) ?_ ?_
        rotate_left
        · intro w; go_simp; try with_reducible rfl
        try simp only [Act.put, List.setIfInBounds_toArray, List.set_cons_zero, List.set_cons_succ]
        refine Kt.G.takeP 21 { dst := some 61, op := Op.binOp BinOp.add 9 (Operand.tmp 58) (Operand.tmp 60) 9, type := 9, pos := "bulk.go:28", after := #[{ on := 18, ground := Ground.data }, { on := 20, ground := Ground.data }], guard := none } ?_ (fun _ => hHeld) rfl (by kernel_rfl) (fun _ _ _ h => h) (by rfl) ?_ ?_
        rotate_left
        · intro w; go_simp; try with_reducible rfl
        try simp only [Act.put, List.setIfInBounds_toArray, List.set_cons_zero, List.set_cons_succ]
        refine Kt.G.one 22 { dst := some 5, op := Op.assign (Operand.tmp 61), type := 9, pos := "bulk.go:28", after := #[{ on := 21, ground := Ground.data }, { on := 6, ground := Ground.chain }, { on := 0, ground := Ground.phase }, { on := 1, ground := Ground.phase }, { on := 2, ground := Ground.phase }, { on := 3, ground := Ground.phase }, { on := 4, ground := Ground.phase }, { on := 5, ground := Ground.phase }, { on := 6, ground := Ground.phase }, { on := 7, ground := Ground.phase }, { on := 8, ground := Ground.phase }, { on := 9, ground := Ground.phase }, { on := 10, ground := Ground.phase }, { on := 11, ground := Ground.phase }, { on := 12, ground := Ground.phase }, { on := 13, ground := Ground.phase }, { on := 14, ground := Ground.phase }, { on := 15, ground := Ground.phase }, { on := 16, ground := Ground.phase }, { on := 17, ground := Ground.phase }, { on := 18, ground := Ground.phase }, { on := 19, ground := Ground.phase }, { on := 20, ground := Ground.phase }, { on := 21, ground := Ground.phase }], guard := none } rfl (by kernel_rfl) (by rfl) (fun K hK => ?_)
        go_simp
        refine hK.out _ _ (Kt.G.late (by kernel_rfl)) (fun _ => ?_)
        clear hK K
        try simp only [Act.put, List.setIfInBounds_toArray, List.set_cons_zero, List.set_cons_succ]
        refine Kt.G.done (by kernel_rfl) (NoPanic.normal ?_) _
        go_wp2_with fail
        go_meet
        exact ⟨by rw [HE.out], hHeld.bel⟩
    · have hz16 := hHeld.bel.size
      go_simp
      refine hK.out _ _ (fun _ => hHeld.alloc _) (fun hHeld => ?_)
      have hHeld := hHeld rfl
      clear hK K
      try simp only [Act.put, List.setIfInBounds_toArray, List.set_cons_zero, List.set_cons_succ]
      have hHeld := hHeld.add (heap_alloc_new x0 (.cells #[.int .u8 128, .int .u8 (IntKind.u8.wrap x.unit), .int .u8 (IntKind.u8.wrap (x.cmd.size : Int))] 5))
      generalize hK16 : x0.heap.size = K16 at *
      clear hK16
      generalize x0.alloc (.cells #[.int .u8 128, .int .u8 (IntKind.u8.wrap x.unit), .int .u8 (IntKind.u8.wrap (x.cmd.size : Int))] 5) = y16 at *
      refine Kt.G.more (F' := Kt.Fb w0 ((K16, #[.int .u8 128, .int .u8 (IntKind.u8.wrap x.unit), .int .u8 (IntKind.u8.wrap (x.cmd.size : Int))], 5) :: [(w0.heap.size, #[.int .i64 x.tag, .int .i64 x.len, .bool true, .int .i64 x.unit, .string x.cmd], 75)])) (fun _ h => Kt.Fb.less h) _ _ _ _ ?_
      refine Kt.G.take 17 { dst := some 57, op := Op.convert 56 9 (Operand.tmp 56), type := 9, pos := "bulk.go:28", after := #[{ on := 16, ground := Ground.data }], guard := none } (.string B16) hHeld rfl (by kernel_rfl) (fun _ _ _ h => h) (by rfl) ?_ ?_
      · intro w hSw; have hcv := Kt.cv_row [128, IntKind.u8.wrap x.unit, IntKind.u8.wrap (x.cmd.size : Int)] #[.int .u8 128, .int .u8 (IntKind.u8.wrap x.unit), .int .u8 (IntKind.u8.wrap (x.cmd.size : Int))] 3 K16 rfl rfl (hSw.row (K16, #[.int .u8 128, .int .u8 (IntKind.u8.wrap x.unit), .int .u8 (IntKind.u8.wrap (x.cmd.size : Int))], 5) (by simp)); rw [hB16] at hcv; go_simp; try with_reducible rfl
      try simp only [Act.put, List.setIfInBounds_toArray, List.set_cons_zero, List.set_cons_succ]
      refine Kt.G.one 2 { dst := some 42, op := Op.call { callee := Callee.value (Operand.func 62), args := #[Operand.tmp 41], argTypes := #[3] }, type := 9, pos := "bulk.go:28", after := #[{ on := 1, ground := Ground.data }], guard := none } rfl (by kernel_rfl) (by rfl) (fun K hK => ?_)
      go_simp
      refine (HL.out _).mono ?_; rintro en x2 ⟨rfl, hb2⟩
      refine hK.out _ _ (fun _ => hHeld.on hb2) (fun hHeld => ?_)
      have hHeld := hHeld rfl
      clear hK K
      try simp only [Act.put, List.setIfInBounds_toArray, List.set_cons_zero, List.set_cons_succ]
      clear hb2
      refine Kt.G.takeP 3 { dst := some 43, op := Op.binOp BinOp.add 9 (Operand.const (Value.string { data := #[85, 83, 66, 67] })) (Operand.tmp 42) 9, type := 9, pos := "bulk.go:28", after := #[{ on := 2, ground := Ground.data }], guard := none } ?_ (fun _ => hHeld) rfl (by kernel_rfl) (fun _ _ _ h => h) (by rfl) ?_ ?_
      rotate_left
      · intro w; go_simp; try with_reducible rfl
      try simp only [Act.put, List.setIfInBounds_toArray, List.set_cons_zero, List.set_cons_succ]
      refine Kt.G.one 6 { dst := some 46, op := Op.call { callee := Callee.value (Operand.func 62), args := #[Operand.tmp 45], argTypes := #[3] }, type := 9, pos := "bulk.go:28", after := #[{ on := 5, ground := Ground.data }, { on := 2, ground := Ground.chain }], guard := none } rfl (by kernel_rfl) (by rfl) (fun K hK => ?_)
      go_simp
      refine (HM.out _).mono ?_; rintro en x6 ⟨rfl, hb6⟩
      refine hK.out _ _ (fun _ => hHeld.on hb6) (fun hHeld => ?_)
      have hHeld := hHeld rfl
      clear hK K
      try simp only [Act.put, List.setIfInBounds_toArray, List.set_cons_zero, List.set_cons_succ]
      clear hb6
      refine Kt.G.takeP 7 { dst := some 47, op := Op.binOp BinOp.add 9 (Operand.tmp 43) (Operand.tmp 46) 9, type := 9, pos := "bulk.go:28", after := #[{ on := 3, ground := Ground.data }, { on := 6, ground := Ground.data }], guard := none } ?_ (fun _ => hHeld) rfl (by kernel_rfl) (fun _ _ _ h => h) (by rfl) ?_ ?_
      rotate_left
      · intro w; go_simp; try with_reducible rfl
      try simp only [Act.put, List.setIfInBounds_toArray, List.set_cons_zero, List.set_cons_succ]
      refine Kt.G.takeP 18 { dst := some 58, op := Op.binOp BinOp.add 9 (Operand.tmp 47) (Operand.tmp 57) 9, type := 9, pos := "bulk.go:28", after := #[{ on := 7, ground := Ground.data }, { on := 17, ground := Ground.data }], guard := none } ?_ (fun _ => hHeld) rfl (by kernel_rfl) (fun _ _ _ h => h) (by rfl) ?_ ?_
      rotate_left
      · intro w; go_simp; try with_reducible rfl
      try simp only [Act.put, List.setIfInBounds_toArray, List.set_cons_zero, List.set_cons_succ]
      refine Kt.G.takeP 21 { dst := some 61, op := Op.binOp BinOp.add 9 (Operand.tmp 58) (Operand.tmp 60) 9, type := 9, pos := "bulk.go:28", after := #[{ on := 18, ground := Ground.data }, { on := 20, ground := Ground.data }], guard := none } ?_ (fun _ => hHeld) rfl (by kernel_rfl) (fun _ _ _ h => h) (by rfl) ?_ ?_
      rotate_left
      · intro w; go_simp; try with_reducible rfl
      try simp only [Act.put, List.setIfInBounds_toArray, List.set_cons_zero, List.set_cons_succ]
      refine Kt.G.one 22 { dst := some 5, op := Op.assign (Operand.tmp 61), type := 9, pos := "bulk.go:28", after := #[{ on := 21, ground := Ground.data }, { on := 6, ground := Ground.chain }, { on := 0, ground := Ground.phase }, { on := 1, ground := Ground.phase }, { on := 2, ground := Ground.phase }, { on := 3, ground := Ground.phase }, { on := 4, ground := Ground.phase }, { on := 5, ground := Ground.phase }, { on := 6, ground := Ground.phase }, { on := 7, ground := Ground.phase }, { on := 8, ground := Ground.phase }, { on := 9, ground := Ground.phase }, { on := 10, ground := Ground.phase }, { on := 11, ground := Ground.phase }, { on := 12, ground := Ground.phase }, { on := 13, ground := Ground.phase }, { on := 14, ground := Ground.phase }, { on := 15, ground := Ground.phase }, { on := 16, ground := Ground.phase }, { on := 17, ground := Ground.phase }, { on := 18, ground := Ground.phase }, { on := 19, ground := Ground.phase }, { on := 20, ground := Ground.phase }, { on := 21, ground := Ground.phase }], guard := none } rfl (by kernel_rfl) (by rfl) (fun K hK => ?_)
      go_simp
      refine hK.out _ _ (Kt.G.late (by kernel_rfl)) (fun _ => ?_)
      clear hK K
      try simp only [Act.put, List.setIfInBounds_toArray, List.set_cons_zero, List.set_cons_succ]
      refine Kt.G.done (by kernel_rfl) (NoPanic.normal ?_) _
      go_wp2_with fail
      go_meet
      exact ⟨by rw [HE.out], hHeld.bel⟩
    -- END 128
  case rest =>
    obtain ⟨rfl, hbel⟩ := hcut
    have HB := Lib.hid hbel
    clear hbel HL HM hB2 hB6 sB2 sB6
    generalize wrapS x = S at *
    generalize zeros (31 - S.size) = Z at *
    have hz' : Z.size = 16 - x.cmd.size := by omega
    have hw31 : IntKind.i64.wrap (31 - (S.size : Int)) = 31 - (S.size : Int) := by rw [IntWalk.i64_left]; unfold wrap64; omega
    have h31 : ¬ 9223372036854775807 < S.size + Z.size := by omega
    clear hws hzs hz' g7 g8
    go_wp2_with fail
    refine (HR.out _).mono ?_
    rintro e w2 ⟨rfl, hb⟩
    have HB2 := Lib.hid (Kt.bthen HB.out hb)
    clear hb
    go_wp2_with fail
    refine bodyPost_ret (v := .tuple #[.string (S ++ Z), .int .i64 0]) (by simp [results, Try.results54]) rfl ?_
    exact ⟨by rw [HT.out], HB2.out⟩
set_option maxRecDepth 100000 in
set_option maxHeartbeats 1600000 in
theorem wrap_good_false (x : Wr) (hin : x.inn = false) (h : OkW x) (w0 : World) :
    Calls Try.prog 54 #[wrV x] w0 fun e w' => e = .returned (.tuple #[.string (wrapT x), .int .i64 0]) ∧ Below w0.heap.size w0 w' := by
  have HO := Lib.hid h
  obtain ⟨B2, hB2⟩ : ∃ B, le4 x.tag.toNat = B := ⟨_, rfl⟩
  obtain ⟨B6, hB6⟩ : ∃ B, le4 x.len.toNat = B := ⟨_, rfl⟩
  have sB2 : B2.size = 4 := by rw [← hB2]; rfl
  have sB6 : B6.size = 4 := by rw [← hB6]; rfl
  have HL : Hid (∀ W, Calls Try.prog 62 #[.int .i64 x.tag] W fun e w' => e = .returned (.string B2) ∧ Below W.heap.size W w') := Lib.hid fun W => by
    have h1 := h.t1; have h2 := h.t2
    have := blong_calls x.tag.toNat (by omega) W
    rw [show ((x.tag.toNat : Nat) : Int) = x.tag by omega, hB2] at this
    exact this
  have HM : Hid (∀ W, Calls Try.prog 62 #[.int .i64 x.len] W fun e w' => e = .returned (.string B6) ∧ Below W.heap.size W w') := Lib.hid fun W => by
    have h1 := h.l1; have h2 := h.l2
    have := blong_calls x.len.toNat (by omega) W
    rw [show ((x.len.toNat : Nat) : Int) = x.len by omega, hB6] at this
    exact this
  have g1 : in32 x.tag = true := decide_eq_true ⟨h.t1, h.t2⟩
  have g2 : in32 x.len = true := decide_eq_true ⟨h.l1, h.l2⟩
  have g3 : ¬ x.unit < 0 := by have := h.u1; omega
  have g4 : ¬ 15 < x.unit := by have := h.u2; omega
  have g5 : ¬ (x.cmd.size : Int) < 1 := by have := h.c1; omega
  have g6 : ¬ 16 < (x.cmd.size : Int) := by have := h.c2; omega
  have g7 : x.cmd.size ≤ 16 := h.c2
  have g8 : ¬ 9223372036854775807 < 15 + x.cmd.size := by omega
  have HR : Hid (∀ W, Calls Try.prog 27 #[.string ⟨#[0]⟩, .int .i64 (31 - ((wrapS x).size : Int))] W fun e w' => e = .returned (.string (zeros (31 - (wrapS x).size))) ∧ Below W.heap.size W w') := Lib.hid fun W => by
    have hs := wrapS_size x
    have := Try.strings_Repeat ⟨#[0]⟩ (31 - (wrapS x).size) W (by omega) (by rw [show (⟨#[0]⟩ : ByteArray).size = 1 from rfl, Nat.one_mul]; omega)
    rw [rep0, show ((31 - (wrapS x).size : Nat) : Int) = 31 - ((wrapS x).size : Int) by omega] at this
    exact this
  have HT : Hid (wrapS x ++ zeros (31 - (wrapS x).size) = wrapT x) := Lib.hid rfl
  have hws : (wrapS x).size = 15 + x.cmd.size := wrapS_size x
  have hzs := zeros_size (31 - (wrapS x).size)
  clear h
  unfold wrV
  rw [hin]
  go_enter Try.func54, Try.ntmps54
  go_wp2_with fail
  refine (is32_calls _ _).mono ?_; rintro e w1 ⟨rfl, rfl⟩
  rw [g1]
  go_wp2_with fail
  refine (is32_calls _ _).mono ?_; rintro e w1 ⟨rfl, rfl⟩
  rw [g2]
  go_upto_region 6 with (fail)
  clear g1 g2 g3 g4 g5 g6
  go_cut [5] from 40 to 61 (fun v wx => v = .string (wrapS x) ∧ Below w0.heap.size w0 wx)
  case first =>
    clear hws hzs HR HT
    -- REGION 0
    obtain ⟨B16, hB16⟩ : ∃ B : ByteArray, (⟨(List.map (fun (n : Int) => UInt8.ofNat n.toNat) [0, IntKind.u8.wrap x.unit, IntKind.u8.wrap (x.cmd.size : Int)]).toArray⟩ : ByteArray) = B := ⟨_, rfl⟩
    have sB16 : B16.size = 3 := by rw [← hB16]; rfl
    have HE : Hid ((⟨#[85, 83, 66, 67]⟩ : ByteArray) ++ B2 ++ B6 ++ B16 ++ x.cmd = wrapS x) := Lib.hid (by rw [← hB16, ← hB2, ← hB6]; exact wrap_mid x 0 (by rw [hin]; rfl) HO.out)
    have HF := ((Kt.Fb.nil w0 (Kt.balloc (Below.refl _ w0) _)).add (heap_alloc_new w0 (.cells #[.int .i64 x.tag, .int .i64 x.len, .bool false, .int .i64 x.unit, .string x.cmd] 75))).drew
    refine Kt.G.start 22 (Kt.Fb w0 [(w0.heap.size, #[.int .i64 x.tag, .int .i64 x.len, .bool false, .int .i64 x.unit, .string x.cmd], 75)]) (by kernel_rfl) HF (fun hHeld => ?_)
    clear HF
    generalize (w0.alloc (.cells #[.int .i64 x.tag, .int .i64 x.len, .bool false, .int .i64 x.unit, .string x.cmd] 75)).drew = x0 at *
    refine Kt.G.takeP 0 { dst := some 40, op := Op.fieldAddr 75 (Operand.tmp 1) 0, type := 0, pos := "bulk.go:28", after := #[], guard := none } ?_ (fun _ => hHeld) rfl (by kernel_rfl) (fun _ _ _ h => h) (by rfl) ?_ ?_
    rotate_left
    · intro w; go_simp; try with_reducible rfl
    try simp only [Act.put, List.setIfInBounds_toArray, List.set_cons_zero, List.set_cons_succ]
    refine Kt.G.take 1 { dst := some 41, op := Op.load 3 (Operand.tmp 40), type := 3, pos := "bulk.go:28", after := #[{ on := 0, ground := Ground.data }], guard := none } ?_ hHeld rfl (by kernel_rfl) (fun _ _ _ h => h) (by rfl) ?_ ?_
    rotate_left
    · intro w hSw; have r0 := hSw.row (w0.heap.size, #[.int .i64 x.tag, .int .i64 x.len, .bool false, .int .i64 x.unit, .string x.cmd], 75) (by simp); have c0 := fun i => cell_of_row _ _ i _ _ _ r0; dsimp only at *; go_simp; try with_reducible rfl
    try simp only [Act.put, List.setIfInBounds_toArray, List.set_cons_zero, List.set_cons_succ]
    refine Kt.G.takeP 4 { dst := some 44, op := Op.fieldAddr 75 (Operand.tmp 1) 1, type := 0, pos := "bulk.go:28", after := #[], guard := none } ?_ (fun _ => hHeld) rfl (by kernel_rfl) (fun _ _ _ h => h) (by rfl) ?_ ?_
    rotate_left
    · intro w; go_simp; try with_reducible rfl
    try simp only [Act.put, List.setIfInBounds_toArray, List.set_cons_zero, List.set_cons_succ]
    refine Kt.G.take 5 { dst := some 45, op := Op.load 3 (Operand.tmp 44), type := 3, pos := "bulk.go:28", after := #[{ on := 4, ground := Ground.data }], guard := none } ?_ hHeld rfl (by kernel_rfl) (fun _ _ _ h => h) (by rfl) ?_ ?_
    rotate_left
    · intro w hSw; have r0 := hSw.row (w0.heap.size, #[.int .i64 x.tag, .int .i64 x.len, .bool false, .int .i64 x.unit, .string x.cmd], 75) (by simp); have c0 := fun i => cell_of_row _ _ i _ _ _ r0; dsimp only at *; go_simp; try with_reducible rfl
    try simp only [Act.put, List.setIfInBounds_toArray, List.set_cons_zero, List.set_cons_succ]
    refine Kt.G.takeP 8 { dst := some 48, op := Op.move (Operand.tmp 4), type := 5, pos := "bulk.go:28", after := #[], guard := none } ?_ (fun _ => hHeld) rfl (by kernel_rfl) (fun _ _ _ h => h) (by rfl) ?_ ?_
    rotate_left
    · intro w; go_simp; try with_reducible rfl
    try simp only [Act.put, List.setIfInBounds_toArray, List.set_cons_zero, List.set_cons_succ]
    refine Kt.G.takeP 9 { dst := some 49, op := Op.fieldAddr 75 (Operand.tmp 1) 3, type := 0, pos := "bulk.go:28", after := #[], guard := none } ?_ (fun _ => hHeld) rfl (by kernel_rfl) (fun _ _ _ h => h) (by rfl) ?_ ?_
    rotate_left
    · intro w; go_simp; try with_reducible rfl
    try simp only [Act.put, List.setIfInBounds_toArray, List.set_cons_zero, List.set_cons_succ]
    refine Kt.G.take 10 { dst := some 50, op := Op.load 3 (Operand.tmp 49), type := 3, pos := "bulk.go:28", after := #[{ on := 9, ground := Ground.data }], guard := none } ?_ hHeld rfl (by kernel_rfl) (fun _ _ _ h => h) (by rfl) ?_ ?_
    rotate_left
    · intro w hSw; have r0 := hSw.row (w0.heap.size, #[.int .i64 x.tag, .int .i64 x.len, .bool false, .int .i64 x.unit, .string x.cmd], 75) (by simp); have c0 := fun i => cell_of_row _ _ i _ _ _ r0; dsimp only at *; go_simp; try with_reducible rfl
    try simp only [Act.put, List.setIfInBounds_toArray, List.set_cons_zero, List.set_cons_succ]
    refine Kt.G.takeP 11 { dst := some 51, op := Op.convert 3 5 (Operand.tmp 50), type := 5, pos := "bulk.go:28", after := #[{ on := 10, ground := Ground.data }], guard := none } ?_ (fun _ => hHeld) rfl (by kernel_rfl) (fun _ _ _ h => h) (by rfl) ?_ ?_
    rotate_left
    · intro w; go_simp; try with_reducible rfl
    try simp only [Act.put, List.setIfInBounds_toArray, List.set_cons_zero, List.set_cons_succ]
    refine Kt.G.takeP 12 { dst := some 52, op := Op.fieldAddr 75 (Operand.tmp 1) 4, type := 0, pos := "bulk.go:28", after := #[], guard := none } ?_ (fun _ => hHeld) rfl (by kernel_rfl) (fun _ _ _ h => h) (by rfl) ?_ ?_
    rotate_left
    · intro w; go_simp; try with_reducible rfl
    try simp only [Act.put, List.setIfInBounds_toArray, List.set_cons_zero, List.set_cons_succ]
    refine Kt.G.take 13 { dst := some 53, op := Op.load 9 (Operand.tmp 52), type := 9, pos := "bulk.go:28", after := #[{ on := 12, ground := Ground.data }], guard := none } ?_ hHeld rfl (by kernel_rfl) (fun _ _ _ h => h) (by rfl) ?_ ?_
    rotate_left
    · intro w hSw; have r0 := hSw.row (w0.heap.size, #[.int .i64 x.tag, .int .i64 x.len, .bool false, .int .i64 x.unit, .string x.cmd], 75) (by simp); have c0 := fun i => cell_of_row _ _ i _ _ _ r0; dsimp only at *; go_simp; try with_reducible rfl
    try simp only [Act.put, List.setIfInBounds_toArray, List.set_cons_zero, List.set_cons_succ]
    refine Kt.G.takeP 14 { dst := some 54, op := Op.call { callee := Callee.builtin Builtin.len, args := #[Operand.tmp 53], argTypes := #[9] }, type := 3, pos := "bulk.go:28", after := #[{ on := 13, ground := Ground.data }], guard := none } ?_ (fun _ => hHeld) rfl (by kernel_rfl) (fun _ _ _ h => h) (by rfl) ?_ ?_
    rotate_left
    · intro w; go_simp; try with_reducible rfl
    try simp only [Act.put, List.setIfInBounds_toArray, List.set_cons_zero, List.set_cons_succ]
    refine Kt.G.takeP 15 { dst := some 55, op := Op.convert 3 5 (Operand.tmp 54), type := 5, pos := "bulk.go:28", after := #[{ on := 14, ground := Ground.data }], guard := none } ?_ (fun _ => hHeld) rfl (by kernel_rfl) (fun _ _ _ h => h) (by rfl) ?_ ?_
    rotate_left
    · intro w; go_simp; try with_reducible rfl
    try simp only [Act.put, List.setIfInBounds_toArray, List.set_cons_zero, List.set_cons_succ]
    refine Kt.G.takeP 19 { dst := some 59, op := Op.fieldAddr 75 (Operand.tmp 1) 4, type := 0, pos := "bulk.go:28", after := #[], guard := none } ?_ (fun _ => hHeld) rfl (by kernel_rfl) (fun _ _ _ h => h) (by rfl) ?_ ?_
    rotate_left
    · intro w; go_simp; try with_reducible rfl
    try simp only [Act.put, List.setIfInBounds_toArray, List.set_cons_zero, List.set_cons_succ]
    refine Kt.G.take 20 { dst := some 60, op := Op.load 9 (Operand.tmp 59), type := 9, pos := "bulk.go:28", after := #[{ on := 19, ground := Ground.data }], guard := none } ?_ hHeld rfl (by kernel_rfl) (fun _ _ _ h => h) (by rfl) ?_ ?_
    rotate_left
    · intro w hSw; have r0 := hSw.row (w0.heap.size, #[.int .i64 x.tag, .int .i64 x.len, .bool false, .int .i64 x.unit, .string x.cmd], 75) (by simp); have c0 := fun i => cell_of_row _ _ i _ _ _ r0; dsimp only at *; go_simp; try with_reducible rfl
    try simp only [Act.put, List.setIfInBounds_toArray, List.set_cons_zero, List.set_cons_succ]
    refine Kt.G.two 2 16 { dst := some 42, op := Op.call { callee := Callee.value (Operand.func 62), args := #[Operand.tmp 41], argTypes := #[3] }, type := 9, pos := "bulk.go:28", after := #[{ on := 1, ground := Ground.data }], guard := none } { dst := some 56, op := Op.buildSlice 56 3 #[(0, Operand.tmp 48), (1, Operand.tmp 51), (2, Operand.tmp 55)], type := 56, pos := "bulk.go:28", after := #[{ on := 8, ground := Ground.data }, { on := 11, ground := Ground.data }, { on := 15, ground := Ground.data }], guard := none } rfl rfl (by kernel_rfl) (by rfl) (by rfl) (fun K hK => ?_) (fun K hK => ?_)
    · go_simp
      refine (HL.out _).mono ?_; rintro en x2 ⟨rfl, hb2⟩
      refine hK.out _ _ (fun _ => hHeld.on hb2) (fun hHeld => ?_)
      have hHeld := hHeld rfl
      clear hK K
      try simp only [Act.put, List.setIfInBounds_toArray, List.set_cons_zero, List.set_cons_succ]
      clear hb2
      refine Kt.G.takeP 3 { dst := some 43, op := Op.binOp BinOp.add 9 (Operand.const (Value.string { data := #[85, 83, 66, 67] })) (Operand.tmp 42) 9, type := 9, pos := "bulk.go:28", after := #[{ on := 2, ground := Ground.data }], guard := none } ?_ (fun _ => hHeld) rfl (by kernel_rfl) (fun _ _ _ h => h) (by rfl) ?_ ?_
      rotate_left
      · intro w; go_simp; try with_reducible rfl
      try simp only [Act.put, List.setIfInBounds_toArray, List.set_cons_zero, List.set_cons_succ]
      refine Kt.G.two 6 16 { dst := some 46, op := Op.call { callee := Callee.value (Operand.func 62), args := #[Operand.tmp 45], argTypes := #[3] }, type := 9, pos := "bulk.go:28", after := #[{ on := 5, ground := Ground.data }, { on := 2, ground := Ground.chain }], guard := none } { dst := some 56, op := Op.buildSlice 56 3 #[(0, Operand.tmp 48), (1, Operand.tmp 51), (2, Operand.tmp 55)], type := 56, pos := "bulk.go:28", after := #[{ on := 8, ground := Ground.data }, { on := 11, ground := Ground.data }, { on := 15, ground := Ground.data }], guard := none } rfl rfl (by kernel_rfl) (by rfl) (by rfl) (fun K hK => ?_) (fun K hK => ?_)
      · go_simp
        refine (HM.out _).mono ?_; rintro en x6 ⟨rfl, hb6⟩
        refine hK.out _ _ (fun _ => hHeld.on hb6) (fun hHeld => ?_)
        have hHeld := hHeld rfl
        clear hK K
        try simp only [Act.put, List.setIfInBounds_toArray, List.set_cons_zero, List.set_cons_succ]
        clear hb6
        refine Kt.G.takeP 7 { dst := some 47, op := Op.binOp BinOp.add 9 (Operand.tmp 43) (Operand.tmp 46) 9, type := 9, pos := "bulk.go:28", after := #[{ on := 3, ground := Ground.data }, { on := 6, ground := Ground.data }], guard := none } ?_ (fun _ => hHeld) rfl (by kernel_rfl) (fun _ _ _ h => h) (by rfl) ?_ ?_
        rotate_left
        · intro w; go_simp; try with_reducible rfl
        try simp only [Act.put, List.setIfInBounds_toArray, List.set_cons_zero, List.set_cons_succ]
        refine Kt.G.one 16 { dst := some 56, op := Op.buildSlice 56 3 #[(0, Operand.tmp 48), (1, Operand.tmp 51), (2, Operand.tmp 55)], type := 56, pos := "bulk.go:28", after := #[{ on := 8, ground := Ground.data }, { on := 11, ground := Ground.data }, { on := 15, ground := Ground.data }], guard := none } rfl (by kernel_rfl) (by rfl) (fun K hK => ?_)
        have hz16 := hHeld.bel.size
        go_simp
        refine hK.out _ _ (fun _ => hHeld.alloc _) (fun hHeld => ?_)
        have hHeld := hHeld rfl
        clear hK K
        try simp only [Act.put, List.setIfInBounds_toArray, List.set_cons_zero, List.set_cons_succ]
        have hHeld := hHeld.add (heap_alloc_new x6 (.cells #[.int .u8 0, .int .u8 (IntKind.u8.wrap x.unit), .int .u8 (IntKind.u8.wrap (x.cmd.size : Int))] 5))
        generalize hK16 : x6.heap.size = K16 at *
        clear hK16
        generalize x6.alloc (.cells #[.int .u8 0, .int .u8 (IntKind.u8.wrap x.unit), .int .u8 (IntKind.u8.wrap (x.cmd.size : Int))] 5) = y16 at *
        refine Kt.G.more (F' := Kt.Fb w0 ((K16, #[.int .u8 0, .int .u8 (IntKind.u8.wrap x.unit), .int .u8 (IntKind.u8.wrap (x.cmd.size : Int))], 5) :: [(w0.heap.size, #[.int .i64 x.tag, .int .i64 x.len, .bool false, .int .i64 x.unit, .string x.cmd], 75)])) (fun _ h => Kt.Fb.less h) _ _ _ _ ?_
        refine Kt.G.take 17 { dst := some 57, op := Op.convert 56 9 (Operand.tmp 56), type := 9, pos := "bulk.go:28", after := #[{ on := 16, ground := Ground.data }], guard := none } (.string B16) hHeld rfl (by kernel_rfl) (fun _ _ _ h => h) (by rfl) ?_ ?_
        · intro w hSw; have hcv := Kt.cv_row [0, IntKind.u8.wrap x.unit, IntKind.u8.wrap (x.cmd.size : Int)] #[.int .u8 0, .int .u8 (IntKind.u8.wrap x.unit), .int .u8 (IntKind.u8.wrap (x.cmd.size : Int))] 3 K16 rfl rfl (hSw.row (K16, #[.int .u8 0, .int .u8 (IntKind.u8.wrap x.unit), .int .u8 (IntKind.u8.wrap (x.cmd.size : Int))], 5) (by simp)); rw [hB16] at hcv; go_simp; try with_reducible rfl
        try simp only [Act.put, List.setIfInBounds_toArray, List.set_cons_zero, List.set_cons_succ]
        refine Kt.G.takeP 18 { dst := some 58, op := Op.binOp BinOp.add 9 (Operand.tmp 47) (Operand.tmp 57) 9, type := 9, pos := "bulk.go:28", after := #[{ on := 7, ground := Ground.data }, { on := 17, ground := Ground.data }], guard := none } ?_ (fun _ => hHeld) rfl (by kernel_rfl) (fun _ _ _ h => h) (by rfl) ?_ ?_
        rotate_left
        · intro w; go_simp; try with_reducible rfl
        try simp only [Act.put, List.setIfInBounds_toArray, List.set_cons_zero, List.set_cons_succ]
        refine Kt.G.takeP 21 { dst := some 61, op := Op.binOp BinOp.add 9 (Operand.tmp 58) (Operand.tmp 60) 9, type := 9, pos := "bulk.go:28", after := #[{ on := 18, ground := Ground.data }, { on := 20, ground := Ground.data }], guard := none } ?_ (fun _ => hHeld) rfl (by kernel_rfl) (fun _ _ _ h => h) (by rfl) ?_ ?_
        rotate_left
        · intro w; go_simp; try with_reducible rfl
        try simp only [Act.put, List.setIfInBounds_toArray, List.set_cons_zero, List.set_cons_succ]
        refine Kt.G.one 22 { dst := some 5, op := Op.assign (Operand.tmp 61), type := 9, pos := "bulk.go:28", after := #[{ on := 21, ground := Ground.data }, { on := 6, ground := Ground.chain }, { on := 0, ground := Ground.phase }, { on := 1, ground := Ground.phase }, { on := 2, ground := Ground.phase }, { on := 3, ground := Ground.phase }, { on := 4, ground := Ground.phase }, { on := 5, ground := Ground.phase }, { on := 6, ground := Ground.phase }, { on := 7, ground := Ground.phase }, { on := 8, ground := Ground.phase }, { on := 9, ground := Ground.phase }, { on := 10, ground := Ground.phase }, { on := 11, ground := Ground.phase }, { on := 12, ground := Ground.phase }, { on := 13, ground := Ground.phase }, { on := 14, ground := Ground.phase }, { on := 15, ground := Ground.phase }, { on := 16, ground := Ground.phase }, { on := 17, ground := Ground.phase }, { on := 18, ground := Ground.phase }, { on := 19, ground := Ground.phase }, { on := 20, ground := Ground.phase }, { on := 21, ground := Ground.phase }], guard := none } rfl (by kernel_rfl) (by rfl) (fun K hK => ?_)
        go_simp
        refine hK.out _ _ (Kt.G.late (by kernel_rfl)) (fun _ => ?_)
        clear hK K
        try simp only [Act.put, List.setIfInBounds_toArray, List.set_cons_zero, List.set_cons_succ]
        refine Kt.G.done (by kernel_rfl) (NoPanic.normal ?_) _
        go_wp2_with fail
        go_meet
        exact ⟨by rw [HE.out], hHeld.bel⟩
      · have hz16 := hHeld.bel.size
        go_simp
        refine hK.out _ _ (fun _ => hHeld.alloc _) (fun hHeld => ?_)
        have hHeld := hHeld rfl
        clear hK K
        try simp only [Act.put, List.setIfInBounds_toArray, List.set_cons_zero, List.set_cons_succ]
        have hHeld := hHeld.add (heap_alloc_new x2 (.cells #[.int .u8 0, .int .u8 (IntKind.u8.wrap x.unit), .int .u8 (IntKind.u8.wrap (x.cmd.size : Int))] 5))
        generalize hK16 : x2.heap.size = K16 at *
        clear hK16
        generalize x2.alloc (.cells #[.int .u8 0, .int .u8 (IntKind.u8.wrap x.unit), .int .u8 (IntKind.u8.wrap (x.cmd.size : Int))] 5) = y16 at *
        refine Kt.G.more (F' := Kt.Fb w0 ((K16, #[.int .u8 0, .int .u8 (IntKind.u8.wrap x.unit), .int .u8 (IntKind.u8.wrap (x.cmd.size : Int))], 5) :: [(w0.heap.size, #[.int .i64 x.tag, .int .i64 x.len, .bool false, .int .i64 x.unit, .string x.cmd], 75)])) (fun _ h => Kt.Fb.less h) _ _ _ _ ?_
        refine Kt.G.take 17 { dst := some 57, op := Op.convert 56 9 (Operand.tmp 56), type := 9, pos := "bulk.go:28", after := #[{ on := 16, ground := Ground.data }], guard := none } (.string B16) hHeld rfl (by kernel_rfl) (fun _ _ _ h => h) (by rfl) ?_ ?_
        · intro w hSw; have hcv := Kt.cv_row [0, IntKind.u8.wrap x.unit, IntKind.u8.wrap (x.cmd.size : Int)] #[.int .u8 0, .int .u8 (IntKind.u8.wrap x.unit), .int .u8 (IntKind.u8.wrap (x.cmd.size : Int))] 3 K16 rfl rfl (hSw.row (K16, #[.int .u8 0, .int .u8 (IntKind.u8.wrap x.unit), .int .u8 (IntKind.u8.wrap (x.cmd.size : Int))], 5) (by simp)); rw [hB16] at hcv; go_simp; try with_reducible rfl
        try simp only [Act.put, List.setIfInBounds_toArray, List.set_cons_zero, List.set_cons_succ]
        refine Kt.G.one 6 { dst := some 46, op := Op.call { callee := Callee.value (Operand.func 62), args := #[Operand.tmp 45], argTypes := #[3] }, type := 9, pos := "bulk.go:28", after := #[{ on := 5, ground := Ground.data }, { on := 2, ground := Ground.chain }], guard := none } rfl (by kernel_rfl) (by rfl) (fun K hK => ?_)
        go_simp
        refine (HM.out _).mono ?_; rintro en x6 ⟨rfl, hb6⟩
        refine hK.out _ _ (fun _ => hHeld.on hb6) (fun hHeld => ?_)
        have hHeld := hHeld rfl
        clear hK K
        try simp only [Act.put, List.setIfInBounds_toArray, List.set_cons_zero, List.set_cons_succ]
        clear hb6
        refine Kt.G.takeP 7 { dst := some 47, op := Op.binOp BinOp.add 9 (Operand.tmp 43) (Operand.tmp 46) 9, type := 9, pos := "bulk.go:28", after := #[{ on := 3, ground := Ground.data }, { on := 6, ground := Ground.data }], guard := none } ?_ (fun _ => hHeld) rfl (by kernel_rfl) (fun _ _ _ h => h) (by rfl) ?_ ?_
        rotate_left
        · intro w; go_simp; try with_reducible rfl
        try simp only [Act.put, List.setIfInBounds_toArray, List.set_cons_zero, List.set_cons_succ]
        refine Kt.G.takeP 18 { dst := some 58, op := Op.binOp BinOp.add 9 (Operand.tmp 47) (Operand.tmp 57) 9, type := 9, pos := "bulk.go:28", after := #[{ on := 7, ground := Ground.data }, { on := 17, ground := Ground.data }], guard := none } ?_ (fun _ => hHeld) rfl (by kernel_rfl) (fun _ _ _ h => h) (by rfl) ?_ ?_
        rotate_left
        · intro w; go_simp; try with_reducible rfl
        try simp only [Act.put, List.setIfInBounds_toArray, List.set_cons_zero, List.set_cons_succ]
        refine Kt.G.takeP 21 { dst := some 61, op := Op.binOp BinOp.add 9 (Operand.tmp 58) (Operand.tmp 60) 9, type := 9, pos := "bulk.go:28", after := #[{ on := 18, ground := Ground.data }, { on := 20, ground := Ground.data }], guard := none } ?_ (fun _ => hHeld) rfl (by kernel_rfl) (fun _ _ _ h => h) (by rfl) ?_ ?_
        rotate_left
        · intro w; go_simp; try with_reducible rfl
        try simp only [Act.put, List.setIfInBounds_toArray, List.set_cons_zero, List.set_cons_succ]
        refine Kt.G.one 22 { dst := some 5, op := Op.assign (Operand.tmp 61), type := 9, pos := "bulk.go:28", after := #[{ on := 21, ground := Ground.data }, { on := 6, ground := Ground.chain }, { on := 0, ground := Ground.phase }, { on := 1, ground := Ground.phase }, { on := 2, ground := Ground.phase }, { on := 3, ground := Ground.phase }, { on := 4, ground := Ground.phase }, { on := 5, ground := Ground.phase }, { on := 6, ground := Ground.phase }, { on := 7, ground := Ground.phase }, { on := 8, ground := Ground.phase }, { on := 9, ground := Ground.phase }, { on := 10, ground := Ground.phase }, { on := 11, ground := Ground.phase }, { on := 12, ground := Ground.phase }, { on := 13, ground := Ground.phase }, { on := 14, ground := Ground.phase }, { on := 15, ground := Ground.phase }, { on := 16, ground := Ground.phase }, { on := 17, ground := Ground.phase }, { on := 18, ground := Ground.phase }, { on := 19, ground := Ground.phase }, { on := 20, ground := Ground.phase }, { on := 21, ground := Ground.phase }], guard := none } rfl (by kernel_rfl) (by rfl) (fun K hK => ?_)
        go_simp
        refine hK.out _ _ (Kt.G.late (by kernel_rfl)) (fun _ => ?_)
        clear hK K
        try simp only [Act.put, List.setIfInBounds_toArray, List.set_cons_zero, List.set_cons_succ]
        refine Kt.G.done (by kernel_rfl) (NoPanic.normal ?_) _
        go_wp2_with fail
        go_meet
        exact ⟨by rw [HE.out], hHeld.bel⟩
    · have hz16 := hHeld.bel.size
      go_simp
      refine hK.out _ _ (fun _ => hHeld.alloc _) (fun hHeld => ?_)
      have hHeld := hHeld rfl
      clear hK K
      try simp only [Act.put, List.setIfInBounds_toArray, List.set_cons_zero, List.set_cons_succ]
      have hHeld := hHeld.add (heap_alloc_new x0 (.cells #[.int .u8 0, .int .u8 (IntKind.u8.wrap x.unit), .int .u8 (IntKind.u8.wrap (x.cmd.size : Int))] 5))
      generalize hK16 : x0.heap.size = K16 at *
      clear hK16
      generalize x0.alloc (.cells #[.int .u8 0, .int .u8 (IntKind.u8.wrap x.unit), .int .u8 (IntKind.u8.wrap (x.cmd.size : Int))] 5) = y16 at *
      refine Kt.G.more (F' := Kt.Fb w0 ((K16, #[.int .u8 0, .int .u8 (IntKind.u8.wrap x.unit), .int .u8 (IntKind.u8.wrap (x.cmd.size : Int))], 5) :: [(w0.heap.size, #[.int .i64 x.tag, .int .i64 x.len, .bool false, .int .i64 x.unit, .string x.cmd], 75)])) (fun _ h => Kt.Fb.less h) _ _ _ _ ?_
      refine Kt.G.take 17 { dst := some 57, op := Op.convert 56 9 (Operand.tmp 56), type := 9, pos := "bulk.go:28", after := #[{ on := 16, ground := Ground.data }], guard := none } (.string B16) hHeld rfl (by kernel_rfl) (fun _ _ _ h => h) (by rfl) ?_ ?_
      · intro w hSw; have hcv := Kt.cv_row [0, IntKind.u8.wrap x.unit, IntKind.u8.wrap (x.cmd.size : Int)] #[.int .u8 0, .int .u8 (IntKind.u8.wrap x.unit), .int .u8 (IntKind.u8.wrap (x.cmd.size : Int))] 3 K16 rfl rfl (hSw.row (K16, #[.int .u8 0, .int .u8 (IntKind.u8.wrap x.unit), .int .u8 (IntKind.u8.wrap (x.cmd.size : Int))], 5) (by simp)); rw [hB16] at hcv; go_simp; try with_reducible rfl
      try simp only [Act.put, List.setIfInBounds_toArray, List.set_cons_zero, List.set_cons_succ]
      refine Kt.G.one 2 { dst := some 42, op := Op.call { callee := Callee.value (Operand.func 62), args := #[Operand.tmp 41], argTypes := #[3] }, type := 9, pos := "bulk.go:28", after := #[{ on := 1, ground := Ground.data }], guard := none } rfl (by kernel_rfl) (by rfl) (fun K hK => ?_)
      go_simp
      refine (HL.out _).mono ?_; rintro en x2 ⟨rfl, hb2⟩
      refine hK.out _ _ (fun _ => hHeld.on hb2) (fun hHeld => ?_)
      have hHeld := hHeld rfl
      clear hK K
      try simp only [Act.put, List.setIfInBounds_toArray, List.set_cons_zero, List.set_cons_succ]
      clear hb2
      refine Kt.G.takeP 3 { dst := some 43, op := Op.binOp BinOp.add 9 (Operand.const (Value.string { data := #[85, 83, 66, 67] })) (Operand.tmp 42) 9, type := 9, pos := "bulk.go:28", after := #[{ on := 2, ground := Ground.data }], guard := none } ?_ (fun _ => hHeld) rfl (by kernel_rfl) (fun _ _ _ h => h) (by rfl) ?_ ?_
      rotate_left
      · intro w; go_simp; try with_reducible rfl
      try simp only [Act.put, List.setIfInBounds_toArray, List.set_cons_zero, List.set_cons_succ]
      refine Kt.G.one 6 { dst := some 46, op := Op.call { callee := Callee.value (Operand.func 62), args := #[Operand.tmp 45], argTypes := #[3] }, type := 9, pos := "bulk.go:28", after := #[{ on := 5, ground := Ground.data }, { on := 2, ground := Ground.chain }], guard := none } rfl (by kernel_rfl) (by rfl) (fun K hK => ?_)
      go_simp
      refine (HM.out _).mono ?_; rintro en x6 ⟨rfl, hb6⟩
      refine hK.out _ _ (fun _ => hHeld.on hb6) (fun hHeld => ?_)
      have hHeld := hHeld rfl
      clear hK K
      try simp only [Act.put, List.setIfInBounds_toArray, List.set_cons_zero, List.set_cons_succ]
      clear hb6
      refine Kt.G.takeP 7 { dst := some 47, op := Op.binOp BinOp.add 9 (Operand.tmp 43) (Operand.tmp 46) 9, type := 9, pos := "bulk.go:28", after := #[{ on := 3, ground := Ground.data }, { on := 6, ground := Ground.data }], guard := none } ?_ (fun _ => hHeld) rfl (by kernel_rfl) (fun _ _ _ h => h) (by rfl) ?_ ?_
      rotate_left
      · intro w; go_simp; try with_reducible rfl
      try simp only [Act.put, List.setIfInBounds_toArray, List.set_cons_zero, List.set_cons_succ]
      refine Kt.G.takeP 18 { dst := some 58, op := Op.binOp BinOp.add 9 (Operand.tmp 47) (Operand.tmp 57) 9, type := 9, pos := "bulk.go:28", after := #[{ on := 7, ground := Ground.data }, { on := 17, ground := Ground.data }], guard := none } ?_ (fun _ => hHeld) rfl (by kernel_rfl) (fun _ _ _ h => h) (by rfl) ?_ ?_
      rotate_left
      · intro w; go_simp; try with_reducible rfl
      try simp only [Act.put, List.setIfInBounds_toArray, List.set_cons_zero, List.set_cons_succ]
      refine Kt.G.takeP 21 { dst := some 61, op := Op.binOp BinOp.add 9 (Operand.tmp 58) (Operand.tmp 60) 9, type := 9, pos := "bulk.go:28", after := #[{ on := 18, ground := Ground.data }, { on := 20, ground := Ground.data }], guard := none } ?_ (fun _ => hHeld) rfl (by kernel_rfl) (fun _ _ _ h => h) (by rfl) ?_ ?_
      rotate_left
      · intro w; go_simp; try with_reducible rfl
      try simp only [Act.put, List.setIfInBounds_toArray, List.set_cons_zero, List.set_cons_succ]
      refine Kt.G.one 22 { dst := some 5, op := Op.assign (Operand.tmp 61), type := 9, pos := "bulk.go:28", after := #[{ on := 21, ground := Ground.data }, { on := 6, ground := Ground.chain }, { on := 0, ground := Ground.phase }, { on := 1, ground := Ground.phase }, { on := 2, ground := Ground.phase }, { on := 3, ground := Ground.phase }, { on := 4, ground := Ground.phase }, { on := 5, ground := Ground.phase }, { on := 6, ground := Ground.phase }, { on := 7, ground := Ground.phase }, { on := 8, ground := Ground.phase }, { on := 9, ground := Ground.phase }, { on := 10, ground := Ground.phase }, { on := 11, ground := Ground.phase }, { on := 12, ground := Ground.phase }, { on := 13, ground := Ground.phase }, { on := 14, ground := Ground.phase }, { on := 15, ground := Ground.phase }, { on := 16, ground := Ground.phase }, { on := 17, ground := Ground.phase }, { on := 18, ground := Ground.phase }, { on := 19, ground := Ground.phase }, { on := 20, ground := Ground.phase }, { on := 21, ground := Ground.phase }], guard := none } rfl (by kernel_rfl) (by rfl) (fun K hK => ?_)
      go_simp
      refine hK.out _ _ (Kt.G.late (by kernel_rfl)) (fun _ => ?_)
      clear hK K
      try simp only [Act.put, List.setIfInBounds_toArray, List.set_cons_zero, List.set_cons_succ]
      refine Kt.G.done (by kernel_rfl) (NoPanic.normal ?_) _
      go_wp2_with fail
      go_meet
      exact ⟨by rw [HE.out], hHeld.bel⟩
    -- END 0
  case rest =>
    obtain ⟨rfl, hbel⟩ := hcut
    have HB := Lib.hid hbel
    clear hbel HL HM hB2 hB6 sB2 sB6
    generalize wrapS x = S at *
    generalize zeros (31 - S.size) = Z at *
    have hz' : Z.size = 16 - x.cmd.size := by omega
    have hw31 : IntKind.i64.wrap (31 - (S.size : Int)) = 31 - (S.size : Int) := by rw [IntWalk.i64_left]; unfold wrap64; omega
    have h31 : ¬ 9223372036854775807 < S.size + Z.size := by omega
    clear hws hzs hz' g7 g8
    go_wp2_with fail
    refine (HR.out _).mono ?_
    rintro e w2 ⟨rfl, hb⟩
    have HB2 := Lib.hid (Kt.bthen HB.out hb)
    clear hb
    go_wp2_with fail
    refine bodyPost_ret (v := .tuple #[.string (S ++ Z), .int .i64 0]) (by simp [results, Try.results54]) rfl ?_
    exact ⟨by rw [HT.out], HB2.out⟩
end Go.Proofs.Ytafiedhjjnapoaa
