/- The law HubTold, walked (printed by ghubt.py). -/
import Derived.Test.YtijolofnmccolaaHubY
import Derived.Test.YtijolofnmccolaaHubI
namespace Go.Proofs.Ytijolofnmccolaa
open Go.RowKit Go.Proofs.Ytijolofnmccolaa.SetP
theorem changes_calls (c : Int) (ps : List Int) (hl : ps.length = 32) (hf : Fit ps) (h : RightH c ps) (w : World) : Calls Try.prog 8 #[HV c ps] w (ChIs (chText c ps) 0 w) := by
  have h1 := h.c1
  have h2 := h.c2
  by_cases h8 : c < 8
  · exact changes_small c ps hl hf w h h1 h8
  · exact changes_big c ps hl hf w h (by omega) h2
theorem st_size (s t : Int) : (statusT s t).size = 4 := rfl
theorem st_two {s t : Int} (h : okC t) : ∀ hs : 2 < (statusT s t).size, (((statusT s t)[2]'hs).toNat : Int) = t := by
  intro hs
  show ((UInt8.ofNat (t % 256).toNat).toNat : Int) = t
  unfold okC at h
  simp
  omega
theorem st_three {s t : Int} (h : okC t) : ∀ hs : 3 < (statusT s t).size, (((statusT s t)[3]'hs).toNat : Int) = 0 := by
  intro hs
  show ((UInt8.ofNat (t / 256 % 256).toNat).toNat : Int) = 0
  unfold okC at h
  simp
  omega
theorem fit_int : Fr.fits Try.prog 12 3 (.int .i64) = true := by kernel_rfl
theorem ok_int : Fr.eqOk Try.prog 12 3 = true := by kernel_rfl
theorem cells_int : Try.prog.cellsOf 3 = Kt.tsz (.int .i64) := by kernel_rfl
theorem idx_clr (j : Nat) (hj : j < 3) (w : World) : (Instr.index 34 (.agg #[.int .i64 16, .int .i64 17, .int .i64 20]) (.int .i64 j)).run Try.prog w = .ok (.int .i64 (clrV j)) w := by
  have h := Kt.run_index_ia (P := Try.prog) .i64 .i64 34 3 3 (.int .i64) 12 Try.underlying34 fit_int ok_int rfl rfl rfl cells_int [16, 17, 20] rfl j hj w
  have hj2 : j = 0 ∨ j = 1 ∨ j = 2 := by omega
  rcases hj2 with rfl | rfl | rfl <;> exact h
theorem ext_one : (⟨#[0, 0]⟩ : ByteArray).extract 0 1 = ⟨#[0]⟩ := rfl
theorem ext_two : (⟨#[0, 0]⟩ : ByteArray).extract 0 2 = ⟨#[0, 0]⟩ := rfl
/-- all is cleared -/
structure Done (c : Int) (ps : List Int) : Prop where
  len : ps.length = 32
  fit : Fit ps
  right : RightH c ps
  zero : ∀ i, i < 16 → psT ps i = 0
def Out (c : Int) (k : Nat) (ps : List Int) : Prop := ((k : Int) ≤ c ∧ Clr c k 0 ps) ∨ ((k : Int) = c + 1 ∧ Done c ps)
theorem Out.len {c : Int} {k : Nat} {ps : List Int} (h : Out c k ps) : ps.length = 32 := by
  rcases h with ⟨_, h⟩ | ⟨_, h⟩
  · exact h.len
  · exact h.len
theorem Out.next {c : Int} {k : Nat} {ps : List Int} (h : Clr c k 3 ps) (hk : (k : Int) ≤ c) : Out c (k + 1) ps := by
  have := h.right.c2
  by_cases e : (k : Int) = c
  · exact .inr ⟨by omega, h.len, h.fit, h.right, fun i hi => h.zero e i hi⟩
  · exact .inl ⟨by omega, h.next (by omega)⟩
set_option maxRecDepth 100000 in
set_option maxHeartbeats 6400000 in
theorem told_bad (c : Int) (ps : List Int) (port : Int) (w : World) (hl : ps.length = 32) (hf : Fit ps) (h : ¬ RightH c ps) :
    Calls Try.prog 3 #[HV c ps, .int .i64 port] w fun e w' => e = .returned (.bool true) ∧ Below w.heap.size w w' := by
  have HC := Lib.hid (fun W => changes_bad c ps hl hf W h)
  have e0 : (chk c ps != 0) = true := by rw [bne_iff_ne]; exact fun e => h (chk_zero.1 e)
  have b0 : HBox w.heap.size c ps (w.alloc (.cells (Kt.ia .i64 (c :: ps)) 26)) := heap_alloc_new w _
  have hbel := Kt.balloc (Below.refl _ w) (.cells (Kt.ia .i64 (c :: ps)) 26)
  generalize chk c ps = n at *
  clear h hf
  unfold HV
  go_enter Try.func3, Try.ntmps3
  go_wp2_with (refine load_hub rfl (.tmp 2) rfl w.heap.size rfl c ps hl b0 ?_)
  refine (HC.out _).mono ?_
  rintro en w1 ⟨rfl, hb⟩
  replace hbel := Kt.bthen hbel hb
  clear hb b0
  go_wp2_with fail
  refine (lives_calls _).mono ?_
  rintro en w2 ⟨rfl, hb⟩
  replace hbel := Kt.bthen hbel hb
  clear hb
  go_wp2_with fail
  refine (lives_calls _).mono ?_
  rintro en w3 ⟨rfl, hb⟩
  replace hbel := Kt.bthen hbel hb
  clear hb
  go_wp2_with fail
  go_ret
  exact ⟨rfl, hbel⟩
set_option maxRecDepth 100000 in
set_option maxHeartbeats 6400000 in
theorem told_far (c : Int) (ps : List Int) (port : Int) (w : World) (hl : ps.length = 32) (hf : Fit ps) (h : RightH c ps) (hp : port < 1 ∨ (1 ≤ port ∧ c < port)) :
    Calls Try.prog 3 #[HV c ps, .int .i64 port] w fun e w' => e = .returned (.bool true) ∧ Below w.heap.size w w' := by
  have HC := Lib.hid (fun W => changes_calls c ps hl hf h W)
  have b0 : HBox w.heap.size c ps (w.alloc (.cells (Kt.ia .i64 (c :: ps)) 26)) := heap_alloc_new w _
  have hbel := Kt.balloc (Below.refl _ w) (.cells (Kt.ia .i64 (c :: ps)) 26)
  generalize chText c ps = t at *
  clear h hf
  unfold HV
  rcases hp with h1 | ⟨h1, h2⟩
  all_goals
    go_enter Try.func3, Try.ntmps3
    go_wp2_with (refine load_hub rfl (.tmp 2) rfl w.heap.size rfl c ps hl b0 ?_)
    refine (HC.out _).mono ?_
    rintro en w1 ⟨rfl, hb⟩
    replace b0 := b0.on hb
    replace hbel := Kt.bthen hbel hb
    clear hb
    go_wp2_with fail
    refine (lives_calls _).mono ?_
    rintro en w2 ⟨rfl, hb⟩
    replace b0 := b0.on hb
    replace hbel := Kt.bthen hbel hb
    have hcnt := b0.count
    clear hb b0
    go_wp2_with fail
    refine (lives_calls _).mono ?_
    rintro en w3 ⟨rfl, hb⟩
    replace hbel := Kt.bthen hbel hb
    clear hb
    go_wp2_with fail
    go_ret
    exact ⟨rfl, hbel⟩
set_option maxRecDepth 100000 in
set_option maxHeartbeats 6400000 in
theorem told_good (c : Int) (ps : List Int) (p : Nat) (w : World) (hl : ps.length = 32) (hf : Fit ps) (h : RightH c ps) (h1 : (1 : Int) ≤ p) (h2 : (p : Int) ≤ c) :
    Calls Try.prog 3 #[HV c ps, .int .i64 p] w fun e w' => e = .returned (.bool true) ∧ Below w.heap.size w w' := by
  have hc1 := h.c1
  have hc2 := h.c2
  have e3 : decide ((p : Int) < 1) = false := decide_eq_false (by omega)
  have e4 : decide (c < (p : Int)) = false := decide_eq_false (by omega)
  have HC := Lib.hid (fun W => changes_calls c ps hl hf h W)
  have HST := Lib.hid (fun W => st_right hl hf h (right_zero c hc1 hc2) h1 h2 W)
  have HAK := Lib.hid (fun W => asked_calls 8 0 p 4 W ⟨163, 0, 0, 5, 4⟩ rfl (okw_st (right_zero c hc1 hc2) h1 h2))
  have b0 : HBox w.heap.size c ps (w.alloc (.cells (Kt.ia .i64 (c :: ps)) 26)) := heap_alloc_new w _
  have hbel := Kt.balloc (Below.refl _ w) (.cells (Kt.ia .i64 (c :: ps)) 26)
  have HH := Lib.hid h
  have HF := Lib.hid hf
  obtain ⟨a, ha⟩ : ∃ a, txt 163 0 0 p 4 = a := ⟨_, rfl⟩
  dsimp only at HAK
  rw [ha] at HST HAK
  obtain ⟨t, ht⟩ : ∃ t, statusT (psS ps p) (psT ps p) = t := ⟨_, rfl⟩
  have HT := Lib.hid ht
  rw [ht] at HST
  obtain ⟨s, hs⟩ : ∃ s, chText c ps = s := ⟨_, rfl⟩
  have HS := Lib.hid hs
  rw [hs] at HC
  clear h hf ha ht hs
  unfold HV
  go_enter Try.func3, Try.ntmps3
  go_wp2_with (refine load_hub rfl (.tmp 2) rfl w.heap.size rfl c ps hl b0 ?_)
  refine (HC.out _).mono ?_
  rintro en w1 ⟨rfl, hb⟩
  replace b0 := b0.on hb
  replace hbel := Kt.bthen hbel hb
  clear hb
  go_wp2_with fail
  refine (lives_calls _).mono ?_
  rintro en w2 ⟨rfl, hb⟩
  replace b0 := b0.on hb
  replace hbel := Kt.bthen hbel hb
  have hcnt := b0.count
  clear hb
  go_upto_region 4 with (fail)
  go_cut [7, 8, 6] from 34 to 41 (fun _ u n wx => u = .string t ∧ n = .int .i64 0 ∧ HB w w.heap.size c ps wx)
  case first =>
    refine Kt.G.start 9 (HB w w.heap.size c ps) (by kernel_rfl) (HB.drew ⟨b0, hbel⟩) (fun hHeld => ?_)
    refine Kt.G.load_row 0 { dst := some 35, op := Op.load 26 (Operand.tmp 2), type := 26, pos := "hub.go:87", after := #[], guard := none } 26 (Operand.tmp 2) w.heap.size 26 (Kt.ia .i64 (c :: ps)) _ hHeld rfl (by kernel_rfl) (fun _ _ _ h => h) (by rfl) rfl rfl (fun _ h => h.1) Try.underlying26 rfl (hub_size c ps hl) ?_
    try simp only [Act.put, List.setIfInBounds_toArray, List.set_cons_zero, List.set_cons_succ]
    refine Kt.G.takeP 1 { dst := some 36, op := Op.move (Operand.tmp 1), type := 3, pos := "hub.go:87", after := #[], guard := none } ?_ (fun _ => hHeld) rfl (by kernel_rfl) (fun _ _ _ h => h) (by rfl) ?_ ?_
    rotate_left
    · intro w; go_simp; try with_reducible rfl
    try simp only [Act.put, List.setIfInBounds_toArray, List.set_cons_zero, List.set_cons_succ]
    refine Kt.G.two 2 8 { dst := some 37, op := Op.call { callee := Callee.value (Operand.func 11), args := #[Operand.const (Value.int IntKind.i64 8), Operand.const (Value.int IntKind.i64 0), Operand.tmp 36, Operand.const (Value.int IntKind.i64 4)], argTypes := #[3, 3, 3, 3] }, type := 9, pos := "hub.go:87", after := #[{ on := 1, ground := Ground.data }], guard := none } { dst := some 7, op := Op.alloc 26, type := 0, pos := "hub.go:87", after := #[], guard := none } rfl rfl (by kernel_rfl) (by rfl) (by rfl) (fun K hK => ?_) (fun K hK => ?_)
    · go_simp
      refine (HAK.out _).mono ?_
      rintro en x ⟨rfl, hb⟩
      try replace hnew := hnew.on hb
      refine hK.out _ _ (fun _ => hHeld.on hb) (fun hHeld => ?_)
      have hHeld := hHeld rfl
      clear hK K
      try simp only [Act.put, List.setIfInBounds_toArray, List.set_cons_zero, List.set_cons_succ]
      clear hb
      refine Kt.G.two 3 8 { dst := some 38, op := Op.call { callee := Callee.value (Operand.func 10), args := #[Operand.tmp 35, Operand.tmp 37], argTypes := #[26, 9] }, type := 31, pos := "hub.go:87", after := #[{ on := 0, ground := Ground.data }, { on := 2, ground := Ground.data }, { on := 2, ground := Ground.chain }], guard := none } { dst := some 7, op := Op.alloc 26, type := 0, pos := "hub.go:87", after := #[], guard := none } rfl rfl (by kernel_rfl) (by rfl) (by rfl) (fun K hK => ?_) (fun K hK => ?_)
      · go_simp
        refine (HST.out _).mono ?_
        rintro en x ⟨rfl, hb⟩
        try replace hnew := hnew.on hb
        refine hK.out _ _ (fun _ => hHeld.on hb) (fun hHeld => ?_)
        have hHeld := hHeld rfl
        clear hK K
        try simp only [Act.put, List.setIfInBounds_toArray, List.set_cons_zero, List.set_cons_succ]
        clear hb
        refine Kt.G.takeP 4 { dst := some 34, op := Op.move (Operand.tmp 38), type := 31, pos := "hub.go:87", after := #[{ on := 3, ground := Ground.data }], guard := none } ?_ (fun _ => hHeld) rfl (by kernel_rfl) (fun _ _ _ h => h) (by rfl) ?_ ?_
        rotate_left
        · intro w; go_simp; try with_reducible rfl
        try simp only [Act.put, List.setIfInBounds_toArray, List.set_cons_zero, List.set_cons_succ]
        refine Kt.G.takeP 5 { dst := some 39, op := Op.extract (Operand.tmp 34) 0, type := 26, pos := "hub.go:87", after := #[{ on := 4, ground := Ground.data }], guard := none } ?_ (fun _ => hHeld) rfl (by kernel_rfl) (fun _ _ _ h => h) (by rfl) ?_ ?_
        rotate_left
        · intro w; go_simp; try with_reducible rfl
        try simp only [Act.put, List.setIfInBounds_toArray, List.set_cons_zero, List.set_cons_succ]
        refine Kt.G.takeP 6 { dst := some 40, op := Op.extract (Operand.tmp 34) 1, type := 9, pos := "hub.go:87", after := #[{ on := 4, ground := Ground.data }, { on := 9, ground := Ground.gcOnly Departure.lateStores }], guard := none } ?_ (fun _ => hHeld) rfl (by kernel_rfl) (fun _ _ _ h => h) (by rfl) ?_ ?_
        rotate_left
        · intro w; go_simp; try with_reducible rfl
        try simp only [Act.put, List.setIfInBounds_toArray, List.set_cons_zero, List.set_cons_succ]
        refine Kt.G.takeP 7 { dst := some 41, op := Op.extract (Operand.tmp 34) 2, type := 27, pos := "hub.go:87", after := #[{ on := 4, ground := Ground.data }, { on := 10, ground := Ground.gcOnly Departure.lateStores }], guard := none } ?_ (fun _ => hHeld) rfl (by kernel_rfl) (fun _ _ _ h => h) (by rfl) ?_ ?_
        rotate_left
        · intro w; go_simp; try with_reducible rfl
        try simp only [Act.put, List.setIfInBounds_toArray, List.set_cons_zero, List.set_cons_succ]
        refine Kt.G.one 8 { dst := some 7, op := Op.alloc 26, type := 0, pos := "hub.go:87", after := #[], guard := none } rfl (by kernel_rfl) (by rfl) (fun K hK => ?_)
        obtain ⟨nb, hnbe, hnew⟩ := new_any hHeld
        go_simp
        refine hK.out _ _ (fun _ => hHeld.alloc _) (fun hHeld => ?_)
        have hHeld := hHeld rfl
        clear hK K
        try simp only [Act.put, List.setIfInBounds_toArray, List.set_cons_zero, List.set_cons_succ]
        try simp only [hnbe]
        refine Kt.G.one 9 { dst := none, op := Op.store 26 (Operand.tmp 7) (Operand.tmp 39), type := 0, pos := "hub.go:87", after := #[{ on := 8, ground := Ground.data }, { on := 5, ground := Ground.data }, { on := 3, ground := Ground.chain }, { on := 0, ground := Ground.phase }, { on := 1, ground := Ground.phase }, { on := 2, ground := Ground.phase }, { on := 3, ground := Ground.phase }, { on := 4, ground := Ground.phase }, { on := 5, ground := Ground.phase }, { on := 6, ground := Ground.textOnly Departure.lateStores }, { on := 7, ground := Ground.textOnly Departure.lateStores }, { on := 8, ground := Ground.phase }], guard := none } rfl (by kernel_rfl) (by rfl) (fun K hK => ?_)
        refine st_hub (.tmp 7) (.tmp 39) rfl nb rfl c ps hl rfl 0 zs zs_len hnew.1 ?_
        intro y hRy hoy hBy
        have hRy := (hoy _ (by have := hnew.2; omega)).trans hHeld.1
        have hby := hHeld.2.trans (hBy _ (by have := hnew.2; omega))
        refine hK.out _ _ (Kt.G.late (by kernel_rfl)) (fun _ => ?_)
        clear hK K
        try simp only [Act.put, List.setIfInBounds_toArray, List.set_cons_zero, List.set_cons_succ]
        refine Kt.G.takeP 10 { dst := some 8, op := Op.assign (Operand.tmp 40), type := 9, pos := "hub.go:87", after := #[{ on := 6, ground := Ground.data }, { on := 9, ground := Ground.chain }, { on := 0, ground := Ground.phase }, { on := 1, ground := Ground.phase }, { on := 2, ground := Ground.phase }, { on := 3, ground := Ground.phase }, { on := 4, ground := Ground.phase }, { on := 5, ground := Ground.phase }, { on := 6, ground := Ground.phase }, { on := 7, ground := Ground.textOnly Departure.lateStores }, { on := 8, ground := Ground.phase }, { on := 9, ground := Ground.phase }], guard := none } ?_ (Kt.G.late (by kernel_rfl)) rfl (by kernel_rfl) (fun _ _ _ h => h) (by rfl) ?_ ?_
        rotate_left
        · intro w; go_simp; try with_reducible rfl
        try simp only [Act.put, List.setIfInBounds_toArray, List.set_cons_zero, List.set_cons_succ]
        refine Kt.G.takeP 11 { dst := some 6, op := Op.assign (Operand.tmp 41), type := 27, pos := "hub.go:87", after := #[{ on := 7, ground := Ground.data }, { on := 10, ground := Ground.chain }, { on := 0, ground := Ground.phase }, { on := 1, ground := Ground.phase }, { on := 2, ground := Ground.phase }, { on := 3, ground := Ground.phase }, { on := 4, ground := Ground.phase }, { on := 5, ground := Ground.phase }, { on := 6, ground := Ground.phase }, { on := 7, ground := Ground.phase }, { on := 8, ground := Ground.phase }, { on := 9, ground := Ground.phase }, { on := 10, ground := Ground.phase }], guard := none } ?_ (Kt.G.late (by kernel_rfl)) rfl (by kernel_rfl) (fun _ _ _ h => h) (by rfl) ?_ ?_
        rotate_left
        · intro w; go_simp; try with_reducible rfl
        try simp only [Act.put, List.setIfInBounds_toArray, List.set_cons_zero, List.set_cons_succ]
        refine Kt.G.done (by kernel_rfl) (NoPanic.normal ?_) _
        go_wp2_with fail
        go_meet
        exact ⟨rfl, rfl, hRy, hby⟩
      · obtain ⟨nb, hnbe, hnew⟩ := new_any hHeld
        go_simp
        refine hK.out _ _ (fun _ => hHeld.alloc _) (fun hHeld => ?_)
        have hHeld := hHeld rfl
        clear hK K
        try simp only [Act.put, List.setIfInBounds_toArray, List.set_cons_zero, List.set_cons_succ]
        try simp only [hnbe]
        refine Kt.G.one 3 { dst := some 38, op := Op.call { callee := Callee.value (Operand.func 10), args := #[Operand.tmp 35, Operand.tmp 37], argTypes := #[26, 9] }, type := 31, pos := "hub.go:87", after := #[{ on := 0, ground := Ground.data }, { on := 2, ground := Ground.data }, { on := 2, ground := Ground.chain }], guard := none } rfl (by kernel_rfl) (by rfl) (fun K hK => ?_)
        go_simp
        refine (HST.out _).mono ?_
        rintro en x ⟨rfl, hb⟩
        try replace hnew := hnew.on hb
        refine hK.out _ _ (fun _ => hHeld.on hb) (fun hHeld => ?_)
        have hHeld := hHeld rfl
        clear hK K
        try simp only [Act.put, List.setIfInBounds_toArray, List.set_cons_zero, List.set_cons_succ]
        clear hb
        refine Kt.G.takeP 4 { dst := some 34, op := Op.move (Operand.tmp 38), type := 31, pos := "hub.go:87", after := #[{ on := 3, ground := Ground.data }], guard := none } ?_ (fun _ => hHeld) rfl (by kernel_rfl) (fun _ _ _ h => h) (by rfl) ?_ ?_
        rotate_left
        · intro w; go_simp; try with_reducible rfl
        try simp only [Act.put, List.setIfInBounds_toArray, List.set_cons_zero, List.set_cons_succ]
        refine Kt.G.takeP 5 { dst := some 39, op := Op.extract (Operand.tmp 34) 0, type := 26, pos := "hub.go:87", after := #[{ on := 4, ground := Ground.data }], guard := none } ?_ (fun _ => hHeld) rfl (by kernel_rfl) (fun _ _ _ h => h) (by rfl) ?_ ?_
        rotate_left
        · intro w; go_simp; try with_reducible rfl
        try simp only [Act.put, List.setIfInBounds_toArray, List.set_cons_zero, List.set_cons_succ]
        refine Kt.G.takeP 6 { dst := some 40, op := Op.extract (Operand.tmp 34) 1, type := 9, pos := "hub.go:87", after := #[{ on := 4, ground := Ground.data }, { on := 9, ground := Ground.gcOnly Departure.lateStores }], guard := none } ?_ (fun _ => hHeld) rfl (by kernel_rfl) (fun _ _ _ h => h) (by rfl) ?_ ?_
        rotate_left
        · intro w; go_simp; try with_reducible rfl
        try simp only [Act.put, List.setIfInBounds_toArray, List.set_cons_zero, List.set_cons_succ]
        refine Kt.G.takeP 7 { dst := some 41, op := Op.extract (Operand.tmp 34) 2, type := 27, pos := "hub.go:87", after := #[{ on := 4, ground := Ground.data }, { on := 10, ground := Ground.gcOnly Departure.lateStores }], guard := none } ?_ (fun _ => hHeld) rfl (by kernel_rfl) (fun _ _ _ h => h) (by rfl) ?_ ?_
        rotate_left
        · intro w; go_simp; try with_reducible rfl
        try simp only [Act.put, List.setIfInBounds_toArray, List.set_cons_zero, List.set_cons_succ]
        refine Kt.G.one 9 { dst := none, op := Op.store 26 (Operand.tmp 7) (Operand.tmp 39), type := 0, pos := "hub.go:87", after := #[{ on := 8, ground := Ground.data }, { on := 5, ground := Ground.data }, { on := 3, ground := Ground.chain }, { on := 0, ground := Ground.phase }, { on := 1, ground := Ground.phase }, { on := 2, ground := Ground.phase }, { on := 3, ground := Ground.phase }, { on := 4, ground := Ground.phase }, { on := 5, ground := Ground.phase }, { on := 6, ground := Ground.textOnly Departure.lateStores }, { on := 7, ground := Ground.textOnly Departure.lateStores }, { on := 8, ground := Ground.phase }], guard := none } rfl (by kernel_rfl) (by rfl) (fun K hK => ?_)
        refine st_hub (.tmp 7) (.tmp 39) rfl nb rfl c ps hl rfl 0 zs zs_len hnew.1 ?_
        intro y hRy hoy hBy
        have hRy := (hoy _ (by have := hnew.2; omega)).trans hHeld.1
        have hby := hHeld.2.trans (hBy _ (by have := hnew.2; omega))
        refine hK.out _ _ (Kt.G.late (by kernel_rfl)) (fun _ => ?_)
        clear hK K
        try simp only [Act.put, List.setIfInBounds_toArray, List.set_cons_zero, List.set_cons_succ]
        refine Kt.G.takeP 10 { dst := some 8, op := Op.assign (Operand.tmp 40), type := 9, pos := "hub.go:87", after := #[{ on := 6, ground := Ground.data }, { on := 9, ground := Ground.chain }, { on := 0, ground := Ground.phase }, { on := 1, ground := Ground.phase }, { on := 2, ground := Ground.phase }, { on := 3, ground := Ground.phase }, { on := 4, ground := Ground.phase }, { on := 5, ground := Ground.phase }, { on := 6, ground := Ground.phase }, { on := 7, ground := Ground.textOnly Departure.lateStores }, { on := 8, ground := Ground.phase }, { on := 9, ground := Ground.phase }], guard := none } ?_ (Kt.G.late (by kernel_rfl)) rfl (by kernel_rfl) (fun _ _ _ h => h) (by rfl) ?_ ?_
        rotate_left
        · intro w; go_simp; try with_reducible rfl
        try simp only [Act.put, List.setIfInBounds_toArray, List.set_cons_zero, List.set_cons_succ]
        refine Kt.G.takeP 11 { dst := some 6, op := Op.assign (Operand.tmp 41), type := 27, pos := "hub.go:87", after := #[{ on := 7, ground := Ground.data }, { on := 10, ground := Ground.chain }, { on := 0, ground := Ground.phase }, { on := 1, ground := Ground.phase }, { on := 2, ground := Ground.phase }, { on := 3, ground := Ground.phase }, { on := 4, ground := Ground.phase }, { on := 5, ground := Ground.phase }, { on := 6, ground := Ground.phase }, { on := 7, ground := Ground.phase }, { on := 8, ground := Ground.phase }, { on := 9, ground := Ground.phase }, { on := 10, ground := Ground.phase }], guard := none } ?_ (Kt.G.late (by kernel_rfl)) rfl (by kernel_rfl) (fun _ _ _ h => h) (by rfl) ?_ ?_
        rotate_left
        · intro w; go_simp; try with_reducible rfl
        try simp only [Act.put, List.setIfInBounds_toArray, List.set_cons_zero, List.set_cons_succ]
        refine Kt.G.done (by kernel_rfl) (NoPanic.normal ?_) _
        go_wp2_with fail
        go_meet
        exact ⟨rfl, rfl, hRy, hby⟩
    · obtain ⟨nb, hnbe, hnew⟩ := new_any hHeld
      go_simp
      refine hK.out _ _ (fun _ => hHeld.alloc _) (fun hHeld => ?_)
      have hHeld := hHeld rfl
      clear hK K
      try simp only [Act.put, List.setIfInBounds_toArray, List.set_cons_zero, List.set_cons_succ]
      try simp only [hnbe]
      refine Kt.G.one 2 { dst := some 37, op := Op.call { callee := Callee.value (Operand.func 11), args := #[Operand.const (Value.int IntKind.i64 8), Operand.const (Value.int IntKind.i64 0), Operand.tmp 36, Operand.const (Value.int IntKind.i64 4)], argTypes := #[3, 3, 3, 3] }, type := 9, pos := "hub.go:87", after := #[{ on := 1, ground := Ground.data }], guard := none } rfl (by kernel_rfl) (by rfl) (fun K hK => ?_)
      go_simp
      refine (HAK.out _).mono ?_
      rintro en x ⟨rfl, hb⟩
      try replace hnew := hnew.on hb
      refine hK.out _ _ (fun _ => hHeld.on hb) (fun hHeld => ?_)
      have hHeld := hHeld rfl
      clear hK K
      try simp only [Act.put, List.setIfInBounds_toArray, List.set_cons_zero, List.set_cons_succ]
      clear hb
      refine Kt.G.one 3 { dst := some 38, op := Op.call { callee := Callee.value (Operand.func 10), args := #[Operand.tmp 35, Operand.tmp 37], argTypes := #[26, 9] }, type := 31, pos := "hub.go:87", after := #[{ on := 0, ground := Ground.data }, { on := 2, ground := Ground.data }, { on := 2, ground := Ground.chain }], guard := none } rfl (by kernel_rfl) (by rfl) (fun K hK => ?_)
      go_simp
      refine (HST.out _).mono ?_
      rintro en x ⟨rfl, hb⟩
      try replace hnew := hnew.on hb
      refine hK.out _ _ (fun _ => hHeld.on hb) (fun hHeld => ?_)
      have hHeld := hHeld rfl
      clear hK K
      try simp only [Act.put, List.setIfInBounds_toArray, List.set_cons_zero, List.set_cons_succ]
      clear hb
      refine Kt.G.takeP 4 { dst := some 34, op := Op.move (Operand.tmp 38), type := 31, pos := "hub.go:87", after := #[{ on := 3, ground := Ground.data }], guard := none } ?_ (fun _ => hHeld) rfl (by kernel_rfl) (fun _ _ _ h => h) (by rfl) ?_ ?_
      rotate_left
      · intro w; go_simp; try with_reducible rfl
      try simp only [Act.put, List.setIfInBounds_toArray, List.set_cons_zero, List.set_cons_succ]
      refine Kt.G.takeP 5 { dst := some 39, op := Op.extract (Operand.tmp 34) 0, type := 26, pos := "hub.go:87", after := #[{ on := 4, ground := Ground.data }], guard := none } ?_ (fun _ => hHeld) rfl (by kernel_rfl) (fun _ _ _ h => h) (by rfl) ?_ ?_
      rotate_left
      · intro w; go_simp; try with_reducible rfl
      try simp only [Act.put, List.setIfInBounds_toArray, List.set_cons_zero, List.set_cons_succ]
      refine Kt.G.takeP 6 { dst := some 40, op := Op.extract (Operand.tmp 34) 1, type := 9, pos := "hub.go:87", after := #[{ on := 4, ground := Ground.data }, { on := 9, ground := Ground.gcOnly Departure.lateStores }], guard := none } ?_ (fun _ => hHeld) rfl (by kernel_rfl) (fun _ _ _ h => h) (by rfl) ?_ ?_
      rotate_left
      · intro w; go_simp; try with_reducible rfl
      try simp only [Act.put, List.setIfInBounds_toArray, List.set_cons_zero, List.set_cons_succ]
      refine Kt.G.takeP 7 { dst := some 41, op := Op.extract (Operand.tmp 34) 2, type := 27, pos := "hub.go:87", after := #[{ on := 4, ground := Ground.data }, { on := 10, ground := Ground.gcOnly Departure.lateStores }], guard := none } ?_ (fun _ => hHeld) rfl (by kernel_rfl) (fun _ _ _ h => h) (by rfl) ?_ ?_
      rotate_left
      · intro w; go_simp; try with_reducible rfl
      try simp only [Act.put, List.setIfInBounds_toArray, List.set_cons_zero, List.set_cons_succ]
      refine Kt.G.one 9 { dst := none, op := Op.store 26 (Operand.tmp 7) (Operand.tmp 39), type := 0, pos := "hub.go:87", after := #[{ on := 8, ground := Ground.data }, { on := 5, ground := Ground.data }, { on := 3, ground := Ground.chain }, { on := 0, ground := Ground.phase }, { on := 1, ground := Ground.phase }, { on := 2, ground := Ground.phase }, { on := 3, ground := Ground.phase }, { on := 4, ground := Ground.phase }, { on := 5, ground := Ground.phase }, { on := 6, ground := Ground.textOnly Departure.lateStores }, { on := 7, ground := Ground.textOnly Departure.lateStores }, { on := 8, ground := Ground.phase }], guard := none } rfl (by kernel_rfl) (by rfl) (fun K hK => ?_)
      refine st_hub (.tmp 7) (.tmp 39) rfl nb rfl c ps hl rfl 0 zs zs_len hnew.1 ?_
      intro y hRy hoy hBy
      have hRy := (hoy _ (by have := hnew.2; omega)).trans hHeld.1
      have hby := hHeld.2.trans (hBy _ (by have := hnew.2; omega))
      refine hK.out _ _ (Kt.G.late (by kernel_rfl)) (fun _ => ?_)
      clear hK K
      try simp only [Act.put, List.setIfInBounds_toArray, List.set_cons_zero, List.set_cons_succ]
      refine Kt.G.takeP 10 { dst := some 8, op := Op.assign (Operand.tmp 40), type := 9, pos := "hub.go:87", after := #[{ on := 6, ground := Ground.data }, { on := 9, ground := Ground.chain }, { on := 0, ground := Ground.phase }, { on := 1, ground := Ground.phase }, { on := 2, ground := Ground.phase }, { on := 3, ground := Ground.phase }, { on := 4, ground := Ground.phase }, { on := 5, ground := Ground.phase }, { on := 6, ground := Ground.phase }, { on := 7, ground := Ground.textOnly Departure.lateStores }, { on := 8, ground := Ground.phase }, { on := 9, ground := Ground.phase }], guard := none } ?_ (Kt.G.late (by kernel_rfl)) rfl (by kernel_rfl) (fun _ _ _ h => h) (by rfl) ?_ ?_
      rotate_left
      · intro w; go_simp; try with_reducible rfl
      try simp only [Act.put, List.setIfInBounds_toArray, List.set_cons_zero, List.set_cons_succ]
      refine Kt.G.takeP 11 { dst := some 6, op := Op.assign (Operand.tmp 41), type := 27, pos := "hub.go:87", after := #[{ on := 7, ground := Ground.data }, { on := 10, ground := Ground.chain }, { on := 0, ground := Ground.phase }, { on := 1, ground := Ground.phase }, { on := 2, ground := Ground.phase }, { on := 3, ground := Ground.phase }, { on := 4, ground := Ground.phase }, { on := 5, ground := Ground.phase }, { on := 6, ground := Ground.phase }, { on := 7, ground := Ground.phase }, { on := 8, ground := Ground.phase }, { on := 9, ground := Ground.phase }, { on := 10, ground := Ground.phase }], guard := none } ?_ (Kt.G.late (by kernel_rfl)) rfl (by kernel_rfl) (fun _ _ _ h => h) (by rfl) ?_ ?_
      rotate_left
      · intro w; go_simp; try with_reducible rfl
      try simp only [Act.put, List.setIfInBounds_toArray, List.set_cons_zero, List.set_cons_succ]
      refine Kt.G.done (by kernel_rfl) (NoPanic.normal ?_) _
      go_wp2_with fail
      go_meet
      exact ⟨rfl, rfl, hRy, hby⟩
  obtain ⟨rfl, rfl, b0, hbel⟩ := hcut
  replace hcnt := b0.count
  have e1 : ((t.size : Int) != 4) = false := by rw [← HT.out]; rfl
  have hch := chText_size c ps
  obtain ⟨m, hm, m1, m2, m3⟩ : ∃ m : Int, IntKind.i64.wrap (c.tdiv 8) = m ∧ 0 ≤ m ∧ m ≤ 1 ∧ (s.size : Int) = m + 1 := by
    rw [← HS.out, hch]
    have hd : c.tdiv 8 = c / 8 := Int.tdiv_eq_ediv_of_nonneg (by omega)
    rw [hd, IntKind.wrap_i64]
    by_cases h8 : c < 8
    · rw [if_pos h8]; exact ⟨_, rfl, by omega, by omega, by omega⟩
    · rw [if_neg h8]; exact ⟨_, rfl, by omega, by omega, by omega⟩
  have hm1 : IntKind.i64.wrap (m + 1) = m + 1 := by rw [IntKind.wrap_i64]; omega
  have e2 : ((s.size : Int) != m + 1) = false := by rw [m3]; simp
  have hp15 : p ≤ 15 := by omega
  obtain ⟨r, hr, hrs⟩ : ∃ r : Nat, r = p / 8 ∧ r < s.size := ⟨p / 8, rfl, by
    have : (s.size : Int) = c / 8 + 1 := by
      rw [m3, ← hm, Int.tdiv_eq_ediv_of_nonneg (by omega), IntKind.wrap_i64]; omega
    omega⟩
  have hr1 : IntKind.i64.wrap ((p : Int) / 8) = r := by rw [IntKind.wrap_i64]; omega
  obtain ⟨e, he⟩ : ∃ e : Nat, e = p % 8 := ⟨_, rfl⟩
  have he1 : (p : Int).tmod 8 = e := by rw [Int.tmod_eq_emod_of_nonneg (by omega)]; omega
  have hrs1 : (r : Int) < s.size := by omega
  have hts : t.size = 4 := by rw [← HT.out]; rfl
  have hts1 : (2 : Int) < t.size := by omega
  have hts2 : (3 : Int) < t.size := by omega
  have ht2 : 2 < t.size := by omega
  have ht3 : 3 < t.size := by omega
  have hoc : okC (psT ps p) := (HH.out.ok p (by omega)).1.2
  have FT2 : ((t[2]'ht2).toNat : Int) = psT ps p := by
    have key : ∀ (u : ByteArray) (hu : 2 < u.size), u = statusT (psS ps p) (psT ps p) → ((u[2]'hu).toNat : Int) = psT ps p := by
      intro u hu e; subst e; exact st_two hoc hu
    exact key t ht2 HT.out.symm
  have FT3 : ((t[3]'ht3).toNat : Int) = 0 := by
    have key : ∀ (u : ByteArray) (hu : 3 < u.size), u = statusT (psS ps p) (psT ps p) → ((u[3]'hu).toNat : Int) = 0 := by
      intro u hu e; subst e; exact st_three hoc hu
    exact key t ht3 HT.out.symm
  have FA : bits .and .u8 (((s[r]'hrs).toNat : Int) / 2 ^ min e 8) 1 = if psT ps p = 0 then 0 else 1 := by
    subst hr he
    have key : ∀ (u : ByteArray) (hu : p / 8 < u.size), u = chText c ps → ((u[p / 8]'hu).toNat : Int) = chAt ps p := by
      intro u hu e; subst e; exact chText_at c ps p h2 (by omega) hu
    have k1 := key s hrs HS.out.symm
    have k2 := chAt_bit ps p (by omega)
    have k3 := chAt_bd ps p
    obtain ⟨x, hx⟩ : ∃ x : Nat, (s[p / 8]'hrs).toNat = x := ⟨_, rfl⟩
    rw [hx] at k1 ⊢
    have hx2 : (chAt ps p).toNat = x := by omega
    rw [hx2] at k2
    have e3 : min (p % 8) 8 = p % 8 := by omega
    have e4 : (x : Int) / 2 ^ (p % 8) = ((x / 2 ^ (p % 8) : Nat) : Int) := by simp
    have hle : x / 2 ^ (p % 8) ≤ x := Nat.div_le_self _ _
    rw [e3, e4, show (1 : Int) = ((1 : Nat) : Int) from rfl, u8_and_nat _ 1 (by omega) (by omega), Nat.and_one_is_mod, k2]
    split <;> rfl
  have HEQ : Hid ((psT ps p = 0 → bits .and .u8 (((s[r]'hrs).toNat : Int) / 2 ^ min e 8) 1 = 0 ∧ ((t[2]'ht2).toNat : Int) = 0) ∧ (psT ps p ≠ 0 → bits .and .u8 (((s[r]'hrs).toNat : Int) / 2 ^ min e 8) 1 = 1 ∧ ((((t[2]'ht2).toNat : Int) != 0) = true))) := Lib.hid ⟨fun h => ⟨by rw [FA, if_pos h], by rw [FT2, h]⟩, fun h => ⟨by rw [FA, if_neg h], by rw [FT2, bne_iff_ne]; exact h⟩⟩
  clear FA FT2
  clear hch hr he m3 hoc
  go_upto_region 5 with (fail)
  go_cut [77] from 42 to 76 (fun v wx => v = .bool false ∧ HB w w.heap.size c ps wx)
  case first =>
    by_cases h0 : psT ps p = 0
    · obtain ⟨k1, k2⟩ := HEQ.out.1 h0
      clear h0
      go_wp2_with fail
      go_quiet (fail)
      go_wp2_with fail
      go_meet
      exact ⟨rfl, HB.on ⟨b0, hbel⟩ (bdrewN (Below.refl _ _) _)⟩
    · obtain ⟨k1, k2⟩ := HEQ.out.2 h0
      clear h0
      go_wp2_with fail
      go_quiet (fail)
      go_wp2_with fail
      go_meet
      exact ⟨rfl, HB.on ⟨b0, hbel⟩ (bdrewN (Below.refl _ _) _)⟩
  obtain ⟨rfl, b0, hbel⟩ := hcut
  clear HEQ FT3 ht2 ht3 hts hts1 hts2 hrs1 hrs hr1 he1 e1 e2
  have HC1 := Lib.hid (Clr.first hl HF.out HH.out)
  clear hcnt
  go_wp2_with fail
  go_loopw [9] (fun i wr => ∃ (k : Nat) (b : List Int), 1 ≤ k ∧ (k : Int) ≤ c + 1 ∧ i = .int .i64 (k : Nat) ∧ HB w w.heap.size c b wr ∧ Hid (Out c k b)) (fun i _ => 17 - (intOf i).toNat)
  case atStart => exact ⟨1, ps, by omega, by omega, rfl, ⟨b0, hbel⟩, Lib.hid (.inl ⟨by omega, HC1.out⟩)⟩
  case round =>
    clear b0 hbel HC1
    obtain ⟨k, b, hk1, hk2, rfl, hB, HO⟩ := hrel
    have hlb := HO.out.len
    have hcnt := hB.1.count
    by_cases hk : (k : Int) ≤ c
    · have HC1 : Hid (Clr c k 0 b) := Lib.hid (by
        rcases HO.out with ⟨_, h⟩ | ⟨h, _⟩
        · exact h
        · omega)
      have e5 : decide ((k : Int) ≤ c) = true := decide_eq_true hk
      have HK := Lib.hid (And.intro hk1 hk)
      go_wp2_with fail
      go_loopw [85] (fun i wr => ∃ (j : Nat) (b : List Int), j ≤ 3 ∧ i = .int .i64 (j : Nat) ∧ HB w w.heap.size c b wr ∧ Hid (Clr c k j b)) (fun i _ => 3 - (intOf i).toNat)
      case atStart => exact ⟨0, b, by omega, rfl, hB, HC1⟩
      case round =>
        clear HC1 hB hcnt hlb HO
        obtain ⟨j, ps0, hj, rfl, hB, HC0⟩ := hrel
        have hl0 := HC0.out.len
        by_cases hj3 : j = 3
        · subst hj3
          have HN := Lib.hid (Out.next HC0.out hk)
          clear hj
          go_wp2_with fail
          go_roundw
          case rel => exact ⟨k + 1, ps0, by omega, by omega, by go_num, hB, HN⟩
          case measure => (simp [intOf] <;> omega)
        · obtain ⟨b1, a1, q1, q2, q3⟩ := HC0.out.step (by omega) HK.out.2 (show j < 3 by omega)
          have HC3 := Lib.hid q1
          have HA1 := Lib.hid q2
          have HT1 := Lib.hid q3
          have hl1 := q1.len
          clear q1 q2 q3 HC0
          obtain ⟨b0, hbel⟩ := hB
          have hj2 : j = 0 ∨ j = 1 ∨ j = 2 := by omega
          clear hj hj3
          rcases hj2 with rfl | rfl | rfl
          · have IX := fun w => idx_clr 0 (by omega) w
            simp only [Int.ofNat_eq_natCast, Int.cast_ofNat_Int, clrV] at IX
            go_wp2_with fail
            refine Kt.G.start 9 (HB w w.heap.size c ps0) (by kernel_rfl) (HB.drew ⟨b0, hbel⟩) (fun hHeld => ?_)
            refine Kt.G.load_row 0 { dst := some 89, op := Op.load 26 (Operand.tmp 2), type := 26, pos := "hub.go:93", after := #[], guard := none } 26 (Operand.tmp 2) w.heap.size 26 (Kt.ia .i64 (c :: ps0)) _ hHeld rfl (by kernel_rfl) (fun _ _ _ h => h) (by rfl) rfl rfl (fun _ h => h.1) Try.underlying26 rfl (hub_size c ps0 hl0) ?_
            try simp only [Act.put, List.setIfInBounds_toArray, List.set_cons_zero, List.set_cons_succ]
            refine Kt.G.takeP 1 { dst := some 90, op := Op.move (Operand.tmp 11), type := 3, pos := "hub.go:93", after := #[], guard := none } ?_ (fun _ => hHeld) rfl (by kernel_rfl) (fun _ _ _ h => h) (by rfl) ?_ ?_
            rotate_left
            · intro w; go_simp; try with_reducible rfl
            try simp only [Act.put, List.setIfInBounds_toArray, List.set_cons_zero, List.set_cons_succ]
            refine Kt.G.takeP 2 { dst := some 91, op := Op.move (Operand.tmp 9), type := 3, pos := "hub.go:93", after := #[], guard := none } ?_ (fun _ => hHeld) rfl (by kernel_rfl) (fun _ _ _ h => h) (by rfl) ?_ ?_
            rotate_left
            · intro w; go_simp; try with_reducible rfl
            try simp only [Act.put, List.setIfInBounds_toArray, List.set_cons_zero, List.set_cons_succ]
            refine Kt.G.one 3 { dst := some 92, op := Op.call { callee := Callee.value (Operand.func 11), args := #[Operand.const (Value.int IntKind.i64 10), Operand.tmp 90, Operand.tmp 91, Operand.const (Value.int IntKind.i64 0)], argTypes := #[3, 3, 3, 3] }, type := 9, pos := "hub.go:93", after := #[{ on := 1, ground := Ground.data }, { on := 2, ground := Ground.data }], guard := none } rfl (by kernel_rfl) (by rfl) (fun K hK => ?_)
            go_simp
            refine (HA1.out _).mono ?_
            rintro en x ⟨rfl, hb⟩
            try replace hnew := hnew.on hb
            refine hK.out _ _ (fun _ => hHeld.on hb) (fun hHeld => ?_)
            have hHeld := hHeld rfl
            clear hK K
            try simp only [Act.put, List.setIfInBounds_toArray, List.set_cons_zero, List.set_cons_succ]
            clear hb
            refine Kt.G.one 4 { dst := some 93, op := Op.call { callee := Callee.value (Operand.func 10), args := #[Operand.tmp 89, Operand.tmp 92], argTypes := #[26, 9] }, type := 31, pos := "hub.go:93", after := #[{ on := 0, ground := Ground.data }, { on := 3, ground := Ground.data }, { on := 3, ground := Ground.chain }], guard := none } rfl (by kernel_rfl) (by rfl) (fun K hK => ?_)
            go_simp
            refine (HT1.out _).mono ?_
            rintro en x ⟨rfl, hb⟩
            try replace hnew := hnew.on hb
            refine hK.out _ _ (fun _ => hHeld.on hb) (fun hHeld => ?_)
            have hHeld := hHeld rfl
            clear hK K
            try simp only [Act.put, List.setIfInBounds_toArray, List.set_cons_zero, List.set_cons_succ]
            clear hb
            refine Kt.G.takeP 5 { dst := some 88, op := Op.move (Operand.tmp 93), type := 31, pos := "hub.go:93", after := #[{ on := 4, ground := Ground.data }], guard := none } ?_ (fun _ => hHeld) rfl (by kernel_rfl) (fun _ _ _ h => h) (by rfl) ?_ ?_
            rotate_left
            · intro w; go_simp; try with_reducible rfl
            try simp only [Act.put, List.setIfInBounds_toArray, List.set_cons_zero, List.set_cons_succ]
            refine Kt.G.takeP 6 { dst := some 94, op := Op.extract (Operand.tmp 88) 0, type := 26, pos := "hub.go:93", after := #[{ on := 5, ground := Ground.data }], guard := none } ?_ (fun _ => hHeld) rfl (by kernel_rfl) (fun _ _ _ h => h) (by rfl) ?_ ?_
            rotate_left
            · intro w; go_simp; try with_reducible rfl
            try simp only [Act.put, List.setIfInBounds_toArray, List.set_cons_zero, List.set_cons_succ]
            refine Kt.G.takeP 7 { dst := some 95, op := Op.extract (Operand.tmp 88) 1, type := 9, pos := "hub.go:93", after := #[{ on := 5, ground := Ground.data }, { on := 9, ground := Ground.gcOnly Departure.lateStores }], guard := none } ?_ (fun _ => hHeld) rfl (by kernel_rfl) (fun _ _ _ h => h) (by rfl) ?_ ?_
            rotate_left
            · intro w; go_simp; try with_reducible rfl
            try simp only [Act.put, List.setIfInBounds_toArray, List.set_cons_zero, List.set_cons_succ]
            refine Kt.G.takeP 8 { dst := some 96, op := Op.extract (Operand.tmp 88) 2, type := 27, pos := "hub.go:93", after := #[{ on := 5, ground := Ground.data }, { on := 9, ground := Ground.gcOnly Departure.lateStores }], guard := none } ?_ (fun _ => hHeld) rfl (by kernel_rfl) (fun _ _ _ h => h) (by rfl) ?_ ?_
            rotate_left
            · intro w; go_simp; try with_reducible rfl
            try simp only [Act.put, List.setIfInBounds_toArray, List.set_cons_zero, List.set_cons_succ]
            refine Kt.G.one 9 { dst := none, op := Op.store 26 (Operand.tmp 2) (Operand.tmp 94), type := 0, pos := "hub.go:93", after := #[{ on := 6, ground := Ground.data }, { on := 4, ground := Ground.chain }, { on := 0, ground := Ground.phase }, { on := 1, ground := Ground.phase }, { on := 2, ground := Ground.phase }, { on := 3, ground := Ground.phase }, { on := 4, ground := Ground.phase }, { on := 5, ground := Ground.phase }, { on := 6, ground := Ground.phase }, { on := 7, ground := Ground.textOnly Departure.lateStores }, { on := 8, ground := Ground.textOnly Departure.lateStores }], guard := none } rfl (by kernel_rfl) (by rfl) (fun K hK => ?_)
            refine st_hub (.tmp 2) (.tmp 94) rfl w.heap.size rfl c b1 hl1 rfl c ps0 hl0 hHeld.1 ?_
            intro y hRy hoy hBy
            have hby := hHeld.2.trans (hBy _ (Nat.le_refl _))
            refine hK.out _ _ (Kt.G.late (by kernel_rfl)) (fun _ => ?_)
            clear hK K
            try simp only [Act.put, List.setIfInBounds_toArray, List.set_cons_zero, List.set_cons_succ]
            refine Kt.G.takeP 10 { dst := some 6, op := Op.assign (Operand.tmp 96), type := 27, pos := "hub.go:93", after := #[{ on := 8, ground := Ground.data }, { on := 9, ground := Ground.chain }, { on := 0, ground := Ground.phase }, { on := 1, ground := Ground.phase }, { on := 2, ground := Ground.phase }, { on := 3, ground := Ground.phase }, { on := 4, ground := Ground.phase }, { on := 5, ground := Ground.phase }, { on := 6, ground := Ground.phase }, { on := 7, ground := Ground.phase }, { on := 8, ground := Ground.phase }, { on := 9, ground := Ground.phase }], guard := none } ?_ (Kt.G.late (by kernel_rfl)) rfl (by kernel_rfl) (fun _ _ _ h => h) (by rfl) ?_ ?_
            rotate_left
            · intro w; go_simp; try with_reducible rfl
            try simp only [Act.put, List.setIfInBounds_toArray, List.set_cons_zero, List.set_cons_succ]
            refine Kt.G.done (by kernel_rfl) (NoPanic.normal ?_) _
            go_wp2_with fail
            go_roundw
            case rel => exact ⟨0 + 1, b1, by omega, by go_num, ⟨hRy, hby⟩, HC3⟩
            case measure => (simp [intOf] <;> omega)
          · have IX := fun w => idx_clr 1 (by omega) w
            simp only [Int.ofNat_eq_natCast, Int.cast_ofNat_Int, clrV] at IX
            go_wp2_with fail
            refine Kt.G.start 9 (HB w w.heap.size c ps0) (by kernel_rfl) (HB.drew ⟨b0, hbel⟩) (fun hHeld => ?_)
            refine Kt.G.load_row 0 { dst := some 89, op := Op.load 26 (Operand.tmp 2), type := 26, pos := "hub.go:93", after := #[], guard := none } 26 (Operand.tmp 2) w.heap.size 26 (Kt.ia .i64 (c :: ps0)) _ hHeld rfl (by kernel_rfl) (fun _ _ _ h => h) (by rfl) rfl rfl (fun _ h => h.1) Try.underlying26 rfl (hub_size c ps0 hl0) ?_
            try simp only [Act.put, List.setIfInBounds_toArray, List.set_cons_zero, List.set_cons_succ]
            refine Kt.G.takeP 1 { dst := some 90, op := Op.move (Operand.tmp 11), type := 3, pos := "hub.go:93", after := #[], guard := none } ?_ (fun _ => hHeld) rfl (by kernel_rfl) (fun _ _ _ h => h) (by rfl) ?_ ?_
            rotate_left
            · intro w; go_simp; try with_reducible rfl
            try simp only [Act.put, List.setIfInBounds_toArray, List.set_cons_zero, List.set_cons_succ]
            refine Kt.G.takeP 2 { dst := some 91, op := Op.move (Operand.tmp 9), type := 3, pos := "hub.go:93", after := #[], guard := none } ?_ (fun _ => hHeld) rfl (by kernel_rfl) (fun _ _ _ h => h) (by rfl) ?_ ?_
            rotate_left
            · intro w; go_simp; try with_reducible rfl
            try simp only [Act.put, List.setIfInBounds_toArray, List.set_cons_zero, List.set_cons_succ]
            refine Kt.G.one 3 { dst := some 92, op := Op.call { callee := Callee.value (Operand.func 11), args := #[Operand.const (Value.int IntKind.i64 10), Operand.tmp 90, Operand.tmp 91, Operand.const (Value.int IntKind.i64 0)], argTypes := #[3, 3, 3, 3] }, type := 9, pos := "hub.go:93", after := #[{ on := 1, ground := Ground.data }, { on := 2, ground := Ground.data }], guard := none } rfl (by kernel_rfl) (by rfl) (fun K hK => ?_)
            go_simp
            refine (HA1.out _).mono ?_
            rintro en x ⟨rfl, hb⟩
            try replace hnew := hnew.on hb
            refine hK.out _ _ (fun _ => hHeld.on hb) (fun hHeld => ?_)
            have hHeld := hHeld rfl
            clear hK K
            try simp only [Act.put, List.setIfInBounds_toArray, List.set_cons_zero, List.set_cons_succ]
            clear hb
            refine Kt.G.one 4 { dst := some 93, op := Op.call { callee := Callee.value (Operand.func 10), args := #[Operand.tmp 89, Operand.tmp 92], argTypes := #[26, 9] }, type := 31, pos := "hub.go:93", after := #[{ on := 0, ground := Ground.data }, { on := 3, ground := Ground.data }, { on := 3, ground := Ground.chain }], guard := none } rfl (by kernel_rfl) (by rfl) (fun K hK => ?_)
            go_simp
            refine (HT1.out _).mono ?_
            rintro en x ⟨rfl, hb⟩
            try replace hnew := hnew.on hb
            refine hK.out _ _ (fun _ => hHeld.on hb) (fun hHeld => ?_)
            have hHeld := hHeld rfl
            clear hK K
            try simp only [Act.put, List.setIfInBounds_toArray, List.set_cons_zero, List.set_cons_succ]
            clear hb
            refine Kt.G.takeP 5 { dst := some 88, op := Op.move (Operand.tmp 93), type := 31, pos := "hub.go:93", after := #[{ on := 4, ground := Ground.data }], guard := none } ?_ (fun _ => hHeld) rfl (by kernel_rfl) (fun _ _ _ h => h) (by rfl) ?_ ?_
            rotate_left
            · intro w; go_simp; try with_reducible rfl
            try simp only [Act.put, List.setIfInBounds_toArray, List.set_cons_zero, List.set_cons_succ]
            refine Kt.G.takeP 6 { dst := some 94, op := Op.extract (Operand.tmp 88) 0, type := 26, pos := "hub.go:93", after := #[{ on := 5, ground := Ground.data }], guard := none } ?_ (fun _ => hHeld) rfl (by kernel_rfl) (fun _ _ _ h => h) (by rfl) ?_ ?_
            rotate_left
            · intro w; go_simp; try with_reducible rfl
            try simp only [Act.put, List.setIfInBounds_toArray, List.set_cons_zero, List.set_cons_succ]
            refine Kt.G.takeP 7 { dst := some 95, op := Op.extract (Operand.tmp 88) 1, type := 9, pos := "hub.go:93", after := #[{ on := 5, ground := Ground.data }, { on := 9, ground := Ground.gcOnly Departure.lateStores }], guard := none } ?_ (fun _ => hHeld) rfl (by kernel_rfl) (fun _ _ _ h => h) (by rfl) ?_ ?_
            rotate_left
            · intro w; go_simp; try with_reducible rfl
            try simp only [Act.put, List.setIfInBounds_toArray, List.set_cons_zero, List.set_cons_succ]
            refine Kt.G.takeP 8 { dst := some 96, op := Op.extract (Operand.tmp 88) 2, type := 27, pos := "hub.go:93", after := #[{ on := 5, ground := Ground.data }, { on := 9, ground := Ground.gcOnly Departure.lateStores }], guard := none } ?_ (fun _ => hHeld) rfl (by kernel_rfl) (fun _ _ _ h => h) (by rfl) ?_ ?_
            rotate_left
            · intro w; go_simp; try with_reducible rfl
            try simp only [Act.put, List.setIfInBounds_toArray, List.set_cons_zero, List.set_cons_succ]
            refine Kt.G.one 9 { dst := none, op := Op.store 26 (Operand.tmp 2) (Operand.tmp 94), type := 0, pos := "hub.go:93", after := #[{ on := 6, ground := Ground.data }, { on := 4, ground := Ground.chain }, { on := 0, ground := Ground.phase }, { on := 1, ground := Ground.phase }, { on := 2, ground := Ground.phase }, { on := 3, ground := Ground.phase }, { on := 4, ground := Ground.phase }, { on := 5, ground := Ground.phase }, { on := 6, ground := Ground.phase }, { on := 7, ground := Ground.textOnly Departure.lateStores }, { on := 8, ground := Ground.textOnly Departure.lateStores }], guard := none } rfl (by kernel_rfl) (by rfl) (fun K hK => ?_)
            refine st_hub (.tmp 2) (.tmp 94) rfl w.heap.size rfl c b1 hl1 rfl c ps0 hl0 hHeld.1 ?_
            intro y hRy hoy hBy
            have hby := hHeld.2.trans (hBy _ (Nat.le_refl _))
            refine hK.out _ _ (Kt.G.late (by kernel_rfl)) (fun _ => ?_)
            clear hK K
            try simp only [Act.put, List.setIfInBounds_toArray, List.set_cons_zero, List.set_cons_succ]
            refine Kt.G.takeP 10 { dst := some 6, op := Op.assign (Operand.tmp 96), type := 27, pos := "hub.go:93", after := #[{ on := 8, ground := Ground.data }, { on := 9, ground := Ground.chain }, { on := 0, ground := Ground.phase }, { on := 1, ground := Ground.phase }, { on := 2, ground := Ground.phase }, { on := 3, ground := Ground.phase }, { on := 4, ground := Ground.phase }, { on := 5, ground := Ground.phase }, { on := 6, ground := Ground.phase }, { on := 7, ground := Ground.phase }, { on := 8, ground := Ground.phase }, { on := 9, ground := Ground.phase }], guard := none } ?_ (Kt.G.late (by kernel_rfl)) rfl (by kernel_rfl) (fun _ _ _ h => h) (by rfl) ?_ ?_
            rotate_left
            · intro w; go_simp; try with_reducible rfl
            try simp only [Act.put, List.setIfInBounds_toArray, List.set_cons_zero, List.set_cons_succ]
            refine Kt.G.done (by kernel_rfl) (NoPanic.normal ?_) _
            go_wp2_with fail
            go_roundw
            case rel => exact ⟨1 + 1, b1, by omega, by go_num, ⟨hRy, hby⟩, HC3⟩
            case measure => (simp [intOf] <;> omega)
          · have IX := fun w => idx_clr 2 (by omega) w
            simp only [Int.ofNat_eq_natCast, Int.cast_ofNat_Int, clrV] at IX
            go_wp2_with fail
            refine Kt.G.start 9 (HB w w.heap.size c ps0) (by kernel_rfl) (HB.drew ⟨b0, hbel⟩) (fun hHeld => ?_)
            refine Kt.G.load_row 0 { dst := some 89, op := Op.load 26 (Operand.tmp 2), type := 26, pos := "hub.go:93", after := #[], guard := none } 26 (Operand.tmp 2) w.heap.size 26 (Kt.ia .i64 (c :: ps0)) _ hHeld rfl (by kernel_rfl) (fun _ _ _ h => h) (by rfl) rfl rfl (fun _ h => h.1) Try.underlying26 rfl (hub_size c ps0 hl0) ?_
            try simp only [Act.put, List.setIfInBounds_toArray, List.set_cons_zero, List.set_cons_succ]
            refine Kt.G.takeP 1 { dst := some 90, op := Op.move (Operand.tmp 11), type := 3, pos := "hub.go:93", after := #[], guard := none } ?_ (fun _ => hHeld) rfl (by kernel_rfl) (fun _ _ _ h => h) (by rfl) ?_ ?_
            rotate_left
            · intro w; go_simp; try with_reducible rfl
            try simp only [Act.put, List.setIfInBounds_toArray, List.set_cons_zero, List.set_cons_succ]
            refine Kt.G.takeP 2 { dst := some 91, op := Op.move (Operand.tmp 9), type := 3, pos := "hub.go:93", after := #[], guard := none } ?_ (fun _ => hHeld) rfl (by kernel_rfl) (fun _ _ _ h => h) (by rfl) ?_ ?_
            rotate_left
            · intro w; go_simp; try with_reducible rfl
            try simp only [Act.put, List.setIfInBounds_toArray, List.set_cons_zero, List.set_cons_succ]
            refine Kt.G.one 3 { dst := some 92, op := Op.call { callee := Callee.value (Operand.func 11), args := #[Operand.const (Value.int IntKind.i64 10), Operand.tmp 90, Operand.tmp 91, Operand.const (Value.int IntKind.i64 0)], argTypes := #[3, 3, 3, 3] }, type := 9, pos := "hub.go:93", after := #[{ on := 1, ground := Ground.data }, { on := 2, ground := Ground.data }], guard := none } rfl (by kernel_rfl) (by rfl) (fun K hK => ?_)
            go_simp
            refine (HA1.out _).mono ?_
            rintro en x ⟨rfl, hb⟩
            try replace hnew := hnew.on hb
            refine hK.out _ _ (fun _ => hHeld.on hb) (fun hHeld => ?_)
            have hHeld := hHeld rfl
            clear hK K
            try simp only [Act.put, List.setIfInBounds_toArray, List.set_cons_zero, List.set_cons_succ]
            clear hb
            refine Kt.G.one 4 { dst := some 93, op := Op.call { callee := Callee.value (Operand.func 10), args := #[Operand.tmp 89, Operand.tmp 92], argTypes := #[26, 9] }, type := 31, pos := "hub.go:93", after := #[{ on := 0, ground := Ground.data }, { on := 3, ground := Ground.data }, { on := 3, ground := Ground.chain }], guard := none } rfl (by kernel_rfl) (by rfl) (fun K hK => ?_)
            go_simp
            refine (HT1.out _).mono ?_
            rintro en x ⟨rfl, hb⟩
            try replace hnew := hnew.on hb
            refine hK.out _ _ (fun _ => hHeld.on hb) (fun hHeld => ?_)
            have hHeld := hHeld rfl
            clear hK K
            try simp only [Act.put, List.setIfInBounds_toArray, List.set_cons_zero, List.set_cons_succ]
            clear hb
            refine Kt.G.takeP 5 { dst := some 88, op := Op.move (Operand.tmp 93), type := 31, pos := "hub.go:93", after := #[{ on := 4, ground := Ground.data }], guard := none } ?_ (fun _ => hHeld) rfl (by kernel_rfl) (fun _ _ _ h => h) (by rfl) ?_ ?_
            rotate_left
            · intro w; go_simp; try with_reducible rfl
            try simp only [Act.put, List.setIfInBounds_toArray, List.set_cons_zero, List.set_cons_succ]
            refine Kt.G.takeP 6 { dst := some 94, op := Op.extract (Operand.tmp 88) 0, type := 26, pos := "hub.go:93", after := #[{ on := 5, ground := Ground.data }], guard := none } ?_ (fun _ => hHeld) rfl (by kernel_rfl) (fun _ _ _ h => h) (by rfl) ?_ ?_
            rotate_left
            · intro w; go_simp; try with_reducible rfl
            try simp only [Act.put, List.setIfInBounds_toArray, List.set_cons_zero, List.set_cons_succ]
            refine Kt.G.takeP 7 { dst := some 95, op := Op.extract (Operand.tmp 88) 1, type := 9, pos := "hub.go:93", after := #[{ on := 5, ground := Ground.data }, { on := 9, ground := Ground.gcOnly Departure.lateStores }], guard := none } ?_ (fun _ => hHeld) rfl (by kernel_rfl) (fun _ _ _ h => h) (by rfl) ?_ ?_
            rotate_left
            · intro w; go_simp; try with_reducible rfl
            try simp only [Act.put, List.setIfInBounds_toArray, List.set_cons_zero, List.set_cons_succ]
            refine Kt.G.takeP 8 { dst := some 96, op := Op.extract (Operand.tmp 88) 2, type := 27, pos := "hub.go:93", after := #[{ on := 5, ground := Ground.data }, { on := 9, ground := Ground.gcOnly Departure.lateStores }], guard := none } ?_ (fun _ => hHeld) rfl (by kernel_rfl) (fun _ _ _ h => h) (by rfl) ?_ ?_
            rotate_left
            · intro w; go_simp; try with_reducible rfl
            try simp only [Act.put, List.setIfInBounds_toArray, List.set_cons_zero, List.set_cons_succ]
            refine Kt.G.one 9 { dst := none, op := Op.store 26 (Operand.tmp 2) (Operand.tmp 94), type := 0, pos := "hub.go:93", after := #[{ on := 6, ground := Ground.data }, { on := 4, ground := Ground.chain }, { on := 0, ground := Ground.phase }, { on := 1, ground := Ground.phase }, { on := 2, ground := Ground.phase }, { on := 3, ground := Ground.phase }, { on := 4, ground := Ground.phase }, { on := 5, ground := Ground.phase }, { on := 6, ground := Ground.phase }, { on := 7, ground := Ground.textOnly Departure.lateStores }, { on := 8, ground := Ground.textOnly Departure.lateStores }], guard := none } rfl (by kernel_rfl) (by rfl) (fun K hK => ?_)
            refine st_hub (.tmp 2) (.tmp 94) rfl w.heap.size rfl c b1 hl1 rfl c ps0 hl0 hHeld.1 ?_
            intro y hRy hoy hBy
            have hby := hHeld.2.trans (hBy _ (Nat.le_refl _))
            refine hK.out _ _ (Kt.G.late (by kernel_rfl)) (fun _ => ?_)
            clear hK K
            try simp only [Act.put, List.setIfInBounds_toArray, List.set_cons_zero, List.set_cons_succ]
            refine Kt.G.takeP 10 { dst := some 6, op := Op.assign (Operand.tmp 96), type := 27, pos := "hub.go:93", after := #[{ on := 8, ground := Ground.data }, { on := 9, ground := Ground.chain }, { on := 0, ground := Ground.phase }, { on := 1, ground := Ground.phase }, { on := 2, ground := Ground.phase }, { on := 3, ground := Ground.phase }, { on := 4, ground := Ground.phase }, { on := 5, ground := Ground.phase }, { on := 6, ground := Ground.phase }, { on := 7, ground := Ground.phase }, { on := 8, ground := Ground.phase }, { on := 9, ground := Ground.phase }], guard := none } ?_ (Kt.G.late (by kernel_rfl)) rfl (by kernel_rfl) (fun _ _ _ h => h) (by rfl) ?_ ?_
            rotate_left
            · intro w; go_simp; try with_reducible rfl
            try simp only [Act.put, List.setIfInBounds_toArray, List.set_cons_zero, List.set_cons_succ]
            refine Kt.G.done (by kernel_rfl) (NoPanic.normal ?_) _
            go_wp2_with fail
            go_roundw
            case rel => exact ⟨2 + 1, b1, by omega, by go_num, ⟨hRy, hby⟩, HC3⟩
            case measure => (simp [intOf] <;> omega)
    · have hke : (k : Int) = c + 1 := by omega
      have e5 : decide ((k : Int) ≤ c) = false := decide_eq_false hk
      have HD : Hid (Done c b) := Lib.hid (by
        rcases HO.out with ⟨h, _⟩ | ⟨_, h⟩
        · omega
        · exact h)
      have HC2 := Lib.hid (fun W => changes_calls c b HD.out.len HD.out.fit HD.out.right W)
      have HZ := Lib.hid (chText_zero c b HD.out.zero)
      obtain ⟨b0, hbel⟩ := hB
      clear hk hke HC HST HAK
      go_wp2_with (refine load_hub rfl (.tmp 2) rfl w.heap.size rfl c b hlb b0 ?_)
      refine (HC2.out _).mono ?_
      rintro en w9 ⟨rfl, hb⟩
      replace b0 := b0.on hb
      replace hbel := Kt.bthen hbel hb
      replace hcnt := b0.count
      clear hb
      rw [HZ.out]
      by_cases h8 : c < 8
      · rw [if_pos h8]
        have EX := ext_one
        have hc8 : IntKind.i64.wrap (c.tdiv 8) = 0 := by rw [Int.tdiv_eq_ediv_of_nonneg (by omega), IntKind.wrap_i64]; omega
        clear h8 m1 m2 hm hm1
        go_wp2_with fail
        go_ret
        exact ⟨rfl, hbel⟩
      · rw [if_neg h8]
        have EX := ext_two
        have hc8 : IntKind.i64.wrap (c.tdiv 8) = 1 := by rw [Int.tdiv_eq_ediv_of_nonneg (by omega), IntKind.wrap_i64]; omega
        clear h8 m1 m2 hm hm1
        go_wp2_with fail
        go_ret
        exact ⟨rfl, hbel⟩
theorem told_walk (v0 v1 : Value) (w : World) (r0 : Fr.RdV w reachBytes hubTy v0) (r1 : Fr.RdV w reachBytes (.int .i64) v1) :
    Calls Try.prog 3 #[v0, v1] w fun e w' => e = .returned (.bool true) ∧ Below w.heap.size w w' := by
  obtain ⟨c, ps, rfl, hl, hf⟩ := hub_in r0
  obtain ⟨port, e, _⟩ := r1; cases e
  by_cases h : RightH c ps
  · by_cases hp : port < 1 ∨ (1 ≤ port ∧ c < port)
    · exact told_far c ps port w hl hf h hp
    · obtain ⟨i, rfl⟩ : ∃ i : Nat, port = i := ⟨port.toNat, by omega⟩
      exact told_good c ps i w hl hf h (by omega) (by omega)
  · exact told_bad c ps port w hl hf h
end Go.Proofs.Ytijolofnmccolaa
