/- The law ScsiOwn, walked. -/
import Derived.Test.YtfhndjccghchjaaScsV
import Derived.Deep.CutBlock
import Derived.Deep.CutRange
namespace Go.Proofs.Ytfhndjccghchjaa
open Go.RowKit Go.Proofs.Ytfhndjccghchjaa.Scs
/-- every block of cells is there, and as great as it was -/
structure Shape (w w' : World) : Prop where
  size : w.heap.size ≤ w'.heap.size
  row : ∀ (k : Nat) (cur : Array Value) (t : TypeId), w.heap[k]? = some (.cells cur t (0, 0)) → ∃ cur', w'.heap[k]? = some (.cells cur' t (0, 0)) ∧ cur'.size = cur.size
theorem Shape.refl (w : World) : Shape w w := ⟨Nat.le_refl _, fun k cur t h => ⟨cur, h, rfl⟩⟩
theorem Shape.set {w w' : World} (h : Shape w w') (g i : Nat) (v : Value) {cs : Array Value} {t : TypeId} (hg : w'.heap[g]? = some (.cells cs t (0, 0))) : Shape w (w'.setCell ⟨g, i, none⟩ v) := by
  refine ⟨by simpa [World.setCell] using h.size, fun k cur t' hk => ?_⟩
  obtain ⟨cur', h1, h2⟩ := h.row k cur t' hk
  by_cases e : k = g
  · subst e
    exact ⟨_, heap_setCell_same w' k i cur' t' v h1, by simpa using h2⟩
  · exact ⟨cur', (heap_setCell_other _ _ _ _ e).trans h1, h2⟩
set_option maxHeartbeats 800000 in
theorem spoil_only (v : Value) (n B : Nat) (xs : List Value) (w : World) (h : Kt.Sl w B 9 1 v n xs) : Calls Try.prog 20 #[v] w fun e w' => e = .returned (.tuple #[]) ∧ Below B w w' ∧ Shape w w' ∧ ∀ k, v.ownBlock ≠ some k → w'.heap[k]? = w.heap[k]? := by
  rcases h.2 with ⟨rfl, rfl⟩ | ⟨g, o, cap, cur, rfl, hb, hg, hn, hc, hz, hx⟩
  · go_enter Try.func20, Try.ntmps20
    go_wp2_with fail
    refine wp_loop_rounds 1 ?_
    rw [rounds_succ]
    go_wp2
    go_end0
    exact ⟨rfl, Below.refl _ _, Shape.refl _, fun _ _ => rfl⟩
  · unfold maxLen at hc
    have hci : (cap : Int) ≤ 9223372036854775807 := by omega
    clear h hx hn hc
    go_enter Try.func20, Try.ntmps20
    go_wp2_with fail
    go_loopw [9] (fun i wr => ∃ k : Nat, k ≤ cap ∧ i = .int .i64 k ∧ Below B w wr ∧ Shape w wr ∧ ∀ k, k ≠ g → wr.heap[k]? = w.heap[k]?) (fun i _ => cap - (intOf i).toNat)
    case atStart => exact ⟨0, Nat.zero_le _, rfl, Below.refl _ _, Shape.refl _, fun _ _ => rfl⟩
    case round =>
      obtain ⟨k, hk, rfl, hbel, hsh, hon⟩ := hrel
      have HON := Lib.hid hon; clear hon
      by_cases hlt : k < cap
      · obtain ⟨cur', h1, h2⟩ := hsh.row g cur _ hg
        have hcell : wr.cell? ⟨g, o + k, none⟩ = some (cur'[o + k]'(by omega)) := (cell_of_row wr g (o + k) _ _ _ h1).trans (Array.getElem?_eq_getElem (by omega))
        have hfr : wr.frozen? ⟨g, o + k, none⟩ = false := frozen_of_row wr g _ _ _ h1
        generalize cur'[o + k]'(by omega) = y at *
        go_wp2_with fail
        go_roundw
        case rel => exact ⟨k + 1, by omega, by go_num, hbel.setCell hb _, hsh.set g _ _ h1, fun k hk => (heap_setCell_other _ _ _ _ hk).trans (HON.out k hk)⟩
        case measure => simp [intOf]; omega
      · obtain rfl : k = cap := by omega
        go_wp2
        go_end0
        exact ⟨rfl, hbel, hsh, fun k hk => HON.out k fun e => hk (by rw [e]; rfl)⟩
set_option maxRecDepth 100000 in
set_option maxHeartbeats 3200000 in
theorem own_calls (bs : List ByteArray) (s : Int) (c d : ByteArray) (A : Option Addr) (cap : Nat) (w : World) (h : DkA w A cap bs) (hn : bs.length ≤ 8796093022208) :
    Calls Try.prog 6 #[dkV A cap bs s, .string c, .string d] w fun e w' => e = .returned (.bool true) ∧ Below w.heap.size w w' := by
  have HA := Lib.hid h
  have HN := Lib.hid hn
  clear h hn
  unfold dkV
  go_enter Try.func6, Try.ntmps6
  go_upto_region 1 with (fail)
  go_cut [7] from 12 to 17 (fun v wx => ∃ kB MA Mc, v = .pointer (some ⟨kB, 0, none⟩) ∧ w.heap.size < kB ∧ wx.heap[kB]? = some (.cells #[.slice MA bs.length Mc, .int .i64 s] 38 (0, 0)) ∧ wx.heap[w.heap.size]? = some (.cells #[.slice A bs.length cap, .int .i64 s] 38 (0, 0)) ∧ Kt.Ar wx (.slice MA bs.length Mc) 1 bs.length (sts bs) ∧ Below w.heap.size w wx)
  case first =>
    have r0 := heap_alloc_new w (.cells #[.slice A bs.length cap, .int .i64 s] 38)
    have HF := ((Kt.Fb.nil w (Kt.balloc (Below.refl _ w) _)).add r0).drew
    refine Kt.G.start 7 (Kt.Fb w [(w.heap.size, #[.slice A bs.length cap, .int .i64 s], 38)]) (by kernel_rfl) HF (fun hHeld => ?_)
    clear r0 HF
    refine Kt.G.takeP 0 { dst := some 12, op := Op.fieldAddr 38 (Operand.tmp 3) 0, type := 0, pos := "scsi.go:109", after := #[], guard := none } ?_ (fun _ => hHeld) rfl (by kernel_rfl) (fun _ _ _ h => h) (by rfl) ?_ ?_
    rotate_left
    · intro w; go_simp; try with_reducible rfl
    try simp only [Act.put, List.setIfInBounds_toArray, List.set_cons_zero, List.set_cons_succ]
    refine Kt.G.take 1 { dst := some 13, op := Op.load 36 (Operand.tmp 12), type := 36, pos := "scsi.go:109", after := #[{ on := 0, ground := Ground.data }], guard := none } ?_ hHeld rfl (by kernel_rfl) (fun _ _ _ h => h) (by rfl) ?_ ?_
    rotate_left
    · intro w hSw; have r0 := hSw.row _ (List.Mem.head _); have c0 := fun i => cell_of_row _ _ i _ _ _ r0; dsimp only at *; go_simp; try with_reducible rfl
    try simp only [Act.put, List.setIfInBounds_toArray, List.set_cons_zero, List.set_cons_succ]
    refine Kt.G.takeP 3 { dst := some 15, op := Op.fieldAddr 38 (Operand.tmp 3) 1, type := 0, pos := "scsi.go:109", after := #[], guard := none } ?_ (fun _ => hHeld) rfl (by kernel_rfl) (fun _ _ _ h => h) (by rfl) ?_ ?_
    rotate_left
    · intro w; go_simp; try with_reducible rfl
    try simp only [Act.put, List.setIfInBounds_toArray, List.set_cons_zero, List.set_cons_succ]
    refine Kt.G.take 4 { dst := some 16, op := Op.load 3 (Operand.tmp 15), type := 3, pos := "scsi.go:109", after := #[{ on := 3, ground := Ground.data }], guard := none } ?_ hHeld rfl (by kernel_rfl) (fun _ _ _ h => h) (by rfl) ?_ ?_
    rotate_left
    · intro w hSw; have r0 := hSw.row _ (List.Mem.head _); have c0 := fun i => cell_of_row _ _ i _ _ _ r0; dsimp only at *; go_simp; try with_reducible rfl
    try simp only [Act.put, List.setIfInBounds_toArray, List.set_cons_zero, List.set_cons_succ]
    refine Kt.G.two 2 6 { dst := some 14, op := Op.call { callee := Callee.value (Operand.func 19), args := #[Operand.tmp 13], argTypes := #[36] }, type := 36, pos := "scsi.go:109", after := #[{ on := 1, ground := Ground.data }], guard := none } { dst := some 7, op := Op.alloc 38, type := 0, pos := "scsi.go:109", after := #[], guard := none } rfl rfl (by kernel_rfl) (by rfl) (by rfl) (fun K hK => ?_) (fun K hK => ?_)
    · go_simp
      refine (clone_calls _ _ _ _ (HA.out.on hHeld.bel) (sts_one _) (by have := HN.out; omega)).mono ?_; rintro en xa ⟨MA, Mc, rfl, hsM, hbxa⟩
      try (have hneM : ∀ k, (Value.slice MA bs.length Mc).ownBlock = some k → k ≠ kB := fun k hk => by have h1 := (hsM.lt k hk).1; have h2 := (Array.getElem?_eq_some_iff.1 rK).1; first | omega | (have h3 : ((w.alloc (.cells #[.slice A bs.length cap, .int .i64 s] 38)).alloc (.cells #[.slice none 0 0, .int .i64 0] 38)).heap.size ≤ k := h1; rw [World.size_alloc, World.size_alloc] at h3; omega))
      replace hsM := hsM.mono (B' := w.heap.size) hHeld.bel.size
      try (replace rK := Kt.row_on hbxa rK)
      refine hK.out _ _ (fun _ => hHeld.on hbxa) (fun hHeld => ?_)
      have hHeld := hHeld rfl
      clear hK K
      try simp only [Act.put, List.setIfInBounds_toArray, List.set_cons_zero, List.set_cons_succ]
      refine Kt.G.takeP 5 { dst := some 17, op := Op.build 38 #[(0, Operand.tmp 14), (1, Operand.tmp 16)], type := 38, pos := "scsi.go:109", after := #[{ on := 2, ground := Ground.data }, { on := 4, ground := Ground.data }], guard := none } ?_ (fun _ => hHeld) rfl (by kernel_rfl) (fun _ _ _ h => h) (by rfl) ?_ ?_
      rotate_left
      · intro w; go_simp; try with_reducible rfl
      try simp only [Act.put, List.setIfInBounds_toArray, List.set_cons_zero, List.set_cons_succ]
      refine Kt.G.one 6 { dst := some 7, op := Op.alloc 38, type := 0, pos := "scsi.go:109", after := #[], guard := none } rfl (by kernel_rfl) (by rfl) (fun K hK => ?_)
      have hHeld0 := hHeld
      go_simp
      refine hK.out _ _ (fun _ => hHeld.alloc _) (fun hHeld => ?_)
      have hHeld := hHeld rfl
      clear hK K
      try simp only [Act.put, List.setIfInBounds_toArray, List.set_cons_zero, List.set_cons_succ]
      obtain ⟨kB, hkB⟩ : ∃ k, k = (xa).heap.size := ⟨_, rfl⟩
      have rK := heap_alloc_new (xa) (.cells #[.slice none 0 0, .int .i64 0] 38); rw [← hkB] at rK
      have hk0 : w.heap.size < kB := by rw [hkB]; have h1 := hHeld.lt (List.Mem.head _); have h2 : ((xa).alloc (.cells #[.slice none 0 0, .int .i64 0] 38)).heap.size = (xa).heap.size + 1 := World.size_alloc _ _; have h3 := hHeld0.lt (List.Mem.head _); dsimp only at h1 h3; omega
      try (have hneM : ∀ k, (Value.slice MA bs.length Mc).ownBlock = some k → k ≠ kB := fun k hk => by have h1 := (hsM.lt k hk).2; omega)
      (try (replace hkB : kB = w.heap.size + 1 := by rw [hkB]; exact World.size_alloc _ _))
      try (replace hsM := hsM.alloc (.cells #[.slice none 0 0, .int .i64 0] 38))
      generalize (xa).alloc (.cells #[.slice none 0 0, .int .i64 0] 38) = xk at *
      refine Kt.G.one 7 { dst := none, op := Op.store 38 (Operand.tmp 7) (Operand.tmp 17), type := 0, pos := "scsi.go:109", after := #[{ on := 6, ground := Ground.data }, { on := 5, ground := Ground.data }, { on := 2, ground := Ground.chain }, { on := 0, ground := Ground.phase }, { on := 1, ground := Ground.phase }, { on := 2, ground := Ground.phase }, { on := 3, ground := Ground.phase }, { on := 4, ground := Ground.phase }, { on := 5, ground := Ground.phase }, { on := 6, ground := Ground.phase }], guard := none } rfl (by kernel_rfl) (by rfl) (fun K hK => ?_)
      have cK := fun i => cell_of_row _ _ i _ _ _ rK; have fK := fun i => frozen_of_row _ _ i _ _ rK
      rw [hkB] at cK fK
      go_simp
      refine hK.out _ _ (Kt.G.late (by kernel_rfl)) (fun _ => ?_)
      clear hK K
      try simp only [Act.put, List.setIfInBounds_toArray, List.set_cons_zero, List.set_cons_succ]
      rw [← hkB]
      refine Kt.G.done (by kernel_rfl) (NoPanic.normal ?_) _
      go_wp2_with fail
      go_meet
      case rel =>
        refine ⟨kB, MA, Mc, by rw [hkB], hk0, Kt.fill [.slice MA bs.length Mc, .int .i64 s] rK rfl, (Kt.setCells_other [.slice MA bs.length Mc, .int .i64 s] kB 0 _ _ (by omega)).trans (hHeld.row _ (List.Mem.head _)), Kt.Ar.of_sl (Kt.Sl.keep hsM fun k hk => Kt.setCells_other [.slice MA bs.length Mc, .int .i64 s] kB 0 _ _ (hneM k hk)), Kt.below_setCells [.slice MA bs.length Mc, .int .i64 s] kB 0 _ _ (by omega) hHeld.bel⟩
    · have hHeld0 := hHeld
      go_simp
      refine hK.out _ _ (fun _ => hHeld.alloc _) (fun hHeld => ?_)
      have hHeld := hHeld rfl
      clear hK K
      try simp only [Act.put, List.setIfInBounds_toArray, List.set_cons_zero, List.set_cons_succ]
      obtain ⟨kB, hkB⟩ : ∃ k, k = ((w.alloc (.cells #[.slice A bs.length cap, .int .i64 s] 38)).drew).heap.size := ⟨_, rfl⟩
      have rK := heap_alloc_new ((w.alloc (.cells #[.slice A bs.length cap, .int .i64 s] 38)).drew) (.cells #[.slice none 0 0, .int .i64 0] 38); rw [← hkB] at rK
      have hk0 : w.heap.size < kB := by rw [hkB]; have h1 := hHeld.lt (List.Mem.head _); have h2 : (((w.alloc (.cells #[.slice A bs.length cap, .int .i64 s] 38)).drew).alloc (.cells #[.slice none 0 0, .int .i64 0] 38)).heap.size = ((w.alloc (.cells #[.slice A bs.length cap, .int .i64 s] 38)).drew).heap.size + 1 := World.size_alloc _ _; have h3 := hHeld0.lt (List.Mem.head _); dsimp only at h1 h3; omega
      try (have hneM : ∀ k, (Value.slice MA bs.length Mc).ownBlock = some k → k ≠ kB := fun k hk => by have h1 := (hsM.lt k hk).2; omega)
      (try (replace hkB : kB = w.heap.size + 1 := by rw [hkB]; exact World.size_alloc _ _))
      try (replace hsM := hsM.alloc (.cells #[.slice none 0 0, .int .i64 0] 38))
      refine Kt.G.one 2 { dst := some 14, op := Op.call { callee := Callee.value (Operand.func 19), args := #[Operand.tmp 13], argTypes := #[36] }, type := 36, pos := "scsi.go:109", after := #[{ on := 1, ground := Ground.data }], guard := none } rfl (by kernel_rfl) (by rfl) (fun K hK => ?_)
      go_simp
      refine (clone_calls _ _ _ _ (HA.out.on hHeld.bel) (sts_one _) (by have := HN.out; omega)).mono ?_; rintro en xa ⟨MA, Mc, rfl, hsM, hbxa⟩
      try (have hneM : ∀ k, (Value.slice MA bs.length Mc).ownBlock = some k → k ≠ kB := fun k hk => by have h1 := (hsM.lt k hk).1; have h2 := (Array.getElem?_eq_some_iff.1 rK).1; first | omega | (have h3 : ((w.alloc (.cells #[.slice A bs.length cap, .int .i64 s] 38)).alloc (.cells #[.slice none 0 0, .int .i64 0] 38)).heap.size ≤ k := h1; rw [World.size_alloc, World.size_alloc] at h3; omega))
      replace hsM := hsM.mono (B' := w.heap.size) hHeld.bel.size
      try (replace rK := Kt.row_on hbxa rK)
      refine hK.out _ _ (fun _ => hHeld.on hbxa) (fun hHeld => ?_)
      have hHeld := hHeld rfl
      clear hK K
      try simp only [Act.put, List.setIfInBounds_toArray, List.set_cons_zero, List.set_cons_succ]
      refine Kt.G.takeP 5 { dst := some 17, op := Op.build 38 #[(0, Operand.tmp 14), (1, Operand.tmp 16)], type := 38, pos := "scsi.go:109", after := #[{ on := 2, ground := Ground.data }, { on := 4, ground := Ground.data }], guard := none } ?_ (fun _ => hHeld) rfl (by kernel_rfl) (fun _ _ _ h => h) (by rfl) ?_ ?_
      rotate_left
      · intro w; go_simp; try with_reducible rfl
      try simp only [Act.put, List.setIfInBounds_toArray, List.set_cons_zero, List.set_cons_succ]
      refine Kt.G.one 7 { dst := none, op := Op.store 38 (Operand.tmp 7) (Operand.tmp 17), type := 0, pos := "scsi.go:109", after := #[{ on := 6, ground := Ground.data }, { on := 5, ground := Ground.data }, { on := 2, ground := Ground.chain }, { on := 0, ground := Ground.phase }, { on := 1, ground := Ground.phase }, { on := 2, ground := Ground.phase }, { on := 3, ground := Ground.phase }, { on := 4, ground := Ground.phase }, { on := 5, ground := Ground.phase }, { on := 6, ground := Ground.phase }], guard := none } rfl (by kernel_rfl) (by rfl) (fun K hK => ?_)
      have cK := fun i => cell_of_row _ _ i _ _ _ rK; have fK := fun i => frozen_of_row _ _ i _ _ rK
      rw [hkB] at cK fK
      go_simp
      refine hK.out _ _ (Kt.G.late (by kernel_rfl)) (fun _ => ?_)
      clear hK K
      try simp only [Act.put, List.setIfInBounds_toArray, List.set_cons_zero, List.set_cons_succ]
      rw [← hkB]
      refine Kt.G.done (by kernel_rfl) (NoPanic.normal ?_) _
      go_wp2_with fail
      go_meet
      case rel =>
        refine ⟨kB, MA, Mc, by rw [hkB], hk0, Kt.fill [.slice MA bs.length Mc, .int .i64 s] rK rfl, (Kt.setCells_other [.slice MA bs.length Mc, .int .i64 s] kB 0 _ _ (by omega)).trans (hHeld.row _ (List.Mem.head _)), Kt.Ar.of_sl (Kt.Sl.keep hsM fun k hk => Kt.setCells_other [.slice MA bs.length Mc, .int .i64 s] kB 0 _ _ (hneM k hk)), Kt.below_setCells [.slice MA bs.length Mc, .int .i64 s] kB 0 _ _ (by omega) hHeld.bel⟩
  case rest =>
    obtain ⟨kB, MA, Mc, rfl, hk, rK, r2, hM, hbel⟩ := hcut
    have HM := Lib.hid (show DkA wc MA Mc bs from hM)
    have HB := Lib.hid hbel
    have HRK := Lib.hid rK
    have HR := Lib.hid r2
    have hkz := lt_of_row rK
    have q := fun i => cell_of_row _ _ i _ _ _ r2
    clear hM hbel rK r2
    go_wp2_with fail
    refine (Do_calls bs s c d A cap _ (HA.out.on HB.out) HN.out).mono ?_
    rintro e w1 hdo
    obtain ⟨P, sP, oP, g, hd1⟩ : ∃ b t o c', did bs s c d = (b, t, o, c') := ⟨_, _, _, _, rfl⟩
    obtain ⟨A1, cap1, rfl, hda, hb⟩ := hdo.open2 hd1
    have HC1 := Lib.hid hb
    have HS1 := Lib.hid hda
    have q := fun i => cell_of_row _ _ i _ _ _ (Kt.row_on hb HR.out)
    have q1 := fun i => cell_of_row _ _ i _ _ _ (Kt.row_on hb HRK.out)
    have lt1 := lt_of_row (Kt.row_on hb HR.out)
    have lt2 := lt_of_row (Kt.row_on hb HRK.out)
    have HWW := Lib.hid (lt_of_row HR.out)
    clear hdo hda hb hd1 hkz
    unfold dkV
    go_wp2_with fail
    have hal := Kt.balloc (Below.refl _ w1) (.cells #[.slice A1 P.length cap1, .int .i64 sP] 38)
    refine (sdisk_true A MA cap Mc bs s _ (HA.out.on (HB.out.trans ((Kt.bthen HC1.out hal).mono (Nat.le_of_lt HWW.out)))) (HM.out.on (Kt.bthen HC1.out hal)) (by have := HN.out; omega)).mono ?_
    rintro e w2 ⟨rfl, hb⟩
    have HRP := Lib.hid (Kt.box1 hb)
    have hb := Kt.bthen hal hb
    have HC2 := Lib.hid (Kt.bthen HC1.out hb)
    have HS2 := Lib.hid (HS1.out.on hb)
    clear hal hb HC1 HS1 q q1 lt1 lt2
    have q := fun i => cell_of_row _ _ i _ _ _ HRP.out
    go_wp2_with fail
    refine (spoil_only _ _ _ _ _ HS2.out).mono ?_
    rintro e w3 ⟨rfl, hb, _, _⟩
    have HC3 := Lib.hid (HC2.out.trans hb)
    clear hb q HRP HS2 HC2
    go_wp2_with fail
    refine (slives_calls _).mono ?_
    rintro e w4 ⟨rfl, hb⟩
    have HC4 := Lib.hid (Kt.bthen HC3.out hb)
    clear hb HC3
    have q := fun i => cell_of_row _ _ i _ _ _ (Kt.row_on HC4.out HR.out)
    have q1 := fun i => cell_of_row _ _ i _ _ _ (Kt.row_on HC4.out HRK.out)
    go_wp2_with fail
    refine (sdisk_true A MA cap Mc bs s _ (HA.out.on (HB.out.trans (HC4.out.mono (Nat.le_of_lt HWW.out)))) (HM.out.on HC4.out) (by have := HN.out; omega)).mono ?_
    rintro e w5 ⟨rfl, hb⟩
    have HC5 := Lib.hid (Kt.bthen HC4.out hb)
    clear hb HC4 q q1
    go_wp2_with fail
    go_ret
    exact ⟨rfl, HB.out.trans (HC5.out.mono (Nat.le_of_lt HWW.out))⟩
theorem own_walk (v0 v1 v2 : Value) (w : World) (r0 : Fr.RdV w reachBytes (.cat 1 (.slice 1 .string) (.cat 1 (.int .i64) .nil)) v0) (r1 : Fr.RdV w reachBytes .string v1) (r2 : Fr.RdV w reachBytes .string v2)
    (m1 : ∀ (cs : Array Value) a l c, v0 = .agg cs → (cs.toList.drop 0).take 1 = [.slice a l c] → l * Try.prog.bytesOf 9 ≤ reachBytes) :
    Calls Try.prog 6 #[v0, v1, v2] w fun e w' => e = .returned (.bool true) ∧ Below w.heap.size w w' := by
  obtain ⟨A, cap, bs, s, rfl, hd⟩ := dk_of r0
  obtain ⟨c, e1, _⟩ := r1; cases e1
  obtain ⟨d, e2, _⟩ := r2; cases e2
  have hby : Try.prog.bytesOf 9 = 16 := by kernel_rfl
  have hR : reachBytes ≤ 140737488355328 := by unfold reachBytes; omega
  have b1 := m1 _ A bs.length cap rfl rfl
  rw [hby] at b1
  exact own_calls bs s c d A cap w hd (by omega)
end Go.Proofs.Ytfhndjccghchjaa
