/- typist: typed walked. -/
import Derived.Test.YtndkaehbmdiofaaDoorTypM
import Derived.Lib.TrimU
import Derived.StillTailTactics
import Derived.BigQuiet
namespace Go.Proofs.YtndkaehbmdiofaaDoor
open Go.RowKit Go.Proofs.YtndkaehbmdiofaaDoor.Typ
/-- the tables, in whatever world leaves what lies below g -/
def Tb (g : Nat) (w : World) : Prop := ∀ W, Below g w W → Lib.Utf8Tabs 0 1 W
theorem Tb.on {g : Nat} {w w' : World} (h : Tb g w) (hb : Below g w w') : Tb g w' := fun W hW => h W (hb.trans hW)
theorem cut_in (s : ByteArray) (h : s.size ≤ 4096) : ∃ k n : Nat, s.size - (Lib.decodeLastL s.data.toList).2 = k ∧ (Lib.decodeLastL s.data.toList).2 = n ∧ IntKind.i64.wrap ((s.size : Int) - (n : Int)) = (k : Int) ∧ (k : Int) ≤ s.size := by
  have hle : (Lib.decodeLastL s.data.toList).2 ≤ s.size := by
    by_cases h0 : 0 < s.data.toList.length
    · exact (Lib.decodeLastL_width _ h0).2
    · have : s.data.toList = [] := List.length_eq_zero_iff.1 (by omega)
      rw [this]; exact Nat.zero_le _
  refine ⟨_, _, rfl, rfl, ?_, by omega⟩
  have := IntWalk.i64_in ((s.size : Int) - ((Lib.decodeLastL s.data.toList).2 : Int)) (by omega)
  rw [this]; omega
set_option maxRecDepth 100000 in
set_option maxHeartbeats 3200000 in
theorem typed_back (t : St) (g : Nat) (w : World) (h : Mx g t w) (h1 : t.text.size ≤ 4096) (hT : Tb g w) :
    Calls Tryd.prog 30 #[.pointer (some ⟨g, 0, none⟩), .int .i64 42] w fun e w' => e = .returned (.tuple #[]) ∧ Mx g (typedP t 42) w' ∧ Upd g w w' := by
  have HM := Lib.hid h
  have HT := Lib.hid hT
  obtain ⟨k, n, hk, hn, hw, hkle⟩ := cut_in t.text h1
  have hr := h
  unfold Mx St.cs at hr
  have q := fun i => cell_of_row _ _ i _ _ _ hr
  have qf := fun i => frozen_of_row _ _ i _ _ hr
  by_cases hd : t.dead = 0
  · have hd' : (t.dead == 0) = true := by rw [beq_iff_eq]; exact hd
    have HP : Hid (typedP t 42 = { t with dead := 0, text := t.text.extract 0 k }) := Lib.hid (by unfold typedP; rw [if_pos rfl, if_pos hd, hk])
    rw [HP.out]
    have HD := Lib.hid (fun W hW => Tryd.utf8_DecodeLastRuneInString t.text W (by omega) (HT.out W hW))
    rw [hn] at HD
    clear h hr h1 hT hk hn hd HP
    go_enter Tryd.func30, Tryd.ntmps30
    go_wp2_with fail
    refine (HD.out _ (Below.refl _ _)).mono ?_; rintro en w1 ⟨rfl, hb⟩
    have HM1 := Lib.hid (HM.out.on hb)
    have HU1 := Lib.hid (Upd.of_below hb HM.out.lt)
    clear hb q qf HM HD
    have hr := HM1.out
    unfold Mx St.cs at hr
    have q := fun i => cell_of_row _ _ i _ _ _ hr
    have qf := fun i => frozen_of_row _ _ i _ _ hr
    clear hr
    go_wp2_with fail
    refine wp_region_still_tail 18 (by kernel_rfl) (by kernel_rfl) ?_
    simp only [List.take_succ_cons, List.take_zero, List.drop_succ_cons, List.drop_zero]
    change wpStill _ _ w1.drew _ _ _
    have q2 : ∀ i, w1.drew.cell? ⟨g, i, none⟩ = w1.cell? ⟨g, i, none⟩ := fun _ => rfl
    have qf2 : ∀ i, w1.drew.frozen? ⟨g, i, none⟩ = false := fun i => qf i
    iterate 18 still_step
    refine wpStill_nil ?_
    change wpList _ _ _ _ _ w1.drew
    have HU2 := Lib.hid HU1.out.drew
    have HM2 : Hid (Mx g t w1.drew) := HM1
    have q3 := fun i => (q2 i).trans (q i)
    clear q qf q2 HU1 HM1
    generalize w1.drew = w2 at *
    go_wp2_with fail
    refine bodyPost_ret (results_none rfl _ _ _) rfl ?_
    exact ⟨rfl, (HM2.out.text _).dead 0, (HU2.out.set _ _).set _ _⟩
  · have hd' : (t.dead == 0) = false := by rw [beq_eq_false_iff_ne]; exact hd
    have HP : Hid (typedP t 42 = { t with dead := 0 }) := Lib.hid (by unfold typedP; rw [if_pos rfl, if_neg hd])
    rw [HP.out]
    clear h hr h1 hT hk hn hd HP hw hkle
    go_enter Tryd.func30, Tryd.ntmps30
    go_wp2_with fail
    refine bodyPost_ret (results_none rfl _ _ _) rfl ?_
    exact ⟨rfl, HM.out.dead 0, (Upd.refl g w).set _ _⟩
theorem not_empty (c : ByteArray) (h : 0 < c.size) : c.toList.isEmpty = false := by
  rw [Lib.toList_data, List.isEmpty_eq_false_iff]
  intro e
  have : c.data.toList.length = 0 := by rw [e]; rfl
  have h2 : c.size = c.data.toList.length := by rw [Array.length_toList]; rfl
  omega
theorem enc_size (z : Int) : (Utf8.encode z).size ≤ 4 := by
  unfold Utf8.encode
  dsimp only
  generalize (if Utf8.valid z = true then z.toNat else Utf8.runeError) = c
  repeat' split
  all_goals exact Nat.le_of_ble_eq_true rfl
theorem accd_size (d : Int) (b : UInt8) : (accdP d b).size ≤ 4 := by
  unfold accdP
  split
  · exact Nat.zero_le _
  · exact enc_size _
theorem acc_size (d : Int) : (accP d).size ≤ 2 := by
  unfold accP
  split
  · exact Nat.le_refl _
  · split
    · exact Nat.le_refl _
    · exact Nat.zero_le _
theorem signs_ne {c : Int} (h : signs c = true) : (c == 42) = false := by
  unfold signs at h
  rw [decide_eq_true_iff] at h
  rw [beq_eq_false_iff_ne]; omega
set_option maxRecDepth 100000 in
set_option maxHeartbeats 3200000 in
theorem typed_key (t : St) (c : Int) (hc : signs c = true) (g : Nat) (w : World) (h : Mx g t w) (h1 : t.text.size ≤ 4096) (hd : t.dead = 0 ∨ t.dead = 1 ∨ t.dead = 2) :
    Calls Tryd.prog 30 #[.pointer (some ⟨g, 0, none⟩), .int .i64 c] w fun e w' => e = .returned (.tuple #[]) ∧ Mx g (typedP t c) w' ∧ Upd g w w' := by
  obtain ⟨sh, hsh⟩ : ∃ sh, (shiftP t != (t.caps && letB c)) = sh := ⟨_, rfl⟩
  obtain ⟨b, hb⟩ := charP_one hc sh
  have hn := signs_ne hc
  have HP : Hid (typedP t c = { putP t (if accdP t.dead b = ByteArray.empty then accP t.dead ++ one b else accdP t.dead b) with dead := 0 }) := Lib.hid (by
    unfold typedP
    rw [if_neg (by rw [beq_eq_false_iff_ne] at hn; exact hn), hsh]
    dsimp only
    rw [hb]; rfl)
  have HR := Lib.hid h
  have HSH := Lib.hid (fun W (hW : Mx g t W) => shift_calls t g W hW)
  have HLE := Lib.hid (fun W => letter_calls c W)
  have HCH : Hid (∀ W, Calls Tryd.prog 31 #[.int .i64 c, .bool sh] W fun e w' => e = .returned (.string (one b)) ∧ Below W.heap.size W w') := Lib.hid (fun W => by rw [← hb]; exact char_calls c sh W)
  have HS := Lib.hid hsh
  unfold Mx St.cs at HR
  clear h hc hsh hb
  go_enter Tryd.func30, Tryd.ntmps30
  go_upto_region 5 with (fail)
  go_cut [6] from 47 to 60 (fun v wx => v = .string (one b) ∧ Mx g t wx ∧ Below w.heap.size w wx)
  case first =>
    have hs := HS.out
    cases hcp : t.caps
    · rw [hcp, Bool.false_and, Bool.bne_false] at hs
      rw [hs] at HSH
      rw [hcp] at HR
      have HSH := Lib.hid (fun W (hW : W.heap[g]? = some (.cells #[.int .u64 (t.held.a.toNat : Int), .int .u64 (t.held.b.toNat : Int), .int .u64 (t.held.c.toNat : Int), .int .u64 (t.held.d.toNat : Int), .bool false, .int .i64 t.dead, .int .i64 t.last, .int .i64 t.wait, .string t.text] 55 (0, 0))) => HSH.out W (by unfold Mx St.cs; rw [hcp]; exact hW))
      clear hs
      -- REGION false
      have HF := (Kt.Fb.nil w (Below.refl _ _)).add HR.out
      refine Kt.G.start 14 (Kt.Fb w [(g, #[.int .u64 (t.held.a.toNat : Int), .int .u64 (t.held.b.toNat : Int), .int .u64 (t.held.c.toNat : Int), .int .u64 (t.held.d.toNat : Int), .bool false, .int .i64 t.dead, .int .i64 t.last, .int .i64 t.wait, .string t.text], 55)]) (by kernel_rfl) HF.drew (fun hHeld => ?_)
      clear HF
      generalize w.drew = x0 at *
      refine Kt.G.takeP 0 { dst := some 47, op := Op.move (Operand.tmp 1), type := 3, pos := "typist.go:102", after := #[], guard := none } ?_ (fun _ => hHeld) rfl (by kernel_rfl) (fun _ _ _ h => h) (by rfl) ?_ ?_
      rotate_left
      · intro w; go_simp; try with_reducible rfl
      try simp only [Act.put, List.setIfInBounds_toArray, List.set_cons_zero, List.set_cons_succ]
      refine Kt.G.takeP 1 { dst := some 48, op := Op.move (Operand.tmp 0), type := 53, pos := "typist.go:102", after := #[], guard := none } ?_ (fun _ => hHeld) rfl (by kernel_rfl) (fun _ _ _ h => h) (by rfl) ?_ ?_
      rotate_left
      · intro w; go_simp; try with_reducible rfl
      try simp only [Act.put, List.setIfInBounds_toArray, List.set_cons_zero, List.set_cons_succ]
      refine Kt.G.takeP 3 { dst := some 50, op := Op.move (Operand.tmp 0), type := 53, pos := "typist.go:102", after := #[], guard := none } ?_ (fun _ => hHeld) rfl (by kernel_rfl) (fun _ _ _ h => h) (by rfl) ?_ ?_
      rotate_left
      · intro w; go_simp; try with_reducible rfl
      try simp only [Act.put, List.setIfInBounds_toArray, List.set_cons_zero, List.set_cons_succ]
      refine Kt.G.takeP 4 { dst := some 51, op := Op.nilCheck (Operand.tmp 50), type := 0, pos := "typist.go:102", after := #[{ on := 3, ground := Ground.data }], guard := none } ?_ (fun _ => hHeld) rfl (by kernel_rfl) (fun _ _ _ h => h) (by rfl) ?_ ?_
      rotate_left
      · intro w; go_simp; try with_reducible rfl
      try simp only [Act.put, List.setIfInBounds_toArray, List.set_cons_zero, List.set_cons_succ]
      refine Kt.G.takeP 5 { dst := some 52, op := Op.fieldAddr 55 (Operand.tmp 51) 0, type := 0, pos := "typist.go:102", after := #[{ on := 4, ground := Ground.data }], guard := none } ?_ (fun _ => hHeld) rfl (by kernel_rfl) (fun _ _ _ h => h) (by rfl) ?_ ?_
      rotate_left
      · intro w; go_simp; try with_reducible rfl
      try simp only [Act.put, List.setIfInBounds_toArray, List.set_cons_zero, List.set_cons_succ]
      refine Kt.G.takeP 6 { dst := some 53, op := Op.fieldAddr 37 (Operand.tmp 52) 1, type := 0, pos := "typist.go:102", after := #[{ on := 5, ground := Ground.data }], guard := none } ?_ (fun _ => hHeld) rfl (by kernel_rfl) (fun _ _ _ h => h) (by rfl) ?_ ?_
      rotate_left
      · intro w; go_simp; try with_reducible rfl
      try simp only [Act.put, List.setIfInBounds_toArray, List.set_cons_zero, List.set_cons_succ]
      refine Kt.G.take 7 { dst := some 54, op := Op.load 4 (Operand.tmp 53), type := 4, pos := "typist.go:102", after := #[{ on := 6, ground := Ground.data }], guard := none } ?_ hHeld rfl (by kernel_rfl) (fun _ _ _ h => h) (by rfl) ?_ ?_
      rotate_left
      · intro w hSw; have r0 := hSw.row (g, #[.int .u64 (t.held.a.toNat : Int), .int .u64 (t.held.b.toNat : Int), .int .u64 (t.held.c.toNat : Int), .int .u64 (t.held.d.toNat : Int), .bool false, .int .i64 t.dead, .int .i64 t.last, .int .i64 t.wait, .string t.text], 55) (by simp); have c0 := fun i => cell_of_row _ _ i _ _ _ r0; dsimp only at *; go_simp; try with_reducible rfl
      try simp only [Act.put, List.setIfInBounds_toArray, List.set_cons_zero, List.set_cons_succ]
      refine Kt.G.one 2 { dst := some 49, op := Op.call { callee := Callee.value (Operand.func 37), args := #[Operand.tmp 48], argTypes := #[53] }, type := 4, pos := "typist.go:102", after := #[{ on := 1, ground := Ground.data }], guard := none } rfl (by kernel_rfl) (by rfl) (fun K hK => ?_)
      go_simp
      refine (HSH.out _ (hHeld.row _ (List.Mem.head _))).mono ?_; rintro en x2 ⟨rfl, hb2⟩
      refine hK.out _ _ (fun _ => hHeld.on hb2) (fun hHeld => ?_)
      have hHeld := hHeld rfl
      clear hK K
      try simp only [Act.put, List.setIfInBounds_toArray, List.set_cons_zero, List.set_cons_succ]
      clear hb2
      refine Kt.G.takeP 8 { dst := some 55, op := Op.move (Operand.tmp 54), type := 4, pos := "typist.go:102", after := #[{ on := 7, ground := Ground.data }, { on := 2, ground := Ground.chain }], guard := none } ?_ (fun _ => hHeld) rfl (by kernel_rfl) (fun _ _ _ h => h) (by rfl) ?_ ?_
      rotate_left
      · intro w; go_simp; try with_reducible rfl
      try simp only [Act.put, List.setIfInBounds_toArray, List.set_cons_zero, List.set_cons_succ]
      refine Kt.G.skip 9 { dst := some 56, op := Op.move (Operand.tmp 1), type := 3, pos := "typist.go:102", after := #[{ on := 8, ground := Ground.guard }], guard := some (8, true) } (fun _ => hHeld) rfl (by kernel_rfl) (fun _ _ _ h => h) (by rfl) ?_
      try simp only [Act.put, List.setIfInBounds_toArray, List.set_cons_zero, List.set_cons_succ]
      refine Kt.G.skip 10 { dst := some 57, op := Op.call { callee := Callee.value (Operand.func 39), args := #[Operand.tmp 56], argTypes := #[3] }, type := 4, pos := "typist.go:102", after := #[{ on := 9, ground := Ground.data }, { on := 8, ground := Ground.chain }, { on := 8, ground := Ground.guard }], guard := some (8, true) } (fun _ => hHeld) rfl (by kernel_rfl) (fun _ _ _ h => h) (by rfl) ?_
      try simp only [Act.put, List.setIfInBounds_toArray, List.set_cons_zero, List.set_cons_succ]
      refine Kt.G.takeP 11 { dst := some 58, op := Op.pick (Operand.tmp 55) (Operand.tmp 57) (Operand.const (Value.bool false)), type := 4, pos := "typist.go:102", after := #[{ on := 8, ground := Ground.data }, { on := 10, ground := Ground.data }], guard := none } ?_ (fun _ => hHeld) rfl (by kernel_rfl) (fun _ _ _ h => h) (by rfl) ?_ ?_
      rotate_left
      · intro w; go_simp; try with_reducible rfl
      try simp only [Act.put, List.setIfInBounds_toArray, List.set_cons_zero, List.set_cons_succ]
      refine Kt.G.takeP 12 { dst := some 59, op := Op.binOp BinOp.neq 4 (Operand.tmp 49) (Operand.tmp 58) 4, type := 4, pos := "typist.go:102", after := #[{ on := 2, ground := Ground.data }, { on := 11, ground := Ground.data }], guard := none } ?_ (fun _ => hHeld) rfl (by kernel_rfl) (fun _ _ _ h => h) (by rfl) ?_ ?_
      rotate_left
      · intro w; go_simp; try with_reducible rfl
      try simp only [Act.put, List.setIfInBounds_toArray, List.set_cons_zero, List.set_cons_succ]
      refine Kt.G.one 13 { dst := some 60, op := Op.call { callee := Callee.value (Operand.func 31), args := #[Operand.tmp 47, Operand.tmp 59], argTypes := #[3, 4] }, type := 9, pos := "typist.go:102", after := #[{ on := 0, ground := Ground.data }, { on := 12, ground := Ground.data }, { on := 10, ground := Ground.chain }], guard := none } rfl (by kernel_rfl) (by rfl) (fun K hK => ?_)
      go_simp
      refine (HCH.out _).mono ?_; rintro en x13 ⟨rfl, hb13⟩
      refine hK.out _ _ (fun _ => hHeld.on hb13) (fun hHeld => ?_)
      have hHeld := hHeld rfl
      clear hK K
      try simp only [Act.put, List.setIfInBounds_toArray, List.set_cons_zero, List.set_cons_succ]
      clear hb13
      refine Kt.G.one 14 { dst := some 6, op := Op.assign (Operand.tmp 60), type := 9, pos := "typist.go:102", after := #[{ on := 13, ground := Ground.data }, { on := 13, ground := Ground.chain }, { on := 0, ground := Ground.phase }, { on := 1, ground := Ground.phase }, { on := 2, ground := Ground.phase }, { on := 3, ground := Ground.phase }, { on := 4, ground := Ground.phase }, { on := 5, ground := Ground.phase }, { on := 6, ground := Ground.phase }, { on := 7, ground := Ground.phase }, { on := 8, ground := Ground.phase }, { on := 9, ground := Ground.phase }, { on := 10, ground := Ground.phase }, { on := 11, ground := Ground.phase }, { on := 12, ground := Ground.phase }, { on := 13, ground := Ground.phase }], guard := none } rfl (by kernel_rfl) (by rfl) (fun K hK => ?_)
      go_simp
      refine hK.out _ _ (Kt.G.late (by kernel_rfl)) (fun _ => ?_)
      clear hK K
      try simp only [Act.put, List.setIfInBounds_toArray, List.set_cons_zero, List.set_cons_succ]
      refine Kt.G.done (by kernel_rfl) (NoPanic.normal ?_) _
      go_wp2_with fail
      go_meet
      case rel =>
        exact ⟨rfl, by unfold Mx St.cs; rw [hcp]; exact hHeld.row _ (List.Mem.head _), hHeld.bel⟩
      -- END false
    · rw [hcp, Bool.true_and] at hs
      obtain ⟨s1, hs1⟩ : ∃ b, shiftP t = b := ⟨_, rfl⟩
      obtain ⟨s2, hs2⟩ : ∃ b, letB c = b := ⟨_, rfl⟩
      rw [hs1] at HSH
      rw [hs2] at HLE
      rw [hs1, hs2] at hs
      subst hs
      rw [hcp] at HR
      have HSH := Lib.hid (fun W (hW : W.heap[g]? = some (.cells #[.int .u64 (t.held.a.toNat : Int), .int .u64 (t.held.b.toNat : Int), .int .u64 (t.held.c.toNat : Int), .int .u64 (t.held.d.toNat : Int), .bool true, .int .i64 t.dead, .int .i64 t.last, .int .i64 t.wait, .string t.text] 55 (0, 0))) => HSH.out W (by unfold Mx St.cs; rw [hcp]; exact hW))
      clear hs1 hs2
      -- REGION true
      have HF := (Kt.Fb.nil w (Below.refl _ _)).add HR.out
      refine Kt.G.start 14 (Kt.Fb w [(g, #[.int .u64 (t.held.a.toNat : Int), .int .u64 (t.held.b.toNat : Int), .int .u64 (t.held.c.toNat : Int), .int .u64 (t.held.d.toNat : Int), .bool true, .int .i64 t.dead, .int .i64 t.last, .int .i64 t.wait, .string t.text], 55)]) (by kernel_rfl) HF.drew (fun hHeld => ?_)
      clear HF
      generalize w.drew = x0 at *
      refine Kt.G.takeP 0 { dst := some 47, op := Op.move (Operand.tmp 1), type := 3, pos := "typist.go:102", after := #[], guard := none } ?_ (fun _ => hHeld) rfl (by kernel_rfl) (fun _ _ _ h => h) (by rfl) ?_ ?_
      rotate_left
      · intro w; go_simp; try with_reducible rfl
      try simp only [Act.put, List.setIfInBounds_toArray, List.set_cons_zero, List.set_cons_succ]
      refine Kt.G.takeP 1 { dst := some 48, op := Op.move (Operand.tmp 0), type := 53, pos := "typist.go:102", after := #[], guard := none } ?_ (fun _ => hHeld) rfl (by kernel_rfl) (fun _ _ _ h => h) (by rfl) ?_ ?_
      rotate_left
      · intro w; go_simp; try with_reducible rfl
      try simp only [Act.put, List.setIfInBounds_toArray, List.set_cons_zero, List.set_cons_succ]
      refine Kt.G.takeP 3 { dst := some 50, op := Op.move (Operand.tmp 0), type := 53, pos := "typist.go:102", after := #[], guard := none } ?_ (fun _ => hHeld) rfl (by kernel_rfl) (fun _ _ _ h => h) (by rfl) ?_ ?_
      rotate_left
      · intro w; go_simp; try with_reducible rfl
      try simp only [Act.put, List.setIfInBounds_toArray, List.set_cons_zero, List.set_cons_succ]
      refine Kt.G.takeP 4 { dst := some 51, op := Op.nilCheck (Operand.tmp 50), type := 0, pos := "typist.go:102", after := #[{ on := 3, ground := Ground.data }], guard := none } ?_ (fun _ => hHeld) rfl (by kernel_rfl) (fun _ _ _ h => h) (by rfl) ?_ ?_
      rotate_left
      · intro w; go_simp; try with_reducible rfl
      try simp only [Act.put, List.setIfInBounds_toArray, List.set_cons_zero, List.set_cons_succ]
      refine Kt.G.takeP 5 { dst := some 52, op := Op.fieldAddr 55 (Operand.tmp 51) 0, type := 0, pos := "typist.go:102", after := #[{ on := 4, ground := Ground.data }], guard := none } ?_ (fun _ => hHeld) rfl (by kernel_rfl) (fun _ _ _ h => h) (by rfl) ?_ ?_
      rotate_left
      · intro w; go_simp; try with_reducible rfl
      try simp only [Act.put, List.setIfInBounds_toArray, List.set_cons_zero, List.set_cons_succ]
      refine Kt.G.takeP 6 { dst := some 53, op := Op.fieldAddr 37 (Operand.tmp 52) 1, type := 0, pos := "typist.go:102", after := #[{ on := 5, ground := Ground.data }], guard := none } ?_ (fun _ => hHeld) rfl (by kernel_rfl) (fun _ _ _ h => h) (by rfl) ?_ ?_
      rotate_left
      · intro w; go_simp; try with_reducible rfl
      try simp only [Act.put, List.setIfInBounds_toArray, List.set_cons_zero, List.set_cons_succ]
      refine Kt.G.take 7 { dst := some 54, op := Op.load 4 (Operand.tmp 53), type := 4, pos := "typist.go:102", after := #[{ on := 6, ground := Ground.data }], guard := none } ?_ hHeld rfl (by kernel_rfl) (fun _ _ _ h => h) (by rfl) ?_ ?_
      rotate_left
      · intro w hSw; have r0 := hSw.row (g, #[.int .u64 (t.held.a.toNat : Int), .int .u64 (t.held.b.toNat : Int), .int .u64 (t.held.c.toNat : Int), .int .u64 (t.held.d.toNat : Int), .bool true, .int .i64 t.dead, .int .i64 t.last, .int .i64 t.wait, .string t.text], 55) (by simp); have c0 := fun i => cell_of_row _ _ i _ _ _ r0; dsimp only at *; go_simp; try with_reducible rfl
      try simp only [Act.put, List.setIfInBounds_toArray, List.set_cons_zero, List.set_cons_succ]
      refine Kt.G.one 2 { dst := some 49, op := Op.call { callee := Callee.value (Operand.func 37), args := #[Operand.tmp 48], argTypes := #[53] }, type := 4, pos := "typist.go:102", after := #[{ on := 1, ground := Ground.data }], guard := none } rfl (by kernel_rfl) (by rfl) (fun K hK => ?_)
      go_simp
      refine (HSH.out _ (hHeld.row _ (List.Mem.head _))).mono ?_; rintro en x2 ⟨rfl, hb2⟩
      refine hK.out _ _ (fun _ => hHeld.on hb2) (fun hHeld => ?_)
      have hHeld := hHeld rfl
      clear hK K
      try simp only [Act.put, List.setIfInBounds_toArray, List.set_cons_zero, List.set_cons_succ]
      clear hb2
      refine Kt.G.takeP 8 { dst := some 55, op := Op.move (Operand.tmp 54), type := 4, pos := "typist.go:102", after := #[{ on := 7, ground := Ground.data }, { on := 2, ground := Ground.chain }], guard := none } ?_ (fun _ => hHeld) rfl (by kernel_rfl) (fun _ _ _ h => h) (by rfl) ?_ ?_
      rotate_left
      · intro w; go_simp; try with_reducible rfl
      try simp only [Act.put, List.setIfInBounds_toArray, List.set_cons_zero, List.set_cons_succ]
      refine Kt.G.takeP 9 { dst := some 56, op := Op.move (Operand.tmp 1), type := 3, pos := "typist.go:102", after := #[{ on := 8, ground := Ground.guard }], guard := some (8, true) } ?_ (fun _ => hHeld) rfl (by kernel_rfl) (fun _ _ _ h => h) (by rfl) ?_ ?_
      rotate_left
      · intro w; go_simp; try with_reducible rfl
      try simp only [Act.put, List.setIfInBounds_toArray, List.set_cons_zero, List.set_cons_succ]
      refine Kt.G.one 10 { dst := some 57, op := Op.call { callee := Callee.value (Operand.func 39), args := #[Operand.tmp 56], argTypes := #[3] }, type := 4, pos := "typist.go:102", after := #[{ on := 9, ground := Ground.data }, { on := 8, ground := Ground.chain }, { on := 8, ground := Ground.guard }], guard := some (8, true) } rfl (by kernel_rfl) (by rfl) (fun K hK => ?_)
      go_simp
      refine (HLE.out _).mono ?_; rintro en x10 ⟨rfl, rfl⟩
      refine hK.out _ _ (fun _ => hHeld) (fun hHeld => ?_)
      have hHeld := hHeld rfl
      clear hK K
      try simp only [Act.put, List.setIfInBounds_toArray, List.set_cons_zero, List.set_cons_succ]
      refine Kt.G.takeP 11 { dst := some 58, op := Op.pick (Operand.tmp 55) (Operand.tmp 57) (Operand.const (Value.bool false)), type := 4, pos := "typist.go:102", after := #[{ on := 8, ground := Ground.data }, { on := 10, ground := Ground.data }], guard := none } ?_ (fun _ => hHeld) rfl (by kernel_rfl) (fun _ _ _ h => h) (by rfl) ?_ ?_
      rotate_left
      · intro w; go_simp; try with_reducible rfl
      try simp only [Act.put, List.setIfInBounds_toArray, List.set_cons_zero, List.set_cons_succ]
      refine Kt.G.takeP 12 { dst := some 59, op := Op.binOp BinOp.neq 4 (Operand.tmp 49) (Operand.tmp 58) 4, type := 4, pos := "typist.go:102", after := #[{ on := 2, ground := Ground.data }, { on := 11, ground := Ground.data }], guard := none } ?_ (fun _ => hHeld) rfl (by kernel_rfl) (fun _ _ _ h => h) (by rfl) ?_ ?_
      rotate_left
      · intro w; go_simp; try with_reducible rfl
      try simp only [Act.put, List.setIfInBounds_toArray, List.set_cons_zero, List.set_cons_succ]
      refine Kt.G.one 13 { dst := some 60, op := Op.call { callee := Callee.value (Operand.func 31), args := #[Operand.tmp 47, Operand.tmp 59], argTypes := #[3, 4] }, type := 9, pos := "typist.go:102", after := #[{ on := 0, ground := Ground.data }, { on := 12, ground := Ground.data }, { on := 10, ground := Ground.chain }], guard := none } rfl (by kernel_rfl) (by rfl) (fun K hK => ?_)
      go_simp
      refine (HCH.out _).mono ?_; rintro en x13 ⟨rfl, hb13⟩
      refine hK.out _ _ (fun _ => hHeld.on hb13) (fun hHeld => ?_)
      have hHeld := hHeld rfl
      clear hK K
      try simp only [Act.put, List.setIfInBounds_toArray, List.set_cons_zero, List.set_cons_succ]
      clear hb13
      refine Kt.G.one 14 { dst := some 6, op := Op.assign (Operand.tmp 60), type := 9, pos := "typist.go:102", after := #[{ on := 13, ground := Ground.data }, { on := 13, ground := Ground.chain }, { on := 0, ground := Ground.phase }, { on := 1, ground := Ground.phase }, { on := 2, ground := Ground.phase }, { on := 3, ground := Ground.phase }, { on := 4, ground := Ground.phase }, { on := 5, ground := Ground.phase }, { on := 6, ground := Ground.phase }, { on := 7, ground := Ground.phase }, { on := 8, ground := Ground.phase }, { on := 9, ground := Ground.phase }, { on := 10, ground := Ground.phase }, { on := 11, ground := Ground.phase }, { on := 12, ground := Ground.phase }, { on := 13, ground := Ground.phase }], guard := none } rfl (by kernel_rfl) (by rfl) (fun K hK => ?_)
      go_simp
      refine hK.out _ _ (Kt.G.late (by kernel_rfl)) (fun _ => ?_)
      clear hK K
      try simp only [Act.put, List.setIfInBounds_toArray, List.set_cons_zero, List.set_cons_succ]
      refine Kt.G.done (by kernel_rfl) (NoPanic.normal ?_) _
      go_wp2_with fail
      go_meet
      case rel =>
        exact ⟨rfl, by unfold Mx St.cs; rw [hcp]; exact hHeld.row _ (List.Mem.head _), hHeld.bel⟩
      -- END true
  case rest =>
    obtain ⟨rfl, hm, hb⟩ := hcut
    have HM := Lib.hid hm
    have HU := Lib.hid (Upd.of_below hb (Mx.lt HR.out))
    clear hb HR HSH HLE HCH HS
    have hr := hm
    unfold Mx St.cs at hr
    have q := fun i => cell_of_row _ _ i _ _ _ hr
    have HAD := Lib.hid (fun W => accd_calls t.dead b hd W)
    have HAC := Lib.hid (fun W => accent_calls t.dead hd W)
    clear hr hm
    have HX1 := Lib.hid (accd_size t.dead b)
    have HX2 := Lib.hid (acc_size t.dead)
    obtain ⟨x, hx⟩ : ∃ x, accdP t.dead b = x := ⟨_, rfl⟩
    obtain ⟨y, hy⟩ : ∃ x, accP t.dead = x := ⟨_, rfl⟩
    rw [hx] at HAD HX1 HP
    rw [hy] at HAC HX2 HP
    clear hx hy
    go_wp2_with fail
    refine (HAD.out _).mono ?_; rintro en w1 ⟨rfl, hb⟩
    have HM1 := Lib.hid (HM.out.on hb)
    have HU1 := Lib.hid (HU.out.trans (Upd.of_below hb HM.out.lt))
    clear hb HM HU q HAD
    have hr := HM1.out
    unfold Mx St.cs at hr
    have q := fun i => cell_of_row _ _ i _ _ _ hr
    clear hr
    by_cases he : x = ByteArray.empty
    · subst he
      rw [if_pos rfl] at HP
      have hsz : ¬ 9223372036854775807 < y.size + (one b).size := by have := HX2.out; have : (one b).size = 1 := rfl; omega
      go_wp2_with fail
      refine (HAC.out _).mono ?_; rintro en w2 ⟨rfl, hb⟩
      have HM2 := Lib.hid (HM1.out.on hb)
      have HU2 := Lib.hid (HU1.out.trans (Upd.of_below hb HM1.out.lt))
      clear hb HM1 HU1 q HAC
      have hr := HM2.out
      unfold Mx St.cs at hr
      have q := fun i => cell_of_row _ _ i _ _ _ hr
      clear hr
      go_wp2_with fail
      refine (put_calls t (y ++ one b) g _ HM2.out h1 (by have := HX2.out; have : (one b).size = 1 := rfl; rw [ByteArray.size_append]; omega)).mono ?_; rintro en w3 ⟨rfl, hm, hu⟩
      have HM3 := Lib.hid hm
      have HU3 := Lib.hid (HU2.out.trans hu)
      clear q
      have hr := hm
      unfold Mx St.cs at hr
      have q := fun i => cell_of_row _ _ i _ _ _ hr
      have qf := fun i => frozen_of_row _ _ i _ _ hm
      clear hr hm hu HM2 HU2 hsz
      go_wp2_with fail
      go_end0
      refine ⟨rfl, ?_, HU3.out.set _ _⟩
      rw [HP.out]
      exact HM3.out.dead 0
    · have hne := not_empty x (by
        rcases Nat.eq_zero_or_pos x.size with q0 | q0
        · exact absurd (ByteArray.size_eq_zero_iff.1 q0) he
        · exact q0)
      rw [if_neg he] at HP
      clear he
      go_wp2_with fail
      refine (put_calls t x g _ HM1.out h1 (by have := HX1.out; omega)).mono ?_; rintro en w3 ⟨rfl, hm, hu⟩
      have HM3 := Lib.hid hm
      have HU3 := Lib.hid (HU1.out.trans hu)
      clear q
      have hr := hm
      unfold Mx St.cs at hr
      have q := fun i => cell_of_row _ _ i _ _ _ hr
      have qf := fun i => frozen_of_row _ _ i _ _ hm
      clear hr hm hu HM1 HU1
      go_wp2_with fail
      go_end0
      refine ⟨rfl, ?_, HU3.out.set _ _⟩
      rw [HP.out]
      exact HM3.out.dead 0
theorem typed_calls (t : St) (c : Int) (hc : prints c = true) (g : Nat) (w : World) (h : Mx g t w) (h1 : t.text.size ≤ 4096) (hd : t.dead = 0 ∨ t.dead = 1 ∨ t.dead = 2) (hT : Tb g w) :
    Calls Tryd.prog 30 #[.pointer (some ⟨g, 0, none⟩), .int .i64 c] w fun e w' => e = .returned (.tuple #[]) ∧ Mx g (typedP t c) w' ∧ Upd g w w' := by
  by_cases h42 : c = 42
  · subst h42; exact typed_back t g w h h1 hT
  · refine typed_key t c ?_ g w h h1 hd
    unfold prints at hc
    rw [Bool.or_eq_true, beq_iff_eq] at hc
    exact hc.resolve_left h42
end Go.Proofs.YtndkaehbmdiofaaDoor
