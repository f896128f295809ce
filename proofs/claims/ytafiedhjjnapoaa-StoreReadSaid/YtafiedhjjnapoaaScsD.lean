/- Disks: do walked. -/
import Derived.Test.YtafiedhjjnapoaaScsB
import Derived.Test.YtafiedhjjnapoaaAny
namespace Go.Proofs.Ytafiedhjjnapoaa
open Go.RowKit Go.Proofs.Ytafiedhjjnapoaa.Scs
theorem form_ok {c : ByteArray} (h : formC c = 0) : c.size = clen (bt c 0) ∧ (bt c 0 = 0 ∨ bt c 0 = 37 ∨ bt c 0 = 3 ∨ bt c 0 = 18 ∨ bt c 0 = 26 ∨ bt c 0 = 40 ∨ bt c 0 = 42 ∨ bt c 0 = 53) := by
  unfold formC at h
  split at h
  · cases h
  split at h
  · cases h
  next u hu =>
  split at h
  · cases h
  next hs =>
  refine ⟨by omega, ?_⟩
  unfold used at hu
  repeat' split at hu
  all_goals first | omega | cases hu
set_option maxRecDepth 100000 in
theorem cv_sense (s : Int) (hs : s = 0 ∨ s = 32 ∨ s = 33 ∨ s = 36) (k : Int) (hk : k = if s = 0 then 0 else 5) (W : World) (g : Nat)
    (hrow : W.heap[g]? = some (.cells #[.int .u8 112, .int .u8 0, .int .u8 k, .int .u8 0, .int .u8 0, .int .u8 0, .int .u8 0, .int .u8 10, .int .u8 0, .int .u8 0, .int .u8 0, .int .u8 0, .int .u8 s, .int .u8 0, .int .u8 0, .int .u8 0, .int .u8 0, .int .u8 0] 5 (0, 0))) :
    (convert 56 9 (.slice (some ⟨g, 0, none⟩) 18 18)).run Try.prog W = .ok (.string (senseT s)) W := by
  have h := Kt.conv_ns W 56 9 5 g 0 18 18 [112, 0, k, 0, 0, 0, 0, 10, 0, 0, 0, 0, s, 0, 0, 0, 0, 0] rfl Try.underlying56 Try.underlying5 Try.underlying9 (fun j hj => by
    have := cell_of_row _ _ j _ _ _ hrow
    rw [Nat.zero_add, this, show (#[Value.int .u8 112, .int .u8 0, .int .u8 k, .int .u8 0, .int .u8 0, .int .u8 0, .int .u8 0, .int .u8 10, .int .u8 0, .int .u8 0, .int .u8 0, .int .u8 0, .int .u8 s, .int .u8 0, .int .u8 0, .int .u8 0, .int .u8 0, .int .u8 0] : Array Value) = ([112, 0, k, 0, 0, 0, 0, 10, 0, 0, 0, 0, s, 0, 0, 0, 0, 0].map (Value.int .u8)).toArray from rfl]
    simp only [List.getElem?_toArray, List.getElem?_map, List.getElem?_eq_getElem hj, Option.map_some])
  rw [h]
  congr 2
  subst hk
  rcases hs with rfl | rfl | rfl | rfl <;> rfl
theorem inq_text : (⟨#[0, 128, 4, 2, 31, 0, 0, 0, 112, 108, 117, 103, 116, 114, 101, 101, 100, 105, 115, 107]⟩ : ByteArray) ++ ⟨(Lib.repeatL [32] 12).toArray⟩ ++ ⟨#[49, 32, 32, 32]⟩ = inqT := by decide +kernel
set_option maxRecDepth 100000 in
set_option maxHeartbeats 3200000 in
theorem do_calls (g B : Nat) (bs : List ByteArray) (s : Int) (c d : ByteArray) (A : Option Addr) (cap : Nat) (w : World) (h : DkW g B bs s A cap w) (hB : B ≤ w.heap.size) (hbn1 : 1 ≤ bs.length) (hbn : bs.length ≤ 64) (hbz : ∀ b ∈ bs, b.size = 16) (hsv : s = 0 ∨ s = 32 ∨ s = 33 ∨ s = 36) :
    Calls Try.prog 81 #[.pointer (some ⟨g, 0, none⟩), .string c, .string d] w (AnsIs g B bs s c d A cap w) := by
  have HF := Lib.hid (form_calls c w)
  have HH := Lib.hid h
  have HBS := Lib.hid (And.intro hbn1 (And.intro hbn hbz))
  clear h hbz
  go_enter Try.func81, Try.ntmps81
  go_wp2_with fail
  refine HF.out.mono ?_
  rintro e w1 ⟨rfl, hb⟩
  have HD := Lib.hid (HH.out.on hb)
  have HB := Lib.hid (hb.mono hB)
  have hB1 : B ≤ w1.heap.size := Nat.le_trans hB hb.size
  clear hb HF HH
  by_cases hf : formC c = 0
  · have ev : errV (formC c) = .nilIface := by rw [hf]; rfl
    rw [ev]
    obtain ⟨hcl, hop⟩ := form_ok hf
    have hc6 : 6 ≤ c.size := by rw [hcl]; unfold clen; split <;> omega
    have i0 : 0 < c.size := Nat.lt_of_lt_of_le (by decide) hc6
    have i4 : 4 < c.size := Nat.lt_of_lt_of_le (by decide) hc6
    have b0 := bt_get c 0 i0
    have b4 := bt_get c 4 i4
    have q := fun i => cell_of_row _ _ i _ _ _ HD.out.row
    have HA0 : Hid (ans bs s c d = if bt c 0 = 0 then .ok (bs, ByteArray.empty) else if bt c 0 = 3 then .ok (bs, first (senseT s) (bt c 4)) else if bt c 0 = 18 then .ok (bs, first inqT (bt c 4)) else if bt c 0 = 26 then .ok (bs, first modeT (bt c 4)) else if bt c 0 = 37 then .ok (bs, four (bs.length - 1) ++ four 16) else ans bs s c d) := Lib.hid (by
      by_cases h0 : bt c 0 = 0
      · unfold ans; rw [if_neg (by rw [hf]; decide), if_pos h0, if_pos h0]
      · by_cases h3 : bt c 0 = 3
        · unfold ans; rw [if_neg (by rw [hf]; decide), if_neg h0, if_pos h3, if_neg h0, if_pos h3]
        · by_cases h18 : bt c 0 = 18
          · unfold ans; rw [if_neg (by rw [hf]; decide), if_neg h0, if_neg h3, if_pos h18, if_neg h0, if_neg h3, if_pos h18]
          · by_cases h26 : bt c 0 = 26
            · unfold ans; rw [if_neg (by rw [hf]; decide), if_neg h0, if_neg h3, if_neg h18, if_pos h26, if_neg h0, if_neg h3, if_neg h18, if_pos h26]
            · by_cases h37 : bt c 0 = 37
              · unfold ans; rw [if_neg (by rw [hf]; decide), if_neg h0, if_neg h3, if_neg h18, if_neg h26, if_pos h37, if_neg h0, if_neg h3, if_neg h18, if_neg h26, if_pos h37]
              · rw [if_neg h0, if_neg h3, if_neg h18, if_neg h26, if_neg h37])
    have hc6' : (6 : Int) ≤ c.size := by omega
    by_cases h0 : bt c 0 = 0
    · have HA : Hid (ans bs s c d = .ok (bs, ByteArray.empty)) := Lib.hid (by rw [HA0.out, if_pos h0])
      have f0 : (((c[0]'i0).toNat : Int) == 0) = true := by rw [beq_iff_eq, ← b0]; omega
      clear HA0 b0 b4 hcl hop h0 ev hf
      go_wp2_with fail
      refine bodyPost_ret (v := .tuple #[.string ⟨#[]⟩, errV 0]) (by simp [results, Try.results81, go_sem, errV]) rfl ?_
      exact .inr ⟨bs, _, HA.out, rfl, rfl, HD.out, HB.out⟩
    have f0 : (((c[0]'i0).toNat : Int) == 0) = false := by rw [beq_eq_false_iff_ne, ← b0]; omega
    by_cases h3 : bt c 0 = 3
    · have HA : Hid (ans bs s c d = .ok (bs, first (senseT s) (bt c 4))) := Lib.hid (by rw [HA0.out, if_neg h0, if_pos h3])
      have f3 : (((c[0]'i0).toNat : Int) == 3) = true := by rw [beq_iff_eq, ← b0]; omega
      have HB4 := Lib.hid b4
      clear HA0 b0 b4 hcl hop h0 h3 ev hf
      by_cases hs0 : s = 0
      · subst hs0
        have HK : Hid ((0 : Int) = if (0 : Int) = 0 then 0 else 5) := Lib.hid (by rw [if_pos rfl])
        go_wp2_with fail
        have i4' : (4 : Int) < c.size := by omega
        have CV := cv_sense 0 (.inl rfl) 0 HK.out
        have HBX := Lib.hid (Kt.balloc (Below.refl _ w1) (.cells #[.int .u8 112, .int .u8 0, .int .u8 0, .int .u8 0, .int .u8 0, .int .u8 0, .int .u8 0, .int .u8 10, .int .u8 0, .int .u8 0, .int .u8 0, .int .u8 0, .int .u8 0, .int .u8 0, .int .u8 0, .int .u8 0, .int .u8 0, .int .u8 0] 5))
        refine Kt.G.start 4 (fun X => X = (w1.alloc (.cells #[.int .u8 112, .int .u8 0, .int .u8 0, .int .u8 0, .int .u8 0, .int .u8 0, .int .u8 0, .int .u8 10, .int .u8 0, .int .u8 0, .int .u8 0, .int .u8 0, .int .u8 0, .int .u8 0, .int .u8 0, .int .u8 0, .int .u8 0, .int .u8 0] 5)).drew) (by kernel_rfl) rfl (fun hHeld => ?_)
        have CW := CV (w1.alloc (.cells #[.int .u8 112, .int .u8 0, .int .u8 0, .int .u8 0, .int .u8 0, .int .u8 0, .int .u8 0, .int .u8 10, .int .u8 0, .int .u8 0, .int .u8 0, .int .u8 0, .int .u8 0, .int .u8 0, .int .u8 0, .int .u8 0, .int .u8 0, .int .u8 0] 5)).drew w1.heap.size (heap_alloc_new w1 _)
        -- REGION 12
        refine Kt.G.takeP 0 { dst := some 36, op := Op.move (Operand.tmp 10), type := 56, pos := "scsi.go:150", after := #[], guard := none } ?_ (fun _ => hHeld) rfl (by kernel_rfl) (fun _ _ _ h => h) (by rfl) ?_ ?_
        rotate_left
        · intro w; go_simp; try with_reducible rfl
        try simp only [Act.put, List.setIfInBounds_toArray, List.set_cons_zero, List.set_cons_succ]
        refine Kt.G.take 1 { dst := some 37, op := Op.convert 56 9 (Operand.tmp 36), type := 9, pos := "scsi.go:150", after := #[{ on := 0, ground := Ground.data }], guard := none } (.string (senseT 0)) hHeld rfl (by kernel_rfl) (fun _ _ _ h => h) (by rfl) ?_ ?_
        · intro w hSw; subst hSw; go_simp; try with_reducible rfl
        try simp only [Act.put, List.setIfInBounds_toArray, List.set_cons_zero, List.set_cons_succ]
        refine Kt.G.takeP 2 { dst := some 38, op := Op.move (Operand.tmp 1), type := 9, pos := "scsi.go:150", after := #[], guard := none } ?_ (fun _ => hHeld) rfl (by kernel_rfl) (fun _ _ _ h => h) (by rfl) ?_ ?_
        rotate_left
        · intro w; go_simp; try with_reducible rfl
        try simp only [Act.put, List.setIfInBounds_toArray, List.set_cons_zero, List.set_cons_succ]
        refine Kt.G.takeP 3 { dst := some 39, op := Op.index 9 (Operand.tmp 38) (Operand.const (Value.int IntKind.i64 4)), type := 5, pos := "scsi.go:150", after := #[{ on := 2, ground := Ground.data }], guard := none } ?_ (fun _ => hHeld) rfl (by kernel_rfl) (fun _ _ _ h => h) (by rfl) ?_ ?_
        rotate_left
        · intro w; go_simp; try with_reducible rfl
        try simp only [Act.put, List.setIfInBounds_toArray, List.set_cons_zero, List.set_cons_succ]
        refine Kt.G.one 4 { dst := some 40, op := Op.call { callee := Callee.value (Operand.func 83), args := #[Operand.tmp 37, Operand.tmp 39], argTypes := #[9, 5] }, type := 9, pos := "scsi.go:150", after := #[{ on := 1, ground := Ground.data }, { on := 3, ground := Ground.data }], guard := none } rfl (by kernel_rfl) (by rfl) (fun K hK => ?_)
        go_simp
        refine (first_calls _ _ (UInt8.toNat_lt _) _).mono ?_
        rintro e w9 ⟨rfl, rfl⟩
        refine hK.out _ _ (Kt.G.late (by kernel_rfl)) (fun _ => ?_)
        clear hK K
        try simp only [Act.put, List.setIfInBounds_toArray, List.set_cons_zero, List.set_cons_succ]
        refine Kt.G.takeP 5 { dst := some 6, op := Op.assign (Operand.tmp 40), type := 9, pos := "scsi.go:150", after := #[{ on := 4, ground := Ground.data }, { on := 4, ground := Ground.chain }, { on := 0, ground := Ground.phase }, { on := 1, ground := Ground.phase }, { on := 2, ground := Ground.phase }, { on := 3, ground := Ground.phase }, { on := 4, ground := Ground.phase }], guard := none } ?_ (Kt.G.late (by kernel_rfl)) rfl (by kernel_rfl) (fun _ _ _ h => h) (by rfl) ?_ ?_
        rotate_left
        · intro w; go_simp; try with_reducible rfl
        try simp only [Act.put, List.setIfInBounds_toArray, List.set_cons_zero, List.set_cons_succ]
        refine Kt.G.takeP 6 { dst := some 7, op := Op.assign (Operand.const Value.nilIface), type := 61, pos := "scsi.go:150", after := #[{ on := 5, ground := Ground.chain }, { on := 0, ground := Ground.phase }, { on := 1, ground := Ground.phase }, { on := 2, ground := Ground.phase }, { on := 3, ground := Ground.phase }, { on := 4, ground := Ground.phase }, { on := 5, ground := Ground.phase }], guard := none } ?_ (Kt.G.late (by kernel_rfl)) rfl (by kernel_rfl) (fun _ _ _ h => h) (by rfl) ?_ ?_
        rotate_left
        · intro w; go_simp; try with_reducible rfl
        try simp only [Act.put, List.setIfInBounds_toArray, List.set_cons_zero, List.set_cons_succ]
        refine Kt.G.done (by kernel_rfl) (NoPanic.normal ?_) _
        -- END 12
        go_wp2_with fail
        refine bodyPost_ret (v := .tuple #[.string (first (senseT 0) (c[4]'i4).toNat), errV 0]) (by simp [results, Try.results81, go_sem, errV]) rfl ?_
        exact .inr ⟨bs, _, by rw [← HB4.out]; exact HA.out, rfl, rfl, HD.out.on HBX.out.drew, HB.out.trans (HBX.out.drew.mono hB1)⟩
      · have fs : (s == 0) = false := by rw [beq_eq_false_iff_ne]; exact hs0
        have HK : Hid ((5 : Int) = if s = 0 then 0 else 5) := Lib.hid (by rw [if_neg hs0])
        go_wp2_with fail
        have i4' : (4 : Int) < c.size := by omega
        have CV := cv_sense s hsv 5 HK.out
        have HBX := Lib.hid (Kt.balloc (Below.refl _ w1) (.cells #[.int .u8 112, .int .u8 0, .int .u8 5, .int .u8 0, .int .u8 0, .int .u8 0, .int .u8 0, .int .u8 10, .int .u8 0, .int .u8 0, .int .u8 0, .int .u8 0, .int .u8 s, .int .u8 0, .int .u8 0, .int .u8 0, .int .u8 0, .int .u8 0] 5))
        refine Kt.G.start 4 (fun X => X = (w1.alloc (.cells #[.int .u8 112, .int .u8 0, .int .u8 5, .int .u8 0, .int .u8 0, .int .u8 0, .int .u8 0, .int .u8 10, .int .u8 0, .int .u8 0, .int .u8 0, .int .u8 0, .int .u8 s, .int .u8 0, .int .u8 0, .int .u8 0, .int .u8 0, .int .u8 0] 5)).drew) (by kernel_rfl) rfl (fun hHeld => ?_)
        have CW := CV (w1.alloc (.cells #[.int .u8 112, .int .u8 0, .int .u8 5, .int .u8 0, .int .u8 0, .int .u8 0, .int .u8 0, .int .u8 10, .int .u8 0, .int .u8 0, .int .u8 0, .int .u8 0, .int .u8 s, .int .u8 0, .int .u8 0, .int .u8 0, .int .u8 0, .int .u8 0] 5)).drew w1.heap.size (heap_alloc_new w1 _)
        -- REGION 12
        refine Kt.G.takeP 0 { dst := some 36, op := Op.move (Operand.tmp 10), type := 56, pos := "scsi.go:150", after := #[], guard := none } ?_ (fun _ => hHeld) rfl (by kernel_rfl) (fun _ _ _ h => h) (by rfl) ?_ ?_
        rotate_left
        · intro w; go_simp; try with_reducible rfl
        try simp only [Act.put, List.setIfInBounds_toArray, List.set_cons_zero, List.set_cons_succ]
        refine Kt.G.take 1 { dst := some 37, op := Op.convert 56 9 (Operand.tmp 36), type := 9, pos := "scsi.go:150", after := #[{ on := 0, ground := Ground.data }], guard := none } (.string (senseT s)) hHeld rfl (by kernel_rfl) (fun _ _ _ h => h) (by rfl) ?_ ?_
        · intro w hSw; subst hSw; go_simp; try with_reducible rfl
        try simp only [Act.put, List.setIfInBounds_toArray, List.set_cons_zero, List.set_cons_succ]
        refine Kt.G.takeP 2 { dst := some 38, op := Op.move (Operand.tmp 1), type := 9, pos := "scsi.go:150", after := #[], guard := none } ?_ (fun _ => hHeld) rfl (by kernel_rfl) (fun _ _ _ h => h) (by rfl) ?_ ?_
        rotate_left
        · intro w; go_simp; try with_reducible rfl
        try simp only [Act.put, List.setIfInBounds_toArray, List.set_cons_zero, List.set_cons_succ]
        refine Kt.G.takeP 3 { dst := some 39, op := Op.index 9 (Operand.tmp 38) (Operand.const (Value.int IntKind.i64 4)), type := 5, pos := "scsi.go:150", after := #[{ on := 2, ground := Ground.data }], guard := none } ?_ (fun _ => hHeld) rfl (by kernel_rfl) (fun _ _ _ h => h) (by rfl) ?_ ?_
        rotate_left
        · intro w; go_simp; try with_reducible rfl
        try simp only [Act.put, List.setIfInBounds_toArray, List.set_cons_zero, List.set_cons_succ]
        refine Kt.G.one 4 { dst := some 40, op := Op.call { callee := Callee.value (Operand.func 83), args := #[Operand.tmp 37, Operand.tmp 39], argTypes := #[9, 5] }, type := 9, pos := "scsi.go:150", after := #[{ on := 1, ground := Ground.data }, { on := 3, ground := Ground.data }], guard := none } rfl (by kernel_rfl) (by rfl) (fun K hK => ?_)
        go_simp
        refine (first_calls _ _ (UInt8.toNat_lt _) _).mono ?_
        rintro e w9 ⟨rfl, rfl⟩
        refine hK.out _ _ (Kt.G.late (by kernel_rfl)) (fun _ => ?_)
        clear hK K
        try simp only [Act.put, List.setIfInBounds_toArray, List.set_cons_zero, List.set_cons_succ]
        refine Kt.G.takeP 5 { dst := some 6, op := Op.assign (Operand.tmp 40), type := 9, pos := "scsi.go:150", after := #[{ on := 4, ground := Ground.data }, { on := 4, ground := Ground.chain }, { on := 0, ground := Ground.phase }, { on := 1, ground := Ground.phase }, { on := 2, ground := Ground.phase }, { on := 3, ground := Ground.phase }, { on := 4, ground := Ground.phase }], guard := none } ?_ (Kt.G.late (by kernel_rfl)) rfl (by kernel_rfl) (fun _ _ _ h => h) (by rfl) ?_ ?_
        rotate_left
        · intro w; go_simp; try with_reducible rfl
        try simp only [Act.put, List.setIfInBounds_toArray, List.set_cons_zero, List.set_cons_succ]
        refine Kt.G.takeP 6 { dst := some 7, op := Op.assign (Operand.const Value.nilIface), type := 61, pos := "scsi.go:150", after := #[{ on := 5, ground := Ground.chain }, { on := 0, ground := Ground.phase }, { on := 1, ground := Ground.phase }, { on := 2, ground := Ground.phase }, { on := 3, ground := Ground.phase }, { on := 4, ground := Ground.phase }, { on := 5, ground := Ground.phase }], guard := none } ?_ (Kt.G.late (by kernel_rfl)) rfl (by kernel_rfl) (fun _ _ _ h => h) (by rfl) ?_ ?_
        rotate_left
        · intro w; go_simp; try with_reducible rfl
        try simp only [Act.put, List.setIfInBounds_toArray, List.set_cons_zero, List.set_cons_succ]
        refine Kt.G.done (by kernel_rfl) (NoPanic.normal ?_) _
        -- END 12
        go_wp2_with fail
        refine bodyPost_ret (v := .tuple #[.string (first (senseT s) (c[4]'i4).toNat), errV 0]) (by simp [results, Try.results81, go_sem, errV]) rfl ?_
        exact .inr ⟨bs, _, by rw [← HB4.out]; exact HA.out, rfl, rfl, HD.out.on HBX.out.drew, HB.out.trans (HBX.out.drew.mono hB1)⟩
    have f3 : (((c[0]'i0).toNat : Int) == 3) = false := by rw [beq_eq_false_iff_ne, ← b0]; omega
    by_cases h18 : bt c 0 = 18
    · have HA : Hid (ans bs s c d = .ok (bs, first inqT (bt c 4))) := Lib.hid (by rw [HA0.out, if_neg h0, if_neg h3, if_pos h18])
      have f18 : (((c[0]'i0).toNat : Int) == 18) = true := by rw [beq_iff_eq, ← b0]; omega
      have HB4 := Lib.hid b4
      clear HA0 b0 b4 hcl hop h0 h3 h18 ev hf
      go_wp2_with fail
      have hr := Try.strings_Repeat_main ⟨#[32]⟩ 12 w1 (by decide) (by decide) (by decide) (by decide)
      refine hr.mono ?_
      rintro e w2 ⟨rfl, hb⟩
      have HB2 := Lib.hid hb
      have hi := inq_text
      clear hr hb
      go_wp2_with fail
      refine (first_calls _ _ (UInt8.toNat_lt _) _).mono ?_
      rintro e w3 ⟨rfl, rfl⟩
      go_wp2_with fail
      refine bodyPost_ret (v := .tuple #[.string (first inqT (c[4]'i4).toNat), errV 0]) (by simp [results, Try.results81, go_sem, errV]) rfl ?_
      exact .inr ⟨bs, _, by rw [← HB4.out]; exact HA.out, rfl, rfl, HD.out.on HB2.out, HB.out.trans (HB2.out.mono hB1)⟩
    have f18 : (((c[0]'i0).toNat : Int) == 18) = false := by rw [beq_eq_false_iff_ne, ← b0]; omega
    by_cases h26 : bt c 0 = 26
    · have HA : Hid (ans bs s c d = .ok (bs, first modeT (bt c 4))) := Lib.hid (by rw [HA0.out, if_neg h0, if_neg h3, if_neg h18, if_pos h26])
      have f26 : (((c[0]'i0).toNat : Int) == 26) = true := by rw [beq_iff_eq, ← b0]; omega
      have HB4 := Lib.hid b4
      clear HA0 b0 b4 hcl hop h0 h3 h18 h26 ev hf
      go_wp2_with fail
      refine (first_calls _ _ (UInt8.toNat_lt _) _).mono ?_
      rintro e w2 ⟨rfl, rfl⟩
      go_wp2_with fail
      refine bodyPost_ret (v := .tuple #[.string (first modeT (c[4]'i4).toNat), errV 0]) (by simp [results, Try.results81, go_sem, errV, modeT]) rfl ?_
      exact .inr ⟨bs, _, by rw [← HB4.out]; exact HA.out, rfl, rfl, HD.out, HB.out⟩
    have f26 : (((c[0]'i0).toNat : Int) == 26) = false := by rw [beq_eq_false_iff_ne, ← b0]; omega
    by_cases h37 : bt c 0 = 37
    · have HA : Hid (ans bs s c d = .ok (bs, four (bs.length - 1) ++ four 16)) := Lib.hid (by rw [HA0.out, if_neg h0, if_neg h3, if_neg h18, if_neg h26, if_pos h37])
      have f37 : (((c[0]'i0).toNat : Int) == 37) = true := by rw [beq_iff_eq, ← b0]; omega
      have hl1 : ((bs.length : Int) - 1) = ((bs.length - 1 : Nat) : Int) := by omega
      clear HA0 b0 b4 hcl hop h0 h3 h18 h26 h37 ev hf
      go_wp2_with fail
      refine (long_calls (bs.length - 1) (by omega) w1).mono ?_
      rintro e w2 ⟨rfl, hb⟩
      have HB2 := Lib.hid hb
      clear hb
      go_wp2_with fail
      refine (long_calls 16 (by omega) w2).mono ?_
      rintro e w3 ⟨rfl, hb⟩
      have HB3 := Lib.hid (Kt.bthen HB2.out hb)
      clear hb HB2
      go_wp2_with fail
      refine bodyPost_ret (v := .tuple #[.string (four (bs.length - 1) ++ four 16), errV 0]) (by simp [results, Try.results81, go_sem, errV]) rfl ?_
      exact .inr ⟨bs, _, HA.out, rfl, rfl, HD.out.on HB3.out, HB.out.trans (HB3.out.mono hB1)⟩
    have f37 : (((c[0]'i0).toNat : Int) == 37) = false := by rw [beq_eq_false_iff_ne, ← b0]; omega
    have hop3 : bt c 0 = 40 ∨ bt c 0 = 42 ∨ bt c 0 = 53 := by omega
    have hc10 : c.size = 10 := by rw [hcl]; unfold clen; rw [if_neg (by omega)]
    have HBK := Lib.hid (blocks_calls g B bs s c d A cap w1 HD.out hc10 hf hop3 hbn1 HBS.out.2.1 HBS.out.2.2)
    clear HA0 b0 b4 hcl hop h0 h3 h18 h26 h37 ev hf hop3 hc10
    go_wp2_with fail
    refine HBK.out.mono ?_
    rintro e w2 (⟨f, ha, rfl, hd, hb⟩ | ⟨b, o, ha, hl, rfl, hd, hb⟩)
    · have HX := Lib.hid (And.intro ha (And.intro hd (HB.out.trans hb)))
      clear ha hd hb HBK
      go_wp2_with fail
      refine bodyPost_ret (v := .tuple #[.string ⟨#[]⟩, errV f]) (by simp [results, Try.results81, go_sem]) rfl ?_
      exact .inl ⟨f, HX.out.1, rfl, HX.out.2.1, HX.out.2.2⟩
    · have HX := Lib.hid (And.intro ha (And.intro hd (And.intro hl (HB.out.trans hb))))
      clear ha hd hb hl HBK
      go_wp2_with fail
      refine bodyPost_ret (v := .tuple #[.string o, errV 0]) (by simp [results, Try.results81, go_sem]) rfl ?_
      exact .inr ⟨b, o, HX.out.1, HX.out.2.2.1, rfl, HX.out.2.1, HX.out.2.2.2⟩
  · have HX : Hid (ans bs s c d = .error (formC c)) := Lib.hid (by unfold ans; rw [if_pos hf])
    have hev : errV (formC c) = .iface 141 (.int .i64 (formC c)) := by unfold errV; rw [if_neg hf]
    rw [hev]
    clear hf
    go_wp2_with fail
    refine bodyPost_ret (v := .tuple #[.string ⟨#[]⟩, errV (formC c)]) (by simp [results, Try.results81, go_sem, hev]) rfl ?_
    exact .inl ⟨_, HX.out, rfl, HD.out, HB.out⟩
end Go.Proofs.Ytafiedhjjnapoaa
