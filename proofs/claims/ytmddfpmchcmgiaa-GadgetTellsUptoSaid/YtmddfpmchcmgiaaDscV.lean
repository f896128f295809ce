/- Devices: WriteDevice walked. -/
import Derived.Test.YtmddfpmchcmgiaaDscU
import Derived.Test.YtmddfpmchcmgiaaGen
namespace Go.Proofs.Ytmddfpmchcmgiaa
open Go.RowKit Go.Proofs.Ytmddfpmchcmgiaa.Dsc
theorem egPut : ∀ args w, (callFunc 35 args).run Try.prog w = .ok (.enter 35 args) w := enters_of Try.func35 (by kernel_rfl) rfl
theorem egWord : ∀ args w, (callFunc 36 args).run Try.prog w = .ok (.enter 36 args) w := enters_of Try.func36 (by kernel_rfl) rfl
set_option maxRecDepth 100000 in
set_option maxHeartbeats 40000000 in
theorem wdev_calls (d : Dv) (w : World) : Calls Try.prog 21 #[dV d] w fun e w' => e = .returned (.tuple #[.string (bs' (wDev d).1), .int .i64 (wDev d).2]) ∧ Below w.heap.size w w' := by
  have HR := Lib.hid (heap_alloc_new w (.cells (dcells d).toArray 46))
  have HB := Lib.hid (Kt.balloc (Below.refl _ w) (.cells (dcells d).toArray 46))
  have HWD : Hid (wDev d = if inB 255 [d.cls, d.sub, d.pro, d.mak, d.nam, d.ser] && inB 65535 [d.usb, d.ven, d.prd, d.rel] && decide (okS d.m0) && (decide (1 ≤ d.cfs) && decide (d.cfs ≤ 255)) then (devT d, 0) else ([], 1)) := Lib.hid (by
    unfold wDev
    congr 1
    unfold okD inB isB isW
    simp [and_assoc])
  have H1 := Lib.hid (fun W V (hV : Kt.Ar W V 1 6 (ics [d.cls, d.sub, d.pro, d.mak, d.nam, d.ser])) => bytesB_calls V [d.cls, d.sub, d.pro, d.mak, d.nam, d.ser] W hV (by simp))
  have H2 := Lib.hid (fun W V (hV : Kt.Ar W V 1 4 (ics [d.usb, d.ven, d.prd, d.rel])) => within_calls 65535 V [d.usb, d.ven, d.prd, d.rel] W hV (by simp))
  have HSZ := Lib.hid (size_is d.m0)
  obtain ⟨usb, cls, sub, pro, m0, ven, prd, rel, mak, nam, ser, cfs⟩ := d
  unfold dcells at HR HB
  unfold dV
  dsimp only at *
  generalize inB 255 [cls, sub, pro, mak, nam, ser] = B1 at *
  have hin : inB 65535 [usb, ven, prd, rel] = true → isW usb ∧ isW ven ∧ isW prd ∧ isW rel := fun h => by
    unfold inB at h
    unfold isW
    simp only [List.all_cons, List.all_nil, Bool.and_eq_true, decide_eq_true_eq, Bool.and_true] at h
    exact h
  generalize inB 65535 [usb, ven, prd, rel] = B2 at *
  have HIN := Lib.hid hin
  clear hin
  have q := fun i => cell_of_row _ _ i _ _ _ HR.out
  obtain ⟨w1, hw1⟩ : ∃ W, w.alloc (.cells [Value.int .i64 usb, .int .i64 cls, .int .i64 sub, .int .i64 pro, .int .i64 m0, .int .i64 ven, .int .i64 prd, .int .i64 rel, .int .i64 mak, .int .i64 nam, .int .i64 ser, .int .i64 cfs].toArray 46) = W := ⟨_, rfl⟩
  go_enter Try.func21, Try.ntmps21
  go_upto_region 1 with (fail)
  have HR1 : Hid (w1.heap[w.heap.size]? = some (.cells #[.int .i64 usb, .int .i64 cls, .int .i64 sub, .int .i64 pro, .int .i64 m0, .int .i64 ven, .int .i64 prd, .int .i64 rel, .int .i64 mak, .int .i64 nam, .int .i64 ser, .int .i64 cfs] 46 (0, 0))) := Lib.hid (by rw [← hw1]; exact HR.out)
  have HB1 : Hid (Below w.heap.size w w1) := Lib.hid (by rw [← hw1]; exact HB.out)
  clear q HR HB hw1
  go_cut [4] from 5 to 23 (fun b wx => b = .bool (decide (okS m0)) ∧ wx = w1)
  case first =>
    have q := fun i => cell_of_row _ _ i _ _ _ HR1.out
    by_cases e8 : (m0 == 8) = true
    · go_wp2_with fail
      go_meet
      case rel => exact ⟨by rw [HSZ.out, e8]; rfl, rfl⟩
    · have f8 : (m0 == 8) = false := by simpa using e8
      clear e8
      by_cases e16 : (m0 == 16) = true
      · go_wp2_with fail
        go_meet
        case rel => exact ⟨by rw [HSZ.out, e16, f8]; rfl, rfl⟩
      · have f16 : (m0 == 16) = false := by simpa using e16
        clear e16
        by_cases e32 : (m0 == 32) = true
        · go_wp2_with fail
          go_meet
          case rel => exact ⟨by rw [HSZ.out, e32, f16, f8]; rfl, rfl⟩
        · have f32 : (m0 == 32) = false := by simpa using e32
          clear e32
          go_wp2_with fail
          go_meet
          case rel => exact ⟨by rw [HSZ.out, f32, f16, f8]; rfl, rfl⟩
  case rest =>
    obtain ⟨rfl, rfl⟩ := hcut
    generalize decide (okS m0) = B3 at *
    have q := fun i => cell_of_row _ _ i _ _ _ HR1.out
    go_wp2_with fail
    refine (H1.out _ _ (Kt.Ar.new wc #[.int .i64 cls, .int .i64 sub, .int .i64 pro, .int .i64 mak, .int .i64 nam, .int .i64 ser] 3 6 1 rfl)).mono ?_
    rintro e w2 ⟨rfl, rfl⟩
    have HB2 := Lib.hid (Kt.balloc HB1.out (.cells #[.int .i64 cls, .int .i64 sub, .int .i64 pro, .int .i64 mak, .int .i64 nam, .int .i64 ser] 3))
    have HR2 := Lib.hid (Kt.row_on (Kt.balloc (Below.refl _ wc) (.cells #[.int .i64 cls, .int .i64 sub, .int .i64 pro, .int .i64 mak, .int .i64 nam, .int .i64 ser] 3)) HR1.out)
    generalize wc.alloc (.cells #[.int .i64 cls, .int .i64 sub, .int .i64 pro, .int .i64 mak, .int .i64 nam, .int .i64 ser] 3) = w2 at *
    clear q HR1 HB1 H1
    have q := fun i => cell_of_row _ _ i _ _ _ HR2.out
    cases B1 with
    | false =>
      clear H2
      go_wp2_with fail
      go_ret2
      rw [HWD.out]
      exact ⟨rfl, HB2.out⟩
    | true =>
      go_wp2_with fail
      refine (H2.out _ _ (Kt.Ar.new w2 #[.int .i64 usb, .int .i64 ven, .int .i64 prd, .int .i64 rel] 3 4 1 rfl)).mono ?_
      rintro e w3 ⟨rfl, rfl⟩
      have HB3 := Lib.hid (Kt.balloc HB2.out (.cells #[.int .i64 usb, .int .i64 ven, .int .i64 prd, .int .i64 rel] 3))
      have HR3 := Lib.hid (Kt.row_on (Kt.balloc (Below.refl _ w2) (.cells #[.int .i64 usb, .int .i64 ven, .int .i64 prd, .int .i64 rel] 3)) HR2.out)
      generalize w2.alloc (.cells #[.int .i64 usb, .int .i64 ven, .int .i64 prd, .int .i64 rel] 3) = w3 at *
      clear q HR2 HB2 H2
      have q := fun i => cell_of_row _ _ i _ _ _ HR3.out
      cases B2 with
      | false =>
        go_wp2_with fail
        go_ret2
        rw [HWD.out]
        exact ⟨rfl, HB3.out⟩
      | true =>
        cases B3 with
        | false =>
          go_wp2_with fail
          go_ret2
          rw [HWD.out]
          exact ⟨rfl, HB3.out⟩
        | true =>
          by_cases c1 : cfs < 1
          · go_wp2_with fail
            go_ret2
            rw [HWD.out, decide_eq_false (show ¬ 1 ≤ cfs by omega)]
            exact ⟨rfl, HB3.out⟩
          · by_cases c2 : 255 < cfs
            · go_wp2_with fail
              go_ret2
              rw [HWD.out, decide_eq_false (show ¬ cfs ≤ 255 by omega), Bool.and_false, Bool.and_false]
              exact ⟨rfl, HB3.out⟩
            · have HOK : Hid (wDev ⟨usb, cls, sub, pro, m0, ven, prd, rel, mak, nam, ser, cfs⟩ = (devT ⟨usb, cls, sub, pro, m0, ven, prd, rel, mak, nam, ser, cfs⟩, 0)) := Lib.hid (by
                rw [HWD.out, decide_eq_true (show 1 ≤ cfs by omega), decide_eq_true (show cfs ≤ 255 by omega)]; rfl)
              obtain ⟨i1, i2, i3, i4⟩ := HIN.out rfl
              have HP2 := Lib.hid (fun W K (hK : W.heap[K]? = some (.cells #[.int .i64 18, .int .i64 1] 3 (0, 0))) => put_row [18, 1] W K 2 rfl hK (by decide))
              have HP4 := Lib.hid (fun W K (hK : W.heap[K]? = some (.cells #[.int .i64 cls, .int .i64 sub, .int .i64 pro, .int .i64 m0] 3 (0, 0))) => put_row [cls, sub, pro, m0] W K 4 rfl hK (by simp))
              have HP5 := Lib.hid (fun W K (hK : W.heap[K]? = some (.cells #[.int .i64 mak, .int .i64 nam, .int .i64 ser, .int .i64 cfs] 3 (0, 0))) => put_row [mak, nam, ser, cfs] W K 4 rfl hK (by simp))
              have HW1 := Lib.hid (fun W => dword_calls usb i1 W)
              have HW2 := Lib.hid (fun W => dword_calls ven i2 W)
              have HW3 := Lib.hid (fun W => dword_calls prd i3 W)
              have HW4 := Lib.hid (fun W => dword_calls rel i4 W)
              obtain ⟨A1, hA1⟩ : ∃ b, bs' (putB [18, 1]) = b := ⟨_, rfl⟩
              obtain ⟨A2, hA2⟩ : ∃ b, bs' (putB [usb, usb / 256]) = b := ⟨_, rfl⟩
              obtain ⟨A3, hA3⟩ : ∃ b, bs' (putB [cls, sub, pro, m0]) = b := ⟨_, rfl⟩
              obtain ⟨A4, hA4⟩ : ∃ b, bs' (putB [ven, ven / 256]) = b := ⟨_, rfl⟩
              obtain ⟨A5, hA5⟩ : ∃ b, bs' (putB [prd, prd / 256]) = b := ⟨_, rfl⟩
              obtain ⟨A6, hA6⟩ : ∃ b, bs' (putB [rel, rel / 256]) = b := ⟨_, rfl⟩
              obtain ⟨A7, hA7⟩ : ∃ b, bs' (putB [mak, nam, ser, cfs]) = b := ⟨_, rfl⟩
              have HTX : Hid (A1 ++ A2 ++ A3 ++ A4 ++ A5 ++ A6 ++ A7 = bs' (devT ⟨usb, cls, sub, pro, m0, ven, prd, rel, mak, nam, ser, cfs⟩)) := Lib.hid (by
                rw [← hA1, ← hA2, ← hA3, ← hA4, ← hA5, ← hA6, ← hA7]
                unfold devT wordT
                apply Kt.bytes_eq
                simp [bs', ByteArray.data_append])
              rw [hA1] at HP2
              rw [hA3] at HP4
              rw [hA7] at HP5
              rw [hA2] at HW1
              rw [hA4] at HW2
              rw [hA5] at HW3
              rw [hA6] at HW4
              have t1 : A1.size = 2 := by rw [← hA1]; rfl
              have t2 : A2.size = 2 := by rw [← hA2]; rfl
              have t3 : A3.size = 4 := by rw [← hA3]; rfl
              have t4 : A4.size = 2 := by rw [← hA4]; rfl
              have t5 : A5.size = 2 := by rw [← hA5]; rfl
              have t6 : A6.size = 2 := by rw [← hA6]; rfl
              have t7 : A7.size = 4 := by rw [← hA7]; rfl
              clear hA1 hA2 hA3 hA4 hA5 hA6 hA7 i1 i2 i3 i4 HIN HWD HSZ
              go_upto_region 4 with (fail)
              refine Kt.G.start 40 (Kt.Fb w3 [(w.heap.size, #[.int .i64 usb, .int .i64 cls, .int .i64 sub, .int .i64 pro, .int .i64 m0, .int .i64 ven, .int .i64 prd, .int .i64 rel, .int .i64 mak, .int .i64 nam, .int .i64 ser, .int .i64 cfs], 46)]) (by kernel_rfl) ((Kt.Fb.nil w3 (Below.refl _ w3)).add HR3.out).drew (fun hHeld => ?_)
              generalize w3.drew = xx at *
              refine Kt.G.takeP 2 { dst := some 67, op := Op.fieldAddr 46 (Operand.tmp 1) 0, type := 0, pos := "desc.go:61", after := #[], guard := none } ?_ (fun _ => hHeld) rfl (by kernel_rfl) (fun _ _ _ h => h) (by rfl) ?_ ?_
              rotate_left
              · intro wq; go_simp; try with_reducible rfl
              try simp only [Act.put, List.setIfInBounds_toArray, List.set_cons_zero, List.set_cons_succ]
              refine Kt.G.take 3 { dst := some 68, op := Op.load 3 (Operand.tmp 67), type := 3, pos := "desc.go:61", after := #[{ on := 2, ground := Ground.data }], guard := none } ?_ hHeld rfl (by kernel_rfl) (fun _ _ _ h => h) (by rfl) ?_ ?_
              rotate_left
              · intro wq hSw; have r0 := hSw.row (w.heap.size, #[.int .i64 usb, .int .i64 cls, .int .i64 sub, .int .i64 pro, .int .i64 m0, .int .i64 ven, .int .i64 prd, .int .i64 rel, .int .i64 mak, .int .i64 nam, .int .i64 ser, .int .i64 cfs], 46) (by simp); have c0 := fun i => cell_of_row _ _ i _ _ _ r0; dsimp only at *; go_simp; try with_reducible rfl
              try simp only [Act.put, List.setIfInBounds_toArray, List.set_cons_zero, List.set_cons_succ]
              refine Kt.G.takeP 6 { dst := some 71, op := Op.fieldAddr 46 (Operand.tmp 1) 1, type := 0, pos := "desc.go:61", after := #[], guard := none } ?_ (fun _ => hHeld) rfl (by kernel_rfl) (fun _ _ _ h => h) (by rfl) ?_ ?_
              rotate_left
              · intro wq; go_simp; try with_reducible rfl
              try simp only [Act.put, List.setIfInBounds_toArray, List.set_cons_zero, List.set_cons_succ]
              refine Kt.G.take 7 { dst := some 72, op := Op.load 3 (Operand.tmp 71), type := 3, pos := "desc.go:61", after := #[{ on := 6, ground := Ground.data }], guard := none } ?_ hHeld rfl (by kernel_rfl) (fun _ _ _ h => h) (by rfl) ?_ ?_
              rotate_left
              · intro wq hSw; have r0 := hSw.row (w.heap.size, #[.int .i64 usb, .int .i64 cls, .int .i64 sub, .int .i64 pro, .int .i64 m0, .int .i64 ven, .int .i64 prd, .int .i64 rel, .int .i64 mak, .int .i64 nam, .int .i64 ser, .int .i64 cfs], 46) (by simp); have c0 := fun i => cell_of_row _ _ i _ _ _ r0; dsimp only at *; go_simp; try with_reducible rfl
              try simp only [Act.put, List.setIfInBounds_toArray, List.set_cons_zero, List.set_cons_succ]
              refine Kt.G.takeP 8 { dst := some 73, op := Op.fieldAddr 46 (Operand.tmp 1) 2, type := 0, pos := "desc.go:61", after := #[], guard := none } ?_ (fun _ => hHeld) rfl (by kernel_rfl) (fun _ _ _ h => h) (by rfl) ?_ ?_
              rotate_left
              · intro wq; go_simp; try with_reducible rfl
              try simp only [Act.put, List.setIfInBounds_toArray, List.set_cons_zero, List.set_cons_succ]
              refine Kt.G.take 9 { dst := some 74, op := Op.load 3 (Operand.tmp 73), type := 3, pos := "desc.go:61", after := #[{ on := 8, ground := Ground.data }], guard := none } ?_ hHeld rfl (by kernel_rfl) (fun _ _ _ h => h) (by rfl) ?_ ?_
              rotate_left
              · intro wq hSw; have r0 := hSw.row (w.heap.size, #[.int .i64 usb, .int .i64 cls, .int .i64 sub, .int .i64 pro, .int .i64 m0, .int .i64 ven, .int .i64 prd, .int .i64 rel, .int .i64 mak, .int .i64 nam, .int .i64 ser, .int .i64 cfs], 46) (by simp); have c0 := fun i => cell_of_row _ _ i _ _ _ r0; dsimp only at *; go_simp; try with_reducible rfl
              try simp only [Act.put, List.setIfInBounds_toArray, List.set_cons_zero, List.set_cons_succ]
              refine Kt.G.takeP 10 { dst := some 75, op := Op.fieldAddr 46 (Operand.tmp 1) 3, type := 0, pos := "desc.go:61", after := #[], guard := none } ?_ (fun _ => hHeld) rfl (by kernel_rfl) (fun _ _ _ h => h) (by rfl) ?_ ?_
              rotate_left
              · intro wq; go_simp; try with_reducible rfl
              try simp only [Act.put, List.setIfInBounds_toArray, List.set_cons_zero, List.set_cons_succ]
              refine Kt.G.take 11 { dst := some 76, op := Op.load 3 (Operand.tmp 75), type := 3, pos := "desc.go:61", after := #[{ on := 10, ground := Ground.data }], guard := none } ?_ hHeld rfl (by kernel_rfl) (fun _ _ _ h => h) (by rfl) ?_ ?_
              rotate_left
              · intro wq hSw; have r0 := hSw.row (w.heap.size, #[.int .i64 usb, .int .i64 cls, .int .i64 sub, .int .i64 pro, .int .i64 m0, .int .i64 ven, .int .i64 prd, .int .i64 rel, .int .i64 mak, .int .i64 nam, .int .i64 ser, .int .i64 cfs], 46) (by simp); have c0 := fun i => cell_of_row _ _ i _ _ _ r0; dsimp only at *; go_simp; try with_reducible rfl
              try simp only [Act.put, List.setIfInBounds_toArray, List.set_cons_zero, List.set_cons_succ]
              refine Kt.G.takeP 12 { dst := some 77, op := Op.fieldAddr 46 (Operand.tmp 1) 4, type := 0, pos := "desc.go:61", after := #[], guard := none } ?_ (fun _ => hHeld) rfl (by kernel_rfl) (fun _ _ _ h => h) (by rfl) ?_ ?_
              rotate_left
              · intro wq; go_simp; try with_reducible rfl
              try simp only [Act.put, List.setIfInBounds_toArray, List.set_cons_zero, List.set_cons_succ]
              refine Kt.G.take 13 { dst := some 78, op := Op.load 3 (Operand.tmp 77), type := 3, pos := "desc.go:61", after := #[{ on := 12, ground := Ground.data }], guard := none } ?_ hHeld rfl (by kernel_rfl) (fun _ _ _ h => h) (by rfl) ?_ ?_
              rotate_left
              · intro wq hSw; have r0 := hSw.row (w.heap.size, #[.int .i64 usb, .int .i64 cls, .int .i64 sub, .int .i64 pro, .int .i64 m0, .int .i64 ven, .int .i64 prd, .int .i64 rel, .int .i64 mak, .int .i64 nam, .int .i64 ser, .int .i64 cfs], 46) (by simp); have c0 := fun i => cell_of_row _ _ i _ _ _ r0; dsimp only at *; go_simp; try with_reducible rfl
              try simp only [Act.put, List.setIfInBounds_toArray, List.set_cons_zero, List.set_cons_succ]
              refine Kt.G.takeP 17 { dst := some 82, op := Op.fieldAddr 46 (Operand.tmp 1) 5, type := 0, pos := "desc.go:61", after := #[], guard := none } ?_ (fun _ => hHeld) rfl (by kernel_rfl) (fun _ _ _ h => h) (by rfl) ?_ ?_
              rotate_left
              · intro wq; go_simp; try with_reducible rfl
              try simp only [Act.put, List.setIfInBounds_toArray, List.set_cons_zero, List.set_cons_succ]
              refine Kt.G.take 18 { dst := some 83, op := Op.load 3 (Operand.tmp 82), type := 3, pos := "desc.go:61", after := #[{ on := 17, ground := Ground.data }], guard := none } ?_ hHeld rfl (by kernel_rfl) (fun _ _ _ h => h) (by rfl) ?_ ?_
              rotate_left
              · intro wq hSw; have r0 := hSw.row (w.heap.size, #[.int .i64 usb, .int .i64 cls, .int .i64 sub, .int .i64 pro, .int .i64 m0, .int .i64 ven, .int .i64 prd, .int .i64 rel, .int .i64 mak, .int .i64 nam, .int .i64 ser, .int .i64 cfs], 46) (by simp); have c0 := fun i => cell_of_row _ _ i _ _ _ r0; dsimp only at *; go_simp; try with_reducible rfl
              try simp only [Act.put, List.setIfInBounds_toArray, List.set_cons_zero, List.set_cons_succ]
              refine Kt.G.takeP 21 { dst := some 86, op := Op.fieldAddr 46 (Operand.tmp 1) 6, type := 0, pos := "desc.go:61", after := #[], guard := none } ?_ (fun _ => hHeld) rfl (by kernel_rfl) (fun _ _ _ h => h) (by rfl) ?_ ?_
              rotate_left
              · intro wq; go_simp; try with_reducible rfl
              try simp only [Act.put, List.setIfInBounds_toArray, List.set_cons_zero, List.set_cons_succ]
              refine Kt.G.take 22 { dst := some 87, op := Op.load 3 (Operand.tmp 86), type := 3, pos := "desc.go:61", after := #[{ on := 21, ground := Ground.data }], guard := none } ?_ hHeld rfl (by kernel_rfl) (fun _ _ _ h => h) (by rfl) ?_ ?_
              rotate_left
              · intro wq hSw; have r0 := hSw.row (w.heap.size, #[.int .i64 usb, .int .i64 cls, .int .i64 sub, .int .i64 pro, .int .i64 m0, .int .i64 ven, .int .i64 prd, .int .i64 rel, .int .i64 mak, .int .i64 nam, .int .i64 ser, .int .i64 cfs], 46) (by simp); have c0 := fun i => cell_of_row _ _ i _ _ _ r0; dsimp only at *; go_simp; try with_reducible rfl
              try simp only [Act.put, List.setIfInBounds_toArray, List.set_cons_zero, List.set_cons_succ]
              refine Kt.G.takeP 25 { dst := some 90, op := Op.fieldAddr 46 (Operand.tmp 1) 7, type := 0, pos := "desc.go:61", after := #[], guard := none } ?_ (fun _ => hHeld) rfl (by kernel_rfl) (fun _ _ _ h => h) (by rfl) ?_ ?_
              rotate_left
              · intro wq; go_simp; try with_reducible rfl
              try simp only [Act.put, List.setIfInBounds_toArray, List.set_cons_zero, List.set_cons_succ]
              refine Kt.G.take 26 { dst := some 91, op := Op.load 3 (Operand.tmp 90), type := 3, pos := "desc.go:61", after := #[{ on := 25, ground := Ground.data }], guard := none } ?_ hHeld rfl (by kernel_rfl) (fun _ _ _ h => h) (by rfl) ?_ ?_
              rotate_left
              · intro wq hSw; have r0 := hSw.row (w.heap.size, #[.int .i64 usb, .int .i64 cls, .int .i64 sub, .int .i64 pro, .int .i64 m0, .int .i64 ven, .int .i64 prd, .int .i64 rel, .int .i64 mak, .int .i64 nam, .int .i64 ser, .int .i64 cfs], 46) (by simp); have c0 := fun i => cell_of_row _ _ i _ _ _ r0; dsimp only at *; go_simp; try with_reducible rfl
              try simp only [Act.put, List.setIfInBounds_toArray, List.set_cons_zero, List.set_cons_succ]
              refine Kt.G.takeP 29 { dst := some 94, op := Op.fieldAddr 46 (Operand.tmp 1) 8, type := 0, pos := "desc.go:61", after := #[], guard := none } ?_ (fun _ => hHeld) rfl (by kernel_rfl) (fun _ _ _ h => h) (by rfl) ?_ ?_
              rotate_left
              · intro wq; go_simp; try with_reducible rfl
              try simp only [Act.put, List.setIfInBounds_toArray, List.set_cons_zero, List.set_cons_succ]
              refine Kt.G.take 30 { dst := some 95, op := Op.load 3 (Operand.tmp 94), type := 3, pos := "desc.go:61", after := #[{ on := 29, ground := Ground.data }], guard := none } ?_ hHeld rfl (by kernel_rfl) (fun _ _ _ h => h) (by rfl) ?_ ?_
              rotate_left
              · intro wq hSw; have r0 := hSw.row (w.heap.size, #[.int .i64 usb, .int .i64 cls, .int .i64 sub, .int .i64 pro, .int .i64 m0, .int .i64 ven, .int .i64 prd, .int .i64 rel, .int .i64 mak, .int .i64 nam, .int .i64 ser, .int .i64 cfs], 46) (by simp); have c0 := fun i => cell_of_row _ _ i _ _ _ r0; dsimp only at *; go_simp; try with_reducible rfl
              try simp only [Act.put, List.setIfInBounds_toArray, List.set_cons_zero, List.set_cons_succ]
              refine Kt.G.takeP 31 { dst := some 96, op := Op.fieldAddr 46 (Operand.tmp 1) 9, type := 0, pos := "desc.go:61", after := #[], guard := none } ?_ (fun _ => hHeld) rfl (by kernel_rfl) (fun _ _ _ h => h) (by rfl) ?_ ?_
              rotate_left
              · intro wq; go_simp; try with_reducible rfl
              try simp only [Act.put, List.setIfInBounds_toArray, List.set_cons_zero, List.set_cons_succ]
              refine Kt.G.take 32 { dst := some 97, op := Op.load 3 (Operand.tmp 96), type := 3, pos := "desc.go:61", after := #[{ on := 31, ground := Ground.data }], guard := none } ?_ hHeld rfl (by kernel_rfl) (fun _ _ _ h => h) (by rfl) ?_ ?_
              rotate_left
              · intro wq hSw; have r0 := hSw.row (w.heap.size, #[.int .i64 usb, .int .i64 cls, .int .i64 sub, .int .i64 pro, .int .i64 m0, .int .i64 ven, .int .i64 prd, .int .i64 rel, .int .i64 mak, .int .i64 nam, .int .i64 ser, .int .i64 cfs], 46) (by simp); have c0 := fun i => cell_of_row _ _ i _ _ _ r0; dsimp only at *; go_simp; try with_reducible rfl
              try simp only [Act.put, List.setIfInBounds_toArray, List.set_cons_zero, List.set_cons_succ]
              refine Kt.G.takeP 33 { dst := some 98, op := Op.fieldAddr 46 (Operand.tmp 1) 10, type := 0, pos := "desc.go:61", after := #[], guard := none } ?_ (fun _ => hHeld) rfl (by kernel_rfl) (fun _ _ _ h => h) (by rfl) ?_ ?_
              rotate_left
              · intro wq; go_simp; try with_reducible rfl
              try simp only [Act.put, List.setIfInBounds_toArray, List.set_cons_zero, List.set_cons_succ]
              refine Kt.G.take 34 { dst := some 99, op := Op.load 3 (Operand.tmp 98), type := 3, pos := "desc.go:61", after := #[{ on := 33, ground := Ground.data }], guard := none } ?_ hHeld rfl (by kernel_rfl) (fun _ _ _ h => h) (by rfl) ?_ ?_
              rotate_left
              · intro wq hSw; have r0 := hSw.row (w.heap.size, #[.int .i64 usb, .int .i64 cls, .int .i64 sub, .int .i64 pro, .int .i64 m0, .int .i64 ven, .int .i64 prd, .int .i64 rel, .int .i64 mak, .int .i64 nam, .int .i64 ser, .int .i64 cfs], 46) (by simp); have c0 := fun i => cell_of_row _ _ i _ _ _ r0; dsimp only at *; go_simp; try with_reducible rfl
              try simp only [Act.put, List.setIfInBounds_toArray, List.set_cons_zero, List.set_cons_succ]
              refine Kt.G.takeP 35 { dst := some 100, op := Op.fieldAddr 46 (Operand.tmp 1) 11, type := 0, pos := "desc.go:61", after := #[], guard := none } ?_ (fun _ => hHeld) rfl (by kernel_rfl) (fun _ _ _ h => h) (by rfl) ?_ ?_
              rotate_left
              · intro wq; go_simp; try with_reducible rfl
              try simp only [Act.put, List.setIfInBounds_toArray, List.set_cons_zero, List.set_cons_succ]
              refine Kt.G.take 36 { dst := some 101, op := Op.load 3 (Operand.tmp 100), type := 3, pos := "desc.go:61", after := #[{ on := 35, ground := Ground.data }], guard := none } ?_ hHeld rfl (by kernel_rfl) (fun _ _ _ h => h) (by rfl) ?_ ?_
              rotate_left
              · intro wq hSw; have r0 := hSw.row (w.heap.size, #[.int .i64 usb, .int .i64 cls, .int .i64 sub, .int .i64 pro, .int .i64 m0, .int .i64 ven, .int .i64 prd, .int .i64 rel, .int .i64 mak, .int .i64 nam, .int .i64 ser, .int .i64 cfs], 46) (by simp); have c0 := fun i => cell_of_row _ _ i _ _ _ r0; dsimp only at *; go_simp; try with_reducible rfl
              try simp only [Act.put, List.setIfInBounds_toArray, List.set_cons_zero, List.set_cons_succ]
              refine Kt.G.three 0 14 37 { dst := some 65, op := Op.buildSlice 103 2 #[(0, Operand.const (Value.int IntKind.i64 18)), (1, Operand.const (Value.int IntKind.i64 1))], type := 103, pos := "desc.go:61", after := #[], guard := none } { dst := some 79, op := Op.buildSlice 103 4 #[(0, Operand.tmp 72), (1, Operand.tmp 74), (2, Operand.tmp 76), (3, Operand.tmp 78)], type := 103, pos := "desc.go:61", after := #[{ on := 7, ground := Ground.data }, { on := 9, ground := Ground.data }, { on := 11, ground := Ground.data }, { on := 13, ground := Ground.data }], guard := none } { dst := some 102, op := Op.buildSlice 103 4 #[(0, Operand.tmp 95), (1, Operand.tmp 97), (2, Operand.tmp 99), (3, Operand.tmp 101)], type := 103, pos := "desc.go:61", after := #[{ on := 30, ground := Ground.data }, { on := 32, ground := Ground.data }, { on := 34, ground := Ground.data }, { on := 36, ground := Ground.data }], guard := none } rfl rfl rfl (by kernel_rfl) (by rfl) (by rfl) (by rfl) (fun K hK => ?g1) (fun K hK => ?g2) (fun K hK => ?g3)
              case' g1 =>
                refine Kt.wp_run (.slice (some ⟨xx.heap.size, 0, none⟩) 2 2) (xx.alloc (.cells #[.int .i64 18, .int .i64 1] 3)) (by kernel_rfl) ?_
                refine hK.out _ _ (fun _ => hHeld.alloc _) (fun hHeld => ?_)
                have hHeld := hHeld rfl
                clear hK K
                try simp only [Act.put, List.setIfInBounds_toArray, List.set_cons_zero, List.set_cons_succ]
                have r0 := heap_alloc_new xx (.cells #[.int .i64 18, .int .i64 1] 3)
                generalize hk0 : xx.heap.size = k0 at *
                clear hk0
                generalize xx.alloc (.cells #[.int .i64 18, .int .i64 1] 3) = xx at *
                refine Kt.G.three 1 14 37 { dst := some 66, op := Op.call { callee := Callee.value (Operand.func 35), args := #[Operand.tmp 65], argTypes := #[103] }, type := 9, pos := "desc.go:61", after := #[{ on := 0, ground := Ground.data }], guard := none } { dst := some 79, op := Op.buildSlice 103 4 #[(0, Operand.tmp 72), (1, Operand.tmp 74), (2, Operand.tmp 76), (3, Operand.tmp 78)], type := 103, pos := "desc.go:61", after := #[{ on := 7, ground := Ground.data }, { on := 9, ground := Ground.data }, { on := 11, ground := Ground.data }, { on := 13, ground := Ground.data }], guard := none } { dst := some 102, op := Op.buildSlice 103 4 #[(0, Operand.tmp 95), (1, Operand.tmp 97), (2, Operand.tmp 99), (3, Operand.tmp 101)], type := 103, pos := "desc.go:61", after := #[{ on := 30, ground := Ground.data }, { on := 32, ground := Ground.data }, { on := 34, ground := Ground.data }, { on := 36, ground := Ground.data }], guard := none } rfl rfl rfl (by kernel_rfl) (by rfl) (by rfl) (by rfl) (fun K hK => ?g4) (fun K hK => ?g5) (fun K hK => ?g6)
                case' g4 =>
                  refine Kt.wp_fv _ _ _ _ _ [.slice (some ⟨k0, 0, none⟩) 2 2] rfl rfl rfl egPut ?_
                  refine (HP2.out _ _ r0).mono ?_; rintro en xx ⟨rfl, hb⟩
                  refine hK.out _ _ (fun _ => hHeld.on hb) (fun hHeld => ?_)
                  have hHeld := hHeld rfl
                  clear hK K
                  try simp only [Act.put, List.setIfInBounds_toArray, List.set_cons_zero, List.set_cons_succ]
                  clear r0
                  clear hb
                  refine Kt.G.three 4 14 37 { dst := some 69, op := Op.call { callee := Callee.value (Operand.func 36), args := #[Operand.tmp 68], argTypes := #[3] }, type := 9, pos := "desc.go:61", after := #[{ on := 3, ground := Ground.data }, { on := 1, ground := Ground.chain }], guard := none } { dst := some 79, op := Op.buildSlice 103 4 #[(0, Operand.tmp 72), (1, Operand.tmp 74), (2, Operand.tmp 76), (3, Operand.tmp 78)], type := 103, pos := "desc.go:61", after := #[{ on := 7, ground := Ground.data }, { on := 9, ground := Ground.data }, { on := 11, ground := Ground.data }, { on := 13, ground := Ground.data }], guard := none } { dst := some 102, op := Op.buildSlice 103 4 #[(0, Operand.tmp 95), (1, Operand.tmp 97), (2, Operand.tmp 99), (3, Operand.tmp 101)], type := 103, pos := "desc.go:61", after := #[{ on := 30, ground := Ground.data }, { on := 32, ground := Ground.data }, { on := 34, ground := Ground.data }, { on := 36, ground := Ground.data }], guard := none } rfl rfl rfl (by kernel_rfl) (by rfl) (by rfl) (by rfl) (fun K hK => ?g7) (fun K hK => ?g8) (fun K hK => ?g9)
                  case' g7 =>
                    refine Kt.wp_fv _ _ _ _ _ [.int .i64 usb] rfl rfl rfl egWord ?_
                    refine (HW1.out _).mono ?_; rintro en xx ⟨rfl, hb⟩
                    refine hK.out _ _ (fun _ => hHeld.on hb) (fun hHeld => ?_)
                    have hHeld := hHeld rfl
                    clear hK K
                    try simp only [Act.put, List.setIfInBounds_toArray, List.set_cons_zero, List.set_cons_succ]
                    clear hb
                    refine Kt.G.takeP 5 { dst := some 70, op := Op.binOp BinOp.add 9 (Operand.tmp 66) (Operand.tmp 69) 9, type := 9, pos := "desc.go:61", after := #[{ on := 1, ground := Ground.data }, { on := 4, ground := Ground.data }], guard := none } ?_ (fun _ => hHeld) rfl (by kernel_rfl) (fun _ _ _ h => h) (by rfl) ?_ ?_
                    rotate_left
                    · intro wq; go_simp; try with_reducible rfl
                    try simp only [Act.put, List.setIfInBounds_toArray, List.set_cons_zero, List.set_cons_succ]
                    refine Kt.G.two 14 37 { dst := some 79, op := Op.buildSlice 103 4 #[(0, Operand.tmp 72), (1, Operand.tmp 74), (2, Operand.tmp 76), (3, Operand.tmp 78)], type := 103, pos := "desc.go:61", after := #[{ on := 7, ground := Ground.data }, { on := 9, ground := Ground.data }, { on := 11, ground := Ground.data }, { on := 13, ground := Ground.data }], guard := none } { dst := some 102, op := Op.buildSlice 103 4 #[(0, Operand.tmp 95), (1, Operand.tmp 97), (2, Operand.tmp 99), (3, Operand.tmp 101)], type := 103, pos := "desc.go:61", after := #[{ on := 30, ground := Ground.data }, { on := 32, ground := Ground.data }, { on := 34, ground := Ground.data }, { on := 36, ground := Ground.data }], guard := none } rfl rfl (by kernel_rfl) (by rfl) (by rfl) (fun K hK => ?g10) (fun K hK => ?g11)
                    case' g10 =>
                      refine Kt.wp_run (.slice (some ⟨xx.heap.size, 0, none⟩) 4 4) (xx.alloc (.cells #[.int .i64 cls, .int .i64 sub, .int .i64 pro, .int .i64 m0] 3)) (by kernel_rfl) ?_
                      refine hK.out _ _ (fun _ => hHeld.alloc _) (fun hHeld => ?_)
                      have hHeld := hHeld rfl
                      clear hK K
                      try simp only [Act.put, List.setIfInBounds_toArray, List.set_cons_zero, List.set_cons_succ]
                      have r14 := heap_alloc_new xx (.cells #[.int .i64 cls, .int .i64 sub, .int .i64 pro, .int .i64 m0] 3)
                      generalize hk14 : xx.heap.size = k14 at *
                      clear hk14
                      generalize xx.alloc (.cells #[.int .i64 cls, .int .i64 sub, .int .i64 pro, .int .i64 m0] 3) = xx at *
                      refine Kt.G.two 15 37 { dst := some 80, op := Op.call { callee := Callee.value (Operand.func 35), args := #[Operand.tmp 79], argTypes := #[103] }, type := 9, pos := "desc.go:61", after := #[{ on := 14, ground := Ground.data }, { on := 4, ground := Ground.chain }], guard := none } { dst := some 102, op := Op.buildSlice 103 4 #[(0, Operand.tmp 95), (1, Operand.tmp 97), (2, Operand.tmp 99), (3, Operand.tmp 101)], type := 103, pos := "desc.go:61", after := #[{ on := 30, ground := Ground.data }, { on := 32, ground := Ground.data }, { on := 34, ground := Ground.data }, { on := 36, ground := Ground.data }], guard := none } rfl rfl (by kernel_rfl) (by rfl) (by rfl) (fun K hK => ?g12) (fun K hK => ?g13)
                      case' g12 =>
                        refine Kt.wp_fv _ _ _ _ _ [.slice (some ⟨k14, 0, none⟩) 4 4] rfl rfl rfl egPut ?_
                        refine (HP4.out _ _ r14).mono ?_; rintro en xx ⟨rfl, hb⟩
                        refine hK.out _ _ (fun _ => hHeld.on hb) (fun hHeld => ?_)
                        have hHeld := hHeld rfl
                        clear hK K
                        try simp only [Act.put, List.setIfInBounds_toArray, List.set_cons_zero, List.set_cons_succ]
                        clear r14
                        clear hb
                        refine Kt.G.takeP 16 { dst := some 81, op := Op.binOp BinOp.add 9 (Operand.tmp 70) (Operand.tmp 80) 9, type := 9, pos := "desc.go:61", after := #[{ on := 5, ground := Ground.data }, { on := 15, ground := Ground.data }], guard := none } ?_ (fun _ => hHeld) rfl (by kernel_rfl) (fun _ _ _ h => h) (by rfl) ?_ ?_
                        rotate_left
                        · intro wq; go_simp; try with_reducible rfl
                        try simp only [Act.put, List.setIfInBounds_toArray, List.set_cons_zero, List.set_cons_succ]
                        refine Kt.G.two 19 37 { dst := some 84, op := Op.call { callee := Callee.value (Operand.func 36), args := #[Operand.tmp 83], argTypes := #[3] }, type := 9, pos := "desc.go:61", after := #[{ on := 18, ground := Ground.data }, { on := 15, ground := Ground.chain }], guard := none } { dst := some 102, op := Op.buildSlice 103 4 #[(0, Operand.tmp 95), (1, Operand.tmp 97), (2, Operand.tmp 99), (3, Operand.tmp 101)], type := 103, pos := "desc.go:61", after := #[{ on := 30, ground := Ground.data }, { on := 32, ground := Ground.data }, { on := 34, ground := Ground.data }, { on := 36, ground := Ground.data }], guard := none } rfl rfl (by kernel_rfl) (by rfl) (by rfl) (fun K hK => ?g14) (fun K hK => ?g15)
                        case' g14 =>
                          refine Kt.wp_fv _ _ _ _ _ [.int .i64 ven] rfl rfl rfl egWord ?_
                          refine (HW2.out _).mono ?_; rintro en xx ⟨rfl, hb⟩
                          refine hK.out _ _ (fun _ => hHeld.on hb) (fun hHeld => ?_)
                          have hHeld := hHeld rfl
                          clear hK K
                          try simp only [Act.put, List.setIfInBounds_toArray, List.set_cons_zero, List.set_cons_succ]
                          clear hb
                          refine Kt.G.takeP 20 { dst := some 85, op := Op.binOp BinOp.add 9 (Operand.tmp 81) (Operand.tmp 84) 9, type := 9, pos := "desc.go:61", after := #[{ on := 16, ground := Ground.data }, { on := 19, ground := Ground.data }], guard := none } ?_ (fun _ => hHeld) rfl (by kernel_rfl) (fun _ _ _ h => h) (by rfl) ?_ ?_
                          rotate_left
                          · intro wq; go_simp; try with_reducible rfl
                          try simp only [Act.put, List.setIfInBounds_toArray, List.set_cons_zero, List.set_cons_succ]
                          refine Kt.G.two 23 37 { dst := some 88, op := Op.call { callee := Callee.value (Operand.func 36), args := #[Operand.tmp 87], argTypes := #[3] }, type := 9, pos := "desc.go:61", after := #[{ on := 22, ground := Ground.data }, { on := 19, ground := Ground.chain }], guard := none } { dst := some 102, op := Op.buildSlice 103 4 #[(0, Operand.tmp 95), (1, Operand.tmp 97), (2, Operand.tmp 99), (3, Operand.tmp 101)], type := 103, pos := "desc.go:61", after := #[{ on := 30, ground := Ground.data }, { on := 32, ground := Ground.data }, { on := 34, ground := Ground.data }, { on := 36, ground := Ground.data }], guard := none } rfl rfl (by kernel_rfl) (by rfl) (by rfl) (fun K hK => ?g16) (fun K hK => ?g17)
                          case' g16 =>
                            refine Kt.wp_fv _ _ _ _ _ [.int .i64 prd] rfl rfl rfl egWord ?_
                            refine (HW3.out _).mono ?_; rintro en xx ⟨rfl, hb⟩
                            refine hK.out _ _ (fun _ => hHeld.on hb) (fun hHeld => ?_)
                            have hHeld := hHeld rfl
                            clear hK K
                            try simp only [Act.put, List.setIfInBounds_toArray, List.set_cons_zero, List.set_cons_succ]
                            clear hb
                            refine Kt.G.takeP 24 { dst := some 89, op := Op.binOp BinOp.add 9 (Operand.tmp 85) (Operand.tmp 88) 9, type := 9, pos := "desc.go:61", after := #[{ on := 20, ground := Ground.data }, { on := 23, ground := Ground.data }], guard := none } ?_ (fun _ => hHeld) rfl (by kernel_rfl) (fun _ _ _ h => h) (by rfl) ?_ ?_
                            rotate_left
                            · intro wq; go_simp; try with_reducible rfl
                            try simp only [Act.put, List.setIfInBounds_toArray, List.set_cons_zero, List.set_cons_succ]
                            refine Kt.G.two 27 37 { dst := some 92, op := Op.call { callee := Callee.value (Operand.func 36), args := #[Operand.tmp 91], argTypes := #[3] }, type := 9, pos := "desc.go:61", after := #[{ on := 26, ground := Ground.data }, { on := 23, ground := Ground.chain }], guard := none } { dst := some 102, op := Op.buildSlice 103 4 #[(0, Operand.tmp 95), (1, Operand.tmp 97), (2, Operand.tmp 99), (3, Operand.tmp 101)], type := 103, pos := "desc.go:61", after := #[{ on := 30, ground := Ground.data }, { on := 32, ground := Ground.data }, { on := 34, ground := Ground.data }, { on := 36, ground := Ground.data }], guard := none } rfl rfl (by kernel_rfl) (by rfl) (by rfl) (fun K hK => ?g18) (fun K hK => ?g19)
                            case' g18 =>
                              refine Kt.wp_fv _ _ _ _ _ [.int .i64 rel] rfl rfl rfl egWord ?_
                              refine (HW4.out _).mono ?_; rintro en xx ⟨rfl, hb⟩
                              refine hK.out _ _ (fun _ => hHeld.on hb) (fun hHeld => ?_)
                              have hHeld := hHeld rfl
                              clear hK K
                              try simp only [Act.put, List.setIfInBounds_toArray, List.set_cons_zero, List.set_cons_succ]
                              clear hb
                              refine Kt.G.takeP 28 { dst := some 93, op := Op.binOp BinOp.add 9 (Operand.tmp 89) (Operand.tmp 92) 9, type := 9, pos := "desc.go:61", after := #[{ on := 24, ground := Ground.data }, { on := 27, ground := Ground.data }], guard := none } ?_ (fun _ => hHeld) rfl (by kernel_rfl) (fun _ _ _ h => h) (by rfl) ?_ ?_
                              rotate_left
                              · intro wq; go_simp; try with_reducible rfl
                              try simp only [Act.put, List.setIfInBounds_toArray, List.set_cons_zero, List.set_cons_succ]
                              refine Kt.G.one 37 { dst := some 102, op := Op.buildSlice 103 4 #[(0, Operand.tmp 95), (1, Operand.tmp 97), (2, Operand.tmp 99), (3, Operand.tmp 101)], type := 103, pos := "desc.go:61", after := #[{ on := 30, ground := Ground.data }, { on := 32, ground := Ground.data }, { on := 34, ground := Ground.data }, { on := 36, ground := Ground.data }], guard := none } rfl (by kernel_rfl) (by rfl) (fun K hK => ?_)
                              refine Kt.wp_run (.slice (some ⟨xx.heap.size, 0, none⟩) 4 4) (xx.alloc (.cells #[.int .i64 mak, .int .i64 nam, .int .i64 ser, .int .i64 cfs] 3)) (by kernel_rfl) ?_
                              refine hK.out _ _ (fun _ => hHeld.alloc _) (fun hHeld => ?_)
                              have hHeld := hHeld rfl
                              clear hK K
                              try simp only [Act.put, List.setIfInBounds_toArray, List.set_cons_zero, List.set_cons_succ]
                              have r37 := heap_alloc_new xx (.cells #[.int .i64 mak, .int .i64 nam, .int .i64 ser, .int .i64 cfs] 3)
                              generalize hk37 : xx.heap.size = k37 at *
                              clear hk37
                              generalize xx.alloc (.cells #[.int .i64 mak, .int .i64 nam, .int .i64 ser, .int .i64 cfs] 3) = xx at *
                            case' g19 =>
                              refine Kt.wp_run (.slice (some ⟨xx.heap.size, 0, none⟩) 4 4) (xx.alloc (.cells #[.int .i64 mak, .int .i64 nam, .int .i64 ser, .int .i64 cfs] 3)) (by kernel_rfl) ?_
                              refine hK.out _ _ (fun _ => hHeld.alloc _) (fun hHeld => ?_)
                              have hHeld := hHeld rfl
                              clear hK K
                              try simp only [Act.put, List.setIfInBounds_toArray, List.set_cons_zero, List.set_cons_succ]
                              have r37 := heap_alloc_new xx (.cells #[.int .i64 mak, .int .i64 nam, .int .i64 ser, .int .i64 cfs] 3)
                              generalize hk37 : xx.heap.size = k37 at *
                              clear hk37
                              generalize xx.alloc (.cells #[.int .i64 mak, .int .i64 nam, .int .i64 ser, .int .i64 cfs] 3) = xx at *
                              refine Kt.G.one 27 { dst := some 92, op := Op.call { callee := Callee.value (Operand.func 36), args := #[Operand.tmp 91], argTypes := #[3] }, type := 9, pos := "desc.go:61", after := #[{ on := 26, ground := Ground.data }, { on := 23, ground := Ground.chain }], guard := none } rfl (by kernel_rfl) (by rfl) (fun K hK => ?_)
                              refine Kt.wp_fv _ _ _ _ _ [.int .i64 rel] rfl rfl rfl egWord ?_
                              refine (HW4.out _).mono ?_; rintro en xx ⟨rfl, hb⟩
                              refine hK.out _ _ (fun _ => hHeld.on hb) (fun hHeld => ?_)
                              have hHeld := hHeld rfl
                              clear hK K
                              try simp only [Act.put, List.setIfInBounds_toArray, List.set_cons_zero, List.set_cons_succ]
                              replace r37 := Kt.row_on hb r37
                              clear hb
                              refine Kt.G.takeP 28 { dst := some 93, op := Op.binOp BinOp.add 9 (Operand.tmp 89) (Operand.tmp 92) 9, type := 9, pos := "desc.go:61", after := #[{ on := 24, ground := Ground.data }, { on := 27, ground := Ground.data }], guard := none } ?_ (fun _ => hHeld) rfl (by kernel_rfl) (fun _ _ _ h => h) (by rfl) ?_ ?_
                              rotate_left
                              · intro wq; go_simp; try with_reducible rfl
                              try simp only [Act.put, List.setIfInBounds_toArray, List.set_cons_zero, List.set_cons_succ]
                          case' g17 =>
                            refine Kt.wp_run (.slice (some ⟨xx.heap.size, 0, none⟩) 4 4) (xx.alloc (.cells #[.int .i64 mak, .int .i64 nam, .int .i64 ser, .int .i64 cfs] 3)) (by kernel_rfl) ?_
                            refine hK.out _ _ (fun _ => hHeld.alloc _) (fun hHeld => ?_)
                            have hHeld := hHeld rfl
                            clear hK K
                            try simp only [Act.put, List.setIfInBounds_toArray, List.set_cons_zero, List.set_cons_succ]
                            have r37 := heap_alloc_new xx (.cells #[.int .i64 mak, .int .i64 nam, .int .i64 ser, .int .i64 cfs] 3)
                            generalize hk37 : xx.heap.size = k37 at *
                            clear hk37
                            generalize xx.alloc (.cells #[.int .i64 mak, .int .i64 nam, .int .i64 ser, .int .i64 cfs] 3) = xx at *
                            refine Kt.G.one 23 { dst := some 88, op := Op.call { callee := Callee.value (Operand.func 36), args := #[Operand.tmp 87], argTypes := #[3] }, type := 9, pos := "desc.go:61", after := #[{ on := 22, ground := Ground.data }, { on := 19, ground := Ground.chain }], guard := none } rfl (by kernel_rfl) (by rfl) (fun K hK => ?_)
                            refine Kt.wp_fv _ _ _ _ _ [.int .i64 prd] rfl rfl rfl egWord ?_
                            refine (HW3.out _).mono ?_; rintro en xx ⟨rfl, hb⟩
                            refine hK.out _ _ (fun _ => hHeld.on hb) (fun hHeld => ?_)
                            have hHeld := hHeld rfl
                            clear hK K
                            try simp only [Act.put, List.setIfInBounds_toArray, List.set_cons_zero, List.set_cons_succ]
                            replace r37 := Kt.row_on hb r37
                            clear hb
                            refine Kt.G.takeP 24 { dst := some 89, op := Op.binOp BinOp.add 9 (Operand.tmp 85) (Operand.tmp 88) 9, type := 9, pos := "desc.go:61", after := #[{ on := 20, ground := Ground.data }, { on := 23, ground := Ground.data }], guard := none } ?_ (fun _ => hHeld) rfl (by kernel_rfl) (fun _ _ _ h => h) (by rfl) ?_ ?_
                            rotate_left
                            · intro wq; go_simp; try with_reducible rfl
                            try simp only [Act.put, List.setIfInBounds_toArray, List.set_cons_zero, List.set_cons_succ]
                            refine Kt.G.one 27 { dst := some 92, op := Op.call { callee := Callee.value (Operand.func 36), args := #[Operand.tmp 91], argTypes := #[3] }, type := 9, pos := "desc.go:61", after := #[{ on := 26, ground := Ground.data }, { on := 23, ground := Ground.chain }], guard := none } rfl (by kernel_rfl) (by rfl) (fun K hK => ?_)
                            refine Kt.wp_fv _ _ _ _ _ [.int .i64 rel] rfl rfl rfl egWord ?_
                            refine (HW4.out _).mono ?_; rintro en xx ⟨rfl, hb⟩
                            refine hK.out _ _ (fun _ => hHeld.on hb) (fun hHeld => ?_)
                            have hHeld := hHeld rfl
                            clear hK K
                            try simp only [Act.put, List.setIfInBounds_toArray, List.set_cons_zero, List.set_cons_succ]
                            replace r37 := Kt.row_on hb r37
                            clear hb
                            refine Kt.G.takeP 28 { dst := some 93, op := Op.binOp BinOp.add 9 (Operand.tmp 89) (Operand.tmp 92) 9, type := 9, pos := "desc.go:61", after := #[{ on := 24, ground := Ground.data }, { on := 27, ground := Ground.data }], guard := none } ?_ (fun _ => hHeld) rfl (by kernel_rfl) (fun _ _ _ h => h) (by rfl) ?_ ?_
                            rotate_left
                            · intro wq; go_simp; try with_reducible rfl
                            try simp only [Act.put, List.setIfInBounds_toArray, List.set_cons_zero, List.set_cons_succ]
                        case' g15 =>
                          refine Kt.wp_run (.slice (some ⟨xx.heap.size, 0, none⟩) 4 4) (xx.alloc (.cells #[.int .i64 mak, .int .i64 nam, .int .i64 ser, .int .i64 cfs] 3)) (by kernel_rfl) ?_
                          refine hK.out _ _ (fun _ => hHeld.alloc _) (fun hHeld => ?_)
                          have hHeld := hHeld rfl
                          clear hK K
                          try simp only [Act.put, List.setIfInBounds_toArray, List.set_cons_zero, List.set_cons_succ]
                          have r37 := heap_alloc_new xx (.cells #[.int .i64 mak, .int .i64 nam, .int .i64 ser, .int .i64 cfs] 3)
                          generalize hk37 : xx.heap.size = k37 at *
                          clear hk37
                          generalize xx.alloc (.cells #[.int .i64 mak, .int .i64 nam, .int .i64 ser, .int .i64 cfs] 3) = xx at *
                          refine Kt.G.one 19 { dst := some 84, op := Op.call { callee := Callee.value (Operand.func 36), args := #[Operand.tmp 83], argTypes := #[3] }, type := 9, pos := "desc.go:61", after := #[{ on := 18, ground := Ground.data }, { on := 15, ground := Ground.chain }], guard := none } rfl (by kernel_rfl) (by rfl) (fun K hK => ?_)
                          refine Kt.wp_fv _ _ _ _ _ [.int .i64 ven] rfl rfl rfl egWord ?_
                          refine (HW2.out _).mono ?_; rintro en xx ⟨rfl, hb⟩
                          refine hK.out _ _ (fun _ => hHeld.on hb) (fun hHeld => ?_)
                          have hHeld := hHeld rfl
                          clear hK K
                          try simp only [Act.put, List.setIfInBounds_toArray, List.set_cons_zero, List.set_cons_succ]
                          replace r37 := Kt.row_on hb r37
                          clear hb
                          refine Kt.G.takeP 20 { dst := some 85, op := Op.binOp BinOp.add 9 (Operand.tmp 81) (Operand.tmp 84) 9, type := 9, pos := "desc.go:61", after := #[{ on := 16, ground := Ground.data }, { on := 19, ground := Ground.data }], guard := none } ?_ (fun _ => hHeld) rfl (by kernel_rfl) (fun _ _ _ h => h) (by rfl) ?_ ?_
                          rotate_left
                          · intro wq; go_simp; try with_reducible rfl
                          try simp only [Act.put, List.setIfInBounds_toArray, List.set_cons_zero, List.set_cons_succ]
                          refine Kt.G.one 23 { dst := some 88, op := Op.call { callee := Callee.value (Operand.func 36), args := #[Operand.tmp 87], argTypes := #[3] }, type := 9, pos := "desc.go:61", after := #[{ on := 22, ground := Ground.data }, { on := 19, ground := Ground.chain }], guard := none } rfl (by kernel_rfl) (by rfl) (fun K hK => ?_)
                          refine Kt.wp_fv _ _ _ _ _ [.int .i64 prd] rfl rfl rfl egWord ?_
                          refine (HW3.out _).mono ?_; rintro en xx ⟨rfl, hb⟩
                          refine hK.out _ _ (fun _ => hHeld.on hb) (fun hHeld => ?_)
                          have hHeld := hHeld rfl
                          clear hK K
                          try simp only [Act.put, List.setIfInBounds_toArray, List.set_cons_zero, List.set_cons_succ]
                          replace r37 := Kt.row_on hb r37
                          clear hb
                          refine Kt.G.takeP 24 { dst := some 89, op := Op.binOp BinOp.add 9 (Operand.tmp 85) (Operand.tmp 88) 9, type := 9, pos := "desc.go:61", after := #[{ on := 20, ground := Ground.data }, { on := 23, ground := Ground.data }], guard := none } ?_ (fun _ => hHeld) rfl (by kernel_rfl) (fun _ _ _ h => h) (by rfl) ?_ ?_
                          rotate_left
                          · intro wq; go_simp; try with_reducible rfl
                          try simp only [Act.put, List.setIfInBounds_toArray, List.set_cons_zero, List.set_cons_succ]
                          refine Kt.G.one 27 { dst := some 92, op := Op.call { callee := Callee.value (Operand.func 36), args := #[Operand.tmp 91], argTypes := #[3] }, type := 9, pos := "desc.go:61", after := #[{ on := 26, ground := Ground.data }, { on := 23, ground := Ground.chain }], guard := none } rfl (by kernel_rfl) (by rfl) (fun K hK => ?_)
                          refine Kt.wp_fv _ _ _ _ _ [.int .i64 rel] rfl rfl rfl egWord ?_
                          refine (HW4.out _).mono ?_; rintro en xx ⟨rfl, hb⟩
                          refine hK.out _ _ (fun _ => hHeld.on hb) (fun hHeld => ?_)
                          have hHeld := hHeld rfl
                          clear hK K
                          try simp only [Act.put, List.setIfInBounds_toArray, List.set_cons_zero, List.set_cons_succ]
                          replace r37 := Kt.row_on hb r37
                          clear hb
                          refine Kt.G.takeP 28 { dst := some 93, op := Op.binOp BinOp.add 9 (Operand.tmp 89) (Operand.tmp 92) 9, type := 9, pos := "desc.go:61", after := #[{ on := 24, ground := Ground.data }, { on := 27, ground := Ground.data }], guard := none } ?_ (fun _ => hHeld) rfl (by kernel_rfl) (fun _ _ _ h => h) (by rfl) ?_ ?_
                          rotate_left
                          · intro wq; go_simp; try with_reducible rfl
                          try simp only [Act.put, List.setIfInBounds_toArray, List.set_cons_zero, List.set_cons_succ]
                      case' g13 =>
                        refine Kt.wp_run (.slice (some ⟨xx.heap.size, 0, none⟩) 4 4) (xx.alloc (.cells #[.int .i64 mak, .int .i64 nam, .int .i64 ser, .int .i64 cfs] 3)) (by kernel_rfl) ?_
                        refine hK.out _ _ (fun _ => hHeld.alloc _) (fun hHeld => ?_)
                        have hHeld := hHeld rfl
                        clear hK K
                        try simp only [Act.put, List.setIfInBounds_toArray, List.set_cons_zero, List.set_cons_succ]
                        replace r14 := Kt.row_on (Kt.balloc (Below.refl _ xx) (.cells #[.int .i64 mak, .int .i64 nam, .int .i64 ser, .int .i64 cfs] 3)) r14
                        have r37 := heap_alloc_new xx (.cells #[.int .i64 mak, .int .i64 nam, .int .i64 ser, .int .i64 cfs] 3)
                        generalize hk37 : xx.heap.size = k37 at *
                        clear hk37
                        generalize xx.alloc (.cells #[.int .i64 mak, .int .i64 nam, .int .i64 ser, .int .i64 cfs] 3) = xx at *
                    case' g11 =>
                      refine Kt.wp_run (.slice (some ⟨xx.heap.size, 0, none⟩) 4 4) (xx.alloc (.cells #[.int .i64 mak, .int .i64 nam, .int .i64 ser, .int .i64 cfs] 3)) (by kernel_rfl) ?_
                      refine hK.out _ _ (fun _ => hHeld.alloc _) (fun hHeld => ?_)
                      have hHeld := hHeld rfl
                      clear hK K
                      try simp only [Act.put, List.setIfInBounds_toArray, List.set_cons_zero, List.set_cons_succ]
                      have r37 := heap_alloc_new xx (.cells #[.int .i64 mak, .int .i64 nam, .int .i64 ser, .int .i64 cfs] 3)
                      generalize hk37 : xx.heap.size = k37 at *
                      clear hk37
                      generalize xx.alloc (.cells #[.int .i64 mak, .int .i64 nam, .int .i64 ser, .int .i64 cfs] 3) = xx at *
                      refine Kt.G.one 14 { dst := some 79, op := Op.buildSlice 103 4 #[(0, Operand.tmp 72), (1, Operand.tmp 74), (2, Operand.tmp 76), (3, Operand.tmp 78)], type := 103, pos := "desc.go:61", after := #[{ on := 7, ground := Ground.data }, { on := 9, ground := Ground.data }, { on := 11, ground := Ground.data }, { on := 13, ground := Ground.data }], guard := none } rfl (by kernel_rfl) (by rfl) (fun K hK => ?_)
                      refine Kt.wp_run (.slice (some ⟨xx.heap.size, 0, none⟩) 4 4) (xx.alloc (.cells #[.int .i64 cls, .int .i64 sub, .int .i64 pro, .int .i64 m0] 3)) (by kernel_rfl) ?_
                      refine hK.out _ _ (fun _ => hHeld.alloc _) (fun hHeld => ?_)
                      have hHeld := hHeld rfl
                      clear hK K
                      try simp only [Act.put, List.setIfInBounds_toArray, List.set_cons_zero, List.set_cons_succ]
                      replace r37 := Kt.row_on (Kt.balloc (Below.refl _ xx) (.cells #[.int .i64 cls, .int .i64 sub, .int .i64 pro, .int .i64 m0] 3)) r37
                      have r14 := heap_alloc_new xx (.cells #[.int .i64 cls, .int .i64 sub, .int .i64 pro, .int .i64 m0] 3)
                      generalize hk14 : xx.heap.size = k14 at *
                      clear hk14
                      generalize xx.alloc (.cells #[.int .i64 cls, .int .i64 sub, .int .i64 pro, .int .i64 m0] 3) = xx at *
                  case' g8 =>
                    refine Kt.wp_run (.slice (some ⟨xx.heap.size, 0, none⟩) 4 4) (xx.alloc (.cells #[.int .i64 cls, .int .i64 sub, .int .i64 pro, .int .i64 m0] 3)) (by kernel_rfl) ?_
                    refine hK.out _ _ (fun _ => hHeld.alloc _) (fun hHeld => ?_)
                    have hHeld := hHeld rfl
                    clear hK K
                    try simp only [Act.put, List.setIfInBounds_toArray, List.set_cons_zero, List.set_cons_succ]
                    have r14 := heap_alloc_new xx (.cells #[.int .i64 cls, .int .i64 sub, .int .i64 pro, .int .i64 m0] 3)
                    generalize hk14 : xx.heap.size = k14 at *
                    clear hk14
                    generalize xx.alloc (.cells #[.int .i64 cls, .int .i64 sub, .int .i64 pro, .int .i64 m0] 3) = xx at *
                    refine Kt.G.two 4 37 { dst := some 69, op := Op.call { callee := Callee.value (Operand.func 36), args := #[Operand.tmp 68], argTypes := #[3] }, type := 9, pos := "desc.go:61", after := #[{ on := 3, ground := Ground.data }, { on := 1, ground := Ground.chain }], guard := none } { dst := some 102, op := Op.buildSlice 103 4 #[(0, Operand.tmp 95), (1, Operand.tmp 97), (2, Operand.tmp 99), (3, Operand.tmp 101)], type := 103, pos := "desc.go:61", after := #[{ on := 30, ground := Ground.data }, { on := 32, ground := Ground.data }, { on := 34, ground := Ground.data }, { on := 36, ground := Ground.data }], guard := none } rfl rfl (by kernel_rfl) (by rfl) (by rfl) (fun K hK => ?g20) (fun K hK => ?g21)
                    case' g20 =>
                      refine Kt.wp_fv _ _ _ _ _ [.int .i64 usb] rfl rfl rfl egWord ?_
                      refine (HW1.out _).mono ?_; rintro en xx ⟨rfl, hb⟩
                      refine hK.out _ _ (fun _ => hHeld.on hb) (fun hHeld => ?_)
                      have hHeld := hHeld rfl
                      clear hK K
                      try simp only [Act.put, List.setIfInBounds_toArray, List.set_cons_zero, List.set_cons_succ]
                      replace r14 := Kt.row_on hb r14
                      clear hb
                      refine Kt.G.takeP 5 { dst := some 70, op := Op.binOp BinOp.add 9 (Operand.tmp 66) (Operand.tmp 69) 9, type := 9, pos := "desc.go:61", after := #[{ on := 1, ground := Ground.data }, { on := 4, ground := Ground.data }], guard := none } ?_ (fun _ => hHeld) rfl (by kernel_rfl) (fun _ _ _ h => h) (by rfl) ?_ ?_
                      rotate_left
                      · intro wq; go_simp; try with_reducible rfl
                      try simp only [Act.put, List.setIfInBounds_toArray, List.set_cons_zero, List.set_cons_succ]
                      refine Kt.G.two 15 37 { dst := some 80, op := Op.call { callee := Callee.value (Operand.func 35), args := #[Operand.tmp 79], argTypes := #[103] }, type := 9, pos := "desc.go:61", after := #[{ on := 14, ground := Ground.data }, { on := 4, ground := Ground.chain }], guard := none } { dst := some 102, op := Op.buildSlice 103 4 #[(0, Operand.tmp 95), (1, Operand.tmp 97), (2, Operand.tmp 99), (3, Operand.tmp 101)], type := 103, pos := "desc.go:61", after := #[{ on := 30, ground := Ground.data }, { on := 32, ground := Ground.data }, { on := 34, ground := Ground.data }, { on := 36, ground := Ground.data }], guard := none } rfl rfl (by kernel_rfl) (by rfl) (by rfl) (fun K hK => ?g22) (fun K hK => ?g23)
                      case' g22 =>
                        refine Kt.wp_fv _ _ _ _ _ [.slice (some ⟨k14, 0, none⟩) 4 4] rfl rfl rfl egPut ?_
                        refine (HP4.out _ _ r14).mono ?_; rintro en xx ⟨rfl, hb⟩
                        refine hK.out _ _ (fun _ => hHeld.on hb) (fun hHeld => ?_)
                        have hHeld := hHeld rfl
                        clear hK K
                        try simp only [Act.put, List.setIfInBounds_toArray, List.set_cons_zero, List.set_cons_succ]
                        clear r14
                        clear hb
                        refine Kt.G.takeP 16 { dst := some 81, op := Op.binOp BinOp.add 9 (Operand.tmp 70) (Operand.tmp 80) 9, type := 9, pos := "desc.go:61", after := #[{ on := 5, ground := Ground.data }, { on := 15, ground := Ground.data }], guard := none } ?_ (fun _ => hHeld) rfl (by kernel_rfl) (fun _ _ _ h => h) (by rfl) ?_ ?_
                        rotate_left
                        · intro wq; go_simp; try with_reducible rfl
                        try simp only [Act.put, List.setIfInBounds_toArray, List.set_cons_zero, List.set_cons_succ]
                        refine Kt.G.two 19 37 { dst := some 84, op := Op.call { callee := Callee.value (Operand.func 36), args := #[Operand.tmp 83], argTypes := #[3] }, type := 9, pos := "desc.go:61", after := #[{ on := 18, ground := Ground.data }, { on := 15, ground := Ground.chain }], guard := none } { dst := some 102, op := Op.buildSlice 103 4 #[(0, Operand.tmp 95), (1, Operand.tmp 97), (2, Operand.tmp 99), (3, Operand.tmp 101)], type := 103, pos := "desc.go:61", after := #[{ on := 30, ground := Ground.data }, { on := 32, ground := Ground.data }, { on := 34, ground := Ground.data }, { on := 36, ground := Ground.data }], guard := none } rfl rfl (by kernel_rfl) (by rfl) (by rfl) (fun K hK => ?g24) (fun K hK => ?g25)
                        case' g24 =>
                          refine Kt.wp_fv _ _ _ _ _ [.int .i64 ven] rfl rfl rfl egWord ?_
                          refine (HW2.out _).mono ?_; rintro en xx ⟨rfl, hb⟩
                          refine hK.out _ _ (fun _ => hHeld.on hb) (fun hHeld => ?_)
                          have hHeld := hHeld rfl
                          clear hK K
                          try simp only [Act.put, List.setIfInBounds_toArray, List.set_cons_zero, List.set_cons_succ]
                          clear hb
                          refine Kt.G.takeP 20 { dst := some 85, op := Op.binOp BinOp.add 9 (Operand.tmp 81) (Operand.tmp 84) 9, type := 9, pos := "desc.go:61", after := #[{ on := 16, ground := Ground.data }, { on := 19, ground := Ground.data }], guard := none } ?_ (fun _ => hHeld) rfl (by kernel_rfl) (fun _ _ _ h => h) (by rfl) ?_ ?_
                          rotate_left
                          · intro wq; go_simp; try with_reducible rfl
                          try simp only [Act.put, List.setIfInBounds_toArray, List.set_cons_zero, List.set_cons_succ]
                          refine Kt.G.two 23 37 { dst := some 88, op := Op.call { callee := Callee.value (Operand.func 36), args := #[Operand.tmp 87], argTypes := #[3] }, type := 9, pos := "desc.go:61", after := #[{ on := 22, ground := Ground.data }, { on := 19, ground := Ground.chain }], guard := none } { dst := some 102, op := Op.buildSlice 103 4 #[(0, Operand.tmp 95), (1, Operand.tmp 97), (2, Operand.tmp 99), (3, Operand.tmp 101)], type := 103, pos := "desc.go:61", after := #[{ on := 30, ground := Ground.data }, { on := 32, ground := Ground.data }, { on := 34, ground := Ground.data }, { on := 36, ground := Ground.data }], guard := none } rfl rfl (by kernel_rfl) (by rfl) (by rfl) (fun K hK => ?g26) (fun K hK => ?g27)
                          case' g26 =>
                            refine Kt.wp_fv _ _ _ _ _ [.int .i64 prd] rfl rfl rfl egWord ?_
                            refine (HW3.out _).mono ?_; rintro en xx ⟨rfl, hb⟩
                            refine hK.out _ _ (fun _ => hHeld.on hb) (fun hHeld => ?_)
                            have hHeld := hHeld rfl
                            clear hK K
                            try simp only [Act.put, List.setIfInBounds_toArray, List.set_cons_zero, List.set_cons_succ]
                            clear hb
                            refine Kt.G.takeP 24 { dst := some 89, op := Op.binOp BinOp.add 9 (Operand.tmp 85) (Operand.tmp 88) 9, type := 9, pos := "desc.go:61", after := #[{ on := 20, ground := Ground.data }, { on := 23, ground := Ground.data }], guard := none } ?_ (fun _ => hHeld) rfl (by kernel_rfl) (fun _ _ _ h => h) (by rfl) ?_ ?_
                            rotate_left
                            · intro wq; go_simp; try with_reducible rfl
                            try simp only [Act.put, List.setIfInBounds_toArray, List.set_cons_zero, List.set_cons_succ]
                            refine Kt.G.two 27 37 { dst := some 92, op := Op.call { callee := Callee.value (Operand.func 36), args := #[Operand.tmp 91], argTypes := #[3] }, type := 9, pos := "desc.go:61", after := #[{ on := 26, ground := Ground.data }, { on := 23, ground := Ground.chain }], guard := none } { dst := some 102, op := Op.buildSlice 103 4 #[(0, Operand.tmp 95), (1, Operand.tmp 97), (2, Operand.tmp 99), (3, Operand.tmp 101)], type := 103, pos := "desc.go:61", after := #[{ on := 30, ground := Ground.data }, { on := 32, ground := Ground.data }, { on := 34, ground := Ground.data }, { on := 36, ground := Ground.data }], guard := none } rfl rfl (by kernel_rfl) (by rfl) (by rfl) (fun K hK => ?g28) (fun K hK => ?g29)
                            case' g28 =>
                              refine Kt.wp_fv _ _ _ _ _ [.int .i64 rel] rfl rfl rfl egWord ?_
                              refine (HW4.out _).mono ?_; rintro en xx ⟨rfl, hb⟩
                              refine hK.out _ _ (fun _ => hHeld.on hb) (fun hHeld => ?_)
                              have hHeld := hHeld rfl
                              clear hK K
                              try simp only [Act.put, List.setIfInBounds_toArray, List.set_cons_zero, List.set_cons_succ]
                              clear hb
                              refine Kt.G.takeP 28 { dst := some 93, op := Op.binOp BinOp.add 9 (Operand.tmp 89) (Operand.tmp 92) 9, type := 9, pos := "desc.go:61", after := #[{ on := 24, ground := Ground.data }, { on := 27, ground := Ground.data }], guard := none } ?_ (fun _ => hHeld) rfl (by kernel_rfl) (fun _ _ _ h => h) (by rfl) ?_ ?_
                              rotate_left
                              · intro wq; go_simp; try with_reducible rfl
                              try simp only [Act.put, List.setIfInBounds_toArray, List.set_cons_zero, List.set_cons_succ]
                              refine Kt.G.one 37 { dst := some 102, op := Op.buildSlice 103 4 #[(0, Operand.tmp 95), (1, Operand.tmp 97), (2, Operand.tmp 99), (3, Operand.tmp 101)], type := 103, pos := "desc.go:61", after := #[{ on := 30, ground := Ground.data }, { on := 32, ground := Ground.data }, { on := 34, ground := Ground.data }, { on := 36, ground := Ground.data }], guard := none } rfl (by kernel_rfl) (by rfl) (fun K hK => ?_)
                              refine Kt.wp_run (.slice (some ⟨xx.heap.size, 0, none⟩) 4 4) (xx.alloc (.cells #[.int .i64 mak, .int .i64 nam, .int .i64 ser, .int .i64 cfs] 3)) (by kernel_rfl) ?_
                              refine hK.out _ _ (fun _ => hHeld.alloc _) (fun hHeld => ?_)
                              have hHeld := hHeld rfl
                              clear hK K
                              try simp only [Act.put, List.setIfInBounds_toArray, List.set_cons_zero, List.set_cons_succ]
                              have r37 := heap_alloc_new xx (.cells #[.int .i64 mak, .int .i64 nam, .int .i64 ser, .int .i64 cfs] 3)
                              generalize hk37 : xx.heap.size = k37 at *
                              clear hk37
                              generalize xx.alloc (.cells #[.int .i64 mak, .int .i64 nam, .int .i64 ser, .int .i64 cfs] 3) = xx at *
                            case' g29 =>
                              refine Kt.wp_run (.slice (some ⟨xx.heap.size, 0, none⟩) 4 4) (xx.alloc (.cells #[.int .i64 mak, .int .i64 nam, .int .i64 ser, .int .i64 cfs] 3)) (by kernel_rfl) ?_
                              refine hK.out _ _ (fun _ => hHeld.alloc _) (fun hHeld => ?_)
                              have hHeld := hHeld rfl
                              clear hK K
                              try simp only [Act.put, List.setIfInBounds_toArray, List.set_cons_zero, List.set_cons_succ]
                              have r37 := heap_alloc_new xx (.cells #[.int .i64 mak, .int .i64 nam, .int .i64 ser, .int .i64 cfs] 3)
                              generalize hk37 : xx.heap.size = k37 at *
                              clear hk37
                              generalize xx.alloc (.cells #[.int .i64 mak, .int .i64 nam, .int .i64 ser, .int .i64 cfs] 3) = xx at *
                              refine Kt.G.one 27 { dst := some 92, op := Op.call { callee := Callee.value (Operand.func 36), args := #[Operand.tmp 91], argTypes := #[3] }, type := 9, pos := "desc.go:61", after := #[{ on := 26, ground := Ground.data }, { on := 23, ground := Ground.chain }], guard := none } rfl (by kernel_rfl) (by rfl) (fun K hK => ?_)
                              refine Kt.wp_fv _ _ _ _ _ [.int .i64 rel] rfl rfl rfl egWord ?_
                              refine (HW4.out _).mono ?_; rintro en xx ⟨rfl, hb⟩
                              refine hK.out _ _ (fun _ => hHeld.on hb) (fun hHeld => ?_)
                              have hHeld := hHeld rfl
                              clear hK K
                              try simp only [Act.put, List.setIfInBounds_toArray, List.set_cons_zero, List.set_cons_succ]
                              replace r37 := Kt.row_on hb r37
                              clear hb
                              refine Kt.G.takeP 28 { dst := some 93, op := Op.binOp BinOp.add 9 (Operand.tmp 89) (Operand.tmp 92) 9, type := 9, pos := "desc.go:61", after := #[{ on := 24, ground := Ground.data }, { on := 27, ground := Ground.data }], guard := none } ?_ (fun _ => hHeld) rfl (by kernel_rfl) (fun _ _ _ h => h) (by rfl) ?_ ?_
                              rotate_left
                              · intro wq; go_simp; try with_reducible rfl
                              try simp only [Act.put, List.setIfInBounds_toArray, List.set_cons_zero, List.set_cons_succ]
                          case' g27 =>
                            refine Kt.wp_run (.slice (some ⟨xx.heap.size, 0, none⟩) 4 4) (xx.alloc (.cells #[.int .i64 mak, .int .i64 nam, .int .i64 ser, .int .i64 cfs] 3)) (by kernel_rfl) ?_
                            refine hK.out _ _ (fun _ => hHeld.alloc _) (fun hHeld => ?_)
                            have hHeld := hHeld rfl
                            clear hK K
                            try simp only [Act.put, List.setIfInBounds_toArray, List.set_cons_zero, List.set_cons_succ]
                            have r37 := heap_alloc_new xx (.cells #[.int .i64 mak, .int .i64 nam, .int .i64 ser, .int .i64 cfs] 3)
                            generalize hk37 : xx.heap.size = k37 at *
                            clear hk37
                            generalize xx.alloc (.cells #[.int .i64 mak, .int .i64 nam, .int .i64 ser, .int .i64 cfs] 3) = xx at *
                            refine Kt.G.one 23 { dst := some 88, op := Op.call { callee := Callee.value (Operand.func 36), args := #[Operand.tmp 87], argTypes := #[3] }, type := 9, pos := "desc.go:61", after := #[{ on := 22, ground := Ground.data }, { on := 19, ground := Ground.chain }], guard := none } rfl (by kernel_rfl) (by rfl) (fun K hK => ?_)
                            refine Kt.wp_fv _ _ _ _ _ [.int .i64 prd] rfl rfl rfl egWord ?_
                            refine (HW3.out _).mono ?_; rintro en xx ⟨rfl, hb⟩
                            refine hK.out _ _ (fun _ => hHeld.on hb) (fun hHeld => ?_)
                            have hHeld := hHeld rfl
                            clear hK K
                            try simp only [Act.put, List.setIfInBounds_toArray, List.set_cons_zero, List.set_cons_succ]
                            replace r37 := Kt.row_on hb r37
                            clear hb
                            refine Kt.G.takeP 24 { dst := some 89, op := Op.binOp BinOp.add 9 (Operand.tmp 85) (Operand.tmp 88) 9, type := 9, pos := "desc.go:61", after := #[{ on := 20, ground := Ground.data }, { on := 23, ground := Ground.data }], guard := none } ?_ (fun _ => hHeld) rfl (by kernel_rfl) (fun _ _ _ h => h) (by rfl) ?_ ?_
                            rotate_left
                            · intro wq; go_simp; try with_reducible rfl
                            try simp only [Act.put, List.setIfInBounds_toArray, List.set_cons_zero, List.set_cons_succ]
                            refine Kt.G.one 27 { dst := some 92, op := Op.call { callee := Callee.value (Operand.func 36), args := #[Operand.tmp 91], argTypes := #[3] }, type := 9, pos := "desc.go:61", after := #[{ on := 26, ground := Ground.data }, { on := 23, ground := Ground.chain }], guard := none } rfl (by kernel_rfl) (by rfl) (fun K hK => ?_)
                            refine Kt.wp_fv _ _ _ _ _ [.int .i64 rel] rfl rfl rfl egWord ?_
                            refine (HW4.out _).mono ?_; rintro en xx ⟨rfl, hb⟩
                            refine hK.out _ _ (fun _ => hHeld.on hb) (fun hHeld => ?_)
                            have hHeld := hHeld rfl
                            clear hK K
                            try simp only [Act.put, List.setIfInBounds_toArray, List.set_cons_zero, List.set_cons_succ]
                            replace r37 := Kt.row_on hb r37
                            clear hb
                            refine Kt.G.takeP 28 { dst := some 93, op := Op.binOp BinOp.add 9 (Operand.tmp 89) (Operand.tmp 92) 9, type := 9, pos := "desc.go:61", after := #[{ on := 24, ground := Ground.data }, { on := 27, ground := Ground.data }], guard := none } ?_ (fun _ => hHeld) rfl (by kernel_rfl) (fun _ _ _ h => h) (by rfl) ?_ ?_
                            rotate_left
                            · intro wq; go_simp; try with_reducible rfl
                            try simp only [Act.put, List.setIfInBounds_toArray, List.set_cons_zero, List.set_cons_succ]
                        case' g25 =>
                          refine Kt.wp_run (.slice (some ⟨xx.heap.size, 0, none⟩) 4 4) (xx.alloc (.cells #[.int .i64 mak, .int .i64 nam, .int .i64 ser, .int .i64 cfs] 3)) (by kernel_rfl) ?_
                          refine hK.out _ _ (fun _ => hHeld.alloc _) (fun hHeld => ?_)
                          have hHeld := hHeld rfl
                          clear hK K
                          try simp only [Act.put, List.setIfInBounds_toArray, List.set_cons_zero, List.set_cons_succ]
                          have r37 := heap_alloc_new xx (.cells #[.int .i64 mak, .int .i64 nam, .int .i64 ser, .int .i64 cfs] 3)
                          generalize hk37 : xx.heap.size = k37 at *
                          clear hk37
                          generalize xx.alloc (.cells #[.int .i64 mak, .int .i64 nam, .int .i64 ser, .int .i64 cfs] 3) = xx at *
                          refine Kt.G.one 19 { dst := some 84, op := Op.call { callee := Callee.value (Operand.func 36), args := #[Operand.tmp 83], argTypes := #[3] }, type := 9, pos := "desc.go:61", after := #[{ on := 18, ground := Ground.data }, { on := 15, ground := Ground.chain }], guard := none } rfl (by kernel_rfl) (by rfl) (fun K hK => ?_)
                          refine Kt.wp_fv _ _ _ _ _ [.int .i64 ven] rfl rfl rfl egWord ?_
                          refine (HW2.out _).mono ?_; rintro en xx ⟨rfl, hb⟩
                          refine hK.out _ _ (fun _ => hHeld.on hb) (fun hHeld => ?_)
                          have hHeld := hHeld rfl
                          clear hK K
                          try simp only [Act.put, List.setIfInBounds_toArray, List.set_cons_zero, List.set_cons_succ]
                          replace r37 := Kt.row_on hb r37
                          clear hb
                          refine Kt.G.takeP 20 { dst := some 85, op := Op.binOp BinOp.add 9 (Operand.tmp 81) (Operand.tmp 84) 9, type := 9, pos := "desc.go:61", after := #[{ on := 16, ground := Ground.data }, { on := 19, ground := Ground.data }], guard := none } ?_ (fun _ => hHeld) rfl (by kernel_rfl) (fun _ _ _ h => h) (by rfl) ?_ ?_
                          rotate_left
                          · intro wq; go_simp; try with_reducible rfl
                          try simp only [Act.put, List.setIfInBounds_toArray, List.set_cons_zero, List.set_cons_succ]
                          refine Kt.G.one 23 { dst := some 88, op := Op.call { callee := Callee.value (Operand.func 36), args := #[Operand.tmp 87], argTypes := #[3] }, type := 9, pos := "desc.go:61", after := #[{ on := 22, ground := Ground.data }, { on := 19, ground := Ground.chain }], guard := none } rfl (by kernel_rfl) (by rfl) (fun K hK => ?_)
                          refine Kt.wp_fv _ _ _ _ _ [.int .i64 prd] rfl rfl rfl egWord ?_
                          refine (HW3.out _).mono ?_; rintro en xx ⟨rfl, hb⟩
                          refine hK.out _ _ (fun _ => hHeld.on hb) (fun hHeld => ?_)
                          have hHeld := hHeld rfl
                          clear hK K
                          try simp only [Act.put, List.setIfInBounds_toArray, List.set_cons_zero, List.set_cons_succ]
                          replace r37 := Kt.row_on hb r37
                          clear hb
                          refine Kt.G.takeP 24 { dst := some 89, op := Op.binOp BinOp.add 9 (Operand.tmp 85) (Operand.tmp 88) 9, type := 9, pos := "desc.go:61", after := #[{ on := 20, ground := Ground.data }, { on := 23, ground := Ground.data }], guard := none } ?_ (fun _ => hHeld) rfl (by kernel_rfl) (fun _ _ _ h => h) (by rfl) ?_ ?_
                          rotate_left
                          · intro wq; go_simp; try with_reducible rfl
                          try simp only [Act.put, List.setIfInBounds_toArray, List.set_cons_zero, List.set_cons_succ]
                          refine Kt.G.one 27 { dst := some 92, op := Op.call { callee := Callee.value (Operand.func 36), args := #[Operand.tmp 91], argTypes := #[3] }, type := 9, pos := "desc.go:61", after := #[{ on := 26, ground := Ground.data }, { on := 23, ground := Ground.chain }], guard := none } rfl (by kernel_rfl) (by rfl) (fun K hK => ?_)
                          refine Kt.wp_fv _ _ _ _ _ [.int .i64 rel] rfl rfl rfl egWord ?_
                          refine (HW4.out _).mono ?_; rintro en xx ⟨rfl, hb⟩
                          refine hK.out _ _ (fun _ => hHeld.on hb) (fun hHeld => ?_)
                          have hHeld := hHeld rfl
                          clear hK K
                          try simp only [Act.put, List.setIfInBounds_toArray, List.set_cons_zero, List.set_cons_succ]
                          replace r37 := Kt.row_on hb r37
                          clear hb
                          refine Kt.G.takeP 28 { dst := some 93, op := Op.binOp BinOp.add 9 (Operand.tmp 89) (Operand.tmp 92) 9, type := 9, pos := "desc.go:61", after := #[{ on := 24, ground := Ground.data }, { on := 27, ground := Ground.data }], guard := none } ?_ (fun _ => hHeld) rfl (by kernel_rfl) (fun _ _ _ h => h) (by rfl) ?_ ?_
                          rotate_left
                          · intro wq; go_simp; try with_reducible rfl
                          try simp only [Act.put, List.setIfInBounds_toArray, List.set_cons_zero, List.set_cons_succ]
                      case' g23 =>
                        refine Kt.wp_run (.slice (some ⟨xx.heap.size, 0, none⟩) 4 4) (xx.alloc (.cells #[.int .i64 mak, .int .i64 nam, .int .i64 ser, .int .i64 cfs] 3)) (by kernel_rfl) ?_
                        refine hK.out _ _ (fun _ => hHeld.alloc _) (fun hHeld => ?_)
                        have hHeld := hHeld rfl
                        clear hK K
                        try simp only [Act.put, List.setIfInBounds_toArray, List.set_cons_zero, List.set_cons_succ]
                        replace r14 := Kt.row_on (Kt.balloc (Below.refl _ xx) (.cells #[.int .i64 mak, .int .i64 nam, .int .i64 ser, .int .i64 cfs] 3)) r14
                        have r37 := heap_alloc_new xx (.cells #[.int .i64 mak, .int .i64 nam, .int .i64 ser, .int .i64 cfs] 3)
                        generalize hk37 : xx.heap.size = k37 at *
                        clear hk37
                        generalize xx.alloc (.cells #[.int .i64 mak, .int .i64 nam, .int .i64 ser, .int .i64 cfs] 3) = xx at *
                    case' g21 =>
                      refine Kt.wp_run (.slice (some ⟨xx.heap.size, 0, none⟩) 4 4) (xx.alloc (.cells #[.int .i64 mak, .int .i64 nam, .int .i64 ser, .int .i64 cfs] 3)) (by kernel_rfl) ?_
                      refine hK.out _ _ (fun _ => hHeld.alloc _) (fun hHeld => ?_)
                      have hHeld := hHeld rfl
                      clear hK K
                      try simp only [Act.put, List.setIfInBounds_toArray, List.set_cons_zero, List.set_cons_succ]
                      replace r14 := Kt.row_on (Kt.balloc (Below.refl _ xx) (.cells #[.int .i64 mak, .int .i64 nam, .int .i64 ser, .int .i64 cfs] 3)) r14
                      have r37 := heap_alloc_new xx (.cells #[.int .i64 mak, .int .i64 nam, .int .i64 ser, .int .i64 cfs] 3)
                      generalize hk37 : xx.heap.size = k37 at *
                      clear hk37
                      generalize xx.alloc (.cells #[.int .i64 mak, .int .i64 nam, .int .i64 ser, .int .i64 cfs] 3) = xx at *
                      refine Kt.G.one 4 { dst := some 69, op := Op.call { callee := Callee.value (Operand.func 36), args := #[Operand.tmp 68], argTypes := #[3] }, type := 9, pos := "desc.go:61", after := #[{ on := 3, ground := Ground.data }, { on := 1, ground := Ground.chain }], guard := none } rfl (by kernel_rfl) (by rfl) (fun K hK => ?_)
                      refine Kt.wp_fv _ _ _ _ _ [.int .i64 usb] rfl rfl rfl egWord ?_
                      refine (HW1.out _).mono ?_; rintro en xx ⟨rfl, hb⟩
                      refine hK.out _ _ (fun _ => hHeld.on hb) (fun hHeld => ?_)
                      have hHeld := hHeld rfl
                      clear hK K
                      try simp only [Act.put, List.setIfInBounds_toArray, List.set_cons_zero, List.set_cons_succ]
                      replace r14 := Kt.row_on hb r14
                      replace r37 := Kt.row_on hb r37
                      clear hb
                      refine Kt.G.takeP 5 { dst := some 70, op := Op.binOp BinOp.add 9 (Operand.tmp 66) (Operand.tmp 69) 9, type := 9, pos := "desc.go:61", after := #[{ on := 1, ground := Ground.data }, { on := 4, ground := Ground.data }], guard := none } ?_ (fun _ => hHeld) rfl (by kernel_rfl) (fun _ _ _ h => h) (by rfl) ?_ ?_
                      rotate_left
                      · intro wq; go_simp; try with_reducible rfl
                      try simp only [Act.put, List.setIfInBounds_toArray, List.set_cons_zero, List.set_cons_succ]
                  case' g9 =>
                    refine Kt.wp_run (.slice (some ⟨xx.heap.size, 0, none⟩) 4 4) (xx.alloc (.cells #[.int .i64 mak, .int .i64 nam, .int .i64 ser, .int .i64 cfs] 3)) (by kernel_rfl) ?_
                    refine hK.out _ _ (fun _ => hHeld.alloc _) (fun hHeld => ?_)
                    have hHeld := hHeld rfl
                    clear hK K
                    try simp only [Act.put, List.setIfInBounds_toArray, List.set_cons_zero, List.set_cons_succ]
                    have r37 := heap_alloc_new xx (.cells #[.int .i64 mak, .int .i64 nam, .int .i64 ser, .int .i64 cfs] 3)
                    generalize hk37 : xx.heap.size = k37 at *
                    clear hk37
                    generalize xx.alloc (.cells #[.int .i64 mak, .int .i64 nam, .int .i64 ser, .int .i64 cfs] 3) = xx at *
                    refine Kt.G.two 4 14 { dst := some 69, op := Op.call { callee := Callee.value (Operand.func 36), args := #[Operand.tmp 68], argTypes := #[3] }, type := 9, pos := "desc.go:61", after := #[{ on := 3, ground := Ground.data }, { on := 1, ground := Ground.chain }], guard := none } { dst := some 79, op := Op.buildSlice 103 4 #[(0, Operand.tmp 72), (1, Operand.tmp 74), (2, Operand.tmp 76), (3, Operand.tmp 78)], type := 103, pos := "desc.go:61", after := #[{ on := 7, ground := Ground.data }, { on := 9, ground := Ground.data }, { on := 11, ground := Ground.data }, { on := 13, ground := Ground.data }], guard := none } rfl rfl (by kernel_rfl) (by rfl) (by rfl) (fun K hK => ?g30) (fun K hK => ?g31)
                    case' g30 =>
                      refine Kt.wp_fv _ _ _ _ _ [.int .i64 usb] rfl rfl rfl egWord ?_
                      refine (HW1.out _).mono ?_; rintro en xx ⟨rfl, hb⟩
                      refine hK.out _ _ (fun _ => hHeld.on hb) (fun hHeld => ?_)
                      have hHeld := hHeld rfl
                      clear hK K
                      try simp only [Act.put, List.setIfInBounds_toArray, List.set_cons_zero, List.set_cons_succ]
                      replace r37 := Kt.row_on hb r37
                      clear hb
                      refine Kt.G.takeP 5 { dst := some 70, op := Op.binOp BinOp.add 9 (Operand.tmp 66) (Operand.tmp 69) 9, type := 9, pos := "desc.go:61", after := #[{ on := 1, ground := Ground.data }, { on := 4, ground := Ground.data }], guard := none } ?_ (fun _ => hHeld) rfl (by kernel_rfl) (fun _ _ _ h => h) (by rfl) ?_ ?_
                      rotate_left
                      · intro wq; go_simp; try with_reducible rfl
                      try simp only [Act.put, List.setIfInBounds_toArray, List.set_cons_zero, List.set_cons_succ]
                      refine Kt.G.one 14 { dst := some 79, op := Op.buildSlice 103 4 #[(0, Operand.tmp 72), (1, Operand.tmp 74), (2, Operand.tmp 76), (3, Operand.tmp 78)], type := 103, pos := "desc.go:61", after := #[{ on := 7, ground := Ground.data }, { on := 9, ground := Ground.data }, { on := 11, ground := Ground.data }, { on := 13, ground := Ground.data }], guard := none } rfl (by kernel_rfl) (by rfl) (fun K hK => ?_)
                      refine Kt.wp_run (.slice (some ⟨xx.heap.size, 0, none⟩) 4 4) (xx.alloc (.cells #[.int .i64 cls, .int .i64 sub, .int .i64 pro, .int .i64 m0] 3)) (by kernel_rfl) ?_
                      refine hK.out _ _ (fun _ => hHeld.alloc _) (fun hHeld => ?_)
                      have hHeld := hHeld rfl
                      clear hK K
                      try simp only [Act.put, List.setIfInBounds_toArray, List.set_cons_zero, List.set_cons_succ]
                      replace r37 := Kt.row_on (Kt.balloc (Below.refl _ xx) (.cells #[.int .i64 cls, .int .i64 sub, .int .i64 pro, .int .i64 m0] 3)) r37
                      have r14 := heap_alloc_new xx (.cells #[.int .i64 cls, .int .i64 sub, .int .i64 pro, .int .i64 m0] 3)
                      generalize hk14 : xx.heap.size = k14 at *
                      clear hk14
                      generalize xx.alloc (.cells #[.int .i64 cls, .int .i64 sub, .int .i64 pro, .int .i64 m0] 3) = xx at *
                    case' g31 =>
                      refine Kt.wp_run (.slice (some ⟨xx.heap.size, 0, none⟩) 4 4) (xx.alloc (.cells #[.int .i64 cls, .int .i64 sub, .int .i64 pro, .int .i64 m0] 3)) (by kernel_rfl) ?_
                      refine hK.out _ _ (fun _ => hHeld.alloc _) (fun hHeld => ?_)
                      have hHeld := hHeld rfl
                      clear hK K
                      try simp only [Act.put, List.setIfInBounds_toArray, List.set_cons_zero, List.set_cons_succ]
                      replace r37 := Kt.row_on (Kt.balloc (Below.refl _ xx) (.cells #[.int .i64 cls, .int .i64 sub, .int .i64 pro, .int .i64 m0] 3)) r37
                      have r14 := heap_alloc_new xx (.cells #[.int .i64 cls, .int .i64 sub, .int .i64 pro, .int .i64 m0] 3)
                      generalize hk14 : xx.heap.size = k14 at *
                      clear hk14
                      generalize xx.alloc (.cells #[.int .i64 cls, .int .i64 sub, .int .i64 pro, .int .i64 m0] 3) = xx at *
                      refine Kt.G.one 4 { dst := some 69, op := Op.call { callee := Callee.value (Operand.func 36), args := #[Operand.tmp 68], argTypes := #[3] }, type := 9, pos := "desc.go:61", after := #[{ on := 3, ground := Ground.data }, { on := 1, ground := Ground.chain }], guard := none } rfl (by kernel_rfl) (by rfl) (fun K hK => ?_)
                      refine Kt.wp_fv _ _ _ _ _ [.int .i64 usb] rfl rfl rfl egWord ?_
                      refine (HW1.out _).mono ?_; rintro en xx ⟨rfl, hb⟩
                      refine hK.out _ _ (fun _ => hHeld.on hb) (fun hHeld => ?_)
                      have hHeld := hHeld rfl
                      clear hK K
                      try simp only [Act.put, List.setIfInBounds_toArray, List.set_cons_zero, List.set_cons_succ]
                      replace r14 := Kt.row_on hb r14
                      replace r37 := Kt.row_on hb r37
                      clear hb
                      refine Kt.G.takeP 5 { dst := some 70, op := Op.binOp BinOp.add 9 (Operand.tmp 66) (Operand.tmp 69) 9, type := 9, pos := "desc.go:61", after := #[{ on := 1, ground := Ground.data }, { on := 4, ground := Ground.data }], guard := none } ?_ (fun _ => hHeld) rfl (by kernel_rfl) (fun _ _ _ h => h) (by rfl) ?_ ?_
                      rotate_left
                      · intro wq; go_simp; try with_reducible rfl
                      try simp only [Act.put, List.setIfInBounds_toArray, List.set_cons_zero, List.set_cons_succ]
                case' g5 =>
                  refine Kt.wp_run (.slice (some ⟨xx.heap.size, 0, none⟩) 4 4) (xx.alloc (.cells #[.int .i64 cls, .int .i64 sub, .int .i64 pro, .int .i64 m0] 3)) (by kernel_rfl) ?_
                  refine hK.out _ _ (fun _ => hHeld.alloc _) (fun hHeld => ?_)
                  have hHeld := hHeld rfl
                  clear hK K
                  try simp only [Act.put, List.setIfInBounds_toArray, List.set_cons_zero, List.set_cons_succ]
                  replace r0 := Kt.row_on (Kt.balloc (Below.refl _ xx) (.cells #[.int .i64 cls, .int .i64 sub, .int .i64 pro, .int .i64 m0] 3)) r0
                  have r14 := heap_alloc_new xx (.cells #[.int .i64 cls, .int .i64 sub, .int .i64 pro, .int .i64 m0] 3)
                  generalize hk14 : xx.heap.size = k14 at *
                  clear hk14
                  generalize xx.alloc (.cells #[.int .i64 cls, .int .i64 sub, .int .i64 pro, .int .i64 m0] 3) = xx at *
                  refine Kt.G.two 1 37 { dst := some 66, op := Op.call { callee := Callee.value (Operand.func 35), args := #[Operand.tmp 65], argTypes := #[103] }, type := 9, pos := "desc.go:61", after := #[{ on := 0, ground := Ground.data }], guard := none } { dst := some 102, op := Op.buildSlice 103 4 #[(0, Operand.tmp 95), (1, Operand.tmp 97), (2, Operand.tmp 99), (3, Operand.tmp 101)], type := 103, pos := "desc.go:61", after := #[{ on := 30, ground := Ground.data }, { on := 32, ground := Ground.data }, { on := 34, ground := Ground.data }, { on := 36, ground := Ground.data }], guard := none } rfl rfl (by kernel_rfl) (by rfl) (by rfl) (fun K hK => ?g32) (fun K hK => ?g33)
                  case' g32 =>
                    refine Kt.wp_fv _ _ _ _ _ [.slice (some ⟨k0, 0, none⟩) 2 2] rfl rfl rfl egPut ?_
                    refine (HP2.out _ _ r0).mono ?_; rintro en xx ⟨rfl, hb⟩
                    refine hK.out _ _ (fun _ => hHeld.on hb) (fun hHeld => ?_)
                    have hHeld := hHeld rfl
                    clear hK K
                    try simp only [Act.put, List.setIfInBounds_toArray, List.set_cons_zero, List.set_cons_succ]
                    clear r0
                    replace r14 := Kt.row_on hb r14
                    clear hb
                    refine Kt.G.two 4 37 { dst := some 69, op := Op.call { callee := Callee.value (Operand.func 36), args := #[Operand.tmp 68], argTypes := #[3] }, type := 9, pos := "desc.go:61", after := #[{ on := 3, ground := Ground.data }, { on := 1, ground := Ground.chain }], guard := none } { dst := some 102, op := Op.buildSlice 103 4 #[(0, Operand.tmp 95), (1, Operand.tmp 97), (2, Operand.tmp 99), (3, Operand.tmp 101)], type := 103, pos := "desc.go:61", after := #[{ on := 30, ground := Ground.data }, { on := 32, ground := Ground.data }, { on := 34, ground := Ground.data }, { on := 36, ground := Ground.data }], guard := none } rfl rfl (by kernel_rfl) (by rfl) (by rfl) (fun K hK => ?g34) (fun K hK => ?g35)
                    case' g34 =>
                      refine Kt.wp_fv _ _ _ _ _ [.int .i64 usb] rfl rfl rfl egWord ?_
                      refine (HW1.out _).mono ?_; rintro en xx ⟨rfl, hb⟩
                      refine hK.out _ _ (fun _ => hHeld.on hb) (fun hHeld => ?_)
                      have hHeld := hHeld rfl
                      clear hK K
                      try simp only [Act.put, List.setIfInBounds_toArray, List.set_cons_zero, List.set_cons_succ]
                      replace r14 := Kt.row_on hb r14
                      clear hb
                      refine Kt.G.takeP 5 { dst := some 70, op := Op.binOp BinOp.add 9 (Operand.tmp 66) (Operand.tmp 69) 9, type := 9, pos := "desc.go:61", after := #[{ on := 1, ground := Ground.data }, { on := 4, ground := Ground.data }], guard := none } ?_ (fun _ => hHeld) rfl (by kernel_rfl) (fun _ _ _ h => h) (by rfl) ?_ ?_
                      rotate_left
                      · intro wq; go_simp; try with_reducible rfl
                      try simp only [Act.put, List.setIfInBounds_toArray, List.set_cons_zero, List.set_cons_succ]
                      refine Kt.G.two 15 37 { dst := some 80, op := Op.call { callee := Callee.value (Operand.func 35), args := #[Operand.tmp 79], argTypes := #[103] }, type := 9, pos := "desc.go:61", after := #[{ on := 14, ground := Ground.data }, { on := 4, ground := Ground.chain }], guard := none } { dst := some 102, op := Op.buildSlice 103 4 #[(0, Operand.tmp 95), (1, Operand.tmp 97), (2, Operand.tmp 99), (3, Operand.tmp 101)], type := 103, pos := "desc.go:61", after := #[{ on := 30, ground := Ground.data }, { on := 32, ground := Ground.data }, { on := 34, ground := Ground.data }, { on := 36, ground := Ground.data }], guard := none } rfl rfl (by kernel_rfl) (by rfl) (by rfl) (fun K hK => ?g36) (fun K hK => ?g37)
                      case' g36 =>
                        refine Kt.wp_fv _ _ _ _ _ [.slice (some ⟨k14, 0, none⟩) 4 4] rfl rfl rfl egPut ?_
                        refine (HP4.out _ _ r14).mono ?_; rintro en xx ⟨rfl, hb⟩
                        refine hK.out _ _ (fun _ => hHeld.on hb) (fun hHeld => ?_)
                        have hHeld := hHeld rfl
                        clear hK K
                        try simp only [Act.put, List.setIfInBounds_toArray, List.set_cons_zero, List.set_cons_succ]
                        clear r14
                        clear hb
                        refine Kt.G.takeP 16 { dst := some 81, op := Op.binOp BinOp.add 9 (Operand.tmp 70) (Operand.tmp 80) 9, type := 9, pos := "desc.go:61", after := #[{ on := 5, ground := Ground.data }, { on := 15, ground := Ground.data }], guard := none } ?_ (fun _ => hHeld) rfl (by kernel_rfl) (fun _ _ _ h => h) (by rfl) ?_ ?_
                        rotate_left
                        · intro wq; go_simp; try with_reducible rfl
                        try simp only [Act.put, List.setIfInBounds_toArray, List.set_cons_zero, List.set_cons_succ]
                        refine Kt.G.two 19 37 { dst := some 84, op := Op.call { callee := Callee.value (Operand.func 36), args := #[Operand.tmp 83], argTypes := #[3] }, type := 9, pos := "desc.go:61", after := #[{ on := 18, ground := Ground.data }, { on := 15, ground := Ground.chain }], guard := none } { dst := some 102, op := Op.buildSlice 103 4 #[(0, Operand.tmp 95), (1, Operand.tmp 97), (2, Operand.tmp 99), (3, Operand.tmp 101)], type := 103, pos := "desc.go:61", after := #[{ on := 30, ground := Ground.data }, { on := 32, ground := Ground.data }, { on := 34, ground := Ground.data }, { on := 36, ground := Ground.data }], guard := none } rfl rfl (by kernel_rfl) (by rfl) (by rfl) (fun K hK => ?g38) (fun K hK => ?g39)
                        case' g38 =>
                          refine Kt.wp_fv _ _ _ _ _ [.int .i64 ven] rfl rfl rfl egWord ?_
                          refine (HW2.out _).mono ?_; rintro en xx ⟨rfl, hb⟩
                          refine hK.out _ _ (fun _ => hHeld.on hb) (fun hHeld => ?_)
                          have hHeld := hHeld rfl
                          clear hK K
                          try simp only [Act.put, List.setIfInBounds_toArray, List.set_cons_zero, List.set_cons_succ]
                          clear hb
                          refine Kt.G.takeP 20 { dst := some 85, op := Op.binOp BinOp.add 9 (Operand.tmp 81) (Operand.tmp 84) 9, type := 9, pos := "desc.go:61", after := #[{ on := 16, ground := Ground.data }, { on := 19, ground := Ground.data }], guard := none } ?_ (fun _ => hHeld) rfl (by kernel_rfl) (fun _ _ _ h => h) (by rfl) ?_ ?_
                          rotate_left
                          · intro wq; go_simp; try with_reducible rfl
                          try simp only [Act.put, List.setIfInBounds_toArray, List.set_cons_zero, List.set_cons_succ]
                          refine Kt.G.two 23 37 { dst := some 88, op := Op.call { callee := Callee.value (Operand.func 36), args := #[Operand.tmp 87], argTypes := #[3] }, type := 9, pos := "desc.go:61", after := #[{ on := 22, ground := Ground.data }, { on := 19, ground := Ground.chain }], guard := none } { dst := some 102, op := Op.buildSlice 103 4 #[(0, Operand.tmp 95), (1, Operand.tmp 97), (2, Operand.tmp 99), (3, Operand.tmp 101)], type := 103, pos := "desc.go:61", after := #[{ on := 30, ground := Ground.data }, { on := 32, ground := Ground.data }, { on := 34, ground := Ground.data }, { on := 36, ground := Ground.data }], guard := none } rfl rfl (by kernel_rfl) (by rfl) (by rfl) (fun K hK => ?g40) (fun K hK => ?g41)
                          case' g40 =>
                            refine Kt.wp_fv _ _ _ _ _ [.int .i64 prd] rfl rfl rfl egWord ?_
                            refine (HW3.out _).mono ?_; rintro en xx ⟨rfl, hb⟩
                            refine hK.out _ _ (fun _ => hHeld.on hb) (fun hHeld => ?_)
                            have hHeld := hHeld rfl
                            clear hK K
                            try simp only [Act.put, List.setIfInBounds_toArray, List.set_cons_zero, List.set_cons_succ]
                            clear hb
                            refine Kt.G.takeP 24 { dst := some 89, op := Op.binOp BinOp.add 9 (Operand.tmp 85) (Operand.tmp 88) 9, type := 9, pos := "desc.go:61", after := #[{ on := 20, ground := Ground.data }, { on := 23, ground := Ground.data }], guard := none } ?_ (fun _ => hHeld) rfl (by kernel_rfl) (fun _ _ _ h => h) (by rfl) ?_ ?_
                            rotate_left
                            · intro wq; go_simp; try with_reducible rfl
                            try simp only [Act.put, List.setIfInBounds_toArray, List.set_cons_zero, List.set_cons_succ]
                            refine Kt.G.two 27 37 { dst := some 92, op := Op.call { callee := Callee.value (Operand.func 36), args := #[Operand.tmp 91], argTypes := #[3] }, type := 9, pos := "desc.go:61", after := #[{ on := 26, ground := Ground.data }, { on := 23, ground := Ground.chain }], guard := none } { dst := some 102, op := Op.buildSlice 103 4 #[(0, Operand.tmp 95), (1, Operand.tmp 97), (2, Operand.tmp 99), (3, Operand.tmp 101)], type := 103, pos := "desc.go:61", after := #[{ on := 30, ground := Ground.data }, { on := 32, ground := Ground.data }, { on := 34, ground := Ground.data }, { on := 36, ground := Ground.data }], guard := none } rfl rfl (by kernel_rfl) (by rfl) (by rfl) (fun K hK => ?g42) (fun K hK => ?g43)
                            case' g42 =>
                              refine Kt.wp_fv _ _ _ _ _ [.int .i64 rel] rfl rfl rfl egWord ?_
                              refine (HW4.out _).mono ?_; rintro en xx ⟨rfl, hb⟩
                              refine hK.out _ _ (fun _ => hHeld.on hb) (fun hHeld => ?_)
                              have hHeld := hHeld rfl
                              clear hK K
                              try simp only [Act.put, List.setIfInBounds_toArray, List.set_cons_zero, List.set_cons_succ]
                              clear hb
                              refine Kt.G.takeP 28 { dst := some 93, op := Op.binOp BinOp.add 9 (Operand.tmp 89) (Operand.tmp 92) 9, type := 9, pos := "desc.go:61", after := #[{ on := 24, ground := Ground.data }, { on := 27, ground := Ground.data }], guard := none } ?_ (fun _ => hHeld) rfl (by kernel_rfl) (fun _ _ _ h => h) (by rfl) ?_ ?_
                              rotate_left
                              · intro wq; go_simp; try with_reducible rfl
                              try simp only [Act.put, List.setIfInBounds_toArray, List.set_cons_zero, List.set_cons_succ]
                              refine Kt.G.one 37 { dst := some 102, op := Op.buildSlice 103 4 #[(0, Operand.tmp 95), (1, Operand.tmp 97), (2, Operand.tmp 99), (3, Operand.tmp 101)], type := 103, pos := "desc.go:61", after := #[{ on := 30, ground := Ground.data }, { on := 32, ground := Ground.data }, { on := 34, ground := Ground.data }, { on := 36, ground := Ground.data }], guard := none } rfl (by kernel_rfl) (by rfl) (fun K hK => ?_)
                              refine Kt.wp_run (.slice (some ⟨xx.heap.size, 0, none⟩) 4 4) (xx.alloc (.cells #[.int .i64 mak, .int .i64 nam, .int .i64 ser, .int .i64 cfs] 3)) (by kernel_rfl) ?_
                              refine hK.out _ _ (fun _ => hHeld.alloc _) (fun hHeld => ?_)
                              have hHeld := hHeld rfl
                              clear hK K
                              try simp only [Act.put, List.setIfInBounds_toArray, List.set_cons_zero, List.set_cons_succ]
                              have r37 := heap_alloc_new xx (.cells #[.int .i64 mak, .int .i64 nam, .int .i64 ser, .int .i64 cfs] 3)
                              generalize hk37 : xx.heap.size = k37 at *
                              clear hk37
                              generalize xx.alloc (.cells #[.int .i64 mak, .int .i64 nam, .int .i64 ser, .int .i64 cfs] 3) = xx at *
                            case' g43 =>
                              refine Kt.wp_run (.slice (some ⟨xx.heap.size, 0, none⟩) 4 4) (xx.alloc (.cells #[.int .i64 mak, .int .i64 nam, .int .i64 ser, .int .i64 cfs] 3)) (by kernel_rfl) ?_
                              refine hK.out _ _ (fun _ => hHeld.alloc _) (fun hHeld => ?_)
                              have hHeld := hHeld rfl
                              clear hK K
                              try simp only [Act.put, List.setIfInBounds_toArray, List.set_cons_zero, List.set_cons_succ]
                              have r37 := heap_alloc_new xx (.cells #[.int .i64 mak, .int .i64 nam, .int .i64 ser, .int .i64 cfs] 3)
                              generalize hk37 : xx.heap.size = k37 at *
                              clear hk37
                              generalize xx.alloc (.cells #[.int .i64 mak, .int .i64 nam, .int .i64 ser, .int .i64 cfs] 3) = xx at *
                              refine Kt.G.one 27 { dst := some 92, op := Op.call { callee := Callee.value (Operand.func 36), args := #[Operand.tmp 91], argTypes := #[3] }, type := 9, pos := "desc.go:61", after := #[{ on := 26, ground := Ground.data }, { on := 23, ground := Ground.chain }], guard := none } rfl (by kernel_rfl) (by rfl) (fun K hK => ?_)
                              refine Kt.wp_fv _ _ _ _ _ [.int .i64 rel] rfl rfl rfl egWord ?_
                              refine (HW4.out _).mono ?_; rintro en xx ⟨rfl, hb⟩
                              refine hK.out _ _ (fun _ => hHeld.on hb) (fun hHeld => ?_)
                              have hHeld := hHeld rfl
                              clear hK K
                              try simp only [Act.put, List.setIfInBounds_toArray, List.set_cons_zero, List.set_cons_succ]
                              replace r37 := Kt.row_on hb r37
                              clear hb
                              refine Kt.G.takeP 28 { dst := some 93, op := Op.binOp BinOp.add 9 (Operand.tmp 89) (Operand.tmp 92) 9, type := 9, pos := "desc.go:61", after := #[{ on := 24, ground := Ground.data }, { on := 27, ground := Ground.data }], guard := none } ?_ (fun _ => hHeld) rfl (by kernel_rfl) (fun _ _ _ h => h) (by rfl) ?_ ?_
                              rotate_left
                              · intro wq; go_simp; try with_reducible rfl
                              try simp only [Act.put, List.setIfInBounds_toArray, List.set_cons_zero, List.set_cons_succ]
                          case' g41 =>
                            refine Kt.wp_run (.slice (some ⟨xx.heap.size, 0, none⟩) 4 4) (xx.alloc (.cells #[.int .i64 mak, .int .i64 nam, .int .i64 ser, .int .i64 cfs] 3)) (by kernel_rfl) ?_
                            refine hK.out _ _ (fun _ => hHeld.alloc _) (fun hHeld => ?_)
                            have hHeld := hHeld rfl
                            clear hK K
                            try simp only [Act.put, List.setIfInBounds_toArray, List.set_cons_zero, List.set_cons_succ]
                            have r37 := heap_alloc_new xx (.cells #[.int .i64 mak, .int .i64 nam, .int .i64 ser, .int .i64 cfs] 3)
                            generalize hk37 : xx.heap.size = k37 at *
                            clear hk37
                            generalize xx.alloc (.cells #[.int .i64 mak, .int .i64 nam, .int .i64 ser, .int .i64 cfs] 3) = xx at *
                            refine Kt.G.one 23 { dst := some 88, op := Op.call { callee := Callee.value (Operand.func 36), args := #[Operand.tmp 87], argTypes := #[3] }, type := 9, pos := "desc.go:61", after := #[{ on := 22, ground := Ground.data }, { on := 19, ground := Ground.chain }], guard := none } rfl (by kernel_rfl) (by rfl) (fun K hK => ?_)
                            refine Kt.wp_fv _ _ _ _ _ [.int .i64 prd] rfl rfl rfl egWord ?_
                            refine (HW3.out _).mono ?_; rintro en xx ⟨rfl, hb⟩
                            refine hK.out _ _ (fun _ => hHeld.on hb) (fun hHeld => ?_)
                            have hHeld := hHeld rfl
                            clear hK K
                            try simp only [Act.put, List.setIfInBounds_toArray, List.set_cons_zero, List.set_cons_succ]
                            replace r37 := Kt.row_on hb r37
                            clear hb
                            refine Kt.G.takeP 24 { dst := some 89, op := Op.binOp BinOp.add 9 (Operand.tmp 85) (Operand.tmp 88) 9, type := 9, pos := "desc.go:61", after := #[{ on := 20, ground := Ground.data }, { on := 23, ground := Ground.data }], guard := none } ?_ (fun _ => hHeld) rfl (by kernel_rfl) (fun _ _ _ h => h) (by rfl) ?_ ?_
                            rotate_left
                            · intro wq; go_simp; try with_reducible rfl
                            try simp only [Act.put, List.setIfInBounds_toArray, List.set_cons_zero, List.set_cons_succ]
                            refine Kt.G.one 27 { dst := some 92, op := Op.call { callee := Callee.value (Operand.func 36), args := #[Operand.tmp 91], argTypes := #[3] }, type := 9, pos := "desc.go:61", after := #[{ on := 26, ground := Ground.data }, { on := 23, ground := Ground.chain }], guard := none } rfl (by kernel_rfl) (by rfl) (fun K hK => ?_)
                            refine Kt.wp_fv _ _ _ _ _ [.int .i64 rel] rfl rfl rfl egWord ?_
                            refine (HW4.out _).mono ?_; rintro en xx ⟨rfl, hb⟩
                            refine hK.out _ _ (fun _ => hHeld.on hb) (fun hHeld => ?_)
                            have hHeld := hHeld rfl
                            clear hK K
                            try simp only [Act.put, List.setIfInBounds_toArray, List.set_cons_zero, List.set_cons_succ]
                            replace r37 := Kt.row_on hb r37
                            clear hb
                            refine Kt.G.takeP 28 { dst := some 93, op := Op.binOp BinOp.add 9 (Operand.tmp 89) (Operand.tmp 92) 9, type := 9, pos := "desc.go:61", after := #[{ on := 24, ground := Ground.data }, { on := 27, ground := Ground.data }], guard := none } ?_ (fun _ => hHeld) rfl (by kernel_rfl) (fun _ _ _ h => h) (by rfl) ?_ ?_
                            rotate_left
                            · intro wq; go_simp; try with_reducible rfl
                            try simp only [Act.put, List.setIfInBounds_toArray, List.set_cons_zero, List.set_cons_succ]
                        case' g39 =>
                          refine Kt.wp_run (.slice (some ⟨xx.heap.size, 0, none⟩) 4 4) (xx.alloc (.cells #[.int .i64 mak, .int .i64 nam, .int .i64 ser, .int .i64 cfs] 3)) (by kernel_rfl) ?_
                          refine hK.out _ _ (fun _ => hHeld.alloc _) (fun hHeld => ?_)
                          have hHeld := hHeld rfl
                          clear hK K
                          try simp only [Act.put, List.setIfInBounds_toArray, List.set_cons_zero, List.set_cons_succ]
                          have r37 := heap_alloc_new xx (.cells #[.int .i64 mak, .int .i64 nam, .int .i64 ser, .int .i64 cfs] 3)
                          generalize hk37 : xx.heap.size = k37 at *
                          clear hk37
                          generalize xx.alloc (.cells #[.int .i64 mak, .int .i64 nam, .int .i64 ser, .int .i64 cfs] 3) = xx at *
                          refine Kt.G.one 19 { dst := some 84, op := Op.call { callee := Callee.value (Operand.func 36), args := #[Operand.tmp 83], argTypes := #[3] }, type := 9, pos := "desc.go:61", after := #[{ on := 18, ground := Ground.data }, { on := 15, ground := Ground.chain }], guard := none } rfl (by kernel_rfl) (by rfl) (fun K hK => ?_)
                          refine Kt.wp_fv _ _ _ _ _ [.int .i64 ven] rfl rfl rfl egWord ?_
                          refine (HW2.out _).mono ?_; rintro en xx ⟨rfl, hb⟩
                          refine hK.out _ _ (fun _ => hHeld.on hb) (fun hHeld => ?_)
                          have hHeld := hHeld rfl
                          clear hK K
                          try simp only [Act.put, List.setIfInBounds_toArray, List.set_cons_zero, List.set_cons_succ]
                          replace r37 := Kt.row_on hb r37
                          clear hb
                          refine Kt.G.takeP 20 { dst := some 85, op := Op.binOp BinOp.add 9 (Operand.tmp 81) (Operand.tmp 84) 9, type := 9, pos := "desc.go:61", after := #[{ on := 16, ground := Ground.data }, { on := 19, ground := Ground.data }], guard := none } ?_ (fun _ => hHeld) rfl (by kernel_rfl) (fun _ _ _ h => h) (by rfl) ?_ ?_
                          rotate_left
                          · intro wq; go_simp; try with_reducible rfl
                          try simp only [Act.put, List.setIfInBounds_toArray, List.set_cons_zero, List.set_cons_succ]
                          refine Kt.G.one 23 { dst := some 88, op := Op.call { callee := Callee.value (Operand.func 36), args := #[Operand.tmp 87], argTypes := #[3] }, type := 9, pos := "desc.go:61", after := #[{ on := 22, ground := Ground.data }, { on := 19, ground := Ground.chain }], guard := none } rfl (by kernel_rfl) (by rfl) (fun K hK => ?_)
                          refine Kt.wp_fv _ _ _ _ _ [.int .i64 prd] rfl rfl rfl egWord ?_
                          refine (HW3.out _).mono ?_; rintro en xx ⟨rfl, hb⟩
                          refine hK.out _ _ (fun _ => hHeld.on hb) (fun hHeld => ?_)
                          have hHeld := hHeld rfl
                          clear hK K
                          try simp only [Act.put, List.setIfInBounds_toArray, List.set_cons_zero, List.set_cons_succ]
                          replace r37 := Kt.row_on hb r37
                          clear hb
                          refine Kt.G.takeP 24 { dst := some 89, op := Op.binOp BinOp.add 9 (Operand.tmp 85) (Operand.tmp 88) 9, type := 9, pos := "desc.go:61", after := #[{ on := 20, ground := Ground.data }, { on := 23, ground := Ground.data }], guard := none } ?_ (fun _ => hHeld) rfl (by kernel_rfl) (fun _ _ _ h => h) (by rfl) ?_ ?_
                          rotate_left
                          · intro wq; go_simp; try with_reducible rfl
                          try simp only [Act.put, List.setIfInBounds_toArray, List.set_cons_zero, List.set_cons_succ]
                          refine Kt.G.one 27 { dst := some 92, op := Op.call { callee := Callee.value (Operand.func 36), args := #[Operand.tmp 91], argTypes := #[3] }, type := 9, pos := "desc.go:61", after := #[{ on := 26, ground := Ground.data }, { on := 23, ground := Ground.chain }], guard := none } rfl (by kernel_rfl) (by rfl) (fun K hK => ?_)
                          refine Kt.wp_fv _ _ _ _ _ [.int .i64 rel] rfl rfl rfl egWord ?_
                          refine (HW4.out _).mono ?_; rintro en xx ⟨rfl, hb⟩
                          refine hK.out _ _ (fun _ => hHeld.on hb) (fun hHeld => ?_)
                          have hHeld := hHeld rfl
                          clear hK K
                          try simp only [Act.put, List.setIfInBounds_toArray, List.set_cons_zero, List.set_cons_succ]
                          replace r37 := Kt.row_on hb r37
                          clear hb
                          refine Kt.G.takeP 28 { dst := some 93, op := Op.binOp BinOp.add 9 (Operand.tmp 89) (Operand.tmp 92) 9, type := 9, pos := "desc.go:61", after := #[{ on := 24, ground := Ground.data }, { on := 27, ground := Ground.data }], guard := none } ?_ (fun _ => hHeld) rfl (by kernel_rfl) (fun _ _ _ h => h) (by rfl) ?_ ?_
                          rotate_left
                          · intro wq; go_simp; try with_reducible rfl
                          try simp only [Act.put, List.setIfInBounds_toArray, List.set_cons_zero, List.set_cons_succ]
                      case' g37 =>
                        refine Kt.wp_run (.slice (some ⟨xx.heap.size, 0, none⟩) 4 4) (xx.alloc (.cells #[.int .i64 mak, .int .i64 nam, .int .i64 ser, .int .i64 cfs] 3)) (by kernel_rfl) ?_
                        refine hK.out _ _ (fun _ => hHeld.alloc _) (fun hHeld => ?_)
                        have hHeld := hHeld rfl
                        clear hK K
                        try simp only [Act.put, List.setIfInBounds_toArray, List.set_cons_zero, List.set_cons_succ]
                        replace r14 := Kt.row_on (Kt.balloc (Below.refl _ xx) (.cells #[.int .i64 mak, .int .i64 nam, .int .i64 ser, .int .i64 cfs] 3)) r14
                        have r37 := heap_alloc_new xx (.cells #[.int .i64 mak, .int .i64 nam, .int .i64 ser, .int .i64 cfs] 3)
                        generalize hk37 : xx.heap.size = k37 at *
                        clear hk37
                        generalize xx.alloc (.cells #[.int .i64 mak, .int .i64 nam, .int .i64 ser, .int .i64 cfs] 3) = xx at *
                    case' g35 =>
                      refine Kt.wp_run (.slice (some ⟨xx.heap.size, 0, none⟩) 4 4) (xx.alloc (.cells #[.int .i64 mak, .int .i64 nam, .int .i64 ser, .int .i64 cfs] 3)) (by kernel_rfl) ?_
                      refine hK.out _ _ (fun _ => hHeld.alloc _) (fun hHeld => ?_)
                      have hHeld := hHeld rfl
                      clear hK K
                      try simp only [Act.put, List.setIfInBounds_toArray, List.set_cons_zero, List.set_cons_succ]
                      replace r14 := Kt.row_on (Kt.balloc (Below.refl _ xx) (.cells #[.int .i64 mak, .int .i64 nam, .int .i64 ser, .int .i64 cfs] 3)) r14
                      have r37 := heap_alloc_new xx (.cells #[.int .i64 mak, .int .i64 nam, .int .i64 ser, .int .i64 cfs] 3)
                      generalize hk37 : xx.heap.size = k37 at *
                      clear hk37
                      generalize xx.alloc (.cells #[.int .i64 mak, .int .i64 nam, .int .i64 ser, .int .i64 cfs] 3) = xx at *
                      refine Kt.G.one 4 { dst := some 69, op := Op.call { callee := Callee.value (Operand.func 36), args := #[Operand.tmp 68], argTypes := #[3] }, type := 9, pos := "desc.go:61", after := #[{ on := 3, ground := Ground.data }, { on := 1, ground := Ground.chain }], guard := none } rfl (by kernel_rfl) (by rfl) (fun K hK => ?_)
                      refine Kt.wp_fv _ _ _ _ _ [.int .i64 usb] rfl rfl rfl egWord ?_
                      refine (HW1.out _).mono ?_; rintro en xx ⟨rfl, hb⟩
                      refine hK.out _ _ (fun _ => hHeld.on hb) (fun hHeld => ?_)
                      have hHeld := hHeld rfl
                      clear hK K
                      try simp only [Act.put, List.setIfInBounds_toArray, List.set_cons_zero, List.set_cons_succ]
                      replace r14 := Kt.row_on hb r14
                      replace r37 := Kt.row_on hb r37
                      clear hb
                      refine Kt.G.takeP 5 { dst := some 70, op := Op.binOp BinOp.add 9 (Operand.tmp 66) (Operand.tmp 69) 9, type := 9, pos := "desc.go:61", after := #[{ on := 1, ground := Ground.data }, { on := 4, ground := Ground.data }], guard := none } ?_ (fun _ => hHeld) rfl (by kernel_rfl) (fun _ _ _ h => h) (by rfl) ?_ ?_
                      rotate_left
                      · intro wq; go_simp; try with_reducible rfl
                      try simp only [Act.put, List.setIfInBounds_toArray, List.set_cons_zero, List.set_cons_succ]
                  case' g33 =>
                    refine Kt.wp_run (.slice (some ⟨xx.heap.size, 0, none⟩) 4 4) (xx.alloc (.cells #[.int .i64 mak, .int .i64 nam, .int .i64 ser, .int .i64 cfs] 3)) (by kernel_rfl) ?_
                    refine hK.out _ _ (fun _ => hHeld.alloc _) (fun hHeld => ?_)
                    have hHeld := hHeld rfl
                    clear hK K
                    try simp only [Act.put, List.setIfInBounds_toArray, List.set_cons_zero, List.set_cons_succ]
                    replace r0 := Kt.row_on (Kt.balloc (Below.refl _ xx) (.cells #[.int .i64 mak, .int .i64 nam, .int .i64 ser, .int .i64 cfs] 3)) r0
                    replace r14 := Kt.row_on (Kt.balloc (Below.refl _ xx) (.cells #[.int .i64 mak, .int .i64 nam, .int .i64 ser, .int .i64 cfs] 3)) r14
                    have r37 := heap_alloc_new xx (.cells #[.int .i64 mak, .int .i64 nam, .int .i64 ser, .int .i64 cfs] 3)
                    generalize hk37 : xx.heap.size = k37 at *
                    clear hk37
                    generalize xx.alloc (.cells #[.int .i64 mak, .int .i64 nam, .int .i64 ser, .int .i64 cfs] 3) = xx at *
                    refine Kt.G.one 1 { dst := some 66, op := Op.call { callee := Callee.value (Operand.func 35), args := #[Operand.tmp 65], argTypes := #[103] }, type := 9, pos := "desc.go:61", after := #[{ on := 0, ground := Ground.data }], guard := none } rfl (by kernel_rfl) (by rfl) (fun K hK => ?_)
                    refine Kt.wp_fv _ _ _ _ _ [.slice (some ⟨k0, 0, none⟩) 2 2] rfl rfl rfl egPut ?_
                    refine (HP2.out _ _ r0).mono ?_; rintro en xx ⟨rfl, hb⟩
                    refine hK.out _ _ (fun _ => hHeld.on hb) (fun hHeld => ?_)
                    have hHeld := hHeld rfl
                    clear hK K
                    try simp only [Act.put, List.setIfInBounds_toArray, List.set_cons_zero, List.set_cons_succ]
                    clear r0
                    replace r14 := Kt.row_on hb r14
                    replace r37 := Kt.row_on hb r37
                    clear hb
                    refine Kt.G.one 4 { dst := some 69, op := Op.call { callee := Callee.value (Operand.func 36), args := #[Operand.tmp 68], argTypes := #[3] }, type := 9, pos := "desc.go:61", after := #[{ on := 3, ground := Ground.data }, { on := 1, ground := Ground.chain }], guard := none } rfl (by kernel_rfl) (by rfl) (fun K hK => ?_)
                    refine Kt.wp_fv _ _ _ _ _ [.int .i64 usb] rfl rfl rfl egWord ?_
                    refine (HW1.out _).mono ?_; rintro en xx ⟨rfl, hb⟩
                    refine hK.out _ _ (fun _ => hHeld.on hb) (fun hHeld => ?_)
                    have hHeld := hHeld rfl
                    clear hK K
                    try simp only [Act.put, List.setIfInBounds_toArray, List.set_cons_zero, List.set_cons_succ]
                    replace r14 := Kt.row_on hb r14
                    replace r37 := Kt.row_on hb r37
                    clear hb
                    refine Kt.G.takeP 5 { dst := some 70, op := Op.binOp BinOp.add 9 (Operand.tmp 66) (Operand.tmp 69) 9, type := 9, pos := "desc.go:61", after := #[{ on := 1, ground := Ground.data }, { on := 4, ground := Ground.data }], guard := none } ?_ (fun _ => hHeld) rfl (by kernel_rfl) (fun _ _ _ h => h) (by rfl) ?_ ?_
                    rotate_left
                    · intro wq; go_simp; try with_reducible rfl
                    try simp only [Act.put, List.setIfInBounds_toArray, List.set_cons_zero, List.set_cons_succ]
                case' g6 =>
                  refine Kt.wp_run (.slice (some ⟨xx.heap.size, 0, none⟩) 4 4) (xx.alloc (.cells #[.int .i64 mak, .int .i64 nam, .int .i64 ser, .int .i64 cfs] 3)) (by kernel_rfl) ?_
                  refine hK.out _ _ (fun _ => hHeld.alloc _) (fun hHeld => ?_)
                  have hHeld := hHeld rfl
                  clear hK K
                  try simp only [Act.put, List.setIfInBounds_toArray, List.set_cons_zero, List.set_cons_succ]
                  replace r0 := Kt.row_on (Kt.balloc (Below.refl _ xx) (.cells #[.int .i64 mak, .int .i64 nam, .int .i64 ser, .int .i64 cfs] 3)) r0
                  have r37 := heap_alloc_new xx (.cells #[.int .i64 mak, .int .i64 nam, .int .i64 ser, .int .i64 cfs] 3)
                  generalize hk37 : xx.heap.size = k37 at *
                  clear hk37
                  generalize xx.alloc (.cells #[.int .i64 mak, .int .i64 nam, .int .i64 ser, .int .i64 cfs] 3) = xx at *
                  refine Kt.G.two 1 14 { dst := some 66, op := Op.call { callee := Callee.value (Operand.func 35), args := #[Operand.tmp 65], argTypes := #[103] }, type := 9, pos := "desc.go:61", after := #[{ on := 0, ground := Ground.data }], guard := none } { dst := some 79, op := Op.buildSlice 103 4 #[(0, Operand.tmp 72), (1, Operand.tmp 74), (2, Operand.tmp 76), (3, Operand.tmp 78)], type := 103, pos := "desc.go:61", after := #[{ on := 7, ground := Ground.data }, { on := 9, ground := Ground.data }, { on := 11, ground := Ground.data }, { on := 13, ground := Ground.data }], guard := none } rfl rfl (by kernel_rfl) (by rfl) (by rfl) (fun K hK => ?g44) (fun K hK => ?g45)
                  case' g44 =>
                    refine Kt.wp_fv _ _ _ _ _ [.slice (some ⟨k0, 0, none⟩) 2 2] rfl rfl rfl egPut ?_
                    refine (HP2.out _ _ r0).mono ?_; rintro en xx ⟨rfl, hb⟩
                    refine hK.out _ _ (fun _ => hHeld.on hb) (fun hHeld => ?_)
                    have hHeld := hHeld rfl
                    clear hK K
                    try simp only [Act.put, List.setIfInBounds_toArray, List.set_cons_zero, List.set_cons_succ]
                    clear r0
                    replace r37 := Kt.row_on hb r37
                    clear hb
                    refine Kt.G.two 4 14 { dst := some 69, op := Op.call { callee := Callee.value (Operand.func 36), args := #[Operand.tmp 68], argTypes := #[3] }, type := 9, pos := "desc.go:61", after := #[{ on := 3, ground := Ground.data }, { on := 1, ground := Ground.chain }], guard := none } { dst := some 79, op := Op.buildSlice 103 4 #[(0, Operand.tmp 72), (1, Operand.tmp 74), (2, Operand.tmp 76), (3, Operand.tmp 78)], type := 103, pos := "desc.go:61", after := #[{ on := 7, ground := Ground.data }, { on := 9, ground := Ground.data }, { on := 11, ground := Ground.data }, { on := 13, ground := Ground.data }], guard := none } rfl rfl (by kernel_rfl) (by rfl) (by rfl) (fun K hK => ?g46) (fun K hK => ?g47)
                    case' g46 =>
                      refine Kt.wp_fv _ _ _ _ _ [.int .i64 usb] rfl rfl rfl egWord ?_
                      refine (HW1.out _).mono ?_; rintro en xx ⟨rfl, hb⟩
                      refine hK.out _ _ (fun _ => hHeld.on hb) (fun hHeld => ?_)
                      have hHeld := hHeld rfl
                      clear hK K
                      try simp only [Act.put, List.setIfInBounds_toArray, List.set_cons_zero, List.set_cons_succ]
                      replace r37 := Kt.row_on hb r37
                      clear hb
                      refine Kt.G.takeP 5 { dst := some 70, op := Op.binOp BinOp.add 9 (Operand.tmp 66) (Operand.tmp 69) 9, type := 9, pos := "desc.go:61", after := #[{ on := 1, ground := Ground.data }, { on := 4, ground := Ground.data }], guard := none } ?_ (fun _ => hHeld) rfl (by kernel_rfl) (fun _ _ _ h => h) (by rfl) ?_ ?_
                      rotate_left
                      · intro wq; go_simp; try with_reducible rfl
                      try simp only [Act.put, List.setIfInBounds_toArray, List.set_cons_zero, List.set_cons_succ]
                      refine Kt.G.one 14 { dst := some 79, op := Op.buildSlice 103 4 #[(0, Operand.tmp 72), (1, Operand.tmp 74), (2, Operand.tmp 76), (3, Operand.tmp 78)], type := 103, pos := "desc.go:61", after := #[{ on := 7, ground := Ground.data }, { on := 9, ground := Ground.data }, { on := 11, ground := Ground.data }, { on := 13, ground := Ground.data }], guard := none } rfl (by kernel_rfl) (by rfl) (fun K hK => ?_)
                      refine Kt.wp_run (.slice (some ⟨xx.heap.size, 0, none⟩) 4 4) (xx.alloc (.cells #[.int .i64 cls, .int .i64 sub, .int .i64 pro, .int .i64 m0] 3)) (by kernel_rfl) ?_
                      refine hK.out _ _ (fun _ => hHeld.alloc _) (fun hHeld => ?_)
                      have hHeld := hHeld rfl
                      clear hK K
                      try simp only [Act.put, List.setIfInBounds_toArray, List.set_cons_zero, List.set_cons_succ]
                      replace r37 := Kt.row_on (Kt.balloc (Below.refl _ xx) (.cells #[.int .i64 cls, .int .i64 sub, .int .i64 pro, .int .i64 m0] 3)) r37
                      have r14 := heap_alloc_new xx (.cells #[.int .i64 cls, .int .i64 sub, .int .i64 pro, .int .i64 m0] 3)
                      generalize hk14 : xx.heap.size = k14 at *
                      clear hk14
                      generalize xx.alloc (.cells #[.int .i64 cls, .int .i64 sub, .int .i64 pro, .int .i64 m0] 3) = xx at *
                    case' g47 =>
                      refine Kt.wp_run (.slice (some ⟨xx.heap.size, 0, none⟩) 4 4) (xx.alloc (.cells #[.int .i64 cls, .int .i64 sub, .int .i64 pro, .int .i64 m0] 3)) (by kernel_rfl) ?_
                      refine hK.out _ _ (fun _ => hHeld.alloc _) (fun hHeld => ?_)
                      have hHeld := hHeld rfl
                      clear hK K
                      try simp only [Act.put, List.setIfInBounds_toArray, List.set_cons_zero, List.set_cons_succ]
                      replace r37 := Kt.row_on (Kt.balloc (Below.refl _ xx) (.cells #[.int .i64 cls, .int .i64 sub, .int .i64 pro, .int .i64 m0] 3)) r37
                      have r14 := heap_alloc_new xx (.cells #[.int .i64 cls, .int .i64 sub, .int .i64 pro, .int .i64 m0] 3)
                      generalize hk14 : xx.heap.size = k14 at *
                      clear hk14
                      generalize xx.alloc (.cells #[.int .i64 cls, .int .i64 sub, .int .i64 pro, .int .i64 m0] 3) = xx at *
                      refine Kt.G.one 4 { dst := some 69, op := Op.call { callee := Callee.value (Operand.func 36), args := #[Operand.tmp 68], argTypes := #[3] }, type := 9, pos := "desc.go:61", after := #[{ on := 3, ground := Ground.data }, { on := 1, ground := Ground.chain }], guard := none } rfl (by kernel_rfl) (by rfl) (fun K hK => ?_)
                      refine Kt.wp_fv _ _ _ _ _ [.int .i64 usb] rfl rfl rfl egWord ?_
                      refine (HW1.out _).mono ?_; rintro en xx ⟨rfl, hb⟩
                      refine hK.out _ _ (fun _ => hHeld.on hb) (fun hHeld => ?_)
                      have hHeld := hHeld rfl
                      clear hK K
                      try simp only [Act.put, List.setIfInBounds_toArray, List.set_cons_zero, List.set_cons_succ]
                      replace r14 := Kt.row_on hb r14
                      replace r37 := Kt.row_on hb r37
                      clear hb
                      refine Kt.G.takeP 5 { dst := some 70, op := Op.binOp BinOp.add 9 (Operand.tmp 66) (Operand.tmp 69) 9, type := 9, pos := "desc.go:61", after := #[{ on := 1, ground := Ground.data }, { on := 4, ground := Ground.data }], guard := none } ?_ (fun _ => hHeld) rfl (by kernel_rfl) (fun _ _ _ h => h) (by rfl) ?_ ?_
                      rotate_left
                      · intro wq; go_simp; try with_reducible rfl
                      try simp only [Act.put, List.setIfInBounds_toArray, List.set_cons_zero, List.set_cons_succ]
                  case' g45 =>
                    refine Kt.wp_run (.slice (some ⟨xx.heap.size, 0, none⟩) 4 4) (xx.alloc (.cells #[.int .i64 cls, .int .i64 sub, .int .i64 pro, .int .i64 m0] 3)) (by kernel_rfl) ?_
                    refine hK.out _ _ (fun _ => hHeld.alloc _) (fun hHeld => ?_)
                    have hHeld := hHeld rfl
                    clear hK K
                    try simp only [Act.put, List.setIfInBounds_toArray, List.set_cons_zero, List.set_cons_succ]
                    replace r0 := Kt.row_on (Kt.balloc (Below.refl _ xx) (.cells #[.int .i64 cls, .int .i64 sub, .int .i64 pro, .int .i64 m0] 3)) r0
                    replace r37 := Kt.row_on (Kt.balloc (Below.refl _ xx) (.cells #[.int .i64 cls, .int .i64 sub, .int .i64 pro, .int .i64 m0] 3)) r37
                    have r14 := heap_alloc_new xx (.cells #[.int .i64 cls, .int .i64 sub, .int .i64 pro, .int .i64 m0] 3)
                    generalize hk14 : xx.heap.size = k14 at *
                    clear hk14
                    generalize xx.alloc (.cells #[.int .i64 cls, .int .i64 sub, .int .i64 pro, .int .i64 m0] 3) = xx at *
                    refine Kt.G.one 1 { dst := some 66, op := Op.call { callee := Callee.value (Operand.func 35), args := #[Operand.tmp 65], argTypes := #[103] }, type := 9, pos := "desc.go:61", after := #[{ on := 0, ground := Ground.data }], guard := none } rfl (by kernel_rfl) (by rfl) (fun K hK => ?_)
                    refine Kt.wp_fv _ _ _ _ _ [.slice (some ⟨k0, 0, none⟩) 2 2] rfl rfl rfl egPut ?_
                    refine (HP2.out _ _ r0).mono ?_; rintro en xx ⟨rfl, hb⟩
                    refine hK.out _ _ (fun _ => hHeld.on hb) (fun hHeld => ?_)
                    have hHeld := hHeld rfl
                    clear hK K
                    try simp only [Act.put, List.setIfInBounds_toArray, List.set_cons_zero, List.set_cons_succ]
                    clear r0
                    replace r14 := Kt.row_on hb r14
                    replace r37 := Kt.row_on hb r37
                    clear hb
                    refine Kt.G.one 4 { dst := some 69, op := Op.call { callee := Callee.value (Operand.func 36), args := #[Operand.tmp 68], argTypes := #[3] }, type := 9, pos := "desc.go:61", after := #[{ on := 3, ground := Ground.data }, { on := 1, ground := Ground.chain }], guard := none } rfl (by kernel_rfl) (by rfl) (fun K hK => ?_)
                    refine Kt.wp_fv _ _ _ _ _ [.int .i64 usb] rfl rfl rfl egWord ?_
                    refine (HW1.out _).mono ?_; rintro en xx ⟨rfl, hb⟩
                    refine hK.out _ _ (fun _ => hHeld.on hb) (fun hHeld => ?_)
                    have hHeld := hHeld rfl
                    clear hK K
                    try simp only [Act.put, List.setIfInBounds_toArray, List.set_cons_zero, List.set_cons_succ]
                    replace r14 := Kt.row_on hb r14
                    replace r37 := Kt.row_on hb r37
                    clear hb
                    refine Kt.G.takeP 5 { dst := some 70, op := Op.binOp BinOp.add 9 (Operand.tmp 66) (Operand.tmp 69) 9, type := 9, pos := "desc.go:61", after := #[{ on := 1, ground := Ground.data }, { on := 4, ground := Ground.data }], guard := none } ?_ (fun _ => hHeld) rfl (by kernel_rfl) (fun _ _ _ h => h) (by rfl) ?_ ?_
                    rotate_left
                    · intro wq; go_simp; try with_reducible rfl
                    try simp only [Act.put, List.setIfInBounds_toArray, List.set_cons_zero, List.set_cons_succ]
              case' g2 =>
                refine Kt.wp_run (.slice (some ⟨xx.heap.size, 0, none⟩) 4 4) (xx.alloc (.cells #[.int .i64 cls, .int .i64 sub, .int .i64 pro, .int .i64 m0] 3)) (by kernel_rfl) ?_
                refine hK.out _ _ (fun _ => hHeld.alloc _) (fun hHeld => ?_)
                have hHeld := hHeld rfl
                clear hK K
                try simp only [Act.put, List.setIfInBounds_toArray, List.set_cons_zero, List.set_cons_succ]
                have r14 := heap_alloc_new xx (.cells #[.int .i64 cls, .int .i64 sub, .int .i64 pro, .int .i64 m0] 3)
                generalize hk14 : xx.heap.size = k14 at *
                clear hk14
                generalize xx.alloc (.cells #[.int .i64 cls, .int .i64 sub, .int .i64 pro, .int .i64 m0] 3) = xx at *
                refine Kt.G.two 0 37 { dst := some 65, op := Op.buildSlice 103 2 #[(0, Operand.const (Value.int IntKind.i64 18)), (1, Operand.const (Value.int IntKind.i64 1))], type := 103, pos := "desc.go:61", after := #[], guard := none } { dst := some 102, op := Op.buildSlice 103 4 #[(0, Operand.tmp 95), (1, Operand.tmp 97), (2, Operand.tmp 99), (3, Operand.tmp 101)], type := 103, pos := "desc.go:61", after := #[{ on := 30, ground := Ground.data }, { on := 32, ground := Ground.data }, { on := 34, ground := Ground.data }, { on := 36, ground := Ground.data }], guard := none } rfl rfl (by kernel_rfl) (by rfl) (by rfl) (fun K hK => ?g48) (fun K hK => ?g49)
                case' g48 =>
                  refine Kt.wp_run (.slice (some ⟨xx.heap.size, 0, none⟩) 2 2) (xx.alloc (.cells #[.int .i64 18, .int .i64 1] 3)) (by kernel_rfl) ?_
                  refine hK.out _ _ (fun _ => hHeld.alloc _) (fun hHeld => ?_)
                  have hHeld := hHeld rfl
                  clear hK K
                  try simp only [Act.put, List.setIfInBounds_toArray, List.set_cons_zero, List.set_cons_succ]
                  replace r14 := Kt.row_on (Kt.balloc (Below.refl _ xx) (.cells #[.int .i64 18, .int .i64 1] 3)) r14
                  have r0 := heap_alloc_new xx (.cells #[.int .i64 18, .int .i64 1] 3)
                  generalize hk0 : xx.heap.size = k0 at *
                  clear hk0
                  generalize xx.alloc (.cells #[.int .i64 18, .int .i64 1] 3) = xx at *
                  refine Kt.G.two 1 37 { dst := some 66, op := Op.call { callee := Callee.value (Operand.func 35), args := #[Operand.tmp 65], argTypes := #[103] }, type := 9, pos := "desc.go:61", after := #[{ on := 0, ground := Ground.data }], guard := none } { dst := some 102, op := Op.buildSlice 103 4 #[(0, Operand.tmp 95), (1, Operand.tmp 97), (2, Operand.tmp 99), (3, Operand.tmp 101)], type := 103, pos := "desc.go:61", after := #[{ on := 30, ground := Ground.data }, { on := 32, ground := Ground.data }, { on := 34, ground := Ground.data }, { on := 36, ground := Ground.data }], guard := none } rfl rfl (by kernel_rfl) (by rfl) (by rfl) (fun K hK => ?g50) (fun K hK => ?g51)
                  case' g50 =>
                    refine Kt.wp_fv _ _ _ _ _ [.slice (some ⟨k0, 0, none⟩) 2 2] rfl rfl rfl egPut ?_
                    refine (HP2.out _ _ r0).mono ?_; rintro en xx ⟨rfl, hb⟩
                    refine hK.out _ _ (fun _ => hHeld.on hb) (fun hHeld => ?_)
                    have hHeld := hHeld rfl
                    clear hK K
                    try simp only [Act.put, List.setIfInBounds_toArray, List.set_cons_zero, List.set_cons_succ]
                    clear r0
                    replace r14 := Kt.row_on hb r14
                    clear hb
                    refine Kt.G.two 4 37 { dst := some 69, op := Op.call { callee := Callee.value (Operand.func 36), args := #[Operand.tmp 68], argTypes := #[3] }, type := 9, pos := "desc.go:61", after := #[{ on := 3, ground := Ground.data }, { on := 1, ground := Ground.chain }], guard := none } { dst := some 102, op := Op.buildSlice 103 4 #[(0, Operand.tmp 95), (1, Operand.tmp 97), (2, Operand.tmp 99), (3, Operand.tmp 101)], type := 103, pos := "desc.go:61", after := #[{ on := 30, ground := Ground.data }, { on := 32, ground := Ground.data }, { on := 34, ground := Ground.data }, { on := 36, ground := Ground.data }], guard := none } rfl rfl (by kernel_rfl) (by rfl) (by rfl) (fun K hK => ?g52) (fun K hK => ?g53)
                    case' g52 =>
                      refine Kt.wp_fv _ _ _ _ _ [.int .i64 usb] rfl rfl rfl egWord ?_
                      refine (HW1.out _).mono ?_; rintro en xx ⟨rfl, hb⟩
                      refine hK.out _ _ (fun _ => hHeld.on hb) (fun hHeld => ?_)
                      have hHeld := hHeld rfl
                      clear hK K
                      try simp only [Act.put, List.setIfInBounds_toArray, List.set_cons_zero, List.set_cons_succ]
                      replace r14 := Kt.row_on hb r14
                      clear hb
                      refine Kt.G.takeP 5 { dst := some 70, op := Op.binOp BinOp.add 9 (Operand.tmp 66) (Operand.tmp 69) 9, type := 9, pos := "desc.go:61", after := #[{ on := 1, ground := Ground.data }, { on := 4, ground := Ground.data }], guard := none } ?_ (fun _ => hHeld) rfl (by kernel_rfl) (fun _ _ _ h => h) (by rfl) ?_ ?_
                      rotate_left
                      · intro wq; go_simp; try with_reducible rfl
                      try simp only [Act.put, List.setIfInBounds_toArray, List.set_cons_zero, List.set_cons_succ]
                      refine Kt.G.two 15 37 { dst := some 80, op := Op.call { callee := Callee.value (Operand.func 35), args := #[Operand.tmp 79], argTypes := #[103] }, type := 9, pos := "desc.go:61", after := #[{ on := 14, ground := Ground.data }, { on := 4, ground := Ground.chain }], guard := none } { dst := some 102, op := Op.buildSlice 103 4 #[(0, Operand.tmp 95), (1, Operand.tmp 97), (2, Operand.tmp 99), (3, Operand.tmp 101)], type := 103, pos := "desc.go:61", after := #[{ on := 30, ground := Ground.data }, { on := 32, ground := Ground.data }, { on := 34, ground := Ground.data }, { on := 36, ground := Ground.data }], guard := none } rfl rfl (by kernel_rfl) (by rfl) (by rfl) (fun K hK => ?g54) (fun K hK => ?g55)
                      case' g54 =>
                        refine Kt.wp_fv _ _ _ _ _ [.slice (some ⟨k14, 0, none⟩) 4 4] rfl rfl rfl egPut ?_
                        refine (HP4.out _ _ r14).mono ?_; rintro en xx ⟨rfl, hb⟩
                        refine hK.out _ _ (fun _ => hHeld.on hb) (fun hHeld => ?_)
                        have hHeld := hHeld rfl
                        clear hK K
                        try simp only [Act.put, List.setIfInBounds_toArray, List.set_cons_zero, List.set_cons_succ]
                        clear r14
                        clear hb
                        refine Kt.G.takeP 16 { dst := some 81, op := Op.binOp BinOp.add 9 (Operand.tmp 70) (Operand.tmp 80) 9, type := 9, pos := "desc.go:61", after := #[{ on := 5, ground := Ground.data }, { on := 15, ground := Ground.data }], guard := none } ?_ (fun _ => hHeld) rfl (by kernel_rfl) (fun _ _ _ h => h) (by rfl) ?_ ?_
                        rotate_left
                        · intro wq; go_simp; try with_reducible rfl
                        try simp only [Act.put, List.setIfInBounds_toArray, List.set_cons_zero, List.set_cons_succ]
                        refine Kt.G.two 19 37 { dst := some 84, op := Op.call { callee := Callee.value (Operand.func 36), args := #[Operand.tmp 83], argTypes := #[3] }, type := 9, pos := "desc.go:61", after := #[{ on := 18, ground := Ground.data }, { on := 15, ground := Ground.chain }], guard := none } { dst := some 102, op := Op.buildSlice 103 4 #[(0, Operand.tmp 95), (1, Operand.tmp 97), (2, Operand.tmp 99), (3, Operand.tmp 101)], type := 103, pos := "desc.go:61", after := #[{ on := 30, ground := Ground.data }, { on := 32, ground := Ground.data }, { on := 34, ground := Ground.data }, { on := 36, ground := Ground.data }], guard := none } rfl rfl (by kernel_rfl) (by rfl) (by rfl) (fun K hK => ?g56) (fun K hK => ?g57)
                        case' g56 =>
                          refine Kt.wp_fv _ _ _ _ _ [.int .i64 ven] rfl rfl rfl egWord ?_
                          refine (HW2.out _).mono ?_; rintro en xx ⟨rfl, hb⟩
                          refine hK.out _ _ (fun _ => hHeld.on hb) (fun hHeld => ?_)
                          have hHeld := hHeld rfl
                          clear hK K
                          try simp only [Act.put, List.setIfInBounds_toArray, List.set_cons_zero, List.set_cons_succ]
                          clear hb
                          refine Kt.G.takeP 20 { dst := some 85, op := Op.binOp BinOp.add 9 (Operand.tmp 81) (Operand.tmp 84) 9, type := 9, pos := "desc.go:61", after := #[{ on := 16, ground := Ground.data }, { on := 19, ground := Ground.data }], guard := none } ?_ (fun _ => hHeld) rfl (by kernel_rfl) (fun _ _ _ h => h) (by rfl) ?_ ?_
                          rotate_left
                          · intro wq; go_simp; try with_reducible rfl
                          try simp only [Act.put, List.setIfInBounds_toArray, List.set_cons_zero, List.set_cons_succ]
                          refine Kt.G.two 23 37 { dst := some 88, op := Op.call { callee := Callee.value (Operand.func 36), args := #[Operand.tmp 87], argTypes := #[3] }, type := 9, pos := "desc.go:61", after := #[{ on := 22, ground := Ground.data }, { on := 19, ground := Ground.chain }], guard := none } { dst := some 102, op := Op.buildSlice 103 4 #[(0, Operand.tmp 95), (1, Operand.tmp 97), (2, Operand.tmp 99), (3, Operand.tmp 101)], type := 103, pos := "desc.go:61", after := #[{ on := 30, ground := Ground.data }, { on := 32, ground := Ground.data }, { on := 34, ground := Ground.data }, { on := 36, ground := Ground.data }], guard := none } rfl rfl (by kernel_rfl) (by rfl) (by rfl) (fun K hK => ?g58) (fun K hK => ?g59)
                          case' g58 =>
                            refine Kt.wp_fv _ _ _ _ _ [.int .i64 prd] rfl rfl rfl egWord ?_
                            refine (HW3.out _).mono ?_; rintro en xx ⟨rfl, hb⟩
                            refine hK.out _ _ (fun _ => hHeld.on hb) (fun hHeld => ?_)
                            have hHeld := hHeld rfl
                            clear hK K
                            try simp only [Act.put, List.setIfInBounds_toArray, List.set_cons_zero, List.set_cons_succ]
                            clear hb
                            refine Kt.G.takeP 24 { dst := some 89, op := Op.binOp BinOp.add 9 (Operand.tmp 85) (Operand.tmp 88) 9, type := 9, pos := "desc.go:61", after := #[{ on := 20, ground := Ground.data }, { on := 23, ground := Ground.data }], guard := none } ?_ (fun _ => hHeld) rfl (by kernel_rfl) (fun _ _ _ h => h) (by rfl) ?_ ?_
                            rotate_left
                            · intro wq; go_simp; try with_reducible rfl
                            try simp only [Act.put, List.setIfInBounds_toArray, List.set_cons_zero, List.set_cons_succ]
                            refine Kt.G.two 27 37 { dst := some 92, op := Op.call { callee := Callee.value (Operand.func 36), args := #[Operand.tmp 91], argTypes := #[3] }, type := 9, pos := "desc.go:61", after := #[{ on := 26, ground := Ground.data }, { on := 23, ground := Ground.chain }], guard := none } { dst := some 102, op := Op.buildSlice 103 4 #[(0, Operand.tmp 95), (1, Operand.tmp 97), (2, Operand.tmp 99), (3, Operand.tmp 101)], type := 103, pos := "desc.go:61", after := #[{ on := 30, ground := Ground.data }, { on := 32, ground := Ground.data }, { on := 34, ground := Ground.data }, { on := 36, ground := Ground.data }], guard := none } rfl rfl (by kernel_rfl) (by rfl) (by rfl) (fun K hK => ?g60) (fun K hK => ?g61)
                            case' g60 =>
                              refine Kt.wp_fv _ _ _ _ _ [.int .i64 rel] rfl rfl rfl egWord ?_
                              refine (HW4.out _).mono ?_; rintro en xx ⟨rfl, hb⟩
                              refine hK.out _ _ (fun _ => hHeld.on hb) (fun hHeld => ?_)
                              have hHeld := hHeld rfl
                              clear hK K
                              try simp only [Act.put, List.setIfInBounds_toArray, List.set_cons_zero, List.set_cons_succ]
                              clear hb
                              refine Kt.G.takeP 28 { dst := some 93, op := Op.binOp BinOp.add 9 (Operand.tmp 89) (Operand.tmp 92) 9, type := 9, pos := "desc.go:61", after := #[{ on := 24, ground := Ground.data }, { on := 27, ground := Ground.data }], guard := none } ?_ (fun _ => hHeld) rfl (by kernel_rfl) (fun _ _ _ h => h) (by rfl) ?_ ?_
                              rotate_left
                              · intro wq; go_simp; try with_reducible rfl
                              try simp only [Act.put, List.setIfInBounds_toArray, List.set_cons_zero, List.set_cons_succ]
                              refine Kt.G.one 37 { dst := some 102, op := Op.buildSlice 103 4 #[(0, Operand.tmp 95), (1, Operand.tmp 97), (2, Operand.tmp 99), (3, Operand.tmp 101)], type := 103, pos := "desc.go:61", after := #[{ on := 30, ground := Ground.data }, { on := 32, ground := Ground.data }, { on := 34, ground := Ground.data }, { on := 36, ground := Ground.data }], guard := none } rfl (by kernel_rfl) (by rfl) (fun K hK => ?_)
                              refine Kt.wp_run (.slice (some ⟨xx.heap.size, 0, none⟩) 4 4) (xx.alloc (.cells #[.int .i64 mak, .int .i64 nam, .int .i64 ser, .int .i64 cfs] 3)) (by kernel_rfl) ?_
                              refine hK.out _ _ (fun _ => hHeld.alloc _) (fun hHeld => ?_)
                              have hHeld := hHeld rfl
                              clear hK K
                              try simp only [Act.put, List.setIfInBounds_toArray, List.set_cons_zero, List.set_cons_succ]
                              have r37 := heap_alloc_new xx (.cells #[.int .i64 mak, .int .i64 nam, .int .i64 ser, .int .i64 cfs] 3)
                              generalize hk37 : xx.heap.size = k37 at *
                              clear hk37
                              generalize xx.alloc (.cells #[.int .i64 mak, .int .i64 nam, .int .i64 ser, .int .i64 cfs] 3) = xx at *
                            case' g61 =>
                              refine Kt.wp_run (.slice (some ⟨xx.heap.size, 0, none⟩) 4 4) (xx.alloc (.cells #[.int .i64 mak, .int .i64 nam, .int .i64 ser, .int .i64 cfs] 3)) (by kernel_rfl) ?_
                              refine hK.out _ _ (fun _ => hHeld.alloc _) (fun hHeld => ?_)
                              have hHeld := hHeld rfl
                              clear hK K
                              try simp only [Act.put, List.setIfInBounds_toArray, List.set_cons_zero, List.set_cons_succ]
                              have r37 := heap_alloc_new xx (.cells #[.int .i64 mak, .int .i64 nam, .int .i64 ser, .int .i64 cfs] 3)
                              generalize hk37 : xx.heap.size = k37 at *
                              clear hk37
                              generalize xx.alloc (.cells #[.int .i64 mak, .int .i64 nam, .int .i64 ser, .int .i64 cfs] 3) = xx at *
                              refine Kt.G.one 27 { dst := some 92, op := Op.call { callee := Callee.value (Operand.func 36), args := #[Operand.tmp 91], argTypes := #[3] }, type := 9, pos := "desc.go:61", after := #[{ on := 26, ground := Ground.data }, { on := 23, ground := Ground.chain }], guard := none } rfl (by kernel_rfl) (by rfl) (fun K hK => ?_)
                              refine Kt.wp_fv _ _ _ _ _ [.int .i64 rel] rfl rfl rfl egWord ?_
                              refine (HW4.out _).mono ?_; rintro en xx ⟨rfl, hb⟩
                              refine hK.out _ _ (fun _ => hHeld.on hb) (fun hHeld => ?_)
                              have hHeld := hHeld rfl
                              clear hK K
                              try simp only [Act.put, List.setIfInBounds_toArray, List.set_cons_zero, List.set_cons_succ]
                              replace r37 := Kt.row_on hb r37
                              clear hb
                              refine Kt.G.takeP 28 { dst := some 93, op := Op.binOp BinOp.add 9 (Operand.tmp 89) (Operand.tmp 92) 9, type := 9, pos := "desc.go:61", after := #[{ on := 24, ground := Ground.data }, { on := 27, ground := Ground.data }], guard := none } ?_ (fun _ => hHeld) rfl (by kernel_rfl) (fun _ _ _ h => h) (by rfl) ?_ ?_
                              rotate_left
                              · intro wq; go_simp; try with_reducible rfl
                              try simp only [Act.put, List.setIfInBounds_toArray, List.set_cons_zero, List.set_cons_succ]
                          case' g59 =>
                            refine Kt.wp_run (.slice (some ⟨xx.heap.size, 0, none⟩) 4 4) (xx.alloc (.cells #[.int .i64 mak, .int .i64 nam, .int .i64 ser, .int .i64 cfs] 3)) (by kernel_rfl) ?_
                            refine hK.out _ _ (fun _ => hHeld.alloc _) (fun hHeld => ?_)
                            have hHeld := hHeld rfl
                            clear hK K
                            try simp only [Act.put, List.setIfInBounds_toArray, List.set_cons_zero, List.set_cons_succ]
                            have r37 := heap_alloc_new xx (.cells #[.int .i64 mak, .int .i64 nam, .int .i64 ser, .int .i64 cfs] 3)
                            generalize hk37 : xx.heap.size = k37 at *
                            clear hk37
                            generalize xx.alloc (.cells #[.int .i64 mak, .int .i64 nam, .int .i64 ser, .int .i64 cfs] 3) = xx at *
                            refine Kt.G.one 23 { dst := some 88, op := Op.call { callee := Callee.value (Operand.func 36), args := #[Operand.tmp 87], argTypes := #[3] }, type := 9, pos := "desc.go:61", after := #[{ on := 22, ground := Ground.data }, { on := 19, ground := Ground.chain }], guard := none } rfl (by kernel_rfl) (by rfl) (fun K hK => ?_)
                            refine Kt.wp_fv _ _ _ _ _ [.int .i64 prd] rfl rfl rfl egWord ?_
                            refine (HW3.out _).mono ?_; rintro en xx ⟨rfl, hb⟩
                            refine hK.out _ _ (fun _ => hHeld.on hb) (fun hHeld => ?_)
                            have hHeld := hHeld rfl
                            clear hK K
                            try simp only [Act.put, List.setIfInBounds_toArray, List.set_cons_zero, List.set_cons_succ]
                            replace r37 := Kt.row_on hb r37
                            clear hb
                            refine Kt.G.takeP 24 { dst := some 89, op := Op.binOp BinOp.add 9 (Operand.tmp 85) (Operand.tmp 88) 9, type := 9, pos := "desc.go:61", after := #[{ on := 20, ground := Ground.data }, { on := 23, ground := Ground.data }], guard := none } ?_ (fun _ => hHeld) rfl (by kernel_rfl) (fun _ _ _ h => h) (by rfl) ?_ ?_
                            rotate_left
                            · intro wq; go_simp; try with_reducible rfl
                            try simp only [Act.put, List.setIfInBounds_toArray, List.set_cons_zero, List.set_cons_succ]
                            refine Kt.G.one 27 { dst := some 92, op := Op.call { callee := Callee.value (Operand.func 36), args := #[Operand.tmp 91], argTypes := #[3] }, type := 9, pos := "desc.go:61", after := #[{ on := 26, ground := Ground.data }, { on := 23, ground := Ground.chain }], guard := none } rfl (by kernel_rfl) (by rfl) (fun K hK => ?_)
                            refine Kt.wp_fv _ _ _ _ _ [.int .i64 rel] rfl rfl rfl egWord ?_
                            refine (HW4.out _).mono ?_; rintro en xx ⟨rfl, hb⟩
                            refine hK.out _ _ (fun _ => hHeld.on hb) (fun hHeld => ?_)
                            have hHeld := hHeld rfl
                            clear hK K
                            try simp only [Act.put, List.setIfInBounds_toArray, List.set_cons_zero, List.set_cons_succ]
                            replace r37 := Kt.row_on hb r37
                            clear hb
                            refine Kt.G.takeP 28 { dst := some 93, op := Op.binOp BinOp.add 9 (Operand.tmp 89) (Operand.tmp 92) 9, type := 9, pos := "desc.go:61", after := #[{ on := 24, ground := Ground.data }, { on := 27, ground := Ground.data }], guard := none } ?_ (fun _ => hHeld) rfl (by kernel_rfl) (fun _ _ _ h => h) (by rfl) ?_ ?_
                            rotate_left
                            · intro wq; go_simp; try with_reducible rfl
                            try simp only [Act.put, List.setIfInBounds_toArray, List.set_cons_zero, List.set_cons_succ]
                        case' g57 =>
                          refine Kt.wp_run (.slice (some ⟨xx.heap.size, 0, none⟩) 4 4) (xx.alloc (.cells #[.int .i64 mak, .int .i64 nam, .int .i64 ser, .int .i64 cfs] 3)) (by kernel_rfl) ?_
                          refine hK.out _ _ (fun _ => hHeld.alloc _) (fun hHeld => ?_)
                          have hHeld := hHeld rfl
                          clear hK K
                          try simp only [Act.put, List.setIfInBounds_toArray, List.set_cons_zero, List.set_cons_succ]
                          have r37 := heap_alloc_new xx (.cells #[.int .i64 mak, .int .i64 nam, .int .i64 ser, .int .i64 cfs] 3)
                          generalize hk37 : xx.heap.size = k37 at *
                          clear hk37
                          generalize xx.alloc (.cells #[.int .i64 mak, .int .i64 nam, .int .i64 ser, .int .i64 cfs] 3) = xx at *
                          refine Kt.G.one 19 { dst := some 84, op := Op.call { callee := Callee.value (Operand.func 36), args := #[Operand.tmp 83], argTypes := #[3] }, type := 9, pos := "desc.go:61", after := #[{ on := 18, ground := Ground.data }, { on := 15, ground := Ground.chain }], guard := none } rfl (by kernel_rfl) (by rfl) (fun K hK => ?_)
                          refine Kt.wp_fv _ _ _ _ _ [.int .i64 ven] rfl rfl rfl egWord ?_
                          refine (HW2.out _).mono ?_; rintro en xx ⟨rfl, hb⟩
                          refine hK.out _ _ (fun _ => hHeld.on hb) (fun hHeld => ?_)
                          have hHeld := hHeld rfl
                          clear hK K
                          try simp only [Act.put, List.setIfInBounds_toArray, List.set_cons_zero, List.set_cons_succ]
                          replace r37 := Kt.row_on hb r37
                          clear hb
                          refine Kt.G.takeP 20 { dst := some 85, op := Op.binOp BinOp.add 9 (Operand.tmp 81) (Operand.tmp 84) 9, type := 9, pos := "desc.go:61", after := #[{ on := 16, ground := Ground.data }, { on := 19, ground := Ground.data }], guard := none } ?_ (fun _ => hHeld) rfl (by kernel_rfl) (fun _ _ _ h => h) (by rfl) ?_ ?_
                          rotate_left
                          · intro wq; go_simp; try with_reducible rfl
                          try simp only [Act.put, List.setIfInBounds_toArray, List.set_cons_zero, List.set_cons_succ]
                          refine Kt.G.one 23 { dst := some 88, op := Op.call { callee := Callee.value (Operand.func 36), args := #[Operand.tmp 87], argTypes := #[3] }, type := 9, pos := "desc.go:61", after := #[{ on := 22, ground := Ground.data }, { on := 19, ground := Ground.chain }], guard := none } rfl (by kernel_rfl) (by rfl) (fun K hK => ?_)
                          refine Kt.wp_fv _ _ _ _ _ [.int .i64 prd] rfl rfl rfl egWord ?_
                          refine (HW3.out _).mono ?_; rintro en xx ⟨rfl, hb⟩
                          refine hK.out _ _ (fun _ => hHeld.on hb) (fun hHeld => ?_)
                          have hHeld := hHeld rfl
                          clear hK K
                          try simp only [Act.put, List.setIfInBounds_toArray, List.set_cons_zero, List.set_cons_succ]
                          replace r37 := Kt.row_on hb r37
                          clear hb
                          refine Kt.G.takeP 24 { dst := some 89, op := Op.binOp BinOp.add 9 (Operand.tmp 85) (Operand.tmp 88) 9, type := 9, pos := "desc.go:61", after := #[{ on := 20, ground := Ground.data }, { on := 23, ground := Ground.data }], guard := none } ?_ (fun _ => hHeld) rfl (by kernel_rfl) (fun _ _ _ h => h) (by rfl) ?_ ?_
                          rotate_left
                          · intro wq; go_simp; try with_reducible rfl
                          try simp only [Act.put, List.setIfInBounds_toArray, List.set_cons_zero, List.set_cons_succ]
                          refine Kt.G.one 27 { dst := some 92, op := Op.call { callee := Callee.value (Operand.func 36), args := #[Operand.tmp 91], argTypes := #[3] }, type := 9, pos := "desc.go:61", after := #[{ on := 26, ground := Ground.data }, { on := 23, ground := Ground.chain }], guard := none } rfl (by kernel_rfl) (by rfl) (fun K hK => ?_)
                          refine Kt.wp_fv _ _ _ _ _ [.int .i64 rel] rfl rfl rfl egWord ?_
                          refine (HW4.out _).mono ?_; rintro en xx ⟨rfl, hb⟩
                          refine hK.out _ _ (fun _ => hHeld.on hb) (fun hHeld => ?_)
                          have hHeld := hHeld rfl
                          clear hK K
                          try simp only [Act.put, List.setIfInBounds_toArray, List.set_cons_zero, List.set_cons_succ]
                          replace r37 := Kt.row_on hb r37
                          clear hb
                          refine Kt.G.takeP 28 { dst := some 93, op := Op.binOp BinOp.add 9 (Operand.tmp 89) (Operand.tmp 92) 9, type := 9, pos := "desc.go:61", after := #[{ on := 24, ground := Ground.data }, { on := 27, ground := Ground.data }], guard := none } ?_ (fun _ => hHeld) rfl (by kernel_rfl) (fun _ _ _ h => h) (by rfl) ?_ ?_
                          rotate_left
                          · intro wq; go_simp; try with_reducible rfl
                          try simp only [Act.put, List.setIfInBounds_toArray, List.set_cons_zero, List.set_cons_succ]
                      case' g55 =>
                        refine Kt.wp_run (.slice (some ⟨xx.heap.size, 0, none⟩) 4 4) (xx.alloc (.cells #[.int .i64 mak, .int .i64 nam, .int .i64 ser, .int .i64 cfs] 3)) (by kernel_rfl) ?_
                        refine hK.out _ _ (fun _ => hHeld.alloc _) (fun hHeld => ?_)
                        have hHeld := hHeld rfl
                        clear hK K
                        try simp only [Act.put, List.setIfInBounds_toArray, List.set_cons_zero, List.set_cons_succ]
                        replace r14 := Kt.row_on (Kt.balloc (Below.refl _ xx) (.cells #[.int .i64 mak, .int .i64 nam, .int .i64 ser, .int .i64 cfs] 3)) r14
                        have r37 := heap_alloc_new xx (.cells #[.int .i64 mak, .int .i64 nam, .int .i64 ser, .int .i64 cfs] 3)
                        generalize hk37 : xx.heap.size = k37 at *
                        clear hk37
                        generalize xx.alloc (.cells #[.int .i64 mak, .int .i64 nam, .int .i64 ser, .int .i64 cfs] 3) = xx at *
                    case' g53 =>
                      refine Kt.wp_run (.slice (some ⟨xx.heap.size, 0, none⟩) 4 4) (xx.alloc (.cells #[.int .i64 mak, .int .i64 nam, .int .i64 ser, .int .i64 cfs] 3)) (by kernel_rfl) ?_
                      refine hK.out _ _ (fun _ => hHeld.alloc _) (fun hHeld => ?_)
                      have hHeld := hHeld rfl
                      clear hK K
                      try simp only [Act.put, List.setIfInBounds_toArray, List.set_cons_zero, List.set_cons_succ]
                      replace r14 := Kt.row_on (Kt.balloc (Below.refl _ xx) (.cells #[.int .i64 mak, .int .i64 nam, .int .i64 ser, .int .i64 cfs] 3)) r14
                      have r37 := heap_alloc_new xx (.cells #[.int .i64 mak, .int .i64 nam, .int .i64 ser, .int .i64 cfs] 3)
                      generalize hk37 : xx.heap.size = k37 at *
                      clear hk37
                      generalize xx.alloc (.cells #[.int .i64 mak, .int .i64 nam, .int .i64 ser, .int .i64 cfs] 3) = xx at *
                      refine Kt.G.one 4 { dst := some 69, op := Op.call { callee := Callee.value (Operand.func 36), args := #[Operand.tmp 68], argTypes := #[3] }, type := 9, pos := "desc.go:61", after := #[{ on := 3, ground := Ground.data }, { on := 1, ground := Ground.chain }], guard := none } rfl (by kernel_rfl) (by rfl) (fun K hK => ?_)
                      refine Kt.wp_fv _ _ _ _ _ [.int .i64 usb] rfl rfl rfl egWord ?_
                      refine (HW1.out _).mono ?_; rintro en xx ⟨rfl, hb⟩
                      refine hK.out _ _ (fun _ => hHeld.on hb) (fun hHeld => ?_)
                      have hHeld := hHeld rfl
                      clear hK K
                      try simp only [Act.put, List.setIfInBounds_toArray, List.set_cons_zero, List.set_cons_succ]
                      replace r14 := Kt.row_on hb r14
                      replace r37 := Kt.row_on hb r37
                      clear hb
                      refine Kt.G.takeP 5 { dst := some 70, op := Op.binOp BinOp.add 9 (Operand.tmp 66) (Operand.tmp 69) 9, type := 9, pos := "desc.go:61", after := #[{ on := 1, ground := Ground.data }, { on := 4, ground := Ground.data }], guard := none } ?_ (fun _ => hHeld) rfl (by kernel_rfl) (fun _ _ _ h => h) (by rfl) ?_ ?_
                      rotate_left
                      · intro wq; go_simp; try with_reducible rfl
                      try simp only [Act.put, List.setIfInBounds_toArray, List.set_cons_zero, List.set_cons_succ]
                  case' g51 =>
                    refine Kt.wp_run (.slice (some ⟨xx.heap.size, 0, none⟩) 4 4) (xx.alloc (.cells #[.int .i64 mak, .int .i64 nam, .int .i64 ser, .int .i64 cfs] 3)) (by kernel_rfl) ?_
                    refine hK.out _ _ (fun _ => hHeld.alloc _) (fun hHeld => ?_)
                    have hHeld := hHeld rfl
                    clear hK K
                    try simp only [Act.put, List.setIfInBounds_toArray, List.set_cons_zero, List.set_cons_succ]
                    replace r0 := Kt.row_on (Kt.balloc (Below.refl _ xx) (.cells #[.int .i64 mak, .int .i64 nam, .int .i64 ser, .int .i64 cfs] 3)) r0
                    replace r14 := Kt.row_on (Kt.balloc (Below.refl _ xx) (.cells #[.int .i64 mak, .int .i64 nam, .int .i64 ser, .int .i64 cfs] 3)) r14
                    have r37 := heap_alloc_new xx (.cells #[.int .i64 mak, .int .i64 nam, .int .i64 ser, .int .i64 cfs] 3)
                    generalize hk37 : xx.heap.size = k37 at *
                    clear hk37
                    generalize xx.alloc (.cells #[.int .i64 mak, .int .i64 nam, .int .i64 ser, .int .i64 cfs] 3) = xx at *
                    refine Kt.G.one 1 { dst := some 66, op := Op.call { callee := Callee.value (Operand.func 35), args := #[Operand.tmp 65], argTypes := #[103] }, type := 9, pos := "desc.go:61", after := #[{ on := 0, ground := Ground.data }], guard := none } rfl (by kernel_rfl) (by rfl) (fun K hK => ?_)
                    refine Kt.wp_fv _ _ _ _ _ [.slice (some ⟨k0, 0, none⟩) 2 2] rfl rfl rfl egPut ?_
                    refine (HP2.out _ _ r0).mono ?_; rintro en xx ⟨rfl, hb⟩
                    refine hK.out _ _ (fun _ => hHeld.on hb) (fun hHeld => ?_)
                    have hHeld := hHeld rfl
                    clear hK K
                    try simp only [Act.put, List.setIfInBounds_toArray, List.set_cons_zero, List.set_cons_succ]
                    clear r0
                    replace r14 := Kt.row_on hb r14
                    replace r37 := Kt.row_on hb r37
                    clear hb
                    refine Kt.G.one 4 { dst := some 69, op := Op.call { callee := Callee.value (Operand.func 36), args := #[Operand.tmp 68], argTypes := #[3] }, type := 9, pos := "desc.go:61", after := #[{ on := 3, ground := Ground.data }, { on := 1, ground := Ground.chain }], guard := none } rfl (by kernel_rfl) (by rfl) (fun K hK => ?_)
                    refine Kt.wp_fv _ _ _ _ _ [.int .i64 usb] rfl rfl rfl egWord ?_
                    refine (HW1.out _).mono ?_; rintro en xx ⟨rfl, hb⟩
                    refine hK.out _ _ (fun _ => hHeld.on hb) (fun hHeld => ?_)
                    have hHeld := hHeld rfl
                    clear hK K
                    try simp only [Act.put, List.setIfInBounds_toArray, List.set_cons_zero, List.set_cons_succ]
                    replace r14 := Kt.row_on hb r14
                    replace r37 := Kt.row_on hb r37
                    clear hb
                    refine Kt.G.takeP 5 { dst := some 70, op := Op.binOp BinOp.add 9 (Operand.tmp 66) (Operand.tmp 69) 9, type := 9, pos := "desc.go:61", after := #[{ on := 1, ground := Ground.data }, { on := 4, ground := Ground.data }], guard := none } ?_ (fun _ => hHeld) rfl (by kernel_rfl) (fun _ _ _ h => h) (by rfl) ?_ ?_
                    rotate_left
                    · intro wq; go_simp; try with_reducible rfl
                    try simp only [Act.put, List.setIfInBounds_toArray, List.set_cons_zero, List.set_cons_succ]
                case' g49 =>
                  refine Kt.wp_run (.slice (some ⟨xx.heap.size, 0, none⟩) 4 4) (xx.alloc (.cells #[.int .i64 mak, .int .i64 nam, .int .i64 ser, .int .i64 cfs] 3)) (by kernel_rfl) ?_
                  refine hK.out _ _ (fun _ => hHeld.alloc _) (fun hHeld => ?_)
                  have hHeld := hHeld rfl
                  clear hK K
                  try simp only [Act.put, List.setIfInBounds_toArray, List.set_cons_zero, List.set_cons_succ]
                  replace r14 := Kt.row_on (Kt.balloc (Below.refl _ xx) (.cells #[.int .i64 mak, .int .i64 nam, .int .i64 ser, .int .i64 cfs] 3)) r14
                  have r37 := heap_alloc_new xx (.cells #[.int .i64 mak, .int .i64 nam, .int .i64 ser, .int .i64 cfs] 3)
                  generalize hk37 : xx.heap.size = k37 at *
                  clear hk37
                  generalize xx.alloc (.cells #[.int .i64 mak, .int .i64 nam, .int .i64 ser, .int .i64 cfs] 3) = xx at *
                  refine Kt.G.one 0 { dst := some 65, op := Op.buildSlice 103 2 #[(0, Operand.const (Value.int IntKind.i64 18)), (1, Operand.const (Value.int IntKind.i64 1))], type := 103, pos := "desc.go:61", after := #[], guard := none } rfl (by kernel_rfl) (by rfl) (fun K hK => ?_)
                  refine Kt.wp_run (.slice (some ⟨xx.heap.size, 0, none⟩) 2 2) (xx.alloc (.cells #[.int .i64 18, .int .i64 1] 3)) (by kernel_rfl) ?_
                  refine hK.out _ _ (fun _ => hHeld.alloc _) (fun hHeld => ?_)
                  have hHeld := hHeld rfl
                  clear hK K
                  try simp only [Act.put, List.setIfInBounds_toArray, List.set_cons_zero, List.set_cons_succ]
                  replace r14 := Kt.row_on (Kt.balloc (Below.refl _ xx) (.cells #[.int .i64 18, .int .i64 1] 3)) r14
                  replace r37 := Kt.row_on (Kt.balloc (Below.refl _ xx) (.cells #[.int .i64 18, .int .i64 1] 3)) r37
                  have r0 := heap_alloc_new xx (.cells #[.int .i64 18, .int .i64 1] 3)
                  generalize hk0 : xx.heap.size = k0 at *
                  clear hk0
                  generalize xx.alloc (.cells #[.int .i64 18, .int .i64 1] 3) = xx at *
                  refine Kt.G.one 1 { dst := some 66, op := Op.call { callee := Callee.value (Operand.func 35), args := #[Operand.tmp 65], argTypes := #[103] }, type := 9, pos := "desc.go:61", after := #[{ on := 0, ground := Ground.data }], guard := none } rfl (by kernel_rfl) (by rfl) (fun K hK => ?_)
                  refine Kt.wp_fv _ _ _ _ _ [.slice (some ⟨k0, 0, none⟩) 2 2] rfl rfl rfl egPut ?_
                  refine (HP2.out _ _ r0).mono ?_; rintro en xx ⟨rfl, hb⟩
                  refine hK.out _ _ (fun _ => hHeld.on hb) (fun hHeld => ?_)
                  have hHeld := hHeld rfl
                  clear hK K
                  try simp only [Act.put, List.setIfInBounds_toArray, List.set_cons_zero, List.set_cons_succ]
                  clear r0
                  replace r14 := Kt.row_on hb r14
                  replace r37 := Kt.row_on hb r37
                  clear hb
                  refine Kt.G.one 4 { dst := some 69, op := Op.call { callee := Callee.value (Operand.func 36), args := #[Operand.tmp 68], argTypes := #[3] }, type := 9, pos := "desc.go:61", after := #[{ on := 3, ground := Ground.data }, { on := 1, ground := Ground.chain }], guard := none } rfl (by kernel_rfl) (by rfl) (fun K hK => ?_)
                  refine Kt.wp_fv _ _ _ _ _ [.int .i64 usb] rfl rfl rfl egWord ?_
                  refine (HW1.out _).mono ?_; rintro en xx ⟨rfl, hb⟩
                  refine hK.out _ _ (fun _ => hHeld.on hb) (fun hHeld => ?_)
                  have hHeld := hHeld rfl
                  clear hK K
                  try simp only [Act.put, List.setIfInBounds_toArray, List.set_cons_zero, List.set_cons_succ]
                  replace r14 := Kt.row_on hb r14
                  replace r37 := Kt.row_on hb r37
                  clear hb
                  refine Kt.G.takeP 5 { dst := some 70, op := Op.binOp BinOp.add 9 (Operand.tmp 66) (Operand.tmp 69) 9, type := 9, pos := "desc.go:61", after := #[{ on := 1, ground := Ground.data }, { on := 4, ground := Ground.data }], guard := none } ?_ (fun _ => hHeld) rfl (by kernel_rfl) (fun _ _ _ h => h) (by rfl) ?_ ?_
                  rotate_left
                  · intro wq; go_simp; try with_reducible rfl
                  try simp only [Act.put, List.setIfInBounds_toArray, List.set_cons_zero, List.set_cons_succ]
              case' g3 =>
                refine Kt.wp_run (.slice (some ⟨xx.heap.size, 0, none⟩) 4 4) (xx.alloc (.cells #[.int .i64 mak, .int .i64 nam, .int .i64 ser, .int .i64 cfs] 3)) (by kernel_rfl) ?_
                refine hK.out _ _ (fun _ => hHeld.alloc _) (fun hHeld => ?_)
                have hHeld := hHeld rfl
                clear hK K
                try simp only [Act.put, List.setIfInBounds_toArray, List.set_cons_zero, List.set_cons_succ]
                have r37 := heap_alloc_new xx (.cells #[.int .i64 mak, .int .i64 nam, .int .i64 ser, .int .i64 cfs] 3)
                generalize hk37 : xx.heap.size = k37 at *
                clear hk37
                generalize xx.alloc (.cells #[.int .i64 mak, .int .i64 nam, .int .i64 ser, .int .i64 cfs] 3) = xx at *
                refine Kt.G.two 0 14 { dst := some 65, op := Op.buildSlice 103 2 #[(0, Operand.const (Value.int IntKind.i64 18)), (1, Operand.const (Value.int IntKind.i64 1))], type := 103, pos := "desc.go:61", after := #[], guard := none } { dst := some 79, op := Op.buildSlice 103 4 #[(0, Operand.tmp 72), (1, Operand.tmp 74), (2, Operand.tmp 76), (3, Operand.tmp 78)], type := 103, pos := "desc.go:61", after := #[{ on := 7, ground := Ground.data }, { on := 9, ground := Ground.data }, { on := 11, ground := Ground.data }, { on := 13, ground := Ground.data }], guard := none } rfl rfl (by kernel_rfl) (by rfl) (by rfl) (fun K hK => ?g62) (fun K hK => ?g63)
                case' g62 =>
                  refine Kt.wp_run (.slice (some ⟨xx.heap.size, 0, none⟩) 2 2) (xx.alloc (.cells #[.int .i64 18, .int .i64 1] 3)) (by kernel_rfl) ?_
                  refine hK.out _ _ (fun _ => hHeld.alloc _) (fun hHeld => ?_)
                  have hHeld := hHeld rfl
                  clear hK K
                  try simp only [Act.put, List.setIfInBounds_toArray, List.set_cons_zero, List.set_cons_succ]
                  replace r37 := Kt.row_on (Kt.balloc (Below.refl _ xx) (.cells #[.int .i64 18, .int .i64 1] 3)) r37
                  have r0 := heap_alloc_new xx (.cells #[.int .i64 18, .int .i64 1] 3)
                  generalize hk0 : xx.heap.size = k0 at *
                  clear hk0
                  generalize xx.alloc (.cells #[.int .i64 18, .int .i64 1] 3) = xx at *
                  refine Kt.G.two 1 14 { dst := some 66, op := Op.call { callee := Callee.value (Operand.func 35), args := #[Operand.tmp 65], argTypes := #[103] }, type := 9, pos := "desc.go:61", after := #[{ on := 0, ground := Ground.data }], guard := none } { dst := some 79, op := Op.buildSlice 103 4 #[(0, Operand.tmp 72), (1, Operand.tmp 74), (2, Operand.tmp 76), (3, Operand.tmp 78)], type := 103, pos := "desc.go:61", after := #[{ on := 7, ground := Ground.data }, { on := 9, ground := Ground.data }, { on := 11, ground := Ground.data }, { on := 13, ground := Ground.data }], guard := none } rfl rfl (by kernel_rfl) (by rfl) (by rfl) (fun K hK => ?g64) (fun K hK => ?g65)
                  case' g64 =>
                    refine Kt.wp_fv _ _ _ _ _ [.slice (some ⟨k0, 0, none⟩) 2 2] rfl rfl rfl egPut ?_
                    refine (HP2.out _ _ r0).mono ?_; rintro en xx ⟨rfl, hb⟩
                    refine hK.out _ _ (fun _ => hHeld.on hb) (fun hHeld => ?_)
                    have hHeld := hHeld rfl
                    clear hK K
                    try simp only [Act.put, List.setIfInBounds_toArray, List.set_cons_zero, List.set_cons_succ]
                    clear r0
                    replace r37 := Kt.row_on hb r37
                    clear hb
                    refine Kt.G.two 4 14 { dst := some 69, op := Op.call { callee := Callee.value (Operand.func 36), args := #[Operand.tmp 68], argTypes := #[3] }, type := 9, pos := "desc.go:61", after := #[{ on := 3, ground := Ground.data }, { on := 1, ground := Ground.chain }], guard := none } { dst := some 79, op := Op.buildSlice 103 4 #[(0, Operand.tmp 72), (1, Operand.tmp 74), (2, Operand.tmp 76), (3, Operand.tmp 78)], type := 103, pos := "desc.go:61", after := #[{ on := 7, ground := Ground.data }, { on := 9, ground := Ground.data }, { on := 11, ground := Ground.data }, { on := 13, ground := Ground.data }], guard := none } rfl rfl (by kernel_rfl) (by rfl) (by rfl) (fun K hK => ?g66) (fun K hK => ?g67)
                    case' g66 =>
                      refine Kt.wp_fv _ _ _ _ _ [.int .i64 usb] rfl rfl rfl egWord ?_
                      refine (HW1.out _).mono ?_; rintro en xx ⟨rfl, hb⟩
                      refine hK.out _ _ (fun _ => hHeld.on hb) (fun hHeld => ?_)
                      have hHeld := hHeld rfl
                      clear hK K
                      try simp only [Act.put, List.setIfInBounds_toArray, List.set_cons_zero, List.set_cons_succ]
                      replace r37 := Kt.row_on hb r37
                      clear hb
                      refine Kt.G.takeP 5 { dst := some 70, op := Op.binOp BinOp.add 9 (Operand.tmp 66) (Operand.tmp 69) 9, type := 9, pos := "desc.go:61", after := #[{ on := 1, ground := Ground.data }, { on := 4, ground := Ground.data }], guard := none } ?_ (fun _ => hHeld) rfl (by kernel_rfl) (fun _ _ _ h => h) (by rfl) ?_ ?_
                      rotate_left
                      · intro wq; go_simp; try with_reducible rfl
                      try simp only [Act.put, List.setIfInBounds_toArray, List.set_cons_zero, List.set_cons_succ]
                      refine Kt.G.one 14 { dst := some 79, op := Op.buildSlice 103 4 #[(0, Operand.tmp 72), (1, Operand.tmp 74), (2, Operand.tmp 76), (3, Operand.tmp 78)], type := 103, pos := "desc.go:61", after := #[{ on := 7, ground := Ground.data }, { on := 9, ground := Ground.data }, { on := 11, ground := Ground.data }, { on := 13, ground := Ground.data }], guard := none } rfl (by kernel_rfl) (by rfl) (fun K hK => ?_)
                      refine Kt.wp_run (.slice (some ⟨xx.heap.size, 0, none⟩) 4 4) (xx.alloc (.cells #[.int .i64 cls, .int .i64 sub, .int .i64 pro, .int .i64 m0] 3)) (by kernel_rfl) ?_
                      refine hK.out _ _ (fun _ => hHeld.alloc _) (fun hHeld => ?_)
                      have hHeld := hHeld rfl
                      clear hK K
                      try simp only [Act.put, List.setIfInBounds_toArray, List.set_cons_zero, List.set_cons_succ]
                      replace r37 := Kt.row_on (Kt.balloc (Below.refl _ xx) (.cells #[.int .i64 cls, .int .i64 sub, .int .i64 pro, .int .i64 m0] 3)) r37
                      have r14 := heap_alloc_new xx (.cells #[.int .i64 cls, .int .i64 sub, .int .i64 pro, .int .i64 m0] 3)
                      generalize hk14 : xx.heap.size = k14 at *
                      clear hk14
                      generalize xx.alloc (.cells #[.int .i64 cls, .int .i64 sub, .int .i64 pro, .int .i64 m0] 3) = xx at *
                    case' g67 =>
                      refine Kt.wp_run (.slice (some ⟨xx.heap.size, 0, none⟩) 4 4) (xx.alloc (.cells #[.int .i64 cls, .int .i64 sub, .int .i64 pro, .int .i64 m0] 3)) (by kernel_rfl) ?_
                      refine hK.out _ _ (fun _ => hHeld.alloc _) (fun hHeld => ?_)
                      have hHeld := hHeld rfl
                      clear hK K
                      try simp only [Act.put, List.setIfInBounds_toArray, List.set_cons_zero, List.set_cons_succ]
                      replace r37 := Kt.row_on (Kt.balloc (Below.refl _ xx) (.cells #[.int .i64 cls, .int .i64 sub, .int .i64 pro, .int .i64 m0] 3)) r37
                      have r14 := heap_alloc_new xx (.cells #[.int .i64 cls, .int .i64 sub, .int .i64 pro, .int .i64 m0] 3)
                      generalize hk14 : xx.heap.size = k14 at *
                      clear hk14
                      generalize xx.alloc (.cells #[.int .i64 cls, .int .i64 sub, .int .i64 pro, .int .i64 m0] 3) = xx at *
                      refine Kt.G.one 4 { dst := some 69, op := Op.call { callee := Callee.value (Operand.func 36), args := #[Operand.tmp 68], argTypes := #[3] }, type := 9, pos := "desc.go:61", after := #[{ on := 3, ground := Ground.data }, { on := 1, ground := Ground.chain }], guard := none } rfl (by kernel_rfl) (by rfl) (fun K hK => ?_)
                      refine Kt.wp_fv _ _ _ _ _ [.int .i64 usb] rfl rfl rfl egWord ?_
                      refine (HW1.out _).mono ?_; rintro en xx ⟨rfl, hb⟩
                      refine hK.out _ _ (fun _ => hHeld.on hb) (fun hHeld => ?_)
                      have hHeld := hHeld rfl
                      clear hK K
                      try simp only [Act.put, List.setIfInBounds_toArray, List.set_cons_zero, List.set_cons_succ]
                      replace r14 := Kt.row_on hb r14
                      replace r37 := Kt.row_on hb r37
                      clear hb
                      refine Kt.G.takeP 5 { dst := some 70, op := Op.binOp BinOp.add 9 (Operand.tmp 66) (Operand.tmp 69) 9, type := 9, pos := "desc.go:61", after := #[{ on := 1, ground := Ground.data }, { on := 4, ground := Ground.data }], guard := none } ?_ (fun _ => hHeld) rfl (by kernel_rfl) (fun _ _ _ h => h) (by rfl) ?_ ?_
                      rotate_left
                      · intro wq; go_simp; try with_reducible rfl
                      try simp only [Act.put, List.setIfInBounds_toArray, List.set_cons_zero, List.set_cons_succ]
                  case' g65 =>
                    refine Kt.wp_run (.slice (some ⟨xx.heap.size, 0, none⟩) 4 4) (xx.alloc (.cells #[.int .i64 cls, .int .i64 sub, .int .i64 pro, .int .i64 m0] 3)) (by kernel_rfl) ?_
                    refine hK.out _ _ (fun _ => hHeld.alloc _) (fun hHeld => ?_)
                    have hHeld := hHeld rfl
                    clear hK K
                    try simp only [Act.put, List.setIfInBounds_toArray, List.set_cons_zero, List.set_cons_succ]
                    replace r0 := Kt.row_on (Kt.balloc (Below.refl _ xx) (.cells #[.int .i64 cls, .int .i64 sub, .int .i64 pro, .int .i64 m0] 3)) r0
                    replace r37 := Kt.row_on (Kt.balloc (Below.refl _ xx) (.cells #[.int .i64 cls, .int .i64 sub, .int .i64 pro, .int .i64 m0] 3)) r37
                    have r14 := heap_alloc_new xx (.cells #[.int .i64 cls, .int .i64 sub, .int .i64 pro, .int .i64 m0] 3)
                    generalize hk14 : xx.heap.size = k14 at *
                    clear hk14
                    generalize xx.alloc (.cells #[.int .i64 cls, .int .i64 sub, .int .i64 pro, .int .i64 m0] 3) = xx at *
                    refine Kt.G.one 1 { dst := some 66, op := Op.call { callee := Callee.value (Operand.func 35), args := #[Operand.tmp 65], argTypes := #[103] }, type := 9, pos := "desc.go:61", after := #[{ on := 0, ground := Ground.data }], guard := none } rfl (by kernel_rfl) (by rfl) (fun K hK => ?_)
                    refine Kt.wp_fv _ _ _ _ _ [.slice (some ⟨k0, 0, none⟩) 2 2] rfl rfl rfl egPut ?_
                    refine (HP2.out _ _ r0).mono ?_; rintro en xx ⟨rfl, hb⟩
                    refine hK.out _ _ (fun _ => hHeld.on hb) (fun hHeld => ?_)
                    have hHeld := hHeld rfl
                    clear hK K
                    try simp only [Act.put, List.setIfInBounds_toArray, List.set_cons_zero, List.set_cons_succ]
                    clear r0
                    replace r14 := Kt.row_on hb r14
                    replace r37 := Kt.row_on hb r37
                    clear hb
                    refine Kt.G.one 4 { dst := some 69, op := Op.call { callee := Callee.value (Operand.func 36), args := #[Operand.tmp 68], argTypes := #[3] }, type := 9, pos := "desc.go:61", after := #[{ on := 3, ground := Ground.data }, { on := 1, ground := Ground.chain }], guard := none } rfl (by kernel_rfl) (by rfl) (fun K hK => ?_)
                    refine Kt.wp_fv _ _ _ _ _ [.int .i64 usb] rfl rfl rfl egWord ?_
                    refine (HW1.out _).mono ?_; rintro en xx ⟨rfl, hb⟩
                    refine hK.out _ _ (fun _ => hHeld.on hb) (fun hHeld => ?_)
                    have hHeld := hHeld rfl
                    clear hK K
                    try simp only [Act.put, List.setIfInBounds_toArray, List.set_cons_zero, List.set_cons_succ]
                    replace r14 := Kt.row_on hb r14
                    replace r37 := Kt.row_on hb r37
                    clear hb
                    refine Kt.G.takeP 5 { dst := some 70, op := Op.binOp BinOp.add 9 (Operand.tmp 66) (Operand.tmp 69) 9, type := 9, pos := "desc.go:61", after := #[{ on := 1, ground := Ground.data }, { on := 4, ground := Ground.data }], guard := none } ?_ (fun _ => hHeld) rfl (by kernel_rfl) (fun _ _ _ h => h) (by rfl) ?_ ?_
                    rotate_left
                    · intro wq; go_simp; try with_reducible rfl
                    try simp only [Act.put, List.setIfInBounds_toArray, List.set_cons_zero, List.set_cons_succ]
                case' g63 =>
                  refine Kt.wp_run (.slice (some ⟨xx.heap.size, 0, none⟩) 4 4) (xx.alloc (.cells #[.int .i64 cls, .int .i64 sub, .int .i64 pro, .int .i64 m0] 3)) (by kernel_rfl) ?_
                  refine hK.out _ _ (fun _ => hHeld.alloc _) (fun hHeld => ?_)
                  have hHeld := hHeld rfl
                  clear hK K
                  try simp only [Act.put, List.setIfInBounds_toArray, List.set_cons_zero, List.set_cons_succ]
                  replace r37 := Kt.row_on (Kt.balloc (Below.refl _ xx) (.cells #[.int .i64 cls, .int .i64 sub, .int .i64 pro, .int .i64 m0] 3)) r37
                  have r14 := heap_alloc_new xx (.cells #[.int .i64 cls, .int .i64 sub, .int .i64 pro, .int .i64 m0] 3)
                  generalize hk14 : xx.heap.size = k14 at *
                  clear hk14
                  generalize xx.alloc (.cells #[.int .i64 cls, .int .i64 sub, .int .i64 pro, .int .i64 m0] 3) = xx at *
                  refine Kt.G.one 0 { dst := some 65, op := Op.buildSlice 103 2 #[(0, Operand.const (Value.int IntKind.i64 18)), (1, Operand.const (Value.int IntKind.i64 1))], type := 103, pos := "desc.go:61", after := #[], guard := none } rfl (by kernel_rfl) (by rfl) (fun K hK => ?_)
                  refine Kt.wp_run (.slice (some ⟨xx.heap.size, 0, none⟩) 2 2) (xx.alloc (.cells #[.int .i64 18, .int .i64 1] 3)) (by kernel_rfl) ?_
                  refine hK.out _ _ (fun _ => hHeld.alloc _) (fun hHeld => ?_)
                  have hHeld := hHeld rfl
                  clear hK K
                  try simp only [Act.put, List.setIfInBounds_toArray, List.set_cons_zero, List.set_cons_succ]
                  replace r14 := Kt.row_on (Kt.balloc (Below.refl _ xx) (.cells #[.int .i64 18, .int .i64 1] 3)) r14
                  replace r37 := Kt.row_on (Kt.balloc (Below.refl _ xx) (.cells #[.int .i64 18, .int .i64 1] 3)) r37
                  have r0 := heap_alloc_new xx (.cells #[.int .i64 18, .int .i64 1] 3)
                  generalize hk0 : xx.heap.size = k0 at *
                  clear hk0
                  generalize xx.alloc (.cells #[.int .i64 18, .int .i64 1] 3) = xx at *
                  refine Kt.G.one 1 { dst := some 66, op := Op.call { callee := Callee.value (Operand.func 35), args := #[Operand.tmp 65], argTypes := #[103] }, type := 9, pos := "desc.go:61", after := #[{ on := 0, ground := Ground.data }], guard := none } rfl (by kernel_rfl) (by rfl) (fun K hK => ?_)
                  refine Kt.wp_fv _ _ _ _ _ [.slice (some ⟨k0, 0, none⟩) 2 2] rfl rfl rfl egPut ?_
                  refine (HP2.out _ _ r0).mono ?_; rintro en xx ⟨rfl, hb⟩
                  refine hK.out _ _ (fun _ => hHeld.on hb) (fun hHeld => ?_)
                  have hHeld := hHeld rfl
                  clear hK K
                  try simp only [Act.put, List.setIfInBounds_toArray, List.set_cons_zero, List.set_cons_succ]
                  clear r0
                  replace r14 := Kt.row_on hb r14
                  replace r37 := Kt.row_on hb r37
                  clear hb
                  refine Kt.G.one 4 { dst := some 69, op := Op.call { callee := Callee.value (Operand.func 36), args := #[Operand.tmp 68], argTypes := #[3] }, type := 9, pos := "desc.go:61", after := #[{ on := 3, ground := Ground.data }, { on := 1, ground := Ground.chain }], guard := none } rfl (by kernel_rfl) (by rfl) (fun K hK => ?_)
                  refine Kt.wp_fv _ _ _ _ _ [.int .i64 usb] rfl rfl rfl egWord ?_
                  refine (HW1.out _).mono ?_; rintro en xx ⟨rfl, hb⟩
                  refine hK.out _ _ (fun _ => hHeld.on hb) (fun hHeld => ?_)
                  have hHeld := hHeld rfl
                  clear hK K
                  try simp only [Act.put, List.setIfInBounds_toArray, List.set_cons_zero, List.set_cons_succ]
                  replace r14 := Kt.row_on hb r14
                  replace r37 := Kt.row_on hb r37
                  clear hb
                  refine Kt.G.takeP 5 { dst := some 70, op := Op.binOp BinOp.add 9 (Operand.tmp 66) (Operand.tmp 69) 9, type := 9, pos := "desc.go:61", after := #[{ on := 1, ground := Ground.data }, { on := 4, ground := Ground.data }], guard := none } ?_ (fun _ => hHeld) rfl (by kernel_rfl) (fun _ _ _ h => h) (by rfl) ?_ ?_
                  rotate_left
                  · intro wq; go_simp; try with_reducible rfl
                  try simp only [Act.put, List.setIfInBounds_toArray, List.set_cons_zero, List.set_cons_succ]
              all_goals
                as_aux_lemma =>
                  first
                    | (have hdn := r14
                       clear hdn
                       refine Kt.G.one 15 { dst := some 80, op := Op.call { callee := Callee.value (Operand.func 35), args := #[Operand.tmp 79], argTypes := #[103] }, type := 9, pos := "desc.go:61", after := #[{ on := 14, ground := Ground.data }, { on := 4, ground := Ground.chain }], guard := none } rfl (by kernel_rfl) (by rfl) (fun K hK => ?_)
                       refine Kt.wp_fv _ _ _ _ _ [.slice (some ⟨k14, 0, none⟩) 4 4] rfl rfl rfl egPut ?_
                       refine (HP4.out _ _ r14).mono ?_; rintro en xx ⟨rfl, hb⟩
                       refine hK.out _ _ (fun _ => hHeld.on hb) (fun hHeld => ?_)
                       have hHeld := hHeld rfl
                       clear hK K
                       try simp only [Act.put, List.setIfInBounds_toArray, List.set_cons_zero, List.set_cons_succ]
                       clear r14
                       try (replace r0 := Kt.row_on hb r0)
                       try (replace r37 := Kt.row_on hb r37)
                       clear hb
                       refine Kt.G.takeP 16 { dst := some 81, op := Op.binOp BinOp.add 9 (Operand.tmp 70) (Operand.tmp 80) 9, type := 9, pos := "desc.go:61", after := #[{ on := 5, ground := Ground.data }, { on := 15, ground := Ground.data }], guard := none } ?_ (fun _ => hHeld) rfl (by kernel_rfl) (fun _ _ _ h => h) (by rfl) ?_ ?_
                       rotate_left
                       · intro wq; go_simp; try with_reducible rfl
                       try simp only [Act.put, List.setIfInBounds_toArray, List.set_cons_zero, List.set_cons_succ]
                       refine Kt.G.one 19 { dst := some 84, op := Op.call { callee := Callee.value (Operand.func 36), args := #[Operand.tmp 83], argTypes := #[3] }, type := 9, pos := "desc.go:61", after := #[{ on := 18, ground := Ground.data }, { on := 15, ground := Ground.chain }], guard := none } rfl (by kernel_rfl) (by rfl) (fun K hK => ?_)
                       refine Kt.wp_fv _ _ _ _ _ [.int .i64 ven] rfl rfl rfl egWord ?_
                       refine (HW2.out _).mono ?_; rintro en xx ⟨rfl, hb⟩
                       refine hK.out _ _ (fun _ => hHeld.on hb) (fun hHeld => ?_)
                       have hHeld := hHeld rfl
                       clear hK K
                       try simp only [Act.put, List.setIfInBounds_toArray, List.set_cons_zero, List.set_cons_succ]
                       try (replace r0 := Kt.row_on hb r0)
                       try (replace r14 := Kt.row_on hb r14)
                       try (replace r37 := Kt.row_on hb r37)
                       clear hb
                       refine Kt.G.takeP 20 { dst := some 85, op := Op.binOp BinOp.add 9 (Operand.tmp 81) (Operand.tmp 84) 9, type := 9, pos := "desc.go:61", after := #[{ on := 16, ground := Ground.data }, { on := 19, ground := Ground.data }], guard := none } ?_ (fun _ => hHeld) rfl (by kernel_rfl) (fun _ _ _ h => h) (by rfl) ?_ ?_
                       rotate_left
                       · intro wq; go_simp; try with_reducible rfl
                       try simp only [Act.put, List.setIfInBounds_toArray, List.set_cons_zero, List.set_cons_succ]
                       refine Kt.G.one 23 { dst := some 88, op := Op.call { callee := Callee.value (Operand.func 36), args := #[Operand.tmp 87], argTypes := #[3] }, type := 9, pos := "desc.go:61", after := #[{ on := 22, ground := Ground.data }, { on := 19, ground := Ground.chain }], guard := none } rfl (by kernel_rfl) (by rfl) (fun K hK => ?_)
                       refine Kt.wp_fv _ _ _ _ _ [.int .i64 prd] rfl rfl rfl egWord ?_
                       refine (HW3.out _).mono ?_; rintro en xx ⟨rfl, hb⟩
                       refine hK.out _ _ (fun _ => hHeld.on hb) (fun hHeld => ?_)
                       have hHeld := hHeld rfl
                       clear hK K
                       try simp only [Act.put, List.setIfInBounds_toArray, List.set_cons_zero, List.set_cons_succ]
                       try (replace r0 := Kt.row_on hb r0)
                       try (replace r14 := Kt.row_on hb r14)
                       try (replace r37 := Kt.row_on hb r37)
                       clear hb
                       refine Kt.G.takeP 24 { dst := some 89, op := Op.binOp BinOp.add 9 (Operand.tmp 85) (Operand.tmp 88) 9, type := 9, pos := "desc.go:61", after := #[{ on := 20, ground := Ground.data }, { on := 23, ground := Ground.data }], guard := none } ?_ (fun _ => hHeld) rfl (by kernel_rfl) (fun _ _ _ h => h) (by rfl) ?_ ?_
                       rotate_left
                       · intro wq; go_simp; try with_reducible rfl
                       try simp only [Act.put, List.setIfInBounds_toArray, List.set_cons_zero, List.set_cons_succ]
                       refine Kt.G.one 27 { dst := some 92, op := Op.call { callee := Callee.value (Operand.func 36), args := #[Operand.tmp 91], argTypes := #[3] }, type := 9, pos := "desc.go:61", after := #[{ on := 26, ground := Ground.data }, { on := 23, ground := Ground.chain }], guard := none } rfl (by kernel_rfl) (by rfl) (fun K hK => ?_)
                       refine Kt.wp_fv _ _ _ _ _ [.int .i64 rel] rfl rfl rfl egWord ?_
                       refine (HW4.out _).mono ?_; rintro en xx ⟨rfl, hb⟩
                       refine hK.out _ _ (fun _ => hHeld.on hb) (fun hHeld => ?_)
                       have hHeld := hHeld rfl
                       clear hK K
                       try simp only [Act.put, List.setIfInBounds_toArray, List.set_cons_zero, List.set_cons_succ]
                       try (replace r0 := Kt.row_on hb r0)
                       try (replace r14 := Kt.row_on hb r14)
                       try (replace r37 := Kt.row_on hb r37)
                       clear hb
                       refine Kt.G.takeP 28 { dst := some 93, op := Op.binOp BinOp.add 9 (Operand.tmp 89) (Operand.tmp 92) 9, type := 9, pos := "desc.go:61", after := #[{ on := 24, ground := Ground.data }, { on := 27, ground := Ground.data }], guard := none } ?_ (fun _ => hHeld) rfl (by kernel_rfl) (fun _ _ _ h => h) (by rfl) ?_ ?_
                       rotate_left
                       · intro wq; go_simp; try with_reducible rfl
                       try simp only [Act.put, List.setIfInBounds_toArray, List.set_cons_zero, List.set_cons_succ])
                    | skip
                  have hdn := r37
                  clear hdn
                  refine Kt.G.one 38 { dst := some 103, op := Op.call { callee := Callee.value (Operand.func 35), args := #[Operand.tmp 102], argTypes := #[103] }, type := 9, pos := "desc.go:61", after := #[{ on := 37, ground := Ground.data }, { on := 27, ground := Ground.chain }], guard := none } rfl (by kernel_rfl) (by rfl) (fun K hK => ?_)
                  refine Kt.wp_fv _ _ _ _ _ [.slice (some ⟨k37, 0, none⟩) 4 4] rfl rfl rfl egPut ?_
                  refine (HP5.out _ _ r37).mono ?_; rintro en xx ⟨rfl, hb⟩
                  refine hK.out _ _ (fun _ => hHeld.on hb) (fun hHeld => ?_)
                  have hHeld := hHeld rfl
                  clear hK K
                  try simp only [Act.put, List.setIfInBounds_toArray, List.set_cons_zero, List.set_cons_succ]
                  clear r37
                  try (replace r0 := Kt.row_on hb r0)
                  try (replace r14 := Kt.row_on hb r14)
                  clear hb
                  refine Kt.G.takeP 39 { dst := some 104, op := Op.binOp BinOp.add 9 (Operand.tmp 93) (Operand.tmp 103) 9, type := 9, pos := "desc.go:61", after := #[{ on := 28, ground := Ground.data }, { on := 38, ground := Ground.data }], guard := none } ?_ (fun _ => hHeld) rfl (by kernel_rfl) (fun _ _ _ h => h) (by rfl) ?_ ?_
                  rotate_left
                  · intro wq; go_simp; try with_reducible rfl
                  try simp only [Act.put, List.setIfInBounds_toArray, List.set_cons_zero, List.set_cons_succ]
                  refine Kt.G.one 40 { dst := some 2, op := Op.assign (Operand.tmp 104), type := 9, pos := "desc.go:61", after := #[{ on := 39, ground := Ground.data }, { on := 38, ground := Ground.chain }, { on := 0, ground := Ground.phase }, { on := 1, ground := Ground.phase }, { on := 2, ground := Ground.phase }, { on := 3, ground := Ground.phase }, { on := 4, ground := Ground.phase }, { on := 5, ground := Ground.phase }, { on := 6, ground := Ground.phase }, { on := 7, ground := Ground.phase }, { on := 8, ground := Ground.phase }, { on := 9, ground := Ground.phase }, { on := 10, ground := Ground.phase }, { on := 11, ground := Ground.phase }, { on := 12, ground := Ground.phase }, { on := 13, ground := Ground.phase }, { on := 14, ground := Ground.phase }, { on := 15, ground := Ground.phase }, { on := 16, ground := Ground.phase }, { on := 17, ground := Ground.phase }, { on := 18, ground := Ground.phase }, { on := 19, ground := Ground.phase }, { on := 20, ground := Ground.phase }, { on := 21, ground := Ground.phase }, { on := 22, ground := Ground.phase }, { on := 23, ground := Ground.phase }, { on := 24, ground := Ground.phase }, { on := 25, ground := Ground.phase }, { on := 26, ground := Ground.phase }, { on := 27, ground := Ground.phase }, { on := 28, ground := Ground.phase }, { on := 29, ground := Ground.phase }, { on := 30, ground := Ground.phase }, { on := 31, ground := Ground.phase }, { on := 32, ground := Ground.phase }, { on := 33, ground := Ground.phase }, { on := 34, ground := Ground.phase }, { on := 35, ground := Ground.phase }, { on := 36, ground := Ground.phase }, { on := 37, ground := Ground.phase }, { on := 38, ground := Ground.phase }, { on := 39, ground := Ground.phase }], guard := none } rfl (by kernel_rfl) (by rfl) (fun K hK => ?_)
                  go_simp
                  refine hK.out _ _ (Kt.G.late (by kernel_rfl)) (fun _ => ?_)
                  clear hK K
                  try simp only [Act.put, List.setIfInBounds_toArray, List.set_cons_zero, List.set_cons_succ]
                  refine Kt.G.one 41 { dst := some 3, op := Op.assign (Operand.const (Value.int IntKind.i64 0)), type := 25, pos := "desc.go:61", after := #[{ on := 40, ground := Ground.chain }, { on := 0, ground := Ground.phase }, { on := 1, ground := Ground.phase }, { on := 2, ground := Ground.phase }, { on := 3, ground := Ground.phase }, { on := 4, ground := Ground.phase }, { on := 5, ground := Ground.phase }, { on := 6, ground := Ground.phase }, { on := 7, ground := Ground.phase }, { on := 8, ground := Ground.phase }, { on := 9, ground := Ground.phase }, { on := 10, ground := Ground.phase }, { on := 11, ground := Ground.phase }, { on := 12, ground := Ground.phase }, { on := 13, ground := Ground.phase }, { on := 14, ground := Ground.phase }, { on := 15, ground := Ground.phase }, { on := 16, ground := Ground.phase }, { on := 17, ground := Ground.phase }, { on := 18, ground := Ground.phase }, { on := 19, ground := Ground.phase }, { on := 20, ground := Ground.phase }, { on := 21, ground := Ground.phase }, { on := 22, ground := Ground.phase }, { on := 23, ground := Ground.phase }, { on := 24, ground := Ground.phase }, { on := 25, ground := Ground.phase }, { on := 26, ground := Ground.phase }, { on := 27, ground := Ground.phase }, { on := 28, ground := Ground.phase }, { on := 29, ground := Ground.phase }, { on := 30, ground := Ground.phase }, { on := 31, ground := Ground.phase }, { on := 32, ground := Ground.phase }, { on := 33, ground := Ground.phase }, { on := 34, ground := Ground.phase }, { on := 35, ground := Ground.phase }, { on := 36, ground := Ground.phase }, { on := 37, ground := Ground.phase }, { on := 38, ground := Ground.phase }, { on := 39, ground := Ground.phase }, { on := 40, ground := Ground.phase }], guard := none } rfl (by kernel_rfl) (by rfl) (fun K hK => ?_)
                  go_simp
                  refine hK.out _ _ (Kt.G.late (by kernel_rfl)) (fun _ => ?_)
                  clear hK K
                  try simp only [Act.put, List.setIfInBounds_toArray, List.set_cons_zero, List.set_cons_succ]
                  refine Kt.G.done (by kernel_rfl) (NoPanic.normal ?_) _
                  have HBZ := Lib.hid (Kt.bthen HB3.out hHeld.bel)
                  rw [HTX.out]
                  go_wp2_with fail
                  go_ret2
                  rw [HOK.out]
                  exact ⟨rfl, HBZ.out⟩
end Go.Proofs.Ytmddfpmchcmgiaa
