/- Disks: Do walked. -/
import Derived.Test.YtafiedhjjnapoaaScsD
namespace Go.Proofs.Ytafiedhjjnapoaa
open Go.RowKit Go.Proofs.Ytafiedhjjnapoaa.Scs
/-- a disk that came in -/
def DkA (w : World) (A : Option Addr) (cap : Nat) (bs : List ByteArray) : Prop := Kt.Ar w (.slice A bs.length cap) 1 bs.length (sts bs)
theorem DkA.on {w w' : World} {A : Option Addr} {cap : Nat} {bs : List ByteArray} (h : DkA w A cap bs) (hb : Below w.heap.size w w') : DkA w' A cap bs := Kt.Ar.on h hb
def dkV (A : Option Addr) (cap : Nat) (bs : List ByteArray) (s : Int) : Value := .agg #[.slice A bs.length cap, .int .i64 s]
/-- what Do leaves -/
def DoIs (bs : List ByteArray) (s : Int) (c d : ByteArray) (w : World) (e : Ending) (w' : World) : Prop :=
  ∃ A cap, e = .returned (.tuple #[dkV A cap (did bs s c d).1 (did bs s c d).2.1, .string (did bs s c d).2.2.1, .int .i64 (did bs s c d).2.2.2]) ∧ (did bs s c d).1.length = bs.length ∧
    Kt.Sl w' w.heap.size 9 1 (.slice A bs.length cap) bs.length (sts (did bs s c d).1) ∧ Below w.heap.size w w'
/-- the box, the result's box and the blocks' copy -/
structure DoW (w : World) (A : Option Addr) (cap : Nat) (bs : List ByteArray) (s : Int) (W : World) : Prop where
  dk : DkW w.heap.size (w.heap.size + 2) bs s A cap W
  row2 : W.heap[w.heap.size + 1]? = some (.cells #[.slice none 0 0, .int .i64 0] 24 (0, 0))
  bel : Below w.heap.size w W
theorem DoW.row {w : World} {A : Option Addr} {cap : Nat} {bs : List ByteArray} {s : Int} {W : World} (h : DoW w A cap bs s W) : W.heap[w.heap.size]? = some (.cells #[.slice A bs.length cap, .int .i64 s] 24 (0, 0)) := h.dk.row
theorem DoW.sl {w : World} {A : Option Addr} {cap : Nat} {bs : List ByteArray} {s : Int} {W : World} (h : DoW w A cap bs s W) : Kt.Sl W (w.heap.size + 2) 9 1 (.slice A bs.length cap) bs.length (sts bs) := h.dk.sl
theorem DoW.on {w : World} {A : Option Addr} {cap : Nat} {bs : List ByteArray} {s : Int} {W W' : World} (h : DoW w A cap bs s W) (hb : Below W.heap.size W W') : DoW w A cap bs s W' :=
  ⟨h.dk.on hb, Kt.row_on hb h.row2, Kt.bthen h.bel hb⟩
theorem DoW.next {w : World} {A : Option Addr} {cap : Nat} {bs b : List ByteArray} {s s' : Int} {W W' : World} (h : DoW w A cap bs s W) (hd : DkW w.heap.size (w.heap.size + 2) b s' A cap W') (hb : Below (w.heap.size + 2) W W') : DoW w A cap b s' W' :=
  ⟨hd, (hb.block _ (by omega)).trans h.row2, h.bel.trans (hb.mono (by omega))⟩
theorem DoW.make {w w3 : World} {A A3 : Option Addr} {cap c3 : Nat} {bs : List ByteArray} {s : Int} (hr : w3.heap[w.heap.size]? = some (Obj.cells #[Value.slice A bs.length cap, Value.int IntKind.i64 s] 24) ∧ w3.heap[w.heap.size + 1]? = some (Obj.cells #[Value.slice none 0 0, Value.int IntKind.i64 0] 24))
    (hs : Kt.Sl w3 ((w.alloc (Obj.cells #[Value.slice A bs.length cap, Value.int IntKind.i64 s] 24)).alloc (Obj.cells #[Value.slice none 0 0, Value.int IntKind.i64 0] 24)).heap.size 9 1 (.slice A3 bs.length c3) bs.length (sts bs)) (hb : Below w.heap.size w w3) :
    DoW w A3 c3 bs s (w3.setCell ⟨w.heap.size, 0, none⟩ (.slice A3 bs.length c3)) := by
  have e : ((w.alloc (Obj.cells #[Value.slice A bs.length cap, Value.int IntKind.i64 s] 24)).alloc (Obj.cells #[Value.slice none 0 0, Value.int IntKind.i64 0] 24)).heap.size = w.heap.size + 2 := by simp
  rw [e] at hs
  refine ⟨⟨?_, ?_, by omega⟩, ?_, Kt.bset hb (Nat.le_refl _) _⟩
  · exact heap_setCell_same _ _ _ _ _ _ hr.1
  · exact hs.keep fun k hk => heap_setCell_other _ _ _ _ (by have := (hs.lt k hk).1; show k ≠ w.heap.size; omega)
  · exact (heap_setCell_other _ _ _ _ (show w.heap.size + 1 ≠ w.heap.size by omega)).trans hr.2
theorem as_fail (v : Value) (W : World) : (Instr.typeAssert (.iface 141 v) 61 141 true).run Try.prog W = .ok (.tuple #[v, .bool true]) W := by kernel_rfl
theorem as_nil (W : World) : (Instr.typeAssert .nilIface 61 141 true).run Try.prog W = .ok (.tuple #[.int .i64 0, .bool false]) W := by kernel_rfl
theorem ld_dk {W : World} {g : Nat} {x y : Value} (h : W.heap[g]? = some (.cells #[x, y] 24 (0, 0))) : (loadVar 24 ⟨g, 0, none⟩).run Try.prog W = .ok (.agg #[x, y]) W :=
  run_loadVar_row W g 24 24 #[x, y] (0, 0) _ h Try.underlying24 rfl (by kernel_rfl)
theorem row_put {W : World} {g : Nat} {x y x' y' : Value} {t : TypeId} (h : W.heap[g]? = some (.cells #[x, y] t (0, 0))) : ((W.setCell ⟨g, 0, none⟩ x').setCell ⟨g, 1, none⟩ y').heap[g]? = some (.cells #[x', y'] t (0, 0)) :=
  heap_setCell_same _ _ _ _ _ _ (heap_setCell_same _ _ _ _ _ _ h)
theorem sl_put2 {W : World} {B : Nat} {V : Value} {n g : Nat} {xs : List Value} (h : Kt.Sl W B 9 1 V n xs) (hg : g < B) (x y : Value) (i j : Nat) : Kt.Sl ((W.setCell ⟨g, i, none⟩ x).setCell ⟨g, j, none⟩ y) B 9 1 V n xs :=
  (h.keep fun k hk => heap_setCell_other _ _ _ _ (by have := (h.lt k hk).1; show k ≠ g; omega)).keep fun k hk => heap_setCell_other _ _ _ _ (by have := (h.lt k hk).1; show k ≠ g; omega)
theorem DoW.sense {w : World} {A : Option Addr} {cap : Nat} {b : List ByteArray} {s : Int} {W : World} (h : DoW w A cap b s W) (s' : Int) : DoW w A cap b s' (W.setCell ⟨w.heap.size, 1, none⟩ (.int .i64 s')) :=
  ⟨⟨heap_setCell_same _ _ _ _ _ _ h.row, h.sl.keep fun k hk => heap_setCell_other _ _ _ _ (by have := (h.sl.lt k hk).1; show k ≠ w.heap.size; omega), h.dk.lt⟩,
   (heap_setCell_other _ _ _ _ (show w.heap.size + 1 ≠ w.heap.size by omega)).trans h.row2, Kt.bset h.bel (Nat.le_refl _) _⟩
theorem DoW.end {w : World} {A : Option Addr} {cap : Nat} {b bs : List ByteArray} {s : Int} {W : World} {s' : Int} {o : ByteArray} {code : Int} {c d : ByteArray} (h : DoW w A cap b s W) (hb : b.length = bs.length) (e : did bs s' c d = (b, s, o, code)) (x y : Value) :
    DoIs bs s' c d w (.returned (.tuple #[.agg #[.slice A bs.length cap, .int .i64 s], .string o, .int .i64 code])) ((W.setCell ⟨w.heap.size + 1, 0, none⟩ x).setCell ⟨w.heap.size + 1, 1, none⟩ y) := by
  refine ⟨A, cap, ?_, ?_, ?_, ?_⟩
  · rw [e, ← hb]; rfl
  · rw [e]; exact hb
  · rw [e, ← hb]; exact (sl_put2 h.sl (by omega) x y 0 1).mono (by omega)
  · exact Kt.bset (Kt.bset h.bel (show w.heap.size ≤ w.heap.size + 1 by omega) _) (show w.heap.size ≤ w.heap.size + 1 by omega) _
set_option maxRecDepth 100000 in
set_option maxHeartbeats 3200000 in
theorem Do_calls (bs : List ByteArray) (s : Int) (c d : ByteArray) (A : Option Addr) (cap : Nat) (w : World) (h : DkA w A cap bs) (hn : bs.length ≤ 8796093022208) :
    Calls Try.prog 76 #[dkV A cap bs s, .string c, .string d] w (DoIs bs s c d w) := by
  have HA := Lib.hid h
  have HN := Lib.hid hn
  clear h hn
  unfold dkV
  go_enter Try.func76, Try.ntmps76
  go_wp2_with fail
  refine (clone_calls _ bs.length (sts bs) _ (HA.out.on ?_) (sts_one bs) HN.out).mono ?_
  · exact Kt.balloc (Kt.balloc (Below.refl _ w) _) _
  rintro e w3 ⟨A3, c3, rfl, hsl, hb⟩
  have HR := Lib.hid (Kt.box2 hb)
  have HS := Lib.hid hsl
  have HB := Lib.hid (Kt.bthen (Kt.balloc (Kt.balloc (Below.refl _ w) _) _) hb)
  clear hsl hb
  have r0 := HR.out.1
  have fz := frozen_of_row _ _ 0 _ _ r0
  have q := fun i => cell_of_row _ _ i _ _ _ r0
  clear r0
  go_wp2_with fail
  have HW : Hid (DoW w A3 c3 bs s (w3.setCell ⟨w.heap.size, 0, none⟩ (.slice A3 bs.length c3))) := Lib.hid (DoW.make HR.out HS.out HB.out)
  clear fz q HR HS HB
  refine Kt.foldC (fun X => Hid (DoW w A3 c3 bs s X)) HW (fun W4 HW => ?_)
  refine (dcheck_calls bs s A3 c3 W4 (Kt.Ar.of_sl HW.out.sl) (by have := HN.out; omega)).mono ?_
  rintro e W5 ⟨rfl, hb⟩
  have HX := Lib.hid (HW.out.on hb)
  clear HW hb
  by_cases hk : chkD bs s = 0
  · rw [hk]
    have HO := Lib.hid (chkD_ok.1 hk)
    have hB5 : w.heap.size + 2 ≤ W5.heap.size := by
      have := (Array.getElem?_eq_some_iff.1 HX.out.row2).1
      omega
    have HDO := Lib.hid (do_calls w.heap.size (w.heap.size + 2) bs s c d A3 c3 W5 HX.out.dk hB5 HO.out.n1 HO.out.n2 HO.out.sz HO.out.sn)
    have r0 := HX.out.row
    have q := fun i => cell_of_row _ _ i _ _ _ r0
    clear hk hB5 r0
    go_wp2_with fail
    refine HDO.out.mono ?_
    rintro e W6 (⟨f, ha, rfl, hd, hb⟩ | ⟨b, o, ha, hl, rfl, hd, hb⟩)
    · have HX6 := Lib.hid (HX.out.next hd hb)
      have HE := Lib.hid (did_err HO.out ha)
      have ev : errV f = .iface 141 (.int .i64 f) := by unfold errV; rw [if_neg (by have := ans_err ha; omega)]
      rw [ev]
      have q := fun i => cell_of_row _ _ i _ _ _ hd.row
      have fz := fun i => frozen_of_row _ _ i _ _ hd.row
      have q1 := fun i => cell_of_row _ _ i _ _ _ HX6.out.row2
      have fz1 := fun i => frozen_of_row _ _ i _ _ HX6.out.row2
      have hta := fun W => as_fail (.int .i64 f) W
      clear ha hd hb HDO HX ev
      go_wp2_with fail
      have HY := Lib.hid (HX6.out.sense f)
      have hW := ld_dk (row_put (x' := .slice A3 bs.length c3) (y' := .int .i64 f) HY.out.row2)
      refine bodyPost_ret (v := .tuple #[.agg #[.slice A3 bs.length c3, .int .i64 f], .string ⟨#[]⟩, .int .i64 14]) (by simp [results, Try.results76, asAddr, hW]) rfl ?_
      exact HY.out.end rfl HE.out _ _
    · have HX6 := Lib.hid (HX.out.next hd hb)
      have HE := Lib.hid (did_fine HO.out ha)
      have ev : errV 0 = .nilIface := rfl
      rw [ev]
      have q := fun i => cell_of_row _ _ i _ _ _ hd.row
      have fz := fun i => frozen_of_row _ _ i _ _ hd.row
      have q1 := fun i => cell_of_row _ _ i _ _ _ HX6.out.row2
      have fz1 := fun i => frozen_of_row _ _ i _ _ HX6.out.row2
      have HLN := Lib.hid hl
      have hta := fun W => as_nil W
      clear ha hd hb HDO HX ev hl
      go_wp2_with fail
      have HY := Lib.hid (HX6.out.sense 0)
      have hW := ld_dk (row_put (x' := .slice A3 b.length c3) (y' := .int .i64 0) HY.out.row2)
      refine bodyPost_ret (v := .tuple #[.agg #[.slice A3 b.length c3, .int .i64 0], .string o, .int .i64 0]) (by simp [results, Try.results76, asAddr, hW]) rfl ?_
      have hz := HY.out.end HLN.out HE.out (.slice A3 b.length c3) (.int .i64 0)
      rw [← HLN.out] at hz
      exact hz
  · have hk' : (chkD bs s != 0) = true := by rw [bne_iff_ne]; exact hk
    have r0 := HX.out.row
    have r1 := HX.out.row2
    have q := fun i => cell_of_row _ _ i _ _ _ r0
    have q1 := fun i => cell_of_row _ _ i _ _ _ r1
    have fz1 := fun i => frozen_of_row _ _ i _ _ r1
    clear r0 r1
    go_wp2_with fail
    have hW := ld_dk (row_put (x' := .slice A3 bs.length c3) (y' := .int .i64 s) HX.out.row2)
    refine bodyPost_ret (v := .tuple #[.agg #[.slice A3 bs.length c3, .int .i64 s], .string ⟨#[]⟩, .int .i64 (chkD bs s)]) (by simp [results, Try.results76, asAddr, hW]) rfl ?_
    exact HX.out.end rfl (by unfold did; rw [if_pos hk]; rfl) _ _
end Go.Proofs.Ytafiedhjjnapoaa
