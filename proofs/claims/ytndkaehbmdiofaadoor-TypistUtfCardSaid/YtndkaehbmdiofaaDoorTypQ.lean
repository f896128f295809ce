/- The law TypistUtf, walked. -/
import Derived.Test.YtndkaehbmdiofaaDoorTypO
import Derived.Test.YtndkaehbmdiofaaDoorTypJ
import Derived.Test.YtndkaehbmdiofaaDoorTypX
namespace Go.Proofs.YtndkaehbmdiofaaDoor
open Go.RowKit Go.Proofs.YtndkaehbmdiofaaDoor.Typ
/-- what utf8.ValidString answers in all worlds from this one on -/
def VdT (w : World) : Prop := ∀ (s : ByteArray) (w1 : World), s.size ≤ 140737488355328 → Below w.heap.size w w1 → Calls Tryd.prog 19 #[.string s] w1 fun e w' => e = .returned (.bool (Lib.validD s.data.toList)) ∧ Below w1.heap.size w1 w'
theorem ueql_zero (w : World) : (binOp .eql 37 (.agg zcs) (.agg zcs)).run Tryd.prog w = .ok (.bool true) w := eql_ty St.zero w
set_option maxRecDepth 100000 in
set_option maxHeartbeats 6400000 in
theorem utf_calls (t : St) (a : List Sk) (A1 : Option Addr) (p1 : Nat) (w0 : World) (hv : Kt.Ar w0 (.slice A1 a.length p1) 4 a.length (sks a)) (hT : ∀ W, Below w0.heap.size w0 W → Lib.Utf8Tabs 0 1 W) (hvd : VdT w0) :
    Calls Tryd.prog 8 #[t.v, .slice A1 a.length p1] w0 fun e w' => e = .returned (.bool true) ∧ Below w0.heap.size w0 w' := by
  have HT := Lib.hid hT
  have HVD := Lib.hid hvd
  have HV := Lib.hid hv
  have HLV := Lib.hid (fun W hW => tlives_calls W (fun X hX => HT.out X (Kt.bthen hW hX)))
  have HR0 := Lib.hid (heap_alloc_new w0 (.cells t.cs 37))
  have HB0 := Lib.hid (Kt.balloc (Below.refl _ w0) (.cells t.cs 37))
  obtain ⟨x, e, hxe⟩ : ∃ x e, typeP t a = (x, e) := ⟨_, _, rfl⟩
  have HX := Lib.hid hxe
  have HTA := Lib.hid (fun W hW => type_calls t a A1 p1 W (HV.out.on hW) (fun X hX => HT.out X (Kt.bthen hW hX)))
  rw [hxe] at HTA
  clear hv hT hxe hvd
  unfold St.v
  go_enter Tryd.func8, Tryd.ntmps8
  go_upto_region 1 with (fail)
  refine Kt.fold (fun X => Hid (X.heap[w0.heap.size]? = some (.cells t.cs 37 (0, 0)) ∧ Below w0.heap.size w0 X)) (Lib.hid ⟨HR0.out, HB0.out⟩) (fun W1 HW1 => ?_)
  clear HR0 HB0
  have hr := HW1.out.1
  unfold St.cs at hr
  have q := fun i => cell_of_row _ _ i _ _ _ hr
  clear hr
  unfold St.v at HTA
  unfold St.cs at HTA
  go_wp2_with fail
  refine (HTA.out _ HW1.out.2).mono ?_; rintro en w2 ⟨rfl, hb⟩
  have HW2 := Lib.hid (show w2.heap[w0.heap.size]? = some (.cells t.cs 37 (0, 0)) ∧ Below w0.heap.size w0 w2 from ⟨Kt.row_on hb HW1.out.1, Kt.bthen HW1.out.2 hb⟩)
  clear hb q HW1 HTA
  have HXB := Lib.hid (heap_alloc_new w2 (.cells x.cs 37))
  have HAL := Lib.hid (Kt.balloc (Below.refl _ w2) (.cells x.cs 37))
  unfold St.cs at HAL HXB
  go_upto_region 2 with (fail)
  refine Kt.fold (fun X => Hid (X.heap[w0.heap.size]? = some (.cells t.cs 37 (0, 0)) ∧ X.heap[w2.heap.size]? = some (.cells x.cs 37 (0, 0)) ∧ Below w0.heap.size w0 X)) (Lib.hid ⟨Kt.row_on HAL.out HW2.out.1, HXB.out, Kt.bthen HW2.out.2 HAL.out⟩) (fun W3 HW3 => ?_)
  obtain ⟨kx, hkx⟩ : ∃ k, w2.heap.size = k := ⟨_, rfl⟩
  rw [hkx] at HW3 ⊢
  clear hkx HXB HAL HW2
  go_wp2_with fail
  refine (HLV.out _ HW3.out.2.2).mono ?_; rintro en w4 ⟨rfl, hb⟩
  have HW4 := Lib.hid (show w4.heap[w0.heap.size]? = some (.cells t.cs 37 (0, 0)) ∧ w4.heap[kx]? = some (.cells x.cs 37 (0, 0)) ∧ Below w0.heap.size w0 w4 from ⟨Kt.row_on hb HW3.out.1, Kt.row_on hb HW3.out.2.1, Kt.bthen HW3.out.2.2 hb⟩)
  clear hb HW3
  by_cases he : e = 0
  · subst he
    have HP := Lib.hid (utf_plain HX.out)
    have HTS : Hid (t.text.size ≤ 4096) := Lib.hid (typeP_sz HX.out)
    have hr := HW4.out.1
    have hr2 := HW4.out.2.1
    unfold St.cs at hr hr2
    have q := fun i => cell_of_row _ _ i _ _ _ hr
    have q2 := fun i => cell_of_row _ _ i _ _ _ hr2
    clear hr hr2
    have hle : (x.text.size : Int) ≤ 4096 := by have := HP.out.1; omega
    go_wp2_with fail
    refine (HVD.out t.text _ (by have := HTS.out; omega) HW4.out.2.2).mono ?_; rintro en w5 ⟨rfl, hb⟩
    have hr5 := Kt.row_on hb HW4.out.2.1
    have HB5 := Lib.hid (Kt.bthen HW4.out.2.2 hb)
    unfold St.cs at hr5
    clear q q2 hb
    have q2 := fun i => cell_of_row _ _ i _ _ _ hr5
    clear hr5
    cases hvt : Lib.validD t.text.data.toList
    · go_wp2_with fail
      go_ret
      exact ⟨rfl, HB5.out⟩
    · have hvx : Lib.validD x.text.data.toList = true := HP.out.2 hvt
      go_wp2_with fail
      refine (HVD.out x.text _ (by have := HP.out.1; omega) HB5.out).mono ?_; rintro en w6 ⟨rfl, hb⟩
      rw [hvx]
      have HB6 := Lib.hid (Kt.bthen HB5.out hb)
      go_wp2_with fail
      go_ret
      exact ⟨rfl, HB6.out⟩
  · have he' : (e != 0) = true := by rw [bne_iff_ne]; exact he
    have he2 : (e == 0) = false := by rw [beq_eq_false_iff_ne]; exact he
    obtain rfl : x = St.zero := typeP_err HX.out he
    have hr := HW4.out.2.1
    rw [zero_cs] at hr
    clear he
    go_wp2_with fail
    refine (HLV.out _ HW4.out.2.2).mono ?_; rintro en w5 ⟨rfl, hb⟩
    have HB5 := Lib.hid (Kt.bthen HW4.out.2.2 hb)
    have hr5 := Kt.row_on hb hr
    unfold zcs at hr5
    have q := fun i => cell_of_row _ _ i _ _ _ hr5
    have EQ := fun W => ueql_zero W
    have EG := fun y z W => guard_ty y z zcs zcs W
    unfold zcs at EQ EG
    clear hb hr hr5
    go_wp2_with fail
    go_ret
    exact ⟨rfl, HB5.out⟩
end Go.Proofs.YtndkaehbmdiofaaDoor
