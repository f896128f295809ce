/- laneLives; the law LaneJoins. -/
import Derived.Test.YtjjpnbelahcfiaaDoorLanZ
namespace Go.Proofs.YtjjpnbelahcfiaaDoor
open Go.RowKit Go.Proofs.YtjjpnbelahcfiaaDoor.Lan
theorem lives_calls (w : World) : Calls Tryd.prog 11 #[] w fun e w' => e = .returned (.bool true) ∧ Below w.heap.size w w' := by
  have h1 := fun W : World => stuff_calls ⟨#[49, 49, 49, 49, 49, 49, 49, 48]⟩ W (by decide) (by decide)
  have e1 : stuffR ⟨#[49, 49, 49, 49, 49, 49, 49, 48]⟩ = (⟨#[49, 49, 49, 49, 49, 49, 48, 49, 48]⟩, 0) := by decide +kernel
  have h2 := fun W : World => turn_calls ⟨#[48, 48, 49, 48]⟩ 74 W (by decide)
  have e2 : turnR ⟨#[48, 48, 49, 48]⟩ 74 = (⟨#[75, 74, 74, 75]⟩, 0) := by decide +kernel
  have h3 := fun W : World => bits_calls ⟨#[97]⟩ W (by decide)
  have e3 : (⟨(bitsL (⟨#[97]⟩ : ByteArray).data.toList).toArray⟩ : ByteArray) = ⟨#[49, 48, 48, 48, 48, 49, 49, 48]⟩ := by decide +kernel
  rw [e1] at h1
  rw [e2] at h2
  rw [e3] at h3
  have H1 := Lib.hid h1
  have H2 := Lib.hid h2
  have H3 := Lib.hid h3
  clear h1 h2 h3 e1 e2 e3
  go_enter Tryd.func11, Tryd.ntmps11
  go_wp2_with fail
  refine (H1.out _).mono ?_
  rintro e w1 ⟨rfl, hb1⟩
  have HB1 := Lib.hid hb1
  clear hb1
  go_wp2_with fail
  refine (H2.out _).mono ?_
  rintro e w2 ⟨rfl, hb⟩
  have HB2 := Lib.hid (Kt.bthen HB1.out hb)
  clear hb
  go_wp2_with fail
  refine (H3.out _).mono ?_
  rintro e w3 ⟨rfl, hb⟩
  have HB3 := Lib.hid (Kt.bthen HB2.out hb)
  clear hb
  go_wp2_with fail
  go_ret
  refine ⟨Kt.ret_true ?_, HB3.out⟩
  decide +kernel
theorem byte_rd {w : World} {B : Nat} {v : Value} (r : Fr.RdV w B (.int .u8) v) : ∃ x : UInt8, v = .int .u8 (x.toNat : Int) := by
  obtain ⟨n, hn, hw⟩ := r
  have h : 0 ≤ n ∧ n ≤ 255 := by
    simp only [Lit.wf, Bool.and_eq_true, decide_eq_true_eq] at hw
    exact hw
  refine ⟨UInt8.ofNat n.toNat, ?_⟩
  injection hn with hn _
  rw [hn, UInt8.toNat_ofNat']
  congr 1
  omega
theorem str_rd {w : World} {B : Nat} {v : Value} (r : Fr.RdV w B .string v) : ∃ s : ByteArray, v = .string s ∧ s.size ≤ B := by
  obtain ⟨s, hs, hb⟩ := r
  injection hs with hs _
  exact ⟨s, hs, hb⟩
theorem okL_app (cs a b : List UInt8) : okL cs (a ++ b) = (okL cs a && okL cs b) := by simp [okL, List.all_append]
theorem lastL_is : ∀ (l : List UInt8) (v : UInt8), isLv v → isLv (lastL v l)
  | [], _, h => h
  | b :: l, v, h => lastL_is l _ (lvl_is h)
end Go.Proofs.YtjjpnbelahcfiaaDoor
