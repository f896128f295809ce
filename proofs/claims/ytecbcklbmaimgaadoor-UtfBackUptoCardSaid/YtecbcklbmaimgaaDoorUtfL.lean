/- The units of a text: the contract in two halves, and the start. -/
import Derived.Test.YtecbcklbmaimgaaDoorUtfW
namespace Go.Proofs.YtecbcklbmaimgaaDoor
open Go.RowKit Go.Proofs.YtecbcklbmaimgaaDoor.Utf
theorem lives_wide : wide [97, 240, 157, 132, 158] = [97, 0, 52, 216, 30, 221] := by decide
set_option maxHeartbeats 800000 in
theorem lives_calls (w : World) : Calls Tryd.prog 6 #[] w fun e w' => e = .returned (.bool true) ∧ Below w.heap.size w w' := by
  have hc := wide_calls ⟨#[97, 240, 157, 132, 158]⟩ (by decide)
  rw [wideV_ok (by rw [show ((⟨#[97, 240, 157, 132, 158]⟩ : ByteArray).data.toList) = [97, 240, 157, 132, 158] from rfl, lives_wide]; decide), show ((⟨#[97, 240, 157, 132, 158]⟩ : ByteArray).data.toList) = [97, 240, 157, 132, 158] from rfl, lives_wide] at hc
  have HC := Lib.hid hc; clear hc
  go_enter Tryd.func6, Tryd.ntmps6
  go_wp2_with fail
  refine (HC.out _).mono ?_
  rintro en w1 ⟨rfl, hb1⟩
  go_wp2_with fail
  go_ret
  exact ⟨rfl, hb1⟩
def Wd (s : ByteArray) (t : ByteArray) (e : Int) : Prop := ∀ w : World, Calls Tryd.prog 5 #[.string s] w fun en w' => en = .returned (.tuple #[.string t, .int .i64 e]) ∧ Below w.heap.size w w'
theorem wd_ok (s : ByteArray) (hs : s.size ≤ 35184372088832) (h : (wide s.data.toList).length ≤ 252) : Wd s ⟨(wide s.data.toList).toArray⟩ 0 := fun w => by
  have := wide_calls s hs w
  rw [wideV_ok h] at this; exact this
theorem wd_no (s : ByteArray) (hs : s.size ≤ 35184372088832) (h : ¬ (wide s.data.toList).length ≤ 252) : Wd s ⟨#[]⟩ 2 := fun w => by
  have := wide_calls s hs w
  rw [wideV_no h] at this; exact this
end Go.Proofs.YtecbcklbmaimgaaDoor
