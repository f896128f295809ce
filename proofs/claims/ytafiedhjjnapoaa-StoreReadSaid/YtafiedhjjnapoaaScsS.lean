/- The law ScsiSense, walked. -/
import Derived.Test.YtafiedhjjnapoaaScsK
import Derived.Deep.CutBlock
import Derived.StillTactics
import Derived.BigQuiet
namespace Go.Proofs.Ytafiedhjjnapoaa
open Go.RowKit Go.Proofs.Ytafiedhjjnapoaa.Scs
theorem sdisk_true (A A' : Option Addr) (cap cap' : Nat) (bs : List ByteArray) (s : Int) (w : World) (h : DkA w A cap bs) (h' : DkA w A' cap' bs) (hn : bs.length ≤ 140737488355328) :
    Calls Try.prog 36 #[dkV A cap bs s, dkV A' cap' bs s] w fun e w' => e = .returned (.bool true) ∧ Below w.heap.size w w' := by
  have H1 := Lib.hid h
  have H2 := Lib.hid h'
  clear h h'
  unfold dkV
  go_enter Try.func36, Try.ntmps36
  go_wp2_with fail
  have hb0 := Kt.balloc (Kt.balloc (Below.refl _ w) (.cells #[.slice A bs.length cap, .int .i64 s] 24)) (.cells #[.slice A' bs.length cap', .int .i64 s] 24)
  refine (eqs_true A A' cap cap' bs _ (H1.out.on hb0) (H2.out.on hb0) hn).mono ?_
  rintro e w1 ⟨rfl, hb⟩
  have HB := Lib.hid (Kt.bthen hb0 hb)
  clear hb hb0
  go_wp2_with fail
  go_ret
  exact ⟨rfl, HB.out⟩
theorem lt_of_row {w : World} {b : Nat} {o : Obj} (h : w.heap[b]? = some o) : b < w.heap.size := by
  rcases Nat.lt_or_ge b w.heap.size with q | q
  · exact q
  · rw [Array.getElem?_eq_none q] at h; cases h
/-- a disk by what lies behind it -/
theorem DoIs.open {bs : List ByteArray} {s : Int} {c d : ByteArray} {w : World} {e : Ending} {w' : World} (h : DoIs bs s c d w e w') : ∃ A cap, e = .returned (.tuple #[dkV A cap (did bs s c d).1 (did bs s c d).2.1, .string (did bs s c d).2.2.1, .int .i64 (did bs s c d).2.2.2]) ∧ DkA w' A cap (did bs s c d).1 ∧ Below w.heap.size w w' := by
  obtain ⟨A, cap, e1, hl, hs, hb⟩ := h
  exact ⟨A, cap, e1, by rw [← hl] at hs; exact Kt.Ar.of_sl hs, hb⟩
end Go.Proofs.Ytafiedhjjnapoaa
