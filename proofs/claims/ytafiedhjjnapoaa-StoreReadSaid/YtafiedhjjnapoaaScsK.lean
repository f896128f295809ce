/- The law ScsiKeeps, walked. -/
import Derived.Test.YtafiedhjjnapoaaScsN
import Derived.Test.YtafiedhjjnapoaaFr
namespace Go.Proofs.Ytafiedhjjnapoaa
open Go.RowKit Go.Proofs.Ytafiedhjjnapoaa.Scs
theorem eqs_true (A A' : Option Addr) (cap cap' : Nat) (bs : List ByteArray) (w : World) (h : DkA w A cap bs) (h' : DkA w A' cap' bs) (hn : bs.length ≤ 140737488355328) :
    Calls Try.prog 12 #[.slice A bs.length cap, .slice A' bs.length cap'] w fun e w' => e = .returned (.bool true) ∧ Below w.heap.size w w' := by
  obtain ⟨B, c, e, _, hx⟩ := h.form
  obtain ⟨B', c', e', _, hx'⟩ := h'.form
  cases e; cases e'
  by_cases h0 : bs.length = 0
  · rw [h0]
    exact (Try.slices_Equal_string_empty A A' cap 0 cap' w (by decide)).mono fun e w' h => ⟨by simpa using h.1, h.2 ▸ Below.refl _ _⟩
  · obtain ⟨b, o, rfl, _, hc⟩ := hx (by omega)
    obtain ⟨b', o', rfl, _, hc'⟩ := hx' (by omega)
    refine (Try.slices_Equal_string b o bs.length cap b' o' bs.length cap' bs bs w (Nat.le_refl _) (Nat.le_refl _) (by omega) (by omega) (fun j hj => ?_) (fun j hj => ?_)).mono fun e w' h => ?_
    · rw [hc j (by rw [sts_len]; exact hj)]; simp [sts, hj]
    · rw [hc' j (by rw [sts_len]; exact hj)]; simp [sts, hj]
    · obtain ⟨rfl, q, rfl⟩ := h
      exact ⟨by simp, bdrewN (Below.refl _ _) q⟩
theorem dk_of {w : World} {B : Nat} {v : Value} (r : Fr.RdV w B (.cat 1 (.slice 1 .string) (.cat 1 (.int .i64) .nil)) v) : ∃ A cap bs s, v = dkV A cap bs s ∧ DkA w A cap bs := by
  obtain ⟨cs, rfl, r⟩ := r
  obtain ⟨l3, _, a3, e3, r3, q3⟩ := Fr.cat_open r
  obtain ⟨_, _, a1, _, ⟨s, rfl, _⟩, q1⟩ := Fr.cat_open q3
  obtain ⟨L, rfl⟩ : ∃ L, l3 = [L] := by
    match l3, e3 with
    | [x], _ => exact ⟨x, rfl⟩
  obtain ⟨ls, hl, _, hL⟩ := Kt.ar_strs (v := L) r3
  have q5 : _ = [] := q1
  rw [a1, q5] at a3
  obtain ⟨A, c, rfl, _, _⟩ := hL.form
  exact ⟨A, c, ls, s, by rw [Fr.arr_of a3]; rfl, hL⟩
end Go.Proofs.Ytafiedhjjnapoaa
