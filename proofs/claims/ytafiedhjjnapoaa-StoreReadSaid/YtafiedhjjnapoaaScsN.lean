/- Disks: New(2), scsiLives walked. -/
import Derived.Test.YtafiedhjjnapoaaScsO
namespace Go.Proofs.Ytafiedhjjnapoaa
open Go.RowKit Go.Proofs.Ytafiedhjjnapoaa.Scs
def zb : ByteArray := ⟨#[0, 0, 0, 0, 0, 0, 0, 0, 0, 0, 0, 0, 0, 0, 0, 0]⟩
theorem mk2 (X : World) : (Instr.makeSlice 22 (.int .i64 2) (.int .i64 2)).run Try.prog X = .ok (.slice (some ⟨X.heap.size, 0, none⟩) 2 2) (X.alloc (.cells #[.string ⟨#[]⟩, .string ⟨#[]⟩] 9)) := by kernel_rfl
theorem strS : (Try.prog.info? 9).map (·.size) = some 1 := by kernel_rfl
theorem cp1 (W : World) (g : Nat) (hs : W.heap.size = g + 1) (hr : W.heap[g]? = some (.cells #[.string zb] 9 (0, 0))) :
    (Builtin.copy_ #[22, 22] 3 #[.slice (some ⟨g + 1, 0, none⟩) 2 2, .slice (some ⟨g, 0, none⟩) 1 1]).run Try.prog (W.alloc (.cells #[.string ⟨#[]⟩, .string ⟨#[]⟩] 9)) =
      .ok (.int .i64 1) ((W.alloc (.cells #[.string ⟨#[]⟩, .string ⟨#[]⟩] 9)).setRow (g + 1) #[.string zb, .string ⟨#[]⟩]) := by
  have hg : (W.alloc (.cells #[.string ⟨#[]⟩, .string ⟨#[]⟩] 9)).heap[g + 1]? = some (.cells #[.string ⟨#[]⟩, .string ⟨#[]⟩] 9 (0, 0)) := by rw [← hs]; exact heap_alloc_new W _
  have hg0 : (W.alloc (.cells #[.string ⟨#[]⟩, .string ⟨#[]⟩] 9)).heap[g]? = some (.cells #[.string zb] 9 (0, 0)) := (Below.heap_alloc W _ g (by omega)).trans hr
  have h := run_copy_row (P := Try.prog) (W.alloc (.cells #[.string ⟨#[]⟩, .string ⟨#[]⟩] 9)) 22 22 3 9 (g + 1) 0 2 2 ⟨g, 0, none⟩ 1 1 #[.string ⟨#[]⟩, .string ⟨#[]⟩] 9 [.string zb] Try.underlying22 strS hg rfl (fun j v hj => by
    match j with
    | 0 =>
      have := cell_of_row _ _ 0 _ _ _ hg0
      simpa [Addr.add] using (this.trans hj)
    | j + 1 => simp at hj) (by decide) (by simp [Value.oneCell'])
  exact h
theorem browN {B g : Nat} {a w : World} (h : Below B a w) (hg : B ≤ g) (cs : Array Value) : Below B a (w.setRow g cs) :=
  ⟨h.os, h.tape, h.output, by rw [setRow_size]; exact h.size, fun k hk => (setRow_other _ _ _ _ (by omega)).trans (h.block k hk)⟩
theorem cp2 (W : World) (g : Nat) (hg : W.heap[g]? = some (.cells #[.string zb, .string ⟨#[]⟩] 9 (0, 0))) :
    (Builtin.copy_ #[22, 22] 3 #[.slice (some ⟨g, 1, none⟩) 1 1, .slice (some ⟨g, 0, none⟩) 1 2]).run Try.prog W = .ok (.int .i64 1) (W.setRow g #[.string zb, .string zb]) := by
  have h := run_copy_row (P := Try.prog) W 22 22 3 9 g 1 1 1 ⟨g, 0, none⟩ 1 2 #[.string zb, .string ⟨#[]⟩] 9 [.string zb] Try.underlying22 strS hg rfl (fun j v hj => by
    match j with
    | 0 =>
      have := cell_of_row _ _ 0 _ _ _ hg
      simpa [Addr.add] using (this.trans hj)
    | j + 1 => simp at hj) (by decide) (by simp [Value.oneCell'])
  exact h
set_option maxRecDepth 100000 in
set_option maxHeartbeats 1600000 in
theorem rep_calls (w : World) : Calls Try.prog 56 #[.slice (some ⟨w.heap.size, 0, none⟩) 1 1, .int .i64 2] (w.alloc (.cells #[.string zb] 9)) fun e w' => e = .returned (.slice (some ⟨w.heap.size + 1, 0, none⟩) 2 2) ∧ w'.heap[w.heap.size + 1]? = some (.cells #[.string zb, .string zb] 9 (0, 0)) ∧ Below w.heap.size w w' := by
  have r0 : (w.alloc (.cells #[.string zb] 9)).heap[w.heap.size]? = some (.cells #[.string zb] 9 (0, 0)) := heap_alloc_new w _
  have q := fun i => cell_of_row _ _ i _ _ _ r0
  have HB : Hid (Below w.heap.size w (w.alloc (.cells #[.string zb] 9))) := Lib.hid (Kt.balloc (Below.refl _ w) _)
  have hs : (w.alloc (.cells #[.string zb] 9)).heap.size = w.heap.size + 1 := by simp
  have HR := Lib.hid r0
  clear r0
  generalize (w.alloc (.cells #[.string zb] 9)) = W at *
  go_enter Try.func56, Try.ntmps56
  have hm := fun X => mk2 X
  have hc1 := cp1 W w.heap.size hs HR.out
  go_wp2
  have HY : Hid (((W.alloc (.cells #[.string ⟨#[]⟩, .string ⟨#[]⟩] 9)).setRow (w.heap.size + 1) #[.string zb, .string ⟨#[]⟩]).heap[w.heap.size + 1]? = some (.cells #[.string zb, .string ⟨#[]⟩] 9 (0, 0)) ∧ Below w.heap.size w ((W.alloc (.cells #[.string ⟨#[]⟩, .string ⟨#[]⟩] 9)).setRow (w.heap.size + 1) #[.string zb, .string ⟨#[]⟩])) := Lib.hid (by
    have hn := heap_alloc_new W (.cells #[.string ⟨#[]⟩, .string ⟨#[]⟩] 9)
    rw [hs] at hn
    exact ⟨setRow_heap _ _ _ _ _ _ hn, browN (Kt.balloc HB.out _) (by omega) _⟩)
  clear q HB hs HR hm hc1
  refine Kt.fold (fun X => Hid (X.heap[w.heap.size + 1]? = some (.cells #[.string zb, .string ⟨#[]⟩] 9 (0, 0)) ∧ Below w.heap.size w X)) HY (fun X HY => ?_)
  have hc2 := cp2 X.drew (w.heap.size + 1) HY.out.1
  refine wp_loop_rounds 2 ?_
  rw [rounds_succ]
  go_wp2_with fail
  go_region
  all_goals go_wp2_with fail
  rw [rounds_succ]
  go_wp2_with fail
  go_ret
  exact ⟨rfl, setRow_heap _ _ _ _ _ _ HY.out.1, browN HY.out.2.drew (by omega) _⟩
set_option maxRecDepth 100000 in
set_option maxHeartbeats 1600000 in
theorem new2_calls (w : World) : Calls Try.prog 42 #[.int .i64 2] w fun e w' => ∃ g, e = .returned (.tuple #[dkV (some ⟨g, 0, none⟩) 2 [zb, zb] 0, .int .i64 0]) ∧ w'.heap[g]? = some (.cells #[.string zb, .string zb] 9 (0, 0)) ∧ Below w.heap.size w w' := by
  go_enter Try.func42, Try.ntmps42
  go_wp2_with fail
  have hr := Try.strings_Repeat_main ⟨#[0]⟩ 16 (w.alloc (.cells #[.slice none 0 0, .int .i64 0] 24)) (by decide) (by decide) (by decide) (by decide)
  rw [show (⟨(Lib.repeatL (⟨#[0]⟩ : ByteArray).data.toList 16).toArray⟩ : ByteArray) = zb from by decide +kernel] at hr
  refine hr.mono ?_
  rintro e w2 ⟨rfl, hb⟩
  have HR := Lib.hid (Kt.box1 hb)
  have HB := Lib.hid (Kt.bthen (Kt.balloc (Below.refl _ w) _) hb)
  clear hr hb
  go_wp2_with fail
  refine (rep_calls w2).mono ?_
  rintro e w3 ⟨rfl, hg, hb⟩
  have HR3 := Lib.hid (Kt.row_on hb HR.out)
  have HB3 := Lib.hid (Kt.bthen HB.out hb)
  have HG := Lib.hid hg
  have HL : Hid (w.heap.size < w2.heap.size) := Lib.hid (Array.getElem?_eq_some_iff.1 HR.out).1
  have q := fun i => cell_of_row _ _ i _ _ _ HR3.out
  have fz := fun i => frozen_of_row _ _ i _ _ HR3.out
  clear hg hb HR HB
  go_wp2_with fail
  have hW := ld_dk (row_put (x' := .slice (some ⟨w2.heap.size + 1, 0, none⟩) 2 2) (y' := .int .i64 0) HR3.out)
  refine bodyPost_ret (v := .tuple #[dkV (some ⟨w2.heap.size + 1, 0, none⟩) 2 [zb, zb] 0, .int .i64 0]) (by simp [results, Try.results42, asAddr, hW, dkV]) rfl ?_
  refine ⟨_, rfl, ?_, Kt.bset (Kt.bset HB3.out (Nat.le_refl _) _) (Nat.le_refl _) _⟩
  have hne : w2.heap.size + 1 ≠ w.heap.size := by have := HL.out; omega
  exact (heap_setCell_other _ _ _ _ hne).trans ((heap_setCell_other _ _ _ _ hne).trans HG.out)
theorem inq2_form : formC ⟨#[37, 0, 0, 0, 0, 0, 0, 0, 0, 0]⟩ = 0 := by
  have h : ∀ i, i < 10 → bt ⟨#[37, 0, 0, 0, 0, 0, 0, 0, 0, 0]⟩ i = (if i = 0 then 37 else 0) := by decide
  unfold formC
  rw [show (⟨#[37, 0, 0, 0, 0, 0, 0, 0, 0, 0]⟩ : ByteArray).size = 10 from rfl, if_neg (by decide), h 0 (by omega), if_pos rfl]
  rw [show used 37 = some [] from by decide]
  simp only
  rw [if_neg (by decide), if_neg, if_neg (by decide)]
  rintro ⟨i, hi, hi1, hb, hm⟩
  rw [h i hi, if_neg (by omega)] at hb
  exact hb rfl
theorem lives_did : did [zb, zb] 0 ⟨#[37, 0, 0, 0, 0, 0, 0, 0, 0, 0]⟩ ⟨#[]⟩ = ([zb, zb], 0, ⟨#[0, 0, 0, 1, 0, 0, 0, 16]⟩, 0) := by
  have hk : OkD [zb, zb] 0 := ⟨by decide, by decide, by intro b hb; simp at hb; subst hb; rfl, .inl rfl⟩
  refine did_fine hk ?_
  have b0 : bt ⟨#[37, 0, 0, 0, 0, 0, 0, 0, 0, 0]⟩ 0 = 37 := by decide
  unfold ans
  rw [inq2_form, if_neg (by decide), b0, if_neg (by decide), if_neg (by decide), if_neg (by decide), if_neg (by decide), if_pos rfl]
  rfl
theorem dka_row {W : World} {g : Nat} (h : W.heap[g]? = some (.cells #[.string zb, .string zb] 9 (0, 0))) : DkA W (some ⟨g, 0, none⟩) 2 [zb, zb] := by
  refine ⟨rfl, some ⟨g, 0, none⟩, 2, rfl, by decide, fun _ => ⟨g, 0, rfl, (Array.getElem?_eq_some_iff.1 h).1, fun j hj => ?_⟩⟩
  have := cell_of_row _ _ j _ _ _ h
  rw [Nat.zero_add, this]
  match j, hj with
  | 0, _ => rfl
  | 1, _ => rfl
end Go.Proofs.Ytafiedhjjnapoaa
