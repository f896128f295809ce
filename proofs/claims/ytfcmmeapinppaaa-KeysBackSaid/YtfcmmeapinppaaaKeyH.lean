/- plugref.HasKey walked. -/
import Derived.Test.YtfcmmeapinppaaaKeyF
namespace Go.Proofs.Ytfcmmeapinppaaa
open Go.RowKit
set_option maxHeartbeats 800000 in
theorem haskey_calls (h : Hd) (c : Nat) (hc : c < 256) (w : World) : Calls Try.prog 16 #[h.v, .int .i64 c] w fun e w' => e = .returned (.bool (h.has c)) ∧ Below w.heap.size w w' := by
  have hcell := h.cell (c / 64) (by omega)
  have HH := Lib.hid (show h.has c = (((h.at (c / 64)).toNat / 2 ^ (c % 64)) % 2 == 1) from rfl)
  have e4 : (c : Int).tdiv 64 = ((c / 64 : Nat) : Int) := by
    rw [Int.tdiv_eq_ediv_of_nonneg (by omega)]; omega
  have e6 : IntKind.i64.wrap ((c / 64 : Nat) : Int) = ((c / 64 : Nat) : Int) := IntWalk.i64_in _ (by omega)
  have e5 : (c : Int).tmod 64 = ((c % 64 : Nat) : Int) := by
    rw [Int.tmod_eq_emod_of_nonneg (by omega)]; omega
  have hq4 : c / 64 < 4 := by omega
  have hr6 : c % 64 < 64 := by omega
  have hx := (h.at (c / 64)).toNat_lt
  generalize (h.at (c / 64)).toNat = x at *
  generalize c / 64 = q at *
  generalize c % 64 = r at *
  have e7 : (0 : Int) ≤ (q : Int) := by omega
  have e8 : (q : Int) < 4 := by omega
  unfold Hd.v
  go_enter Try.func16, Try.ntmps16
  unfold Hd.vs
  go_wp2_with fail
  have hrow := heap_alloc_new w (.cells #[.int .u64 (h.a.toNat : Int), .int .u64 (h.b.toNat : Int), .int .u64 (h.c.toNat : Int), .int .u64 (h.d.toNat : Int)] 27)
  have x0 : (w.alloc (.cells #[.int .u64 (h.a.toNat : Int), .int .u64 (h.b.toNat : Int), .int .u64 (h.c.toNat : Int), .int .u64 (h.d.toNat : Int)] 27)).cell? ⟨w.heap.size, q, none⟩ = some (.int .u64 (x : Int)) := by
    rw [cell_of_row _ _ _ _ _ _ hrow, ← Array.getElem?_toList]
    exact hcell
  have HB := Lib.hid (Kt.balloc (Below.refl _ w) (.cells #[.int .u64 (h.a.toNat : Int), .int .u64 (h.b.toNat : Int), .int .u64 (h.c.toNat : Int), .int .u64 (h.d.toNat : Int)] 27))
  clear hrow hcell
  generalize w.alloc (.cells #[.int .u64 (h.a.toNat : Int), .int .u64 (h.b.toNat : Int), .int .u64 (h.c.toNat : Int), .int .u64 (h.d.toNat : Int)] 27) = w1 at *
  have x1 : w1.drew.cell? ⟨w.heap.size, q, none⟩ = some (.int .u64 (x : Int)) := x0
  have hp : 2 ^ r < 2 ^ 64 := Nat.pow_lt_pow_right (by omega) hr6
  have hp0 : 0 < 2 ^ r := Nat.two_pow_pos r
  refine wp_region_still_tail 11 (by kernel_rfl) (by kernel_rfl) ?_
  simp only [List.take_succ_cons, List.take_zero, List.drop_succ_cons, List.drop_zero]
  change wpStill _ _ w1.drew _ _ _
  iterate 8 still_step
  have ew : IntKind.u64.wrap ((2 : Int) ^ r) = ((2 ^ r : Nat) : Int) := by
    rw [show ((2 : Int) ^ r) = ((2 ^ r : Nat) : Int) by simp]
    exact IntWalk.u64_in _ (by omega)
  rw [ew]
  clear ew
  generalize 2 ^ r = P at *
  have d1 : (x : Int).tdiv (P : Int) = ((x / P : Nat) : Int) := by
    rw [Int.tdiv_eq_ediv_of_nonneg (by omega)]; rfl
  have dle : x / P ≤ x := Nat.div_le_self _ _
  generalize x / P = y at *
  have d2 : IntKind.u64.wrap (y : Int) = (y : Int) := IntWalk.u64_in _ (by omega)
  have d3 : (y : Int).tmod 2 = ((y % 2 : Nat) : Int) := by
    rw [Int.tmod_eq_emod_of_nonneg (by omega)]; rfl
  have d4 : ((P : Int) == 0) = false := by rw [beq_eq_false_iff_ne]; omega
  have hy2 : y % 2 < 2 := Nat.mod_lt _ (by omega)
  generalize y % 2 = z at *
  have d5 : IntKind.u64.wrap (z : Int) = (z : Int) := IntWalk.u64_in _ (by omega)
  have d6 : ((z : Int) == 1) = (z == 1) := by
    rw [Bool.eq_iff_iff, beq_iff_eq, beq_iff_eq]; omega
  have hPn : P ≠ 0 := by omega
  clear hp hx hy2 dle
  iterate 3 still_step
  refine wpStill_nil ?_
  change wpList _ _ _ _ _ w1.drew
  have HB2 := Lib.hid HB.out.drew
  generalize w1.drew = w2 at *
  go_wp2_with fail
  go_ret
  exact ⟨by rw [HH.out]; rfl, HB2.out⟩
end Go.Proofs.Ytfcmmeapinppaaa
