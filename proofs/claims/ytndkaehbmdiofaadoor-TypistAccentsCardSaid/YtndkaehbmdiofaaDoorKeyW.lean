/- keys: a set of codes plainly; the walks of has, add, flip, Read. -/
import Derived.Test.YtndkaehbmdiofaaDoorSlm
import Derived.Deep.QuietTactic
import Derived.BigQuiet
import Derived.IntWalk
import Derived.StillTailTactics
namespace Go.Proofs.YtndkaehbmdiofaaDoor
open Go.RowKit
/-- a set of codes -/
structure Hd where
  a : UInt64
  b : UInt64
  c : UInt64
  d : UInt64
deriving DecidableEq
def Hd.l (h : Hd) : List UInt64 := [h.a, h.b, h.c, h.d]
def Hd.vs (h : Hd) : Array Value := #[.int .u64 (h.a.toNat : Int), .int .u64 (h.b.toNat : Int), .int .u64 (h.c.toNat : Int), .int .u64 (h.d.toNat : Int)]
def Hd.v (h : Hd) : Value := .agg h.vs
def Hd.at (h : Hd) : Nat → UInt64
  | 0 => h.a
  | 1 => h.b
  | 2 => h.c
  | _ => h.d
def Hd.has (h : Hd) (c : Nat) : Bool := ((h.at (c / 64)).toNat / 2 ^ (c % 64)) % 2 == 1
theorem and_one (x r : Nat) (hx : x < 18446744073709551616) : (bits BinOp.and IntKind.u64 ((x : Int) / 2 ^ r) 1 == 1) = ((x / 2 ^ r) % 2 == 1) := by
  have h1 : ((x : Int) / 2 ^ r) = ((x / 2 ^ r : Nat) : Int) := by simp
  have h2 : x / 2 ^ r ≤ x := Nat.div_le_self _ _
  rw [h1, show (1 : Int) = ((1 : Nat) : Int) from rfl, u64_and_nat _ _ (by omega) (by omega), Nat.and_one_is_mod]
  rw [Bool.eq_iff_iff, beq_iff_eq, beq_iff_eq]
  omega
theorem Hd.cell (h : Hd) (q : Nat) (hq : q < 4) : [Value.int .u64 (h.a.toNat : Int), .int .u64 (h.b.toNat : Int), .int .u64 (h.c.toNat : Int), .int .u64 (h.d.toNat : Int)][q]? = some (.int .u64 ((h.at q).toNat : Int)) := by
  match q, hq with
  | 0, _ => rfl
  | 1, _ => rfl
  | 2, _ => rfl
  | 3, _ => rfl
theorem has_calls (h : Hd) (c : Nat) (hc : c < 256) (w : World) : Calls Tryd.prog 33 #[h.v, .int .i64 c] w fun e w' => e = .returned (.bool (h.has c)) ∧ w' = w.alloc (.cells h.vs 35) := by
  have hcell := h.cell (c / 64) (by omega)
  have hr : c % 64 < 64 := by omega
  have HAS := Lib.hid (and_one (h.at (c / 64)).toNat (c % 64) (h.at (c / 64)).toNat_lt)
  have HH := Lib.hid (show h.has c = (((h.at (c / 64)).toNat / 2 ^ (c % 64)) % 2 == 1) from rfl)
  unfold Hd.v Hd.vs
  go_enter Tryd.func33, Tryd.ntmps33
  go_wp2_with fail
  go_ret
  exact ⟨by rw [HH.out, ← HAS.out]; rfl, rfl⟩
def Hd.set (h : Hd) (q : Nat) (x : UInt64) : Hd := match q with
  | 0 => { h with a := x }
  | 1 => { h with b := x }
  | 2 => { h with c := x }
  | _ => { h with d := x }
theorem Hd.set_vs (h : Hd) (q : Nat) (hq : q < 4) (x : UInt64) : h.vs.set! q (.int .u64 (x.toNat : Int)) = (h.set q x).vs := by
  match q, hq with
  | 0, _ => rfl
  | 1, _ => rfl
  | 2, _ => rfl
  | 3, _ => rfl
theorem Hd.at_set (h : Hd) (q r : Nat) (hq : q < 4) (hr : r < 4) (x : UInt64) : (h.set q x).at r = if r = q then x else h.at r := by
  match q, hq, r, hr with
  | 0, _, 0, _ => rfl
  | 0, _, 1, _ => rfl
  | 0, _, 2, _ => rfl
  | 0, _, 3, _ => rfl
  | 1, _, 0, _ => rfl
  | 1, _, 1, _ => rfl
  | 1, _, 2, _ => rfl
  | 1, _, 3, _ => rfl
  | 2, _, 0, _ => rfl
  | 2, _, 1, _ => rfl
  | 2, _, 2, _ => rfl
  | 2, _, 3, _ => rfl
  | 3, _, 0, _ => rfl
  | 3, _, 1, _ => rfl
  | 3, _, 2, _ => rfl
  | 3, _, 3, _ => rfl
theorem pow_wrap (r : Nat) (h : r < 64) : IntKind.u64.wrap (2 ^ min (IntKind.u64.wrap (r : Int)).toNat 64) = ((2 ^ r : Nat) : Int) := by
  have e : min (IntKind.u64.wrap (r : Int)).toNat 64 = r := by
    have : IntKind.u64.wrap (r : Int) = (r : Int) % 18446744073709551616 := rfl
    rw [this]; omega
  rw [e]
  have h2 : 2 ^ r < 2 ^ 64 := Nat.pow_lt_pow_right (by omega) h
  have : IntKind.u64.wrap ((2 : Int) ^ r) = ((2 : Int) ^ r) % 18446744073709551616 := rfl
  rw [this]
  have e2 : ((2 : Int) ^ r) = ((2 ^ r : Nat) : Int) := by simp
  rw [e2]
  clear e2 this e
  generalize (2 ^ r : Nat) = m at *
  omega
theorem or_is (x : UInt64) (r : Nat) (h : r < 64) : bits BinOp.or IntKind.u64 (x.toNat : Int) (IntKind.u64.wrap (2 ^ min (IntKind.u64.wrap (r : Int)).toNat 64)) = ((UInt64.ofNat (x.toNat ||| 2 ^ r)).toNat : Int) := by
  have h2 : 2 ^ r < 2 ^ 64 := Nat.pow_lt_pow_right (by omega) h
  have h3 := x.toNat_lt
  have h4 : x.toNat ||| 2 ^ r < 2 ^ 64 := Nat.or_lt_two_pow h3 h2
  rw [pow_wrap r h, u64_or_nat _ _ (by omega) (by omega), UInt64.toNat_ofNat', Nat.mod_eq_of_lt h4]
theorem xor_is (x : UInt64) (r : Nat) (h : r < 64) : bits BinOp.xor IntKind.u64 (x.toNat : Int) (IntKind.u64.wrap (2 ^ min (IntKind.u64.wrap (r : Int)).toNat 64)) = ((UInt64.ofNat (x.toNat ^^^ 2 ^ r)).toNat : Int) := by
  have h2 : 2 ^ r < 2 ^ 64 := Nat.pow_lt_pow_right (by omega) h
  have h3 := x.toNat_lt
  have h4 : x.toNat ^^^ 2 ^ r < 2 ^ 64 := Nat.xor_lt_two_pow h3 h2
  rw [pow_wrap r h, u64_xor_nat _ _ (by omega) (by omega), UInt64.toNat_ofNat', Nat.mod_eq_of_lt h4]
def Hd.add (h : Hd) (c : Nat) : Hd := h.set (c / 64) (UInt64.ofNat ((h.at (c / 64)).toNat ||| 2 ^ (c % 64)))
def Hd.flip (h : Hd) (c : Nat) : Hd := h.set (c / 64) (UInt64.ofNat ((h.at (c / 64)).toNat ^^^ 2 ^ (c % 64)))
set_option maxHeartbeats 800000 in
theorem flip_calls (h : Hd) (c g : Nat) (hc : c < 256) (w : World) (hrow : w.heap[g]? = some (.cells h.vs 35 (0, 0))) :
    Calls Tryd.prog 34 #[.pointer (some ⟨g, 0, none⟩), .int .i64 c] w fun e w' => e = .returned (.tuple #[]) ∧ w'.heap[g]? = some (.cells (h.flip c).vs 35 (0, 0)) ∧ Below g w w' ∧ (∀ k, k ≠ g → w'.heap[k]? = w.heap[k]?) := by
  have HROW := Lib.hid hrow
  obtain ⟨q, hq⟩ : ∃ q, c / 64 = q := ⟨_, rfl⟩
  obtain ⟨r, hr⟩ : ∃ r, c % 64 = r := ⟨_, rfl⟩
  have hq4 : q < 4 := by omega
  have hr6 : r < 64 := by omega
  have x0 : w.cell? ⟨g, q, none⟩ = some (.int .u64 ((h.at q).toNat : Int)) := by
    rw [cell_of_row _ _ _ _ _ _ hrow, ← Array.getElem?_toList]
    exact h.cell q hq4
  have x1 : w.frozen? ⟨g, q, none⟩ = false := frozen_of_row _ _ _ _ _ hrow
  have e4 : (c : Int).tdiv 64 = (q : Int) := by
    rw [Int.tdiv_eq_ediv_of_nonneg (by omega)]; omega
  have e6 : IntKind.i64.wrap (q : Int) = (q : Int) := IntWalk.i64_in _ (by omega)
  have e5 : (c : Int).tmod 64 = (r : Int) := by
    rw [Int.tmod_eq_emod_of_nonneg (by omega)]; omega
  have eq0 : (0 : Int) ≤ (q : Int) := by omega
  have eq2 : (q : Int) < 4 := by omega
  have HFLIP : Hid (h.flip c = h.set q (UInt64.ofNat ((h.at q).toNat ^^^ 2 ^ r))) := Lib.hid (by unfold Hd.flip; rw [hq, hr])
  have HQ := Lib.hid hq4
  have HR := Lib.hid hr6
  clear hq hr hrow hq4 hr6 hc
  go_enter Tryd.func34, Tryd.ntmps34
  go_wp2_with fail
  refine wp_region_still_tail 15 (by kernel_rfl) (by kernel_rfl) ?_
  simp only [List.take_succ_cons, List.take_zero, List.drop_succ_cons, List.drop_zero]
  change wpStill _ _ w.drew _ _ _
  iterate 15 still_step
  refine wpStill_nil ?_
  change wpList _ _ _ _ _ w.drew
  rw [xor_is _ _ HR.out]
  have hrow2 : w.drew.heap[g]? = some (.cells h.vs 35 (0, 0)) := HROW.out
  have x2 : w.drew.cell? ⟨g, q, none⟩ = some (.int .u64 ((h.at q).toNat : Int)) := x0
  have x3 : w.drew.frozen? ⟨g, q, none⟩ = false := x1
  have HB := Lib.hid ((Below.refl g w).drew)
  have HDR := Lib.hid (show ∀ k : Nat, w.drew.heap[k]? = w.heap[k]? from fun _ => rfl)
  have HROW2 := Lib.hid hrow2
  clear x0 x1 e4 e5 e6 hrow2 HROW
  generalize IntKind.u64.wrap (2 ^ min (IntKind.u64.wrap (r : Int)).toNat 64) = z1
  generalize IntKind.u64.wrap (r : Int) = z3
  generalize w.drew = w4 at *
  go_wp2_with fail
  go_end0
  refine ⟨rfl, ?_, HB.out.setCell (p := ⟨g, q, none⟩) (Nat.le_refl _) _, fun k hk => (heap_setCell_other _ _ _ _ hk).trans (HDR.out k)⟩
  rw [heap_setCell_same _ _ _ _ _ _ HROW2.out, HFLIP.out, ← Hd.set_vs _ _ HQ.out]
  simp
end Go.Proofs.YtndkaehbmdiofaaDoor
