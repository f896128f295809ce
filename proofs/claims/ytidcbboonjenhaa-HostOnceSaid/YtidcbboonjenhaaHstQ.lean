/- The law HostBack, walked. -/
import Derived.Test.YtidcbboonjenhaaHstP
import Derived.Test.YtidcbboonjenhaaIa
namespace Go.Proofs.Ytidcbboonjenhaa
open Go.RowKit Classical Go.Proofs.Ytidcbboonjenhaa.Slt
abbrev cmdTy : Fr.Ty := .cat 1 (.int .i64) (.cat 1 (.int .i64) (.cat 1 (.int .i64) (.cat 1 (.int .i64) .nil)))
theorem fit_cmd : Fr.fits Try.prog 12 23 cmdTy = true := by kernel_rfl
theorem ok_cmd : Fr.eqOk Try.prog 12 23 = true := by kernel_rfl
theorem eq_cmd (x y : List Int) (hx : x.length = 4) (hy : y.length = 4) : (x = y → ∀ w, (binOp .eql 23 (.agg (Kt.ia .i64 x)) (.agg (Kt.ia .i64 y))).run Try.prog w = .ok (.bool true) w ∧ (binOp .neq 23 (.agg (Kt.ia .i64 x)) (.agg (Kt.ia .i64 y))).run Try.prog w = .ok (.bool false) w) ∧
      (x ≠ y → ∀ w, (binOp .eql 23 (.agg (Kt.ia .i64 x)) (.agg (Kt.ia .i64 y))).run Try.prog w = .ok (.bool false) w ∧ (binOp .neq 23 (.agg (Kt.ia .i64 x)) (.agg (Kt.ia .i64 y))).run Try.prog w = .ok (.bool true) w) :=
  Kt.eq_ia (P := Try.prog) .i64 23 cmdTy 12 (by omega) fit_cmd ok_cmd rfl rfl rfl (fun _ => rfl) x y (by rw [hx]; rfl) (by rw [hy]; rfl)
theorem guard_cmdT : Program.eqGuardType Try.prog Try.prog.depth 23 = false := by kernel_rfl
theorem guard_cmd (op : BinOp) (x y : Operand) (a b : Array Value) (w : World) : (eqGuard op 23 x y (.agg a) (.agg b)).run Try.prog w = .ok () w := run_eqGuard_agg w op 23 x y _ _ guard_cmdT
theorem neq_cmd (k s e a : Int) (w : World) : (binOp .neq 23 (.agg #[.int .i64 k, .int .i64 s, .int .i64 e, .int .i64 a]) (.agg #[.int .i64 k, .int .i64 s, .int .i64 e, .int .i64 a])).run Try.prog w = .ok (.bool false) w := ((eq_cmd [k, s, e, a] [k, s, e, a] rfl rfl).1 rfl w).2
theorem eql_cmd (k s e a : Int) (w : World) : (binOp .eql 23 (.agg #[.int .i64 k, .int .i64 s, .int .i64 e, .int .i64 a]) (.agg #[.int .i64 k, .int .i64 s, .int .i64 e, .int .i64 a])).run Try.prog w = .ok (.bool true) w := ((eq_cmd [k, s, e, a] [k, s, e, a] rfl rfl).1 rfl w).1
theorem un_pk {k s e a : Int} (h : inC k s e a = true) : ∃ x : Nat, pkw k s e a = (x : Int) ∧ x < 35184372088832 ∧ uk x = k ∧ us x = s ∧ ue x = e ∧ ua x = a := by
  obtain ⟨⟨k1, k2⟩, ⟨s1, s2⟩, ⟨e1, e2⟩, a1, a2⟩ := inC_bd h
  obtain ⟨k, rfl⟩ : ∃ n : Nat, k = n := ⟨k.toNat, by omega⟩
  obtain ⟨s, rfl⟩ : ∃ n : Nat, s = n := ⟨s.toNat, by omega⟩
  obtain ⟨e, rfl⟩ : ∃ n : Nat, e = n := ⟨e.toNat, by omega⟩
  obtain ⟨a, rfl⟩ : ∃ n : Nat, a = n := ⟨a.toNat, by omega⟩
  refine ⟨a + e * 4294967296 + s * 137438953472 + k * 2199023255552, by unfold pkw; omega, by omega, ?_, ?_, ?_, ?_⟩
  · unfold uk; omega
  · unfold us; omega
  · unfold ue; omega
  · unfold ua; omega
theorem pk_un {x : Nat} (h : x < 35184372088832) : inC (uk x) (us x) (ue x) (ua x) = true ∧ pkw (uk x) (us x) (ue x) (ua x) = (x : Int) := by
  constructor
  · have h1 : 0 ≤ uk x ∧ uk x < 16 := by unfold uk; omega
    have h2 : 0 ≤ us x ∧ us x < 16 := by unfold us; omega
    have h3 : 0 ≤ ue x ∧ ue x < 32 := by unfold ue; omega
    have h4 : 0 ≤ ua x ∧ ua x < 4294967296 := by unfold ua; omega
    simp [inC, inB, h1, h2, h3, h4]
  · unfold pkw uk us ue ua; omega
theorem u64_wf {y : Int} (h : (Lit.int .u64 y).wf = true) : 0 ≤ y ∧ y < 18446744073709551616 := by
  simp only [Lit.wf, Bool.and_eq_true, decide_eq_true_eq] at h
  have h1 : (0 : Int) ≤ y := h.1
  have h2 : y ≤ (18446744073709551615 : Int) := h.2
  omega
set_option maxRecDepth 100000 in
set_option maxHeartbeats 3200000 in
theorem back_walk {B : Nat} (v0 v1 : Value) (w : World) (r0 : Fr.RdV w B cmdTy v0) (r1 : Fr.RdV w B (.int .u64) v1) :
    Calls Try.prog 3 #[v0, v1] w fun e w' => e = .returned (.bool true) ∧ Below w.heap.size w w' := by
  obtain ⟨cs, rfl, hr⟩ := r0
  obtain ⟨l, hl, hlen⟩ := Kt.ints_cl .i64 cmdTy cs.toList rfl rfl (Fr.cl_of_rd cmdTy cs.toList rfl hr)
  obtain ⟨k, s, e, a, rfl⟩ : ∃ k s e a, l = [k, s, e, a] := by
    match l, hlen with
    | [k, s, e, a], _ => exact ⟨k, s, e, a, rfl⟩
  obtain rfl : cs = #[.int .i64 k, .int .i64 s, .int .i64 e, .int .i64 a] := by rw [← Array.toList_inj, hl]; rfl
  obtain ⟨y, h, hw⟩ := r1
  simp only [List.cons.injEq, and_true] at h
  subst h
  obtain ⟨x, rfl⟩ : ∃ x : Nat, y = (x : Int) := ⟨y.toNat, by have := u64_wf hw; omega⟩
  have hx : x < 18446744073709551616 := by have := u64_wf hw; omega
  clear hr hl hlen hw
  have HU := Lib.hid (fun W => unpack_calls x hx W)
  have HPK := Lib.hid (fun W => pack_calls k s e a W)
  have NQ := neq_cmd k s e a
  have EQ0 := eql_cmd 0 0 0 0
  have GQ := guard_cmd
  have b0 : (w.alloc (.cells #[.int .i64 k, .int .i64 s, .int .i64 e, .int .i64 a] 23)).heap[w.heap.size]? = some (.cells #[.int .i64 k, .int .i64 s, .int .i64 e, .int .i64 a] 23 (0, 0)) := heap_alloc_new w _
  have HB0 := Lib.hid (Kt.balloc (Below.refl _ w) (.cells #[.int .i64 k, .int .i64 s, .int .i64 e, .int .i64 a] 23))
  clear hx
  go_enter Try.func3, Try.ntmps3
  go_wp2_with fail
  refine (HPK.out _).mono ?_
  rintro _ W1 ⟨rfl, hb⟩
  have HB1 := Lib.hid (Kt.bthen HB0.out hb)
  replace b0 := Kt.row_on hb b0
  clear hb HB0 HPK
  cases hc : inC k s e a with
  | true =>
    obtain ⟨z, hz, hz2, q1, q2, q3, q4⟩ := un_pk hc
    have e1 : pkR k s e a = .tuple #[.int .u64 (z : Int), .int .i64 0] := by unfold pkR; rw [hc, if_pos rfl, hz]
    have HU1 := Lib.hid (fun W => unpack_calls z (by omega) W)
    have e2 := unR_is hz2
    rw [q1, q2, q3, q4] at e2
    rw [e2] at HU1
    rw [e1]
    clear hc hz hz2 q1 q2 q3 q4 e1 e2
    go_wp2_with fail
    refine (HU1.out _).mono ?_
    rintro _ W2 ⟨rfl, hb⟩
    replace b0 := Kt.row_on hb b0
    have c0 := fun i => cell_of_row _ _ i _ _ _ b0
    have hz0 : w.heap.size < W2.heap.size := (Array.getElem?_eq_some_iff.1 b0).1
    have HB2 := Lib.hid (Kt.balloc (Kt.bthen HB1.out hb) (.cells #[.int .i64 k, .int .i64 s, .int .i64 e, .int .i64 a] 23))
    clear hb HB1 HU1
    go_wp2_with fail
    refine (HU.out _).mono ?_
    rintro _ W3 ⟨rfl, hb3⟩
    have HB3 := Lib.hid (Kt.bthen HB2.out hb3)
    clear hb3
    by_cases hxx : x < 35184372088832
    · obtain ⟨u1, u2⟩ := pk_un hxx
      have HP2 := Lib.hid (fun W => pack_calls (uk x) (us x) (ue x) (ua x) W)
      have e3 : pkR (uk x) (us x) (ue x) (ua x) = .tuple #[.int .u64 (x : Int), .int .i64 0] := by unfold pkR; rw [u1, if_pos rfl, u2]
      rw [e3] at HP2
      rw [unR_is hxx]
      clear u1 u2 e3 hxx
      generalize uk x = k2 at *
      generalize us x = s2 at *
      generalize ue x = e2 at *
      generalize ua x = a2 at *
      go_wp2_with fail
      refine (HP2.out _).mono ?_
      rintro _ W4 ⟨rfl, hb4⟩
      have HB4 := Lib.hid (Kt.bthen (Kt.balloc HB3.out _) hb4)
      clear hb4
      go_wp2_with fail
      refine (hostLives_calls _).mono ?_
      rintro _ W5 ⟨rfl, hb5⟩
      have HB5 := Lib.hid (Kt.bthen HB4.out hb5)
      clear hb5
      go_wp2_with fail
      go_ret
      exact ⟨rfl, HB5.out⟩
    · rw [unR_no hxx]
      have hz3 : (W3.alloc (.cells #[.int .i64 0, .int .i64 0, .int .i64 0, .int .i64 0] 23)).heap[W3.heap.size]? = some (.cells #[.int .i64 0, .int .i64 0, .int .i64 0, .int .i64 0] 23 (0, 0)) := heap_alloc_new W3 _
      have HB4 := Lib.hid (Kt.balloc HB3.out (.cells #[.int .i64 0, .int .i64 0, .int .i64 0, .int .i64 0] 23))
      clear hxx
      go_wp2_with fail
      refine (hostLives_calls _).mono ?_
      rintro _ W5 ⟨rfl, hb5⟩
      have HB5 := Lib.hid (Kt.bthen HB4.out hb5)
      have c5 := fun i => cell_of_row _ _ i _ _ _ (Kt.row_on hb5 hz3)
      clear hb5 hz3
      go_wp2_with fail
      go_ret
      exact ⟨rfl, HB5.out⟩
  | false =>
    have e1 : pkR k s e a = .tuple #[.int .u64 0, .int .i64 1] := by unfold pkR; rw [hc]; rfl
    rw [e1]
    clear hc e1
    go_wp2_with fail
    refine (HU.out _).mono ?_
    rintro _ W3 ⟨rfl, hb3⟩
    have HB3 := Lib.hid (Kt.bthen HB1.out hb3)
    clear hb3
    by_cases hxx : x < 35184372088832
    · obtain ⟨u1, u2⟩ := pk_un hxx
      have HP2 := Lib.hid (fun W => pack_calls (uk x) (us x) (ue x) (ua x) W)
      have e3 : pkR (uk x) (us x) (ue x) (ua x) = .tuple #[.int .u64 (x : Int), .int .i64 0] := by unfold pkR; rw [u1, if_pos rfl, u2]
      rw [e3] at HP2
      rw [unR_is hxx]
      clear u1 u2 e3 hxx
      generalize uk x = k2 at *
      generalize us x = s2 at *
      generalize ue x = e2 at *
      generalize ua x = a2 at *
      go_wp2_with fail
      refine (HP2.out _).mono ?_
      rintro _ W4 ⟨rfl, hb4⟩
      have HB4 := Lib.hid (Kt.bthen (Kt.balloc HB3.out _) hb4)
      clear hb4
      go_wp2_with fail
      refine (hostLives_calls _).mono ?_
      rintro _ W5 ⟨rfl, hb5⟩
      have HB5 := Lib.hid (Kt.bthen HB4.out hb5)
      clear hb5
      go_wp2_with fail
      go_ret
      exact ⟨rfl, HB5.out⟩
    · rw [unR_no hxx]
      have hz3 : (W3.alloc (.cells #[.int .i64 0, .int .i64 0, .int .i64 0, .int .i64 0] 23)).heap[W3.heap.size]? = some (.cells #[.int .i64 0, .int .i64 0, .int .i64 0, .int .i64 0] 23 (0, 0)) := heap_alloc_new W3 _
      have HB4 := Lib.hid (Kt.balloc HB3.out (.cells #[.int .i64 0, .int .i64 0, .int .i64 0, .int .i64 0] 23))
      clear hxx
      go_wp2_with fail
      refine (hostLives_calls _).mono ?_
      rintro _ W5 ⟨rfl, hb5⟩
      have HB5 := Lib.hid (Kt.bthen HB4.out hb5)
      have c5 := fun i => cell_of_row _ _ i _ _ _ (Kt.row_on hb5 hz3)
      clear hb5 hz3
      go_wp2_with fail
      go_ret
      exact ⟨rfl, HB5.out⟩
end Go.Proofs.Ytidcbboonjenhaa
