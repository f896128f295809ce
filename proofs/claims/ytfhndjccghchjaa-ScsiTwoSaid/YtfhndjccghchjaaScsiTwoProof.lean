/-
  ScsiTwo: for every input that the statement speaks of, the law ScsiTwo returns true, and each argument reads behind the call as before. Conditions: none beyond the form's own.
-/
import Derived.Test.YtfhndjccghchjaaTop
import Derived.Test.YtfhndjccghchjaaFr
import Derived.Test.YtfhndjccghchjaaScsV
namespace Go.Proofs.Ytfhndjccghchjaa.scsiTwoP
open Go.ChangeShapes Go.WideShapes Go.ChangeAt Go.RowKit

theorem own : ownKnob Try.prog.godebug = none := by kernel_rfl
theorem laidOut : laidOutB Try.prog = true := by kernel_rfl
theorem fit3 : Fr.fits Try.prog 12 3 (.int .i64) = true := by kernel_rfl
theorem fit9 : Fr.fits Try.prog 12 9 .string = true := by kernel_rfl
theorem fit38 : Fr.fits Try.prog 12 38 (.cat 1 (.slice 1 .string) (.cat 1 (.int .i64) .nil)) = true := by kernel_rfl
set_option maxRecDepth 100000 in
theorem lifted (os : Os) (started : os.Started) (H : Type) (enc : TypeId × Value → H) :
    ReturnsInHanded {} Try.checked os 8 .any (Rows.scsiTwoSpec.pre6 enc Try.prog Try.f8 Rows.scsiTwoRow.domain false) (Rows.scsiTwoSpec.post enc Try.prog Try.f8 false true false false) := by
  refine returnsInHanded_of_change_sized (C := Try.checked) own started (by kernel_rfl) Try.func8
    (ChangeSpec.witness6 (enc := enc) (C := Try.checked) false ⟨#[], #[.agg #[.slice none 0 0, .int .i64 0], .int .i64 0, .int .i64 0, .int .i64 0, .int .i64 0, .string ByteArray.empty, .string ByteArray.empty], []⟩ 12 (by kernel_rfl) (by kernel_rfl) (by kernel_rfl) (by kernel_rfl)) ?_
  intro W base args ds gs before hval0 hW hcnd hsz0 _
  have hval : ∀ (j : Nat) t v, Try.f8.params[j]? = some t → args[j]? = some v → Value.okWide Try.prog W .any base t v := hval0
  have hW' := hW
  obtain ⟨p, q, hA0, hV, rfl, hfz, hnd⟩ := hW
  have hA : DataW.TrodAll enc Try.prog W 0 (fun _ => true) true Try.f8.params.toList args.toList ds p := hA0
  have hsz : (DataW.weightsEach Try.prog (Try.f8.params.toList ++ Rows.scsiTwoSpec.plain.varTypes Try.prog) (ds ++ gs)).all (· ≤ reachBytes) = true := hsz0
  rw [Try.params8] at hA hval hsz
  obtain ⟨v0, vs0, d0, ds0, p0, q0, hargs, rfl, rfl, h0, r0⟩ := trodAll_cons hA
  obtain ⟨v1, vs1, d1, ds1, p1, q1, rfl, rfl, rfl, h1, r1⟩ := trodAll_cons r0
  obtain ⟨v2, vs2, d2, ds2, p2, q2, rfl, rfl, rfl, h2, r2⟩ := trodAll_cons r1
  obtain ⟨v3, vs3, d3, ds3, p3, q3, rfl, rfl, rfl, h3, r3⟩ := trodAll_cons r2
  obtain ⟨v4, vs4, d4, ds4, p4, q4, rfl, rfl, rfl, h4, r4⟩ := trodAll_cons r3
  obtain ⟨v5, vs5, d5, ds5, p5, q5, rfl, rfl, rfl, h5, r5⟩ := trodAll_cons r4
  obtain ⟨v6, vs6, d6, ds6, p6, q6, rfl, rfl, rfl, h6, r6⟩ := trodAll_cons r5
  obtain ⟨rfl, rfl, rfl⟩ := trodAll_nil r6
  obtain rfl : args = #[v0, v1, v2, v3, v4, v5, v6] := by cases args; simp_all
  obtain ⟨rfl, rfl⟩ := trodVars_none hV
  have k0 := Fr.rdv_of (Fr.said_bound reachBytes) fit38 (hval 0 38 v0 rfl rfl) h0 (fun x hx => of_decide_eq_true (List.all_eq_true.1 hsz _ (DataW.weights_mem_each (j := 0) rfl rfl x hx)))
  have k1 := Fr.rdv_of (Fr.said_bound reachBytes) fit3 (hval 1 3 v1 rfl rfl) h1 (fun x hx => of_decide_eq_true (List.all_eq_true.1 hsz _ (DataW.weights_mem_each (j := 1) rfl rfl x hx)))
  have k2 := Fr.rdv_of (Fr.said_bound reachBytes) fit3 (hval 2 3 v2 rfl rfl) h2 (fun x hx => of_decide_eq_true (List.all_eq_true.1 hsz _ (DataW.weights_mem_each (j := 2) rfl rfl x hx)))
  have k3 := Fr.rdv_of (Fr.said_bound reachBytes) fit3 (hval 3 3 v3 rfl rfl) h3 (fun x hx => of_decide_eq_true (List.all_eq_true.1 hsz _ (DataW.weights_mem_each (j := 3) rfl rfl x hx)))
  have k4 := Fr.rdv_of (Fr.said_bound reachBytes) fit3 (hval 4 3 v4 rfl rfl) h4 (fun x hx => of_decide_eq_true (List.all_eq_true.1 hsz _ (DataW.weights_mem_each (j := 4) rfl rfl x hx)))
  have k5 := Fr.rdv_of (Fr.said_bound reachBytes) fit9 (hval 5 9 v5 rfl rfl) h5 (fun x hx => of_decide_eq_true (List.all_eq_true.1 hsz _ (DataW.weights_mem_each (j := 5) rfl rfl x hx)))
  have k6 := Fr.rdv_of (Fr.said_bound reachBytes) fit9 (hval 6 9 v6 rfl rfl) h6 (fun x hx => of_decide_eq_true (List.all_eq_true.1 hsz _ (DataW.weights_mem_each (j := 6) rfl rfl x hx)))
  have n0_0 : ∀ (cs : Array Value) a l c, v0 = .agg cs → (cs.toList.drop 0).take 1 = [.slice a l c] → l * Try.prog.bytesOf 9 ≤ reachBytes := fun cs a l c e hc => by
    subst e
    exact Fr.fld_len (i := 0) Try.underlying38 rfl Try.underlying36 hc h0 (fun x hx => of_decide_eq_true (List.all_eq_true.1 hsz _ (DataW.weights_mem_each (j := 0) rfl rfl x hx)))
  clear hA0 hval0
  refine (two_walk v0 v1 v2 v3 v4 v5 v6 W k0 k1 k2 k3 k4 k5 k6 n0_0).mono fun e W' ⟨he, bel⟩ => ?_
  subst he
  exact ⟨_, rfl, _, _, _, [], _, [], hW', trodAll_mk1 (shut_bool Try.underlying4 _), (trodAll_cons_mk (Below.trod laidOut (by kernel_rfl) (of_decide_eq_true (by kernel_rfl)) h0 bel (Fr.trod_lt h0)) (trodAll_cons_mk (Below.trod laidOut (by kernel_rfl) (of_decide_eq_true (by kernel_rfl)) h1 bel (Fr.trod_lt h1)) (trodAll_cons_mk (Below.trod laidOut (by kernel_rfl) (of_decide_eq_true (by kernel_rfl)) h2 bel (Fr.trod_lt h2)) (trodAll_cons_mk (Below.trod laidOut (by kernel_rfl) (of_decide_eq_true (by kernel_rfl)) h3 bel (Fr.trod_lt h3)) (trodAll_cons_mk (Below.trod laidOut (by kernel_rfl) (of_decide_eq_true (by kernel_rfl)) h4 bel (Fr.trod_lt h4)) (trodAll_cons_mk (Below.trod laidOut (by kernel_rfl) (of_decide_eq_true (by kernel_rfl)) h5 bel (Fr.trod_lt h5)) (trodAll_cons_mk (Below.trod laidOut (by kernel_rfl) (of_decide_eq_true (by kernel_rfl)) h6 bel (Fr.trod_lt h6)) trodAll_mk0))))))), rfl, bel.frame _, fun h => by cases h⟩

theorem proved : Rows.ScsiTwoSaid :=
  OpenClaim.holds_of_wide 8 Try.f8 rfl rfl rfl rfl rfl rfl rfl ⟨rfl, rfl, rfl, rfl, rfl⟩ rfl rfl rfl rfl rfl (by kernel_rfl) Try.func8 (by kernel_rfl)
    (of_decide_eq_true (by kernel_rfl)) (by unfold Func.isWrapper; first | (rw [if_pos (by decide +kernel)]; kernel_rfl) | (rw [if_neg (by decide +kernel)]; exact ⟨rfl, rfl⟩))
    (fun os started H enc _ => lifted os started H enc)
end Go.Proofs.Ytfhndjccghchjaa.scsiTwoP
