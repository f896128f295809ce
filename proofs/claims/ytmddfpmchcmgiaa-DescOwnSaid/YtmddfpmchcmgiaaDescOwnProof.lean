/-
  DescOwn: for every input that the statement speaks of, the law DescOwn returns true, and each argument reads behind the call as before. Conditions: none beyond the form's own.
-/
import Derived.Test.YtmddfpmchcmgiaaNsf
import Derived.Test.YtmddfpmchcmgiaaTop
import Derived.Test.YtmddfpmchcmgiaaFr
import Derived.Test.YtmddfpmchcmgiaaDsc6
namespace Go.Proofs.Ytmddfpmchcmgiaa.descOwnP
open Go.ChangeShapes Go.WideShapes Go.ChangeAt Go.RowKit

theorem own : ownKnob Try.prog.godebug = none := by kernel_rfl
theorem laidOut : laidOutB Try.prog = true := by kernel_rfl
theorem fit24 : Fr.fits Try.prog 12 24 (.cat 1 (.int .i64) (.cat 1 (.int .i64) (.cat 1 (.int .i64) (.cat 1 (.int .i64) (.cat 1 (.slice 6 (.cat 1 (.int .i64) (.cat 1 (.int .i64) (.cat 1 (.int .i64) (.cat 1 (.int .i64) (.cat 1 (.slice 1 .string) (.cat 1 (.slice 5 (.cat 1 (.int .i64) (.cat 1 .bool (.cat 1 (.int .i64) (.cat 1 (.int .i64) (.cat 1 (.int .i64) .nil)))))) .nil))))))) .nil))))) = true := by kernel_rfl
set_option maxRecDepth 100000 in
theorem lifted (os : Os) (started : os.Started) (H : Type) (enc : TypeId × Value → H) :
    ReturnsInHanded {} Try.checked os 5 .any (Rows.descOwnSpec.pre6 enc Try.prog Try.f5 Rows.descOwnRow.domain false) (Rows.descOwnSpec.post enc Try.prog Try.f5 false true false false) := by
  refine returnsInHanded_of_change_sized (C := Try.checked) own started (by kernel_rfl) Try.func5
    (ChangeSpec.witness6 (enc := enc) (C := Try.checked) false ⟨#[], #[.agg #[.int .i64 0, .int .i64 0, .int .i64 0, .int .i64 0, .slice none 0 0]], []⟩ 12 (by kernel_rfl) (by kernel_rfl) (by kernel_rfl) (by kernel_rfl)) ?_
  intro W base args ds gs before hval0 hW hcnd hsz0 _
  have hval : ∀ (j : Nat) t v, Try.f5.params[j]? = some t → args[j]? = some v → Value.okWide Try.prog W .any base t v := hval0
  have hW' := hW
  obtain ⟨p, q, hA0, hV, rfl, hfz, hnd⟩ := hW
  have hA : DataW.TrodAll enc Try.prog W 0 (fun _ => true) true Try.f5.params.toList args.toList ds p := hA0
  have hsz : (DataW.weightsEach Try.prog (Try.f5.params.toList ++ Rows.descOwnSpec.plain.varTypes Try.prog) (ds ++ gs)).all (· ≤ reachBytes) = true := hsz0
  rw [Try.params5] at hA hval hsz
  obtain ⟨v0, vs0, d0, ds0, p0, q0, hargs, rfl, rfl, h0, r0⟩ := trodAll_cons hA
  obtain ⟨rfl, rfl, rfl⟩ := trodAll_nil r0
  obtain rfl : args = #[v0] := by cases args; simp_all
  obtain ⟨rfl, rfl⟩ := trodVars_none hV
  have k0 := Fr.rdv_of (Fr.said_bound reachBytes) fit24 (hval 0 24 v0 rfl rfl) h0 (fun x hx => of_decide_eq_true (List.all_eq_true.1 hsz _ (DataW.weights_mem_each (j := 0) rfl rfl x hx)))
  have n0_4 : ∀ (cs : Array Value) a l c, v0 = .agg cs → (cs.toList.drop 4).take 1 = [.slice a l c] → l * Try.prog.bytesOf 32 ≤ reachBytes := fun cs a l c e hc => by
    subst e
    exact Fr.fld_len (i := 4) Try.underlying24 rfl Try.underlying22 hc h0 (fun x hx => of_decide_eq_true (List.all_eq_true.1 hsz _ (DataW.weights_mem_each (j := 0) rfl rfl x hx)))
  have s0_4 : ∀ (cs : Array Value) ad l c, v0 = .agg cs → (cs.toList.drop 4).take 1 = [.slice (some ad) l c] → ∀ k, k < l → ∀ a n c', W.cell? ((ad.add (k * Try.prog.cellsOf 32)).add 4) = some (.slice a n c') → n * Try.prog.bytesOf 9 ≤ reachBytes := fun cs ad l c q hc0 k hk a n c' hc => by
    subst q
    exact Fr.nsf_len (i0 := 4) (i := 4) Try.underlying24 rfl Try.underlying22 Try.underlying32 rfl Try.underlying29 (of_decide_eq_true (by kernel_rfl)) (by kernel_rfl) hc0 h0 (fun x hx => of_decide_eq_true (List.all_eq_true.1 hsz _ (DataW.weights_mem_each (j := 0) rfl rfl x hx))) k hk a n c' hc
  have s0_5 : ∀ (cs : Array Value) ad l c, v0 = .agg cs → (cs.toList.drop 4).take 1 = [.slice (some ad) l c] → ∀ k, k < l → ∀ a n c', W.cell? ((ad.add (k * Try.prog.cellsOf 32)).add 5) = some (.slice a n c') → n * Try.prog.bytesOf 43 ≤ reachBytes := fun cs ad l c q hc0 k hk a n c' hc => by
    subst q
    exact Fr.nsf_len (i0 := 4) (i := 5) Try.underlying24 rfl Try.underlying22 Try.underlying32 rfl Try.underlying30 (of_decide_eq_true (by kernel_rfl)) (by kernel_rfl) hc0 h0 (fun x hx => of_decide_eq_true (List.all_eq_true.1 hsz _ (DataW.weights_mem_each (j := 0) rfl rfl x hx))) k hk a n c' hc
  clear hA0 hval0
  refine (own_walk v0 W k0 n0_4 s0_4 s0_5).mono fun e W' ⟨he, bel⟩ => ?_
  subst he
  exact ⟨_, rfl, _, _, _, [], _, [], hW', trodAll_mk1 (shut_bool Try.underlying4 _), (trodAll_cons_mk (Below.trod laidOut (by kernel_rfl) (of_decide_eq_true (by kernel_rfl)) h0 bel (Fr.trod_lt h0)) trodAll_mk0), rfl, bel.frame _, fun h => by cases h⟩

theorem proved : Rows.DescOwnSaid :=
  OpenClaim.holds_of_wide 5 Try.f5 rfl rfl rfl rfl rfl rfl rfl ⟨rfl, rfl, rfl, rfl, rfl⟩ rfl rfl rfl rfl rfl (by kernel_rfl) Try.func5 (by kernel_rfl)
    (of_decide_eq_true (by kernel_rfl)) (by unfold Func.isWrapper; first | (rw [if_pos (by decide +kernel)]; kernel_rfl) | (rw [if_neg (by decide +kernel)]; exact ⟨rfl, rfl⟩))
    (fun os started H enc _ => lifted os started H enc)
end Go.Proofs.Ytmddfpmchcmgiaa.descOwnP
