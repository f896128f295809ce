/- In a region that only reads and draws its order: the load of a struct or array, out of the midst of a block. -/
import Derived.Test.YtmnfajndklmpbaaArg
import Derived.Still
import Derived.Deep.MidRow
namespace Go.Proofs.Ytmnfajndklmpbaa.Kt
open Go.RowKit
section
variable {P : Program} {ops : Array Oper} {w : World}
theorem still_mid {Q : Act → Prop} {a : Act} {o : Oper} {rest : List Oper} (hgd : Region.wanted o (yielded ops a.tmps) = true) (ty : TypeId) (x : Operand) (ho : o.op = .load ty x)
    (b off : Nat) (hx : a.eval x = .pointer (some ⟨b, off, none⟩)) (cs : List Value) (d : TypeDesc) (hc : w.rangeAt b off cs)
    (hu : P.underlying ty = some d) (hd : d.isRow = true) (hi : (P.info? ty).map (·.size) = some cs.length)
    (h : wpStill P ops w Q rest (a.put o.dst (.agg cs.toArray))) : wpStill P ops w Q (o :: rest) a :=
  wpStill_step fun K hK => by
    rw [if_pos hgd]
    have e : (execOp a.eval o).run P w = .ok (.value (.agg cs.toArray)) w := by
      unfold execOp
      simp only [ho, hx, Instr.loadAt, Instr.sureAddr, Sem.run_bind, Sem.run_pure, Result.andThen_ok]
      rw [run_loadVar_mid w b off ty cs d hc hu hd hi]; rfl
    unfold Oper.still
    rw [e, Oper.stillUpon_value]
    exact hK _ h
end
/-- a slice that came in, its elements each of sz cells, one behind the other; of each one thing is known -/
structure Rws (w : World) (v : Value) (sz n : Nat) (R : List Value → Prop) : Prop where
  form : ∃ A c, v = .slice A n c ∧ n ≤ c ∧ (0 < n → ∃ b o, A = some ⟨b, o, none⟩ ∧ b < w.heap.size ∧ ∀ i, i < n → ∃ cs : List Value, cs.length = sz ∧ R cs ∧ w.rangeAt b (o + i * sz) cs)
theorem range_on {w w' : World} {b o : Nat} {cs : List Value} (h : w.rangeAt b o cs) (hb : Below w.heap.size w w') (hlt : b < w.heap.size) : w'.rangeAt b o cs :=
  fun j v hv => (hb.cell (p := ⟨b, o + j, none⟩) hlt).trans (h j v hv)
theorem Rws.on {w w' : World} {v : Value} {sz n : Nat} {R : List Value → Prop} (h : Rws w v sz n R) (hb : Below w.heap.size w w') : Rws w' v sz n R := by
  obtain ⟨A, c, e, hn, hc⟩ := h.form
  refine ⟨A, c, e, hn, fun h0 => ?_⟩
  obtain ⟨b, o, e2, hg, hx⟩ := hc h0
  refine ⟨b, o, e2, Nat.lt_of_lt_of_le hg hb.size, fun i hi => ?_⟩
  obtain ⟨cs, h1, h2, h3⟩ := hx i hi
  exact ⟨cs, h1, h2, range_on h3 hb hg⟩
theorem rows_in {w : World} {B sz : Nat} {e : Fr.Ty} {v : Value} {R : List Value → Prop} (r : Fr.RdV w B (.slice sz e) v) (hsz : 0 < sz) (hR : ∀ cs, Fr.Rd w B e cs → R cs) : ∃ n, n ≤ B ∧ Rws w v sz n R := by
  rcases r with ⟨a, h⟩ | ⟨b, o, len, cap, h, h0, hle, hB, hc⟩
  · cases h; exact ⟨0, Nat.zero_le _, a, 0, rfl, Nat.le_refl _, fun h => absurd h (by omega)⟩
  · cases h
    refine ⟨len, by omega, _, cap, rfl, hle, fun hpos => ⟨b, o, rfl, ?_, fun i hi => ?_⟩⟩
    · obtain ⟨cs, c1, c2, _⟩ := hc 0 (by omega)
      have := c2 0 hsz
      rw [List.getElem?_eq_getElem (by omega)] at this
      exact World.block_lt_of_cell? w ⟨b, o + 0 * sz + 0, none⟩ this
    · obtain ⟨cs, c1, c2, c3⟩ := hc i (by omega)
      refine ⟨cs, c1, hR cs c3, fun j x hx => ?_⟩
      have hj : j < cs.length := (List.getElem?_eq_some_iff.1 hx).1
      rw [c2 j (by omega)]; exact hx
end Go.Proofs.Ytmnfajndklmpbaa.Kt
