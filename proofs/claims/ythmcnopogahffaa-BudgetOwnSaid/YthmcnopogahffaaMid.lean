/- Loads of a row that lies anywhere in a block, in regions that draw their order. -/
import Derived.Test.YthmcnopogahffaaAny
import Derived.Deep.MidRow
namespace Go.Proofs.Ythmcnopogahffaa.Kt
open Go.RowKit
theorem G.load_mid {P : Program} {ops : Array Oper} {Q : Exit → Act → World → Prop} {md : Region.Mode} {F : World → Prop} {st : Nat} (i : Nat) (oi : Oper) (ty : TypeId) (x : Operand) (g o : Nat) (cs : List Value) (d : TypeDesc) {fuel : Nat} {listed : Array Bool} {a : Act} {w : World} (hF : F w) (hi : ops[i]? = some oi)
    (hb : (Region.noSelect ops && Region.free md ops listed i && (Region.ready md ops listed).contains i && (st != i) && (closedB md ops listed && reachB md ops ops.size st i) && !listed.getD st true) = true)
    (hQ : ∀ c a w, Q (.panic c) (a.put oi.dst (.agg cs.toArray)) w → Q (.panic c) a w) (hw : Region.wanted oi (yielded ops a.tmps) = true) (ho : oi.op = .load ty x) (hx : a.eval x = .pointer (some ⟨g, o, none⟩))
    (hg : ∀ w, F w → w.rangeAt g o cs) (hu : P.underlying ty = some d) (hd : d.isRow = true) (hsz : (P.info? ty).map (·.size) = some cs.length)
    (h : wpG P md ops Q st F fuel (listed.setIfInBounds i true) (a.put oi.dst (.agg cs.toArray)) w) : wpG P md ops Q st F (fuel + 1) listed a w :=
  G.take i oi (.agg cs.toArray) hF hi hb hQ hw (fun w' hF' => by
    unfold execOp
    simp only [ho, hx, Instr.loadAt, Instr.sureAddr, Sem.run_bind, Sem.run_pure, Result.andThen_ok]
    rw [run_loadVar_mid w' g o ty cs d (hg w' hF') hu hd hsz]; rfl) h
end Go.Proofs.Ythmcnopogahffaa.Kt
