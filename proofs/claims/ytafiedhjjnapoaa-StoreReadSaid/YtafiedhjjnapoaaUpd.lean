/- One block alone is stored into. -/
import Derived.Test.YtafiedhjjnapoaaAny
import Derived.Test.YtafiedhjjnapoaaSlm
namespace Go.Proofs.Ytafiedhjjnapoaa
open Go.RowKit
structure Upd (g : Nat) (w w' : World) : Prop where
  below : Below g w w'
  other : ∀ k, k ≠ g → k < w.heap.size → w'.heap[k]? = w.heap[k]?
theorem Upd.refl (g : Nat) (w : World) : Upd g w w := ⟨Below.refl _ _, fun _ _ _ => rfl⟩
theorem Upd.set {g : Nat} {w w' : World} (h : Upd g w w') (i : Nat) (v : Value) : Upd g w (w'.setCell ⟨g, i, none⟩ v) :=
  ⟨h.below.setCell (p := ⟨g, i, none⟩) (Nat.le_refl _) _, fun k hk hs => (heap_setCell_other _ _ _ _ (show k ≠ g from hk)).trans (h.other k hk hs)⟩
theorem Upd.drew {g : Nat} {w w' : World} (h : Upd g w w') : Upd g w w'.drew := ⟨h.below.drew, h.other⟩
theorem Upd.drewN {g : Nat} {w w' : World} (h : Upd g w w') (n : Nat) : Upd g w (w'.drewN n) := ⟨bdrewN h.below n, h.other⟩
theorem Upd.trans {g : Nat} {a b c : World} (h : Upd g a b) (k : Upd g b c) : Upd g a c := ⟨h.below.trans k.below, fun x hx hs => (k.other x hx (Nat.lt_of_lt_of_le hs h.below.size)).trans (h.other x hx hs)⟩
theorem Upd.of_below {g : Nat} {w w' : World} (h : Below w.heap.size w w') (hg : g < w.heap.size) : Upd g w w' := ⟨h.mono (Nat.le_of_lt hg), fun k _ hs => h.block k hs⟩
theorem Upd.alloc {g : Nat} {w w' : World} (h : Upd g w w') (hg : g < w.heap.size) (o : Obj) : Upd g w (w'.alloc o) := h.trans (Upd.of_below (Kt.balloc (Below.refl _ _) o) (Nat.lt_of_lt_of_le hg h.below.size))
theorem Upd.to {g B : Nat} {v w w' : World} (h : Upd g w w') (hv : Below B v w) (hB : B ≤ g) : Below B v w' := hv.trans (h.below.mono hB)
theorem Upd.row {g k : Nat} {w w' : World} {x : Obj} (h : Upd g w w') (hk : w.heap[k]? = some x) (hne : k ≠ g) : w'.heap[k]? = some x := (h.other k hne (Array.getElem?_eq_some_iff.1 hk).1).trans hk
namespace Kt
section
variable {P : Program} {ops : Array Oper} {Q : Exit → Act → World → Prop} {md : Region.Mode} {F : World → Prop} {st : Nat}
/-- what is not wanted is passed over first -/
theorem G.skip (i : Nat) (oi : Oper) {fuel : Nat} {listed : Array Bool} {a : Act} {w : World} (hF : listed.getD st true = false → F w) (hi : ops[i]? = some oi)
    (hb : (Region.noSelect ops && Region.free md ops listed i && (Region.ready md ops listed).contains i && (st != i)) = true)
    (hQ : ∀ c a w, Q (.panic c) (a.put oi.dst undef) w → Q (.panic c) a w) (hw : Region.wanted oi (yielded ops a.tmps) = false)
    (h : wpG P md ops Q st F fuel (listed.setIfInBounds i true) (a.put oi.dst undef) w) : wpG P md ops Q st F (fuel + 1) listed a w := by
  simp only [Bool.and_eq_true, bne_iff_ne, ne_eq] at hb
  obtain ⟨⟨⟨hs, hf⟩, hr⟩, hne⟩ := hb
  exact wpG_firstP hi (Region.noSelect_spec hs) hQ hne fuel listed a w (Region.free_spec hi hf) (by simpa using hr) (.inr ⟨hw, rfl⟩) hF h
end
end Kt
end Go.Proofs.Ytafiedhjjnapoaa
