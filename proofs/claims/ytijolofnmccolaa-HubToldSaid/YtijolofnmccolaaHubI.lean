/- Boxes of hubs in regions that draw their order. -/
import Derived.Test.YtijolofnmccolaaHubZ
import Derived.Test.YtijolofnmccolaaHubF
namespace Go.Proofs.Ytijolofnmccolaa
open Go.RowKit Go.Proofs.Ytijolofnmccolaa.SetP
def HB (w : World) (g : Nat) (c : Int) (ps : List Int) (W : World) : Prop := HBox g c ps W ∧ Below w.heap.size w W
theorem HB.drew {w W : World} {g : Nat} {c : Int} {ps : List Int} (h : HB w g c ps W) : HB w g c ps W.drew := ⟨h.1, h.2.drew⟩
theorem HB.on {w W W' : World} {g : Nat} {c : Int} {ps : List Int} (h : HB w g c ps W) (hb : Below W.heap.size W W') : HB w g c ps W' := ⟨h.1.on hb, Kt.bthen h.2 hb⟩
theorem HB.alloc {w W : World} {g : Nat} {c : Int} {ps : List Int} (h : HB w g c ps W) (o : Obj) : HB w g c ps (W.alloc o) := h.on (Kt.balloc (Below.refl _ _) o)
def HNew (g nb : Nat) (W : World) : Prop := HBox nb 0 zs W ∧ g < nb
theorem HNew.on {W W' : World} {g nb : Nat} (h : HNew g nb W) (hb : Below W.heap.size W W') : HNew g nb W' := ⟨h.1.on hb, h.2⟩
theorem new_any {w W : World} {g : Nat} {c : Int} {ps : List Int} (h : HB w g c ps W) : ∃ nb, W.heap.size = nb ∧ HNew g nb (W.alloc (.cells (Kt.ia .i64 (0 :: zs)) 26)) := ⟨_, rfl, new_box W 0 zs, (Array.getElem?_eq_some_iff.1 h.1).1⟩
theorem st_hub {o : Oper} {a : Act} {w : World} {K : Act → World → Prop} {Q : Exit → Act → World → Prop} (x y : Operand) (ho : o.op = .store 26 x y) (g : Nat) (hx : a.eval x = .pointer (some ⟨g, 0, none⟩)) (c : Int) (ps : List Int) (hl : ps.length = 32) (hy : a.eval y = HV c ps) (c0 : Int) (ps0 : List Int) (hl0 : ps0.length = 32) (hold : HBox g c0 ps0 w)
    (h : ∀ W, HBox g c ps W → (∀ k, k ≠ g → W.heap[k]? = w.heap[k]?) → (∀ B, B ≤ g → Below B w W) → K (a.put o.dst undef) W) : o.wp Try.prog a w K Q :=
  wp_store_row 26 x y ho g (Kt.ia .i64 (c :: ps)) hx hy 26 (Kt.ia .i64 (c0 :: ps0)) hold (hub_size c ps hl) (by rw [Kt.ia_size, Kt.ia_size, List.length_cons, List.length_cons, hl, hl0]) (Kt.ia_one _ _)
    (h _ (setRow_heap w g _ _ _ _ hold) (fun k hk => setRow_other w g k _ hk) (fun B hB => brow (Below.refl _ _) hB _))
theorem foldK {G : Prop} {X : World → Nat → Prop} (C : World → Nat → Prop) (h : (∀ W b, C W b → X W b) → G) (k : ∀ W b, C W b → X W b) : G := h k
end Go.Proofs.Ytijolofnmccolaa
