/- Regions that draw their order: one of three comes up; texts made of bytes that lie in a known block. -/
import Derived.Test.YtafiedhjjnapoaaAny
import Derived.Test.YtafiedhjjnapoaaSlm
namespace Go.Proofs.Ytafiedhjjnapoaa.Kt
open Go.RowKit
section
variable {P : Program} {ops : Array Oper} {Q : Exit → Act → World → Prop} {md : Region.Mode} {F : World → Prop} {st : Nat}
/-- one of three comes up -/
theorem G.three (i j k : Nat) (oi oj ok : Oper) {fuel : Nat} {listed : Array Bool} {a : Act} {w : World} (hi : ops[i]? = some oi) (hj : ops[j]? = some oj) (hk : ops[k]? = some ok) (hr : Region.ready md ops listed = [i, j, k]) (wi : Region.wanted oi (yielded ops a.tmps) = true) (wj : Region.wanted oj (yielded ops a.tmps) = true) (wk : Region.wanted ok (yielded ops a.tmps) = true)
    (h1 : ∀ K : Act → World → Prop, Shut (∀ a w, ((listed.setIfInBounds i true).getD st true = false → F w) → (((listed.setIfInBounds i true).getD st true = false → F w) → wpG P md ops Q st F fuel (listed.setIfInBounds i true) a w) → K a w) → Oper.wp P oi a w K Q)
    (h2 : ∀ K : Act → World → Prop, Shut (∀ a w, ((listed.setIfInBounds j true).getD st true = false → F w) → (((listed.setIfInBounds j true).getD st true = false → F w) → wpG P md ops Q st F fuel (listed.setIfInBounds j true) a w) → K a w) → Oper.wp P oj a w K Q)
    (h3 : ∀ K : Act → World → Prop, Shut (∀ a w, ((listed.setIfInBounds k true).getD st true = false → F w) → (((listed.setIfInBounds k true).getD st true = false → F w) → wpG P md ops Q st F fuel (listed.setIfInBounds k true) a w) → K a w) → Oper.wp P ok a w K Q) :
    wpG P md ops Q st F (fuel + 1) listed a w := by
  refine ⟨fun h0 => absurd (hr ▸ h0) (by simp), fun x hx => ?_⟩
  rw [hr] at hx
  rcases List.mem_cons.1 hx with rfl | hx
  · exact wpOp_step hi (fun K' hK => by
      rw [if_pos wi]
      exact h1 K' (fun a w hS hW => hK a w ⟨hS, hW hS⟩))
  rcases List.mem_cons.1 hx with rfl | hx
  · exact wpOp_step hj (fun K' hK => by
      rw [if_pos wj]
      exact h2 K' (fun a w hS hW => hK a w ⟨hS, hW hS⟩))
  · obtain rfl : x = k := by simpa using hx
    exact wpOp_step hk (fun K' hK => by
      rw [if_pos wk]
      exact h3 K' (fun a w hS hW => hK a w ⟨hS, hW hS⟩))
end
/-- a text made of a row of bytes that lies in a known block -/
theorem cv_row (ns : List Int) (cs : Array Value) (n b : Nat) (hcs : cs = (ns.map (Value.int .u8)).toArray) (hn : n = ns.length) {w : World} (h : w.heap[b]? = some (.cells cs 5 (0, 0))) :
    (convert 56 9 (.slice (some ⟨b, 0, none⟩) n n)).run Try.prog w = .ok (.string ⟨(ns.map fun n => UInt8.ofNat n.toNat).toArray⟩) w := by
  refine Kt.conv_ns _ 56 9 5 b 0 n n ns hn Try.underlying56 Try.underlying5 Try.underlying9 (fun j hj => ?_)
  have := cell_of_row _ _ j _ _ _ h
  rw [Nat.zero_add, this, hcs]
  simp [List.getElem?_eq_getElem hj]
end Go.Proofs.Ytafiedhjjnapoaa.Kt
