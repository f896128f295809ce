/- Slices that came in, read as lists. -/
import Derived.Test.YtafiedhjjnapoaaFr
import Derived.Test.YtafiedhjjnapoaaSlc
namespace Go.Proofs.Ytafiedhjjnapoaa.Kt
open Go.RowKit
/-- the slice v has n elements of sz cells each, the cells xs -/
structure Ar (w : World) (v : Value) (sz n : Nat) (xs : List Value) : Prop where
  len : xs.length = n * sz
  form : ∃ A c, v = .slice A n c ∧ n ≤ c ∧ (0 < n → ∃ b o, A = some ⟨b, o, none⟩ ∧ b < w.heap.size ∧ ∀ j (hj : j < xs.length), w.cell? ⟨b, o + j, none⟩ = some xs[j])
theorem Ar.on {w w' : World} {v : Value} {sz n : Nat} {xs : List Value} (h : Ar w v sz n xs) (b : Below w.heap.size w w') : Ar w' v sz n xs := by
  obtain ⟨A, c, e, hn, hc⟩ := h.form
  refine ⟨h.len, A, c, e, hn, fun h0 => ?_⟩
  obtain ⟨g, o, e2, hg, hx⟩ := hc h0
  exact ⟨g, o, e2, Nat.lt_of_lt_of_le hg b.size, fun j hj => (b.cell (p := ⟨g, o + j, none⟩) hg).trans (hx j hj)⟩
theorem Ar.onTo {w w1 : World} {v : Value} {sz n : Nat} {xs : List Value} (h : Ar w v sz n xs) (b : Below w.heap.size w w1) : Ar w1 v sz n xs := h.on b
theorem ar_list {w : World} {b o sz : Nat} {R : List Value → Prop} : ∀ n, (∀ i, i < n → ∃ cs : List Value, cs.length = sz ∧ (∀ j, j < sz → w.cell? ⟨b, o + i * sz + j, none⟩ = cs[j]?) ∧ R cs) →
    ∃ els : List (List Value), els.length = n ∧ (∀ x ∈ els, x.length = sz ∧ R x) ∧ els.flatten.length = n * sz ∧ ∀ j, j < n * sz → w.cell? ⟨b, o + j, none⟩ = els.flatten[j]?
  | 0, _ => ⟨[], rfl, by simp, by simp, fun j hj => by omega⟩
  | n + 1, h => by
    obtain ⟨els, h1, h2, h3, h4⟩ := ar_list n (fun i hi => h i (by omega))
    obtain ⟨cs, c1, c2, c3⟩ := h n (by omega)
    refine ⟨els ++ [cs], by simp [h1], fun x hx => ?_, by simp [h3, c1, Nat.add_mul], fun j hj => ?_⟩
    · rcases List.mem_append.1 hx with hx | hx
      · exact h2 x hx
      · simp at hx; subst hx; exact ⟨c1, c3⟩
    · rw [List.flatten_append, List.getElem?_append]
      by_cases hlt : j < n * sz
      · rw [if_pos (by omega)]; exact h4 j hlt
      · rw [if_neg (by omega), h3]
        rw [Nat.add_mul] at hj
        have := c2 (j - n * sz) (by omega)
        rw [show o + n * sz + (j - n * sz) = o + j by omega] at this
        simpa using this
theorem ar_open {w : World} {B sz : Nat} {e : Fr.Ty} {v : Value} (r : Fr.RdV w B (.slice sz e) v) (hsz : 0 < sz) : ∃ els : List (List Value), (∀ x ∈ els, x.length = sz ∧ Fr.Rd w B e x) ∧ els.length ≤ B ∧ Ar w v sz els.length els.flatten := by
  rcases r with ⟨a, h⟩ | ⟨b, o, len, cap, h, h0, hle, hB, hc⟩
  · cases h; exact ⟨[], by simp, Nat.zero_le _, by simp, a, 0, rfl, Nat.le_refl _, fun h => absurd h (by simp)⟩
  · cases h
    obtain ⟨els, h1, h2, h3, h4⟩ := ar_list (w := w) (b := b) (o := o) (sz := sz) (R := Fr.Rd w B e) len (fun i hi => by
      obtain ⟨cs, c1, c2, c3⟩ := hc i (by omega)
      exact ⟨cs, c1, c2, c3⟩)
    subst h1
    refine ⟨els, h2, by omega, h3, _, cap, rfl, hle, fun hpos => ⟨b, o, rfl, ?_, fun j hj => ?_⟩⟩
    · obtain ⟨cs, c1, c2, _⟩ := hc 0 (by omega)
      have := c2 0 hsz
      rw [List.getElem?_eq_getElem (by omega)] at this
      exact World.block_lt_of_cell? w ⟨b, o + 0 * sz + 0, none⟩ this
    · rw [h4 j (by omega), List.getElem?_eq_getElem hj]
theorem ints_of {w : World} {B : Nat} {k : IntKind} : ∀ (els : List (List Value)), (∀ x ∈ els, x.length = 1 ∧ Fr.Rd w B (.int k) x) → ∃ ns : List Int, ns.length = els.length ∧ els.flatten = ns.map (Value.int k) ∧ ∀ n ∈ ns, (Lit.int k n).wf = true
  | [], _ => ⟨[], rfl, rfl, by simp⟩
  | x :: els, h => by
    obtain ⟨ns, h1, h2, h3⟩ := ints_of els (fun y hy => h y (by simp [hy]))
    obtain ⟨_, n, rfl, hw⟩ := h x (by simp)
    exact ⟨n :: ns, by simp [h1], by simp [h2], fun m hm => by
      rcases List.mem_cons.1 hm with rfl | hm
      · exact hw
      · exact h3 m hm⟩
theorem strs_of {w : World} {B : Nat} : ∀ (els : List (List Value)), (∀ x ∈ els, x.length = 1 ∧ Fr.Rd w B .string x) → ∃ ss : List ByteArray, ss.length = els.length ∧ els.flatten = ss.map Value.string ∧ ∀ s ∈ ss, s.size ≤ B
  | [], _ => ⟨[], rfl, rfl, by simp⟩
  | x :: els, h => by
    obtain ⟨ns, h1, h2, h3⟩ := strs_of els (fun y hy => h y (by simp [hy]))
    obtain ⟨_, n, rfl, hw⟩ := h x (by simp)
    exact ⟨n :: ns, by simp [h1], by simp [h2], fun m hm => by
      rcases List.mem_cons.1 hm with rfl | hm
      · exact hw
      · exact h3 m hm⟩
theorem ar_ints {w : World} {B : Nat} {k : IntKind} {v : Value} (r : Fr.RdV w B (.slice 1 (.int k)) v) : ∃ ns : List Int, ns.length ≤ B ∧ (∀ n ∈ ns, (Lit.int k n).wf = true) ∧ Ar w v 1 ns.length (ns.map (Value.int k)) := by
  obtain ⟨els, h1, h2, h3⟩ := ar_open r (by omega)
  obtain ⟨ns, n1, n2, n3⟩ := ints_of els h1
  rw [← n1, n2] at h3
  exact ⟨ns, by omega, n3, h3⟩
theorem ar_strs {w : World} {B : Nat} {v : Value} (r : Fr.RdV w B (.slice 1 .string) v) : ∃ ss : List ByteArray, ss.length ≤ B ∧ (∀ s ∈ ss, s.size ≤ B) ∧ Ar w v 1 ss.length (ss.map Value.string) := by
  obtain ⟨els, h1, h2, h3⟩ := ar_open r (by omega)
  obtain ⟨ns, n1, n2, n3⟩ := strs_of els h1
  rw [← n1, n2] at h3
  exact ⟨ns, by omega, n3, h3⟩
end Go.Proofs.Ytafiedhjjnapoaa.Kt
