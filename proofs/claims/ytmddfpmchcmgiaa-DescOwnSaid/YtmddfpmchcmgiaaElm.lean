/- a slice of structs, handed in: a slice in a field of one of them, too, stays below the bound. -/
import Derived.Test.YtmddfpmchcmgiaaTop
namespace Go.Proofs.Ytmddfpmchcmgiaa
open Go.ChangeShapes Go.WideShapes Go.ChangeAt Go.RowKit
theorem Fr.elm_len {H : Type} {enc : TypeId × Value → H} {P : Program} {w : World} {base R : Nat} {t e e2 : TypeId} {fs : Array Field} {i : Nat} {f : Field} {ad : Addr} {len cap : Nat} {d : DataW H} {p : List MemPlace}
    (hu : P.underlying t = some (.slice e)) (hue : P.underlying e = some (.struct fs)) (hf : fs[i]? = some f) (huf : P.underlying f.type = some (.slice e2)) (ho : f.offset + 1 ≤ P.cellsOf e) (hcf : P.cellsOf f.type = 1)
    (h : DataW.Trod enc P w base (fun _ => true) true t (.slice (some ad) len cap) d p) (hk : ∀ n ∈ d.weights P t, n ≤ R) (j : Nat) (hj : j < len) (a : Option Addr) (n c : Nat) (hc : w.cell? ((ad.add (j * P.cellsOf e)).add f.offset) = some (.slice a n c)) : n * P.bytesOf e2 ≤ R := by
  obtain ⟨m, hm⟩ := h
  have hm' : DataW.trod enc P w base (fun _ => true) true m t [.slice (some ad) len cap] = some (d, p) := hm
  rcases DataW.trod_slice hu hm' with ⟨he, _⟩ | ⟨ad', len', cap', els, rest, n', _, he, hd, _, hl, _, hel, hall, _, _⟩
  · simp at he
  · simp only [List.cons.injEq, Value.slice.injEq, Option.some.injEq] at he
    obtain ⟨⟨rfl, rfl, rfl⟩, _⟩ := he
    simp only [Prod.mk.injEq] at hd
    obtain ⟨rfl, _⟩ := hd
    have h1 := hall j hj
    rw [List.getElem?_eq_getElem (by omega), Option.bind_eq_some_iff] at h1
    obtain ⟨cs, hcs, h2⟩ := h1
    obtain ⟨hlen, hget⟩ := Fr.cells_get hcs
    have h3 : (cs.drop f.offset).take (P.cellsOf f.type) = [.slice a n c] := by
      have h4 := hget f.offset (by omega)
      rw [hc] at h4
      rw [hcf]
      have h5 : (cs.drop f.offset)[0]? = some (.slice a n c) := by rw [List.getElem?_drop, Nat.add_zero]; exact h4.symm
      match hdr : cs.drop f.offset with
      | [] => rw [hdr] at h5; cases h5
      | v :: r => rw [hdr] at h5; injection h5 with h5; rw [h5]; rfl
    refine Fr.fld_len (enc := enc) (w := w) (base := base) (R := R) (i := i) (cs := cs.toArray) (d := els[j].1) (p := els[j].2) hue hf huf (by simpa using h3) ⟨n', h2⟩ fun q hq => (Fr.said_bound (P := P) R).el t e _ _ els[j].1 hu hk ?_ q hq
    exact List.mem_append_left _ (List.mem_map_of_mem (List.getElem_mem (by omega)))
end Go.Proofs.Ytmddfpmchcmgiaa
