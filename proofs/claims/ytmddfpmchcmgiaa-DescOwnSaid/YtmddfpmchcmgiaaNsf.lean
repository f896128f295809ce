/- a struct handed in, a field of it a slice of structs: a slice in a field of one of these, too, stays below the bound. -/
import Derived.Test.YtmddfpmchcmgiaaElm
namespace Go.Proofs.Ytmddfpmchcmgiaa
open Go.ChangeShapes Go.WideShapes Go.ChangeAt Go.RowKit
theorem Fr.nsf_len {H : Type} {enc : TypeId × Value → H} {P : Program} {w : World} {base R : Nat} {t e e2 : TypeId} {fs0 fs : Array Field} {i0 i : Nat} {f0 f : Field} {cs : Array Value} {ad : Addr} {len cap : Nat} {d : DataW H} {p : List MemPlace}
    (hu : P.underlying t = some (.struct fs0)) (hf0 : fs0[i0]? = some f0) (hue0 : P.underlying f0.type = some (.slice e)) (hue : P.underlying e = some (.struct fs)) (hf : fs[i]? = some f) (huf : P.underlying f.type = some (.slice e2)) (ho : f.offset + 1 ≤ P.cellsOf e) (hcf : P.cellsOf f.type = 1)
    (hc0 : (cs.toList.drop f0.offset).take (P.cellsOf f0.type) = [.slice (some ad) len cap])
    (h : DataW.Trod enc P w base (fun _ => true) true t (.agg cs) d p) (hk : ∀ n ∈ d.weights P t, n ≤ R) (j : Nat) (hj : j < len) (a : Option Addr) (n c : Nat) (hc : w.cell? ((ad.add (j * P.cellsOf e)).add f.offset) = some (.slice a n c)) : n * P.bytesOf e2 ≤ R := by
  obtain ⟨m, hm⟩ := h
  have hm' : DataW.trod enc P w base (fun _ => true) true m t cs.toList = some (d, p) := hm
  obtain ⟨xs, n', _, hd, hlen, hxl, hget⟩ := DataW.trod_struct hu hm'
  simp only [Prod.mk.injEq] at hd
  obtain ⟨rfl, _⟩ := hd
  have hi : i0 < xs.length := by rw [hxl]; exact (Array.getElem?_eq_some_iff.1 hf0).1
  have h1 := hget i0 f0 hf0
  rw [hc0, List.getElem?_eq_getElem hi] at h1
  refine Fr.elm_len (enc := enc) (w := w) (base := base) (R := R) (i := i) (d := xs[i0].1) (p := xs[i0].2) hue0 hue hf huf ho hcf ⟨n', h1⟩ (fun m hm => hk m ?_) j hj a n c hc
  simp only [DataW.weights, hu]
  exact DataW.weights_mem_each (j := i0) (by simpa using congrArg (Option.map (·.type)) hf0) (by simp [hi]) m hm
end Go.Proofs.Ytmddfpmchcmgiaa
