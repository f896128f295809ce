/- a slice in a field of a struct that is itself a field of a struct handed in: its places times the bytes of one stay below the bound. -/
import Derived.Test.YtidcbboonjenhaaTop
namespace Go.Proofs.Ytidcbboonjenhaa
open Go.ChangeShapes Go.WideShapes Go.ChangeAt Go.RowKit
theorem Fr.fldb_len {H : Type} {enc : TypeId × Value → H} {P : Program} {w : World} {base R : Nat} {t e : TypeId} {fs0 fs : Array Field} {i0 i : Nat} {f0 f : Field} {cs : Array Value} {a : Option Addr} {len cap : Nat} {d : DataW H} {p : List MemPlace}
    (hu0 : P.underlying t = some (.struct fs0)) (hf0 : fs0[i0]? = some f0) (hu : P.underlying f0.type = some (.struct fs)) (hf : fs[i]? = some f) (hue : P.underlying f.type = some (.slice e))
    (hc : (((cs.toList.drop f0.offset).take (P.cellsOf f0.type)).drop f.offset).take (P.cellsOf f.type) = [.slice a len cap])
    (h : DataW.Trod enc P w base (fun _ => true) true t (.agg cs) d p) (hk : ∀ n ∈ d.weights P t, n ≤ R) : len * P.bytesOf e ≤ R := by
  obtain ⟨n, hn⟩ := h
  have hn' : DataW.trod enc P w base (fun _ => true) true n t cs.toList = some (d, p) := hn
  obtain ⟨xs, n', _, hd, hlen, hxl, hget⟩ := DataW.trod_struct hu0 hn'
  simp only [Prod.mk.injEq] at hd
  obtain ⟨rfl, _⟩ := hd
  have hi : i0 < xs.length := by rw [hxl]; exact (Array.getElem?_eq_some_iff.1 hf0).1
  have h1 := hget i0 f0 hf0
  rw [List.getElem?_eq_getElem hi] at h1
  refine Fr.fld_len (enc := enc) (w := w) (base := base) (R := R) (i := i) (cs := ((cs.toList.drop f0.offset).take (P.cellsOf f0.type)).toArray) (d := xs[i0].1) (p := xs[i0].2) hu hf hue (by simpa using hc) ⟨n', h1⟩ fun m hm => hk m ?_
  simp only [DataW.weights, hu0]
  exact DataW.weights_mem_each (j := i0) (by simpa using congrArg (Option.map (·.type)) hf0) (by simp [hi]) m hm
end Go.Proofs.Ytidcbboonjenhaa
