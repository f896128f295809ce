/- a slice handed in, of the first form: its places times the bytes of one stay below the bound. -/
import Derived.Test.YtidcbboonjenhaaFr
namespace Go.Proofs.Ytidcbboonjenhaa
open Go.ChangeShapes Go.WideShapes Go.ChangeAt Go.RowKit
theorem Fr.top_len {H : Type} {enc : TypeId × Value → H} {P : Program} {w : World} {base R : Nat} {t e : TypeId} {a : Option Addr} {len cap : Nat} {d : DataW H} {p : List MemPlace}
    (hu : P.underlying t = some (.slice e)) (h : DataW.Trod enc P w base (fun _ => true) true t (.slice a len cap) d p) (hk : ∀ n ∈ d.weights P t, n ≤ R) : len * P.bytesOf e ≤ R := by
  obtain ⟨n, hn⟩ := h
  have hn' : DataW.trod enc P w base (fun _ => true) true n t [.slice a len cap] = some (d, p) := hn
  rcases DataW.trod_slice hu hn' with ⟨he, _⟩ | ⟨ad, len', cap', els, rest, n', _, he, hd, _, hl, _, hel, _, _, _⟩
  · simp only [List.cons.injEq, Value.slice.injEq] at he
    obtain ⟨⟨_, rfl, _⟩, _⟩ := he
    omega
  · simp only [List.cons.injEq, Value.slice.injEq] at he
    obtain ⟨⟨_, rfl, rfl⟩, _⟩ := he
    simp only [Prod.mk.injEq] at hd
    obtain ⟨rfl, _⟩ := hd
    have := hk _ (by simp only [DataW.weights, hu, List.mem_cons]; exact Or.inl rfl)
    simp only [List.length_map] at this
    exact Nat.le_trans (Nat.mul_le_mul_right _ (by omega)) this
theorem Fr.fld_len {H : Type} {enc : TypeId × Value → H} {P : Program} {w : World} {base R : Nat} {t e : TypeId} {fs : Array Field} {i : Nat} {f : Field} {cs : Array Value} {a : Option Addr} {len cap : Nat} {d : DataW H} {p : List MemPlace}
    (hu : P.underlying t = some (.struct fs)) (hf : fs[i]? = some f) (hue : P.underlying f.type = some (.slice e)) (hc : (cs.toList.drop f.offset).take (P.cellsOf f.type) = [.slice a len cap])
    (h : DataW.Trod enc P w base (fun _ => true) true t (.agg cs) d p) (hk : ∀ n ∈ d.weights P t, n ≤ R) : len * P.bytesOf e ≤ R := by
  obtain ⟨n, hn⟩ := h
  have hn' : DataW.trod enc P w base (fun _ => true) true n t cs.toList = some (d, p) := hn
  obtain ⟨xs, n', _, hd, hlen, hxl, hget⟩ := DataW.trod_struct hu hn'
  simp only [Prod.mk.injEq] at hd
  obtain ⟨rfl, _⟩ := hd
  have hi : i < xs.length := by rw [hxl]; exact (Array.getElem?_eq_some_iff.1 hf).1
  have h1 := hget i f hf
  rw [hc, List.getElem?_eq_getElem hi] at h1
  refine Fr.top_len (enc := enc) (w := w) (base := base) (R := R) (d := xs[i].1) (p := xs[i].2) hue ⟨n', h1⟩ fun m hm => hk m ?_
  simp only [DataW.weights, hu]
  exact DataW.weights_mem_each (j := i) (by simpa using congrArg (Option.map (·.type)) hf) (by simp [hi]) m hm
end Go.Proofs.Ytidcbboonjenhaa
