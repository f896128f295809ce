/- typist, plainly: a text of runes stays one. -/
import Derived.Test.YtndkaehbmdiofaaDoorTypU
import Derived.Test.YtndkaehbmdiofaaDoorTypG
namespace Go.Proofs.YtndkaehbmdiofaaDoor
open Go.RowKit Go.Proofs.YtndkaehbmdiofaaDoor.Typ
def VT (s : ByteArray) : Prop := Lib.validD s.data.toList = true
theorem vt_app {a b : ByteArray} (h : VT a) (g : VT b) : VT (a ++ b) := by
  unfold VT at *
  rw [show (a ++ b).data.toList = a.data.toList ++ b.data.toList by simp [ByteArray.data_append]]
  exact Utf.valid_app _ _ h g
theorem vt_none : VT ByteArray.empty := rfl
theorem vt_low : ∀ n : Nat, n < 128 → Lib.validD [UInt8.ofNat n] = true := by decide +kernel
theorem vt_dig : ∀ n : Nat, n < 10 → Lib.validD [digL.getD n 0] = true ∧ Lib.validD [digU.getD n 0] = true := by decide +kernel
theorem vt_char (c : Int) (sh : Bool) : VT (charP c sh) := by
  unfold charP
  split
  next h =>
    show Lib.validD [UInt8.ofNat ((if sh then 61 else 93) + c.toNat)] = true
    exact vt_low _ (by split <;> omega)
  split
  next h =>
    have := vt_dig (c.toNat - 30) (by omega)
    show Lib.validD [(if sh then digU else digL).getD (c.toNat - 30) 0] = true
    cases sh
    · exact this.1
    · exact this.2
  split
  · exact vt_low 32 (by decide)
  split
  · exact vt_low 10 (by decide)
  split
  · cases sh
    · exact vt_low 45 (by decide)
    · exact vt_low 95 (by decide)
  split
  · cases sh
    · exact vt_low 44 (by decide)
    · exact vt_low 60 (by decide)
  split
  · cases sh
    · exact vt_low 46 (by decide)
    · exact vt_low 62 (by decide)
  · rfl
theorem vt_acc (d : Int) : VT (accP d) := by
  unfold accP VT
  split
  · decide +kernel
  split
  · decide +kernel
  · decide +kernel
theorem vt_with : ∀ i : Nat, i < 12 → Lib.validD (Utf8.encode ((withR 2).getD i 0)).data.toList = true ∧ Lib.validD (Utf8.encode ((withR 1).getD i 0)).data.toList = true := by decide +kernel
theorem vt_zero : Lib.validD (Utf8.encode 0).data.toList = true := by decide +kernel
theorem with_len (d : Int) : (withR d).length ≤ 12 := by unfold withR; split <;> decide
theorem vt_accd (d : Int) (b : UInt8) : VT (accdP d b) := by
  unfold accdP VT
  split
  · rfl
  · generalize (Lib.indexByte (plainL d) b).toNat = i
    by_cases hi : i < 12
    · unfold withR
      split
      · exact (vt_with i hi).1
      · exact (vt_with i hi).2
    · rw [show (withR d).getD i 0 = 0 from by rw [List.getD, List.getElem?_eq_none (by have := with_len d; omega)]; rfl]
      exact vt_zero
theorem vt_put {t : St} {s : ByteArray} (h : VT t.text) (g : VT s) : VT (putP t s).text := by
  unfold putP
  split
  · exact vt_app h g
  · exact h
theorem vt_cut {s : ByteArray} (h : VT s) : VT (s.extract 0 (s.size - (Lib.decodeLastL s.data.toList).2)) := by
  have e : (s.extract 0 (s.size - (Lib.decodeLastL s.data.toList).2)).data.toList = s.data.toList.take (s.data.toList.length - (Lib.decodeLastL s.data.toList).2) := by
    rw [ByteArray.data_extract, Array.toList_extract]
    simp [List.extract]
  unfold VT
  rw [e]
  exact Utf.valid_back _ h
theorem vt_typed {t : St} (h : VT t.text) (c : Int) : VT (typedP t c).text := by
  unfold typedP
  split
  · split
    · exact vt_cut h
    · exact h
  · refine vt_put (t := t) h ?_
    split
    · exact vt_app (vt_acc _) (vt_char _ _)
    · exact vt_accd _ _
theorem vt_down {t : St} (h : VT t.text) (c : Int) : VT (downP t c).text := by
  unfold downP
  split
  · exact vt_typed h c
  split
  · exact h
  split
  · exact vt_put (t := t) h (vt_acc _)
  · exact h
theorem vt_tick : ∀ (n : Nat) {t : St}, VT t.text → VT (tickP n t).text
  | 0, _, h => h
  | n + 1, t, h => by
    unfold tickP
    split
    · exact h
    split
    · exact vt_tick n (t := { typedP { t with wait := 0 } t.last with wait := 4 }) (vt_typed (t := { t with wait := 0 }) h _)
    · exact vt_tick n (t := { t with wait := t.wait - 1 }) h
theorem vt_stroke {t : St} (h : VT t.text) (s : Sk) : VT (strokeP t s).1.text := by
  unfold strokeP
  split
  · split
    · exact h
    split
    · exact vt_down (t := { t with held := (app1 t.held s.code s.down).1 }) h _
    split
    · exact h
    · exact h
  split
  · exact h
  · exact vt_tick _ h
theorem vt_run : ∀ (l : List Sk) {t : St}, VT t.text → VT (runP t l).1.text
  | [], _, h => h
  | s :: l, t, h => by
    unfold runP
    split
    · rfl
    · exact vt_run l (vt_stroke h s)
theorem fm_run : ∀ (l : List Sk) {t : St}, FmT t → (runP t l).2 = 0 → FmT (runP t l).1
  | [], _, h, _ => h
  | s :: l, t, h, he => by
    unfold runP at he ⊢
    split at he
    next hn => exact absurd he hn
    next hn =>
    rw [if_neg hn]
    exact fm_run l (h.stroke s (by omega)) he
/-- THE LAW, PLAINLY -/
theorem utf_plain {t x : St} {l : List Sk} (h : typeP t l = (x, 0)) : x.text.size ≤ 4096 ∧ (VT t.text → VT x.text) := by
  unfold typeP at h
  split at h
  next hc => exact absurd (congrArg Prod.snd h) hc
  next hc =>
  split at h
  · cases h
  · have e1 : (runP t l).1 = x := by rw [h]
    have e2 : (runP t l).2 = 0 := by rw [h]
    refine ⟨?_, fun hv => ?_⟩
    · rw [← e1]; exact (fm_run l (chk_fm.1 (by omega)) e2).sz
    · rw [← e1]; exact vt_run l hv
theorem typeP_sz {t x : St} {l : List Sk} (h : typeP t l = (x, 0)) : t.text.size ≤ 4096 := by
  unfold typeP at h
  split at h
  next hc => exact absurd (congrArg Prod.snd h) hc
  next hc => exact (chk_fm.1 (by omega)).sz
end Go.Proofs.YtndkaehbmdiofaaDoor
