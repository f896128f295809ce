/- Pipes, plainly: what a fate does, and what holds of all that went before. -/
import Derived.Test.YtafiedhjjnapoaaStr
namespace Go.Proofs.Ytafiedhjjnapoaa
open Go.RowKit
structure St where
  s : Int
  t : Int
  ls : List ByteArray
  gs : List ByteArray
def took (p : St) (x : ByteArray) : St := if p.s = p.t then ⟨p.s, 1 - p.t, p.ls, p.gs ++ [x]⟩ else p
def stepF (p : St) (f : Int) : St :=
  match p.ls with
  | [] => p
  | x :: r => if f = 1 then ⟨1 - p.s, (took p x).t, r, (took p x).gs⟩ else if f = 3 then took p x else p
theorem stepF_nil {p : St} (h : p.ls = []) (f : Int) : stepF p f = p := by unfold stepF; rw [h]
theorem stepF_still {p : St} {f : Int} (h1 : f ≠ 1) (h3 : f ≠ 3) : stepF p f = p := by
  unfold stepF
  split
  · rfl
  · rw [if_neg h1, if_neg h3]
theorem stepF_cons {p : St} {x : ByteArray} {r : List ByteArray} (h : p.ls = x :: r) (f : Int) : stepF p f = if f = 1 then ⟨1 - p.s, (took p x).t, r, (took p x).gs⟩ else if f = 3 then took p x else p := by
  unfold stepF; rw [h]
def runF (p : St) (fs : List Int) : St := fs.foldl stepF p
/-- so many were told, so many were taken -/
structure Inv (ts : List ByteArray) (p : St) (told got : Nat) : Prop where
  le : told ≤ got
  ge : got ≤ told + 1
  gn : got ≤ ts.length
  ls : p.ls = ts.drop told
  gs : p.gs = ts.take got
  s : p.s = (told : Int) % 2
  t : p.t = (got : Int) % 2
theorem inv_start (ts : List ByteArray) : Inv ts ⟨0, 0, ts, []⟩ 0 0 := ⟨by omega, by omega, by omega, rfl, rfl, rfl, rfl⟩
theorem Inv.llen {ts : List ByteArray} {p : St} {told got : Nat} (h : Inv ts p told got) : p.ls.length = ts.length - told := by rw [h.ls, List.length_drop]
theorem Inv.glen {ts : List ByteArray} {p : St} {told got : Nat} (h : Inv ts p told got) : p.gs.length = got := by rw [h.gs, List.length_take]; have := h.gn; omega
theorem Inv.bits {ts : List ByteArray} {p : St} {told got : Nat} (h : Inv ts p told got) : (p.s = 0 ∨ p.s = 1) ∧ (p.t = 0 ∨ p.t = 1) := by
  have := h.s; have := h.t; omega
theorem Inv.step {ts : List ByteArray} {p : St} {told got : Nat} (h : Inv ts p told got) (f : Int) : ∃ got', Inv ts (stepF p f) (if f = 1 ∧ told < ts.length then told + 1 else told) got' := by
  have h1 := h.le; have h2 := h.ge; have h3 := h.gn
  by_cases hn : told < ts.length
  · have hd : p.ls = ts[told] :: ts.drop (told + 1) := by rw [h.ls]; exact (List.getElem_cons_drop hn).symm
    rw [stepF_cons hd]
    have hs := h.s; have ht := h.t
    by_cases he : p.s = p.t
    · have hg : got = told := by omega
      subst hg
      have e1 : took p ts[got] = ⟨p.s, 1 - p.t, p.ls, p.gs ++ [ts[got]]⟩ := by unfold took; rw [if_pos he]
      have e2 : p.gs ++ [ts[got]] = ts.take (got + 1) := by rw [h.gs, List.take_succ_eq_append_getElem hn]
      rw [e1]
      by_cases f1 : f = 1
      · rw [if_pos f1, if_pos ⟨f1, hn⟩]
        exact ⟨got + 1, by omega, by omega, by omega, rfl, e2, by simp only; omega, by simp only; omega⟩
      · rw [if_neg f1, if_neg (show ¬ (f = 1 ∧ _ < ts.length) from fun c => f1 c.1)]
        by_cases f3 : f = 3
        · rw [if_pos f3]
          exact ⟨got + 1, by omega, by omega, by omega, h.ls, e2, hs, by simp only; omega⟩
        · rw [if_neg f3]; exact ⟨got, h⟩
    · have hg : got = told + 1 := by omega
      have e1 : took p ts[told] = p := by unfold took; rw [if_neg he]
      rw [e1]
      by_cases f1 : f = 1
      · rw [if_pos f1, if_pos ⟨f1, hn⟩]
        exact ⟨got, by omega, by omega, by omega, rfl, h.gs, by simp only; omega, ht⟩
      · rw [if_neg f1, if_neg (show ¬ (f = 1 ∧ _ < ts.length) from fun c => f1 c.1)]
        by_cases f3 : f = 3
        · rw [if_pos f3]; exact ⟨got, h⟩
        · rw [if_neg f3]; exact ⟨got, h⟩
  · rw [if_neg (fun c => hn c.2), stepF_nil (by rw [h.ls]; exact List.drop_eq_nil_of_le (by omega))]
    exact ⟨got, h⟩
def goods (fs : List Int) : Nat := (fs.filter (· == 1)).length
theorem goods_cons (f : Int) (fs : List Int) : goods (f :: fs) = (if f = 1 then 1 else 0) + goods fs := by
  unfold goods
  by_cases h : f = 1
  · simp [h]; omega
  · simp [h]
theorem run_inv (ts : List ByteArray) : ∀ (fs : List Int) (p : St) (c got : Nat), Inv ts p (min c ts.length) got → ∃ got', Inv ts (runF p fs) (min (c + goods fs) ts.length) got'
  | [], p, c, got, h => ⟨got, h⟩
  | f :: fs, p, c, got, h => by
    obtain ⟨got', h'⟩ := h.step f
    have e2 : (if f = 1 ∧ min c ts.length < ts.length then min c ts.length + 1 else min c ts.length) = min (c + (if f = 1 then 1 else 0)) ts.length := by
      by_cases f1 : f = 1
      · rw [if_pos f1]
        by_cases h : min c ts.length < ts.length
        · rw [if_pos ⟨f1, h⟩]; omega
        · rw [if_neg (fun c => h c.2)]; omega
      · rw [if_neg f1, if_neg (fun c => f1 c.1)]; omega
    rw [e2] at h'
    obtain ⟨g, hg⟩ := run_inv ts fs (stepF p f) _ got' h'
    exact ⟨g, by rw [goods_cons, ← Nat.add_assoc]; exact hg⟩
theorem run_from (ts : List ByteArray) (fs : List Int) : ∃ got, Inv ts (runF ⟨0, 0, ts, []⟩ fs) (min (goods fs) ts.length) got := by
  obtain ⟨g, h⟩ := run_inv ts fs ⟨0, 0, ts, []⟩ 0 0 (by simpa using inv_start ts)
  exact ⟨g, by simpa using h⟩
theorem runF_take (p : St) (fs : List Int) (k : Nat) (hk : k < fs.length) : runF p (fs.take (k + 1)) = stepF (runF p (fs.take k)) fs[k] := by
  rw [List.take_succ_eq_append_getElem hk]; simp only [runF, List.foldl_append, List.foldl_cons, List.foldl_nil]
def fated (f : Int) : Prop := 1 ≤ f ∧ f ≤ 5
end Go.Proofs.Ytafiedhjjnapoaa
