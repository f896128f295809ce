/- What comes of fates, plainly. -/
import Derived.Test.YtafiedhjjnapoaaStkC
namespace Go.Proofs.Ytafiedhjjnapoaa
open Go.RowKit
theorem Inv.empty {ts : List ByteArray} {p : St} {told got : Nat} (h : Inv ts p told got) : p.ls = [] ↔ ts.length ≤ told := by
  rw [h.ls, List.drop_eq_nil_iff]
theorem foldl_errs_cons (e f : Int) (r : List Int) : (f :: r).foldl errs e = r.foldl errs (errs e f) := rfl
/-- all that is said of the result -/
structure Res (l : List ByteArray) (p : St) (e : Int) (n : Nat) (fs : List Int) (R : Int × St × Nat) : Prop where
  inv : ∃ told got, Inv l R.2.1 told got
  lo : n ≤ R.2.2
  hi : R.2.2 ≤ n + fs.length
  code : R.1 = 0 ∨ R.1 = 8 ∨ R.1 = 9 ∨ R.1 = 10
  ok : R.1 = 0 → R.2.1.ls = []
  time : R.1 = 10 → R.2.2 = n + fs.length
  one : R.1 ≠ 10 → n < R.2.2
  last : R.1 ≠ 10 → ∃ f, fs[R.2.2 - n - 1]? = some f ∧ (R.1 = 8 → f = 5) ∧ (R.1 = 0 → f = 1) ∧ (R.1 = 9 → (f = 2 ∨ f = 3)) ∧ (R.1 ≠ 8 → f ≠ 5)
  bus : R.1 = 9 → (fs.take (R.2.2 - n)).foldl errs e = 3
  no5 : ∀ k f, k + 1 < R.2.2 - n → fs[k]? = some f → f ≠ 5
theorem carF_res (l : List ByteArray) : ∀ (fs : List Int) (p : St) (e : Int) (n told got : Nat), Inv l p told got → p.ls ≠ [] → e ≠ 3 → Res l p e n fs (carF p e n fs)
  | [], p, e, n, told, got, h, hl, he => by
    refine ⟨⟨told, got, h⟩, ?_, ?_, ?_, ?_, ?_, ?_, ?_, ?_, ?_⟩
    all_goals simp [carF]
  | f :: r, p, e, n, told, got, h, hl, he => by
    obtain ⟨got', h'⟩ := h.step f
    by_cases h5 : f = 5
    · subst h5
      rw [carF_stall]
      exact ⟨⟨told, got, h⟩, by simp, by simp, by simp, by simp, by simp, by simp, fun _ => ⟨5, by simp, by simp, by simp, by simp, by simp⟩, by simp, fun k f hk => by simp at hk⟩
    by_cases h1 : (stepF p f).ls = []
    · rw [carF_ok p e n f r h5 h1]
      have hf : f = 1 := by
        apply Classical.byContradiction
        intro hf
        rw [if_neg (fun c => hf c.1)] at h'
        exact hl (h.empty.2 (h'.empty.1 h1))
      exact ⟨⟨_, got', h'⟩, by simp, by simp, by simp, fun _ => h1, by simp, by simp, fun _ => ⟨f, by simp, by simp, fun _ => hf, by simp, fun _ => h5⟩, by simp, fun k f hk => by simp at hk⟩
    by_cases h3 : errs e f = 3
    · rw [carF_bus p e n f r h5 h1 h3]
      have hf : f = 2 ∨ f = 3 := by
        unfold errs at h3
        apply Classical.byContradiction
        intro hf
        rw [if_neg hf] at h3
        split at h3 <;> omega
      exact ⟨⟨_, got', h'⟩, by simp, by simp, by simp, by simp, by simp, by simp, fun _ => ⟨f, by simp, by simp, by simp, fun _ => hf, fun _ => h5⟩, fun _ => by simp [h3], fun k f hk => by simp at hk⟩
    · rw [carF_on p e n f r h5 h1 h3]
      have ih := carF_res l r (stepF p f) (errs e f) (n + 1) _ got' h' h1 h3
      generalize carF (stepF p f) (errs e f) (n + 1) r = R at *
      have hlo := ih.lo
      have hhi := ih.hi
      refine ⟨ih.inv, by omega, by simp; omega, ih.code, ih.ok, fun hc => by have := ih.time hc; simp; omega, fun hc => by omega, fun hc => ?_, fun hc => ?_, fun k g hk hg => ?_⟩
      · obtain ⟨g, hg, hh⟩ := ih.last hc
        have h1 := ih.one hc
        refine ⟨g, ?_, hh⟩
        obtain ⟨m, hm⟩ : ∃ m, R.2.2 - n - 1 = m + 1 := ⟨R.2.2 - n - 2, by omega⟩
        rw [hm, List.getElem?_cons_succ, show m = R.2.2 - (n + 1) - 1 by omega]
        exact hg
      · have h1 := ih.one (by rw [hc]; decide)
        have := ih.bus hc
        obtain ⟨m, hm⟩ : ∃ m, R.2.2 - n = m + 1 := ⟨R.2.2 - n - 1, by omega⟩
        rw [hm, List.take_succ_cons, foldl_errs_cons, show m = R.2.2 - (n + 1) by omega]
        exact this
      · cases k with
        | zero => simp at hg; subst hg; exact h5
        | succ k => exact ih.no5 k g (by omega) (by simpa using hg)
theorem start_ne {s : Nat} (hs : 1 ≤ s) (t : ByteArray) : (p0 (chop s t)).ls ≠ [] := by
  intro h
  have := chop_len hs t
  unfold p0 at h
  simp only at h
  rw [h] at this
  simp at this
theorem car_res {s : Nat} (hs : 1 ≤ s) (t : ByteArray) (fs : List Int) : Res (chop s t) (p0 (chop s t)) 0 0 fs (carF (p0 (chop s t)) 0 0 fs) :=
  carF_res _ fs _ 0 0 0 0 (inv_start _) (start_ne hs t) (by decide)
/-- what is told of the bytes -/
theorem told_bytes {s : Nat} {l : List ByteArray} {p : St} {told got : Nat} (h : Inv l p told got) (hs : ∀ x ∈ l, x.size ≤ s) :
    cat p.gs = (cat l).take (cat p.gs).length ∧ doneOf l p ≤ (cat p.gs).length ∧ (cat p.gs).length ≤ doneOf l p + s ∧ (p.ls = [] → cat p.gs = cat l ∧ doneOf l p = (cat l).length) := by
  have e1 : doneOf l p = (cat (l.take told)).length := by
    unfold doneOf
    rw [h.llen, show l.length - (l.length - told) = told by have := h.le; have := h.gn; omega]
  rw [e1, h.gs]
  refine ⟨?_, ?_, ?_, ?_⟩
  · have : cat l = cat (l.take got) ++ cat (l.drop got) := by rw [← cat_app, List.take_append_drop]
    rw [this, List.take_left]
  · by_cases e : got = told
    · rw [e]; exact Nat.le_refl _
    · have : got = told + 1 := by have := h.le; have := h.ge; omega
      have hlt : told < l.length := by have := h.gn; omega
      rw [this, List.take_succ_eq_append_getElem hlt, cat_app, List.length_append]; omega
  · by_cases e : got = told
    · rw [e]; omega
    · have : got = told + 1 := by have := h.le; have := h.ge; omega
      have hlt : told < l.length := by have := h.gn; omega
      rw [this, List.take_succ_eq_append_getElem hlt, cat_app, List.length_append, cat_one, blen]
      have := hs _ (List.getElem_mem hlt); omega
  · intro hn
    have hle := h.empty.1 hn
    have := h.le
    rw [List.take_of_length_le hle, List.take_of_length_le (by omega)]
    exact ⟨rfl, rfl⟩
/-- fates that were not used -/
theorem carF_used : ∀ (fs more : List Int) (p : St) (e : Int) (n : Nat), (carF p e n fs).1 ≠ 10 → carF p e n (fs.take ((carF p e n fs).2.2 - n) ++ more) = carF p e n fs
  | [], more, p, e, n, h => absurd rfl h
  | f :: r, more, p, e, n, h => by
    by_cases h5 : f = 5
    · subst h5
      rw [carF_stall, show n + 1 - n = 1 by omega]
      simp only [List.take_succ_cons, List.take_zero, List.cons_append]
      rw [carF_stall]
    by_cases h1 : (stepF p f).ls = []
    · rw [carF_ok p e n f r h5 h1, show n + 1 - n = 1 by omega]
      simp only [List.take_succ_cons, List.take_zero, List.cons_append]
      rw [carF_ok p e n f _ h5 h1]
    by_cases h3 : errs e f = 3
    · rw [carF_bus p e n f r h5 h1 h3, show n + 1 - n = 1 by omega]
      simp only [List.take_succ_cons, List.take_zero, List.cons_append]
      rw [carF_bus p e n f _ h5 h1 h3]
    · rw [carF_on p e n f r h5 h1 h3] at h ⊢
      have ih := carF_used r more (stepF p f) (errs e f) (n + 1) h
      have hlo : n + 1 ≤ (carF (stepF p f) (errs e f) (n + 1) r).2.2 := carF_lo r _ _ _
      obtain ⟨m, hm⟩ : ∃ m, (carF (stepF p f) (errs e f) (n + 1) r).2.2 = m + (n + 1) := ⟨_, (Nat.sub_add_cancel hlo).symm⟩
      rw [hm] at ih ⊢
      rw [show m + (n + 1) - n = m + 1 by omega]
      rw [show m + (n + 1) - (n + 1) = m by omega] at ih
      simp only [List.take_succ_cons, List.cons_append]
      rw [carF_on p e n f _ h5 h1 h3, ih]
where
  carF_lo : ∀ (fs : List Int) (p : St) (e : Int) (n : Nat), n ≤ (carF p e n fs).2.2
  | [], p, e, n => Nat.le_refl _
  | f :: r, p, e, n => by
    unfold carF
    split
    · simp
    · split
      · simp
      · split
        · simp
        · have := carF_lo r (stepF p f) (errs e f) (n + 1); omega
/-- no three strikes, none refused -/
theorem carF_well (l : List ByteArray) : ∀ (fs : List Int) (p : St) (e : Int) (n told got : Nat), Inv l p told got → told < l.length → (∀ f ∈ fs, f ≠ 5) → (∀ k, k < fs.length → (fs.take (k + 1)).foldl errs e ≠ 3) →
    (l.length ≤ told + goods fs → (carF p e n fs).1 = 0) ∧ (told + goods fs < l.length → (carF p e n fs).1 = 10)
  | [], p, e, n, told, got, h, hlt, h5, h3 => ⟨fun hg => by simp [goods] at hg; omega, fun _ => rfl⟩
  | f :: r, p, e, n, told, got, h, hlt, h5, h3 => by
    obtain ⟨got', h'⟩ := h.step f
    have f5 : f ≠ 5 := h5 f (by simp)
    have f3 : errs e f ≠ 3 := by have := h3 0 (by simp); simpa using this
    rw [goods_cons]
    by_cases h1 : (stepF p f).ls = []
    · rw [carF_ok p e n f r f5 h1]
      have hle := h'.empty.1 h1
      refine ⟨fun _ => rfl, fun hg => ?_⟩
      by_cases f1 : f = 1
      · rw [if_pos f1] at hg; rw [if_pos ⟨f1, hlt⟩] at hle; omega
      · rw [if_neg (fun c => f1 c.1)] at hle; omega
    · rw [carF_on p e n f r f5 h1 f3]
      have hn : ¬ l.length ≤ _ := fun hc => h1 (h'.empty.2 hc)
      have ih := carF_well l r (stepF p f) (errs e f) (n + 1) _ got' h' (by omega) (fun g hg => h5 g (by simp [hg])) (fun k hk => by have := h3 (k + 1) (by simp; omega); rwa [List.take_succ_cons, foldl_errs_cons] at this)
      by_cases f1 : f = 1
      · rw [if_pos ⟨f1, hlt⟩] at ih; rw [if_pos f1]
        exact ⟨fun hg => ih.1 (by omega), fun hg => ih.2 (by omega)⟩
      · rw [if_neg (fun c => f1 c.1)] at ih; rw [if_neg f1]
        exact ⟨fun hg => ih.1 (by omega), fun hg => ih.2 (by omega)⟩
/-- counted from behind -/
def backC (l : List Int) : Nat := ((l.reverse.takeWhile (fun f => f != 1)).filter (fun f => f != 4)).length
theorem backC_snoc (l : List Int) (f : Int) : backC (l ++ [f]) = if f = 1 then 0 else if f = 4 then backC l else backC l + 1 := by
  unfold backC
  simp only [List.reverse_append, List.reverse_cons, List.reverse_nil, List.nil_append, List.singleton_append, List.takeWhile_cons]
  by_cases h1 : f = 1
  · subst h1; simp
  · have : (f != 1) = true := by simpa using h1
    rw [this, if_neg h1]
    simp only [if_true, List.filter_cons]
    by_cases h4 : f = 4
    · subst h4; simp
    · have : (f != 4) = true := by simpa using h4
      rw [this, if_neg h4]; simp
theorem errs_rev : ∀ m : List Int, (∀ f ∈ m, 1 ≤ f ∧ f ≤ 4) → m.reverse.foldl errs 0 = (backC m.reverse : Int)
  | [], _ => rfl
  | f :: m, h => by
    have hf := h f (by simp)
    rw [List.reverse_cons, List.foldl_append, errs_rev m (fun g hg => h g (by simp [hg])), backC_snoc]
    simp only [List.foldl_cons, List.foldl_nil, errs]
    by_cases h1 : f = 1
    · subst h1; simp
    by_cases h4 : f = 4
    · subst h4; simp
    · rw [if_pos (by omega), if_neg h1, if_neg h4]; simp
theorem errs_back (l : List Int) (h : ∀ f ∈ l, 1 ≤ f ∧ f ≤ 4) : l.foldl errs 0 = (backC l : Int) := by
  have := errs_rev l.reverse (fun f hf => h f (by simpa using hf))
  rwa [List.reverse_reverse] at this
end Go.Proofs.Ytafiedhjjnapoaa
