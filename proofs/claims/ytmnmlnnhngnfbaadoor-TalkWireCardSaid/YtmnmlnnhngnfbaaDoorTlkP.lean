/- Talk, plainly: the packets of a transfer. -/
import Derived.Test.YtmnmlnnhngnfbaaDoorStkR
import Derived.Test.YtmnmlnnhngnfbaaDoorPktP
import Derived.Test.YtmnmlnnhngnfbaaDoorPhyQ
namespace Go.Proofs.YtmnmlnnhngnfbaaDoor
open Go.RowKit Go.Proofs.YtmnmlnnhngnfbaaDoor.PktP Go.Proofs.YtmnmlnnhngnfbaaDoor.Phy
def resp (f : Int) : List Pk := if f = 1 then [⟨2, 0, 0, 0, []⟩] else if f = 4 then [⟨10, 0, 0, 0, []⟩] else if f = 5 then [⟨14, 0, 0, 0, []⟩] else []
def topL (p : St) : ByteArray := p.ls.headD ByteArray.empty
def datP (p : St) : Pk := ⟨if p.s = 1 then 11 else 3, 0, 0, 0, (topL p).data.toList⟩
def tokP (a e : Int) : Pk := ⟨1, a, e, 0, []⟩
def pk1 (a e : Int) (p : St) (f : Int) : List Pk := if f = 2 then [] else tokP a e :: datP p :: resp f
def packs (a e : Int) : St → List Int → List Pk
  | _, [] => []
  | p, f :: r => pk1 a e p f ++ packs a e (stepF p f) r
theorem packs_snoc (a e : Int) : ∀ (fs : List Int) (p : St) (f : Int), packs a e p (fs ++ [f]) = packs a e p fs ++ pk1 a e (runF p fs) f
  | [], p, f => by simp [packs, runF]
  | g :: r, p, f => by
    rw [List.cons_append]
    unfold packs
    rw [packs_snoc a e r, List.append_assoc]
    rfl
/-- something is left ahead of each step -/
def LeftF : St → List Int → Prop
  | _, [] => True
  | p, f :: r => p.ls ≠ [] ∧ LeftF (stepF p f) r
theorem leftF_take : ∀ (fs : List Int) (p : St) (k : Nat), LeftF p fs → k < fs.length → (runF p (fs.take k)).ls ≠ []
  | f :: r, p, 0, h, _ => h.1
  | f :: r, p, k + 1, h, hk => leftF_take r (stepF p f) k h.2 (by simpa using hk)
theorem carF_run : ∀ (fs : List Int) (p : St) (e : Int) (n : Nat), p.ls ≠ [] → n ≤ (carF p e n fs).2.2 ∧ (carF p e n fs).2.2 ≤ n + fs.length ∧ (carF p e n fs).2.1 = runF p (fs.take ((carF p e n fs).2.2 - n)) ∧ LeftF p (fs.take ((carF p e n fs).2.2 - n))
  | [], p, e, n, _ => by simp [carF, runF, LeftF]
  | f :: r, p, e, n, hl => by
    by_cases h5 : f = 5
    · subst h5
      rw [carF_stall]
      dsimp only
      rw [Nat.add_sub_cancel_left]
      exact ⟨Nat.le_succ _, by simp, (stepF_still (by decide) (by decide)).symm, hl, trivial⟩
    by_cases h1 : (stepF p f).ls = []
    · rw [carF_ok p e n f r h5 h1]
      dsimp only
      rw [Nat.add_sub_cancel_left]
      exact ⟨Nat.le_succ _, by simp, rfl, hl, trivial⟩
    by_cases h3 : errs e f = 3
    · rw [carF_bus p e n f r h5 h1 h3]
      dsimp only
      rw [Nat.add_sub_cancel_left]
      exact ⟨Nat.le_succ _, by simp, rfl, hl, trivial⟩
    · rw [carF_on p e n f r h5 h1 h3]
      obtain ⟨i1, i2, i3, i4⟩ := carF_run r (stepF p f) (errs e f) (n + 1) h1
      obtain ⟨m, hm⟩ : ∃ m, (carF (stepF p f) (errs e f) (n + 1) r).2.2 = n + 1 + m := ⟨_, (Nat.add_sub_of_le i1).symm⟩
      rw [hm] at i2 i3 i4 ⊢
      rw [Nat.add_sub_cancel_left] at i3 i4
      rw [show n + 1 + m - n = m + 1 by omega, List.take_succ_cons]
      refine ⟨by omega, by rw [List.length_cons]; omega, i3, hl, i4⟩
theorem step_sub (p : St) (f : Int) : ∀ x ∈ (stepF p f).ls, x ∈ p.ls := by
  intro x hx
  cases hp : p.ls with
  | nil => rw [stepF_nil hp, hp] at hx; cases hx
  | cons y r =>
    rw [stepF_cons hp] at hx
    split at hx
    · exact List.mem_cons_of_mem _ hx
    · split at hx
      · unfold took at hx
        split at hx
        · rw [hp] at hx; exact hx
        · rw [hp] at hx; exact hx
      · rw [hp] at hx; exact hx
theorem run_sub : ∀ (fs : List Int) (p : St), ∀ x ∈ (runF p fs).ls, x ∈ p.ls
  | [], _, _, h => h
  | f :: r, p, x, h => step_sub p f x (run_sub r (stepF p f) x h)
theorem dat_ok {p : St} (hs : ∀ x ∈ p.ls, x.size ≤ 64) : Okp (datP p) := by
  refine .inr (.inr (.inl ⟨?_, rfl, rfl, rfl, ?_⟩))
  · unfold datP isData; dsimp only; split <;> simp
  · show (topL p).data.toList.length ≤ 64
    unfold topL
    cases hp : p.ls with
    | nil => exact Nat.zero_le _
    | cons y r =>
      have := hs y (by rw [hp]; exact List.mem_cons_self ..)
      simpa using this
theorem tok_ok {a e : Int} (ha : 1 ≤ a ∧ a ≤ 127) (he : 1 ≤ e ∧ e ≤ 15) : Okp (tokP a e) :=
  .inl ⟨.inl rfl, by show 0 ≤ a; omega, ha.2, by show 0 ≤ e; omega, he.2, rfl, rfl⟩
theorem resp_ok (f : Int) : ∀ x ∈ resp f, Okp x := by
  intro x hx
  unfold resp at hx
  split at hx
  · rw [List.mem_singleton] at hx; subst hx; decide
  split at hx
  · rw [List.mem_singleton] at hx; subst hx; decide
  split at hx
  · rw [List.mem_singleton] at hx; subst hx; decide
  · cases hx
theorem packs_ok {a e : Int} (ha : 1 ≤ a ∧ a ≤ 127) (he : 1 ≤ e ∧ e ≤ 15) : ∀ (fs : List Int) (p : St), (∀ x ∈ p.ls, x.size ≤ 64) → ∀ x ∈ packs a e p fs, Okp x
  | [], _, _, x, hx => by cases hx
  | f :: r, p, hs, x, hx => by
    unfold packs at hx
    rcases List.mem_append.1 hx with hx | hx
    · unfold pk1 at hx
      split at hx
      · cases hx
      · rcases List.mem_cons.1 hx with rfl | hx
        · exact tok_ok ha he
        · rcases List.mem_cons.1 hx with rfl | hx
          · exact dat_ok hs
          · exact resp_ok f x hx
    · exact packs_ok ha he r (stepF p f) (fun y hy => hs y (step_sub p f y hy)) x hx
theorem packs_len (a e : Int) : ∀ (fs : List Int) (p : St), (packs a e p fs).length ≤ 3 * fs.length
  | [], _ => Nat.zero_le _
  | f :: r, p => by
    have ih := packs_len a e r (stepF p f)
    have h1 : (pk1 a e p f).length ≤ 3 := by
      unfold pk1 resp
      split
      · exact Nat.zero_le _
      · split
        · exact Nat.le_refl _
        split
        · exact Nat.le_refl _
        split
        · exact Nat.le_refl _
        · exact Nat.le_succ _
    unfold packs
    rw [List.length_append, List.length_cons]
    omega
def txts (l : List Pk) : List (List UInt8) := l.map text
theorem okS_text {p : Pk} (h : Okp p) : okS (text p) = true := by
  have := text_len p h
  unfold okS
  simp only [Bool.and_eq_true, decide_eq_true_eq]
  exact ⟨by unfold text; simp, by omega⟩
theorem txts_ok {l : List Pk} (h : ∀ x ∈ l, Okp x) : (txts l).filter okS = txts l := by
  rw [List.filter_eq_self]
  intro s hs
  obtain ⟨p, hp, rfl⟩ := List.mem_map.1 hs
  exact okS_text (h p hp)
/-- what stands ahead of a row of packets -/
theorem packs_cases (a e : Int) : ∀ (fs : List Int) (p : St), LeftF p fs → packs a e p fs = [] ∨ ∃ f r, f ≠ 2 ∧ f ∈ fs ∧ p.ls ≠ [] ∧ LeftF (stepF p f) r ∧ (∀ g ∈ r, g ∈ fs) ∧ runF p fs = runF (stepF p f) r ∧ packs a e p fs = tokP a e :: datP p :: (resp f ++ packs a e (stepF p f) r)
  | [], _, _ => .inl rfl
  | f :: r, p, h => by
    by_cases h2 : f = 2
    · subst h2
      have hst : stepF p 2 = p := stepF_still (by decide) (by decide)
      have e1 : packs a e p (2 :: r) = packs a e p r := by
        show pk1 a e p 2 ++ packs a e (stepF p 2) r = _
        rw [hst]; rfl
      have hr := h.2
      rw [hst] at hr
      rcases packs_cases a e r p hr with h0 | ⟨f, r', q1, q2, q3, q4, q5, q6, q7⟩
      · left; rw [e1]; exact h0
      · right
        refine ⟨f, r', q1, List.mem_cons_of_mem _ q2, q3, q4, fun g hg => List.mem_cons_of_mem _ (q5 g hg), ?_, by rw [e1]; exact q7⟩
        show runF (stepF p 2) r = _
        rw [hst]; exact q6
    · right
      refine ⟨f, r, h2, List.mem_cons_self .., h.1, h.2, fun g hg => List.mem_cons_of_mem _ hg, rfl, ?_⟩
      show pk1 a e p f ++ _ = _
      unfold pk1
      rw [if_neg h2]; rfl
theorem step_s {p : St} (f : Int) (hl : p.ls ≠ []) : (stepF p f).s = if f = 1 then 1 - p.s else p.s := by
  cases hp : p.ls with
  | nil => exact absurd hp hl
  | cons x r =>
    rw [stepF_cons hp]
    split
    · rfl
    · split
      · unfold took; split <;> rfl
      · rfl
/-- who listens -/
def spy (st : List UInt8 × Int) (x : Pk) : List UInt8 × Int := if x.k = st.2 then (st.1 ++ x.d, if st.2 = 3 then 11 else 3) else st
def wantK (t : Int) : Int := if t = 0 then 3 else 11
theorem step_bits {p : St} (f : Int) (hs : p.s = 0 ∨ p.s = 1) (ht : p.t = 0 ∨ p.t = 1) : ((stepF p f).s = 0 ∨ (stepF p f).s = 1) ∧ ((stepF p f).t = 0 ∨ (stepF p f).t = 1) := by
  cases hp : p.ls with
  | nil => rw [stepF_nil hp]; exact ⟨hs, ht⟩
  | cons x r =>
    rw [stepF_cons hp]
    split
    · refine ⟨?_, ?_⟩
      · show 1 - p.s = 0 ∨ 1 - p.s = 1; omega
      · unfold took; split
        · show 1 - p.t = 0 ∨ 1 - p.t = 1; omega
        · exact ht
    · split
      · unfold took; split
        · exact ⟨hs, by show 1 - p.t = 0 ∨ 1 - p.t = 1; omega⟩
        · exact ⟨hs, ht⟩
      · exact ⟨hs, ht⟩
theorem spy_packs (a e : Int) : ∀ (fs : List Int) (p : St), LeftF p fs → (p.s = 0 ∨ p.s = 1) → (p.t = 0 ∨ p.t = 1) → (∀ f ∈ fs, f = 1 ∨ f = 2 ∨ f = 3) →
    (packs a e p fs).foldl spy (cat p.gs, wantK p.t) = (cat (runF p fs).gs, wantK (runF p fs).t)
  | [], _, _, _, _, _ => rfl
  | f :: r, p, h, hs, ht, hf => by
    have hb := step_bits f hs ht
    have ih := spy_packs a e r (stepF p f) h.2 hb.1 hb.2 (fun g hg => hf g (List.mem_cons_of_mem _ hg))
    show (pk1 a e p f ++ packs a e (stepF p f) r).foldl spy _ = (cat (runF (stepF p f) r).gs, wantK (runF (stepF p f) r).t)
    rw [List.foldl_append, ← ih]
    congr 1
    cases hp : p.ls with
    | nil => exact absurd hp h.1
    | cons x l =>
      have htop : topL p = x := by unfold topL; rw [hp]; rfl
      have hn1 : ∀ st : List UInt8 × Int, (st.2 = 3 ∨ st.2 = 11) → spy st (tokP a e) = st := fun st hst => by
        unfold spy
        rw [if_neg (by show ¬ (1 : Int) = st.2; omega)]
      have hw : wantK p.t = 3 ∨ wantK p.t = 11 := by unfold wantK; split <;> simp
      have hd : spy (cat p.gs, wantK p.t) (datP p) = (cat (took p x).gs, wantK (took p x).t) := by
        unfold spy took datP
        rw [htop]
        dsimp only
        have key : ((if p.s = 1 then (11 : Int) else 3) = wantK p.t) ↔ p.s = p.t := by
          unfold wantK
          rcases hs with h1 | h1 <;> rcases ht with h2 | h2 <;> rw [h1, h2] <;> decide
        by_cases hq : p.s = p.t
        · rw [if_pos (key.2 hq), if_pos hq, cat_app, cat_one]
          congr 1
          unfold wantK
          dsimp only
          rcases ht with h2 | h2 <;> rw [h2] <;> rfl
        · rw [if_neg (fun q => hq (key.1 q)), if_neg hq]
      have hw2 : wantK (took p x).t = 3 ∨ wantK (took p x).t = 11 := by unfold wantK; split <;> simp
      rcases hf f (List.mem_cons_self ..) with rfl | rfl | rfl
      · show List.foldl spy _ [tokP a e, datP p, ⟨2, 0, 0, 0, []⟩] = _
        rw [List.foldl_cons, hn1 _ hw, List.foldl_cons, hd, List.foldl_cons, List.foldl_nil, stepF_cons hp, if_pos rfl]
        unfold spy
        rw [if_neg (by show ¬ (2 : Int) = _; omega)]
      · rw [stepF_still (by decide) (by decide)]
        rfl
      · show List.foldl spy _ [tokP a e, datP p] = _
        rw [List.foldl_cons, hn1 _ hw, List.foldl_cons, hd, List.foldl_nil, stepF_cons hp, if_neg (by decide), if_pos rfl]
end Go.Proofs.YtmnmlnnhngnfbaaDoor
