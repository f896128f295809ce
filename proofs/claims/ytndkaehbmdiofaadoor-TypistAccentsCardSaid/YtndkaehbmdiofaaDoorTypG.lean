/- typist, plainly: what is told of a right machine is right; strokes in two goes. -/
import Derived.Test.YtndkaehbmdiofaaDoorTypK
namespace Go.Proofs.YtndkaehbmdiofaaDoor
open Go.RowKit Go.Proofs.YtndkaehbmdiofaaDoor.Typ
/-- a machine in order -/
structure FmT (t : St) : Prop where
  low : t.held.a.toNat % 16 = 0
  sz : t.text.size ≤ 4096
  d0 : 0 ≤ t.dead
  d2 : t.dead ≤ 2
  lw : (t.last = 0 ∧ t.wait = 0) ∨ (prints t.last = true ∧ t.held.has t.last.toNat = true ∧ 1 ≤ t.wait ∧ t.wait ≤ 20)
theorem chk_fm {t : St} : chkP t = 0 ↔ FmT t := by
  unfold chkP
  constructor
  · intro h
    split at h
    · cases h
    next hf =>
    split at h
    · cases h
    next hs =>
    have hf' : formB t = true := by simpa using hf
    unfold formB lastB at hf'
    simp only [Bool.and_eq_true, Bool.or_eq_true, decide_eq_true_iff, beq_iff_eq] at hf'
    obtain ⟨⟨⟨h0, h1⟩, h2⟩, h3⟩ := hf'
    refine ⟨h0, by omega, h1, h2, ?_⟩
    rcases h3 with h | ⟨⟨⟨p1, p2⟩, p3⟩, p4⟩
    · exact .inl h
    · exact .inr ⟨p1, p2, p3, p4⟩
  · intro h
    have hf : formB t = true := by
      unfold formB lastB
      simp only [Bool.and_eq_true, Bool.or_eq_true, decide_eq_true_iff, beq_iff_eq]
      refine ⟨⟨⟨h.low, h.d0⟩, h.d2⟩, ?_⟩
      rcases h.lw with h | ⟨p1, p2, p3, p4⟩
      · exact .inl h
      · exact .inr ⟨⟨⟨p1, p2⟩, p3⟩, p4⟩
    rw [if_neg (by rw [hf]; decide), if_neg (by have := h.sz; omega)]
theorem FmT.tk {t : St} (h : FmT t) : TkT t := chk_tk (chk_fm.2 h)
theorem flip_low (h : Hd) (c : Nat) (h4 : 4 ≤ c) (hc : c < 256) : (h.flip c).a.toNat % 16 = h.a.toNat % 16 := by
  have key : ∀ i, i < 4 → (h.flip c).a.toNat.testBit i = h.a.toNat.testBit i := fun i hi => by
    have e1 := Hd.has_bit (h.flip c) i
    have e2 := Hd.has_bit h i
    have e3 := Hd.flip_has h c i hc (by omega)
    rw [decide_eq_false (show ¬ c = i by omega), Bool.bne_false] at e3
    rw [show i / 64 = 0 by omega, show i % 64 = i by omega] at e1 e2
    rw [e3, e2] at e1
    exact e1.symm
  apply Nat.eq_of_testBit_eq
  intro i
  rw [show (16 : Nat) = 2 ^ 4 from rfl, Nat.testBit_mod_two_pow, Nat.testBit_mod_two_pow]
  by_cases hi : i < 4
  · rw [key i hi]
  · rw [decide_eq_false hi]; rfl
theorem tick_keeps : ∀ (n : Nat) (t : St), (tickP n t).held = t.held ∧ (tickP n t).last = t.last ∧ ((tickP n t).dead = t.dead ∨ (tickP n t).dead = 0)
  | 0, _ => ⟨rfl, rfl, .inl rfl⟩
  | n + 1, t => by
    by_cases hl : t.last = 0
    · rw [tick_zero _ _ hl]; exact ⟨rfl, rfl, .inl rfl⟩
    · by_cases hw : t.wait = 1
      · rw [tick_typed _ _ hl hw]
        obtain ⟨a, b, c⟩ := tick_keeps n { typedP { t with wait := 0 } t.last with wait := 4 }
        refine ⟨a.trans (typed_held _ _), b.trans (typed_last _ _), .inr ?_⟩
        have e : ({ typedP { t with wait := 0 } t.last with wait := 4 } : St).dead = 0 := typed_dead _ _
        rw [e] at c
        exact c.elim id id
      · rw [tick_less _ _ hl hw]
        exact tick_keeps n { t with wait := t.wait - 1 }
theorem tick_rest : ∀ (n : Nat) (t : St), t.last = 0 → tickP n t = t := fun n t h => tick_zero n t h
theorem FmT.tick {t : St} (h : FmT t) (n : Nat) : FmT (tickP n t) := by
  obtain ⟨k1, k2, k3⟩ := tick_keeps n t
  have ht := h.tk.tick n
  refine ⟨by rw [k1]; exact h.low, ht.sz, ?_, ?_, ?_⟩
  · have := h.d0; omega
  · have := h.d2; omega
  · rcases h.lw with hl | ⟨p1, p2, _, _⟩
    · rw [tick_zero _ _ hl.1]; exact .inl hl
    · have hne : (tickP n t).last ≠ 0 := by
        rw [k2]; have := prints_in p1; omega
      obtain ⟨q1, q2, q3⟩ := ht.lw.resolve_left hne
      exact .inr ⟨q1, by rw [k1, k2]; exact p2, q2, q3⟩
theorem app1_ok {h : Hd} {c : Int} {d : Bool} (e : (app1 h c d).2 = 0) : 4 ≤ c ∧ c ≤ 255 ∧ (app1 h c d).1 = h.flip c.toNat ∧ h.has c.toNat ≠ d := by
  unfold app1 at e ⊢
  split at e
  · cases e
  next h1 =>
  split at e
  · cases e
  next h2 =>
  rw [if_neg h1, if_neg h2]
  exact ⟨by omega, by omega, rfl, h2⟩
theorem FmT.stroke {t : St} (h : FmT t) (s : Sk) (he : (strokeP t s).2 = 0) : FmT (strokeP t s).1 := by
  have htk := h.tk.stroke s
  unfold strokeP at he htk ⊢
  by_cases hk : s.kind = 1
  · rw [if_pos hk] at he htk ⊢
    by_cases ha : (app1 t.held s.code s.down).2 ≠ 0
    · rw [if_pos ha] at he ⊢
      exact absurd he ha
    · rw [if_neg ha] at htk ⊢
      obtain ⟨c1, c2, c3, c4⟩ := app1_ok (by omega : (app1 t.held s.code s.down).2 = 0)
      rw [c3] at htk ⊢
      have hlow : (t.held.flip s.code.toNat).a.toNat % 16 = 0 := by rw [flip_low _ _ (by omega) (by omega)]; exact h.low
      have hoth : ∀ n : Int, 4 ≤ n → n ≤ 255 → n ≠ s.code → (t.held.flip s.code.toNat).has n.toNat = t.held.has n.toNat := fun n q1 q2 q3 => by
        rw [Hd.flip_has _ _ _ (by omega) (by omega), decide_eq_false (by omega), Bool.bne_false]
      by_cases hd : s.down = true
      · rw [if_pos hd] at htk ⊢
        have hown : (t.held.flip s.code.toNat).has s.code.toNat = true := by
          rw [Hd.flip_has _ _ _ (by omega) (by omega), decide_eq_true rfl]
          rw [hd] at c4
          cases hx : t.held.has s.code.toNat
          · rfl
          · exact absurd hx c4
        have hheld : (downP { t with held := t.held.flip s.code.toNat } s.code).held = t.held.flip s.code.toNat := by
          unfold downP
          split
          · exact typed_held _ _
          split
          · rfl
          split
          · exact put_held _ _
          · rfl
        refine ⟨by rw [hheld]; exact hlow, htk.sz, ?_, ?_, ?_⟩
        · have := htk.dd; omega
        · have := htk.dd; omega
        · rw [hheld]
          unfold downP
          split
          next hp => exact .inr ⟨hp, hown, by show (1 : Int) ≤ 20; decide, by show (20 : Int) ≤ 20; decide⟩
          next hp =>
          split
          next h57 =>
            rcases h.lw with hl | ⟨p1, p2, p3, p4⟩
            · exact .inl hl
            · have := prints_in p1
              exact .inr ⟨p1, (hoth t.last (by omega) (by omega) (by omega)).trans p2, p3, p4⟩
          split
          · exact .inl ⟨rfl, rfl⟩
          · rcases h.lw with hl | ⟨p1, p2, p3, p4⟩
            · exact .inl hl
            · have := prints_in p1
              refine .inr ⟨p1, (hoth t.last (by omega) (by omega) ?_).trans p2, p3, p4⟩
              intro e
              rw [← e] at hp
              exact hp p1
      · rw [if_neg hd] at htk ⊢
        by_cases hl : s.code = t.last
        · rw [if_pos hl]
          exact ⟨hlow, h.sz, h.d0, h.d2, .inl ⟨rfl, rfl⟩⟩
        · rw [if_neg hl]
          refine ⟨hlow, h.sz, h.d0, h.d2, ?_⟩
          rcases h.lw with hl2 | ⟨p1, p2, p3, p4⟩
          · exact .inl hl2
          · have := prints_in p1
            exact .inr ⟨p1, (hoth t.last (by omega) (by omega) (fun e => hl e.symm)).trans p2, p3, p4⟩
  · rw [if_neg hk] at he htk ⊢
    split
    next h2 => rw [if_pos h2] at he; cases he
    · exact h.tick _
theorem runP_split : ∀ (a b : List Sk) (t x : St), runP t a = (x, 0) → runP t (a ++ b) = runP x b
  | [], _, _, _, h => by cases h; rfl
  | s :: a, b, t, x, h => by
    rw [runP_cons] at h
    show runP t (s :: (a ++ b)) = _
    rw [runP_cons]
    split at h
    next hz => simp only [Prod.mk.injEq] at h; exact absurd h.2 hz
    next hz => rw [if_neg hz]; exact runP_split a b _ _ h
theorem runP_fm : ∀ (a : List Sk) (t x : St), FmT t → runP t a = (x, 0) → FmT x
  | [], _, _, h, e => by cases e; exact h
  | s :: a, t, x, h, e => by
    rw [runP_cons] at e
    split at e
    next hz => simp only [Prod.mk.injEq] at e; exact absurd e.2 hz
    next hz => exact runP_fm a _ _ (h.stroke s (by omega)) e
theorem runP_err : ∀ (a : List Sk) (t x : St) (e : Int), runP t a = (x, e) → e ≠ 0 → x = St.zero
  | [], _, _, _, h, he => by cases h; exact absurd rfl he
  | s :: a, t, x, e, h, he => by
    rw [runP_cons] at h
    split at h
    · cases h; rfl
    · exact runP_err a _ _ _ h he
theorem typeP_err {t x : St} {a : List Sk} {e : Int} (h : typeP t a = (x, e)) (he : e ≠ 0) : x = St.zero := by
  unfold typeP at h
  split at h
  · cases h; rfl
  split at h
  · cases h; rfl
  · exact runP_err _ _ _ _ h he
/-- strokes in two goes -/
theorem cuts_plain {t x : St} {a b : List Sk} (h : typeP t a = (x, 0)) (hl : a.length + b.length ≤ 400) : chkP x = 0 ∧ typeP x b = typeP t (a ++ b) := by
  unfold typeP at h
  split at h
  next hc => simp only [Prod.mk.injEq] at h; exact absurd h.2 hc
  next hc =>
  rw [if_neg (by omega)] at h
  have hx := runP_fm a t x (chk_fm.1 (by omega)) h
  refine ⟨chk_fm.2 hx, ?_⟩
  unfold typeP
  rw [if_neg (fun q => q (chk_fm.2 hx)), if_neg (by omega), if_neg hc, if_neg (by rw [List.length_append]; omega), runP_split a b t x h]
end Go.Proofs.YtndkaehbmdiofaaDoor
