/- TypistCaps, plainly: keys that are pressed and let go where nothing else is held. -/
import Derived.Test.YtndkaehbmdiofaaDoorTypW
import Derived.Test.YtndkaehbmdiofaaDoorTypG
namespace Go.Proofs.YtndkaehbmdiofaaDoor
open Go.Proofs.YtndkaehbmdiofaaDoor.Typ
theorem app_down {H : Hd} {c : Int} (h4 : 4 ≤ c) (h5 : c ≤ 255) (hh : H.has c.toNat = false) : app1 H c true = (H.flip c.toNat, 0) := by
  unfold app1; rw [if_neg (by omega), if_neg (by rw [hh]; decide)]
theorem app_up {H : Hd} {c : Int} (h4 : 4 ≤ c) (h5 : c ≤ 255) (hh : H.has c.toNat = false) : app1 (H.flip c.toNat) c false = (H, 0) := by
  unfold app1
  rw [if_neg (by omega), if_neg (by rw [Hd.flip_has _ _ _ (by omega) (by omega), hh, decide_eq_true rfl]; decide), flip_flip _ _ (by omega)]
/-- a key that types is pressed and let go -/
theorem press_key (t : St) (c : Int) (hp : prints c = true) (hh : t.held.has c.toNat = false) (rest : List Sk) :
    runP t (⟨1, c, true, 0⟩ :: ⟨1, c, false, 0⟩ :: rest) = runP { typedP { t with held := t.held.flip c.toNat } c with held := t.held, last := 0, wait := 0 } rest := by
  have hc := prints_in hp
  have hs1 : strokeP t ⟨1, c, true, 0⟩ = ({ typedP { t with held := t.held.flip c.toNat } c with last := c, wait := 20 }, 0) := by
    unfold strokeP
    rw [if_pos rfl]
    dsimp only
    rw [app_down (by omega) (by omega) hh, if_neg (fun q => q rfl), if_pos rfl]
    unfold downP
    rw [if_pos hp]
  have hhd : (typedP { t with held := t.held.flip c.toNat } c).held = t.held.flip c.toNat := typed_held _ _
  have hs2 : strokeP { typedP { t with held := t.held.flip c.toNat } c with last := c, wait := 20 } ⟨1, c, false, 0⟩ = ({ typedP { t with held := t.held.flip c.toNat } c with held := t.held, last := 0, wait := 0 }, 0) := by
    unfold strokeP
    rw [if_pos rfl]
    dsimp only
    rw [hhd, app_up (by omega) (by omega) hh, if_neg (fun q => q rfl), if_neg (by decide), if_pos rfl]
  rw [runP_cons, hs1, if_neg (fun q => q rfl), runP_cons, hs2, if_neg (fun q => q rfl)]
/-- capitals are turned -/
theorem press_caps (t : St) (hh : t.held.has 57 = false) (hl : t.last ≠ 57) (rest : List Sk) :
    runP t (⟨1, 57, true, 0⟩ :: ⟨1, 57, false, 0⟩ :: rest) = runP { t with caps := !t.caps } rest := by
  have hs1 : strokeP t ⟨1, 57, true, 0⟩ = ({ t with held := t.held.flip 57, caps := !t.caps }, 0) := by
    unfold strokeP
    rw [if_pos rfl]
    dsimp only
    rw [app_down (c := 57) (by decide) (by decide) hh, if_neg (fun q => q rfl), if_pos rfl]
    unfold downP
    rw [if_neg (by decide), if_pos rfl]
    rfl
  have hs2 : strokeP { t with held := t.held.flip 57, caps := !t.caps } ⟨1, 57, false, 0⟩ = ({ t with caps := !t.caps }, 0) := by
    unfold strokeP
    rw [if_pos rfl]
    dsimp only
    rw [show app1 (t.held.flip 57) 57 false = (t.held, 0) from app_up (c := 57) (by decide) (by decide) hh, if_neg (fun q => q rfl), if_neg (by decide), if_neg (fun e => hl e.symm)]
  rw [runP_cons, hs1, if_neg (fun q => q rfl), runP_cons, hs2, if_neg (fun q => q rfl)]
theorem put_texts {u v : St} (s : ByteArray) (h : u.text = v.text) : (putP u s).text = (putP v s).text := by
  unfold putP
  rw [h]
  split
  · rfl
  · exact h
theorem put_caps (t : St) (s : ByteArray) : (putP t s).caps = t.caps := by unfold putP; split <;> rfl
theorem typed_caps (t : St) (c : Int) : (typedP t c).caps = t.caps := by
  unfold typedP; split
  · split <;> rfl
  · exact put_caps _ _
theorem typed_texts {u v : St} {c : Int} (h : u.text = v.text) (hd : u.dead = v.dead) (hs : c = 42 ∨ (shiftP u != (u.caps && letB c)) = (shiftP v != (v.caps && letB c))) : (typedP u c).text = (typedP v c).text := by
  unfold typedP
  by_cases hc : c = 42
  · rw [if_pos hc, if_pos hc, hd]
    split
    · show u.text.extract 0 _ = v.text.extract 0 _
      rw [h]
    · exact h
  · rw [if_neg hc, if_neg hc, hs.resolve_left hc, hd]
    exact put_texts _ h
theorem fm_still {t : St} (h : FmT t) (hh : t.held = Hd0) : t.last = 0 ∧ t.wait = 0 := by
  rcases h.lw with h | ⟨p1, p2, _, _⟩
  · exact h
  · have := prints_in p1
    rw [hh, Hd0_has _ (by omega)] at p2
    cases p2
theorem caps_plain {t : St} {c : Int} (h : chkP t = 0) (hh : t.held = Hd0) (hp : prints c = true) : ∃ B C D : St,
    typeP t (pressL [57, 57]) = (t, 0) ∧ typeP t (pressL [57] ++ pressL [c]) = (B, 0) ∧ typeP t ([⟨1, 225, true, 0⟩] ++ pressL [c]) = (C, 0) ∧ typeP t (pressL [c]) = (D, 0) ∧
    (c ≤ 29 → B.text = C.text ∧ B.caps = !t.caps) ∧ (¬ c ≤ 29 → B.text = D.text) := by
  have hf := chk_fm.1 h
  obtain ⟨hl, hw⟩ := fm_still hf hh
  have hc := prints_in hp
  have h57 : t.held.has 57 = false := by rw [hh]; exact Hd0_has _ (by decide)
  have hhc : Hd0.has c.toNat = false := Hd0_has _ (by omega)
  have hgo : ∀ l : List Sk, l.length ≤ 400 → typeP t l = runP t l := fun l hl => by
    unfold typeP
    rw [if_neg (fun q => q h), if_neg (by omega)]
  have h225 : ∀ d, d < 256 → (Hd0.flip 225).has d = decide (225 = d) := fun d hd => by
    rw [Hd.flip_has _ _ _ (by decide) hd, Hd0_has _ hd]
    cases decide (225 = d) <;> rfl
  have hs0 : ((Hd0.flip c.toNat).has 225 || (Hd0.flip c.toNat).has 229) = false := by
    rw [Hd.flip_has _ _ _ (by omega) (by omega), Hd.flip_has _ _ _ (by omega) (by omega), Hd0_has _ (by omega), Hd0_has _ (by omega), decide_eq_false (by omega), decide_eq_false (by omega)]; rfl
  have hs1 : (((Hd0.flip 225).flip c.toNat).has 225 || ((Hd0.flip 225).flip c.toNat).has 229) = true := by
    have key : ∀ d, d < 256 → ((Hd0.flip 225).flip c.toNat).has d = (decide (225 = d) != decide (c.toNat = d)) := fun d hd => by rw [Hd.flip_has _ _ _ (by omega) hd, h225 _ hd]
    rw [key 225 (by decide), key 229 (by decide), decide_eq_false (show ¬ c.toNat = 225 by omega), decide_eq_false (show ¬ c.toNat = 229 by omega)]; rfl
  have hk : strokeP t ⟨1, 225, true, 0⟩ = ({ t with held := Hd0.flip 225 }, 0) := by
    unfold strokeP
    rw [if_pos rfl]
    dsimp only
    rw [hh, app_down (c := 225) (by decide) (by decide) (Hd0_has _ (by decide)), if_neg (fun q => q rfl), if_pos rfl]
    unfold downP
    rw [if_neg (by decide), if_neg (by decide), if_neg (by decide)]
    rfl
  refine ⟨{ typedP { t with held := Hd0.flip c.toNat, caps := !t.caps } c with held := Hd0, last := 0, wait := 0 }, { typedP { t with held := (Hd0.flip 225).flip c.toNat } c with held := Hd0.flip 225, last := 0, wait := 0 }, { typedP { t with held := Hd0.flip c.toNat } c with held := Hd0, last := 0, wait := 0 }, ?_, ?_, ?_, ?_, ?_, ?_⟩
  · rw [hgo _ (by rw [pressL_len]; decide)]
    show runP t (⟨1, 57, true, 0⟩ :: ⟨1, 57, false, 0⟩ :: ⟨1, 57, true, 0⟩ :: ⟨1, 57, false, 0⟩ :: []) = _
    rw [press_caps t h57 (by omega), press_caps { t with caps := !t.caps } h57 (by show t.last ≠ 57; omega)]
    show (({ t with caps := !!t.caps } : St), (0 : Int)) = _
    rw [Bool.not_not]
  · rw [hgo _ (by rw [List.length_append, pressL_len, pressL_len]; simp only [List.length_cons, List.length_nil]; omega)]
    show runP t (⟨1, 57, true, 0⟩ :: ⟨1, 57, false, 0⟩ :: ⟨1, c, true, 0⟩ :: ⟨1, c, false, 0⟩ :: []) = _
    rw [press_caps t h57 (by omega), press_key _ c hp (by show t.held.has _ = false; rw [hh]; exact hhc)]
    dsimp only
    rw [hh]
    rfl
  · rw [hgo _ (by rw [List.length_append, pressL_len]; simp only [List.length_cons, List.length_nil]; omega)]
    show runP t (⟨1, 225, true, 0⟩ :: ⟨1, c, true, 0⟩ :: ⟨1, c, false, 0⟩ :: []) = _
    rw [runP_cons, hk, if_neg (fun q => q rfl), press_key _ c hp (by show (Hd0.flip 225).has _ = false; rw [h225 _ (by omega)]; exact decide_eq_false (by omega))]
    rfl
  · rw [hgo _ (by rw [pressL_len]; simp only [List.length_cons, List.length_nil]; omega)]
    show runP t (⟨1, c, true, 0⟩ :: ⟨1, c, false, 0⟩ :: []) = _
    rw [press_key _ c hp (by rw [hh]; exact hhc), hh]
    rfl
  · intro h29
    have hlet : letB c = true := by
      unfold letB
      unfold prints signs at hp
      simp only [Bool.or_eq_true, beq_iff_eq, decide_eq_true_eq] at hp
      simp only [Bool.and_eq_true, decide_eq_true_eq]
      omega
    refine ⟨typed_texts rfl rfl (.inr ?_), typed_caps _ _⟩
    rw [hlet]
    show (((Hd0.flip c.toNat).has 225 || (Hd0.flip c.toNat).has 229) != ((!t.caps) && true)) = ((((Hd0.flip 225).flip c.toNat).has 225 || ((Hd0.flip 225).flip c.toNat).has 229) != (t.caps && true))
    rw [hs0, hs1]
    cases t.caps <;> rfl
  · intro h29
    by_cases h42 : c = 42
    · exact typed_texts rfl rfl (.inl h42)
    · have hlet : letB c = false := by
        unfold letB
        rw [decide_eq_false h29, Bool.and_false]
      refine typed_texts rfl rfl (.inr ?_)
      rw [hlet, Bool.and_false, Bool.and_false]
      rfl
end Go.Proofs.YtndkaehbmdiofaaDoor
