/- The walks of package packet. -/
import Derived.Test.YtmnmlnnhngnfbaaDoorPktP
import Derived.Test.YtmnmlnnhngnfbaaDoorCrcW
import Derived.Test.YtmnmlnnhngnfbaaDoorKit
import Derived.Outline
namespace Go.Proofs.YtmnmlnnhngnfbaaDoor
open Go.RowKit Go.Proofs.YtmnmlnnhngnfbaaDoor.CrcP Go.Proofs.YtmnmlnnhngnfbaaDoor.PktP
def tokB (k : Int) : Bool := decide (isTok k)
def dataB (k : Int) : Bool := decide (isData k)
def knownB (k : Int) : Bool := decide (isTok k ∨ isData k ∨ k = 5 ∨ isHs k)
theorem tokB_t {k : Int} (h : isTok k) : tokB k = true := decide_eq_true h
theorem tokB_f {k : Int} (h : ¬ isTok k) : tokB k = false := decide_eq_false h
theorem dataB_t {k : Int} (h : isData k) : dataB k = true := decide_eq_true h
theorem dataB_f {k : Int} (h : ¬ isData k) : dataB k = false := decide_eq_false h
theorem knownB_t {k : Int} (h : isTok k ∨ isData k ∨ k = 5 ∨ isHs k) : knownB k = true := decide_eq_true h
theorem knownB_f {k : Int} (h : ¬ (isTok k ∨ isData k ∨ k = 5 ∨ isHs k)) : knownB k = false := decide_eq_false h
theorem PktW.tl (s : ByteArray) : s.toList = s.data.toList := ByteArray.toList_eq s
theorem PktW.beq {a b : Int} (h : a = b) : (a == b) = true := by rw [h]; simp
theorem PktW.bne {a b : Int} (h : a ≠ b) : (a == b) = false := by simpa using h
theorem token_calls (k : Int) (w : World) : Calls Tryd.prog 35 #[.int .i64 k] w fun e w' => e = .returned (.bool (tokB k)) ∧ w = w' := by
  by_cases h1 : k = 1
  · subst h1
    go_enter Tryd.func35, Tryd.ntmps35
    go_wp2
    go_ret
    exact ⟨rfl, rfl⟩
  by_cases h2 : k = 9
  · subst h2
    go_enter Tryd.func35, Tryd.ntmps35
    go_wp2
    go_ret
    exact ⟨rfl, rfl⟩
  by_cases h3 : k = 13
  · subst h3
    go_enter Tryd.func35, Tryd.ntmps35
    go_wp2
    go_ret
    exact ⟨rfl, rfl⟩
  have g := Lib.hid (tokB_f (k := k) (by unfold isTok; omega))
  have e1 := PktW.bne h1
  have e2 := PktW.bne h2
  have e3 := PktW.bne h3
  go_enter Tryd.func35, Tryd.ntmps35
  go_wp2
  go_ret
  exact ⟨by rw [g.out]; rfl, rfl⟩
theorem data_calls (k : Int) (w : World) : Calls Tryd.prog 36 #[.int .i64 k] w fun e w' => e = .returned (.bool (dataB k)) ∧ w = w' := by
  by_cases h1 : k = 3
  · subst h1
    go_enter Tryd.func36, Tryd.ntmps36
    go_wp2
    go_ret
    exact ⟨rfl, rfl⟩
  by_cases h2 : k = 11
  · subst h2
    go_enter Tryd.func36, Tryd.ntmps36
    go_wp2
    go_ret
    exact ⟨rfl, rfl⟩
  have g := Lib.hid (dataB_f (k := k) (by unfold isData; omega))
  have e1 := PktW.bne h1
  have e2 := PktW.bne h2
  go_enter Tryd.func36, Tryd.ntmps36
  go_wp2
  go_ret
  exact ⟨by rw [g.out]; rfl, rfl⟩
set_option maxHeartbeats 400000 in
theorem known_calls (k : Int) (w : World) : Calls Tryd.prog 34 #[.int .i64 k] w fun e w' => e = .returned (.bool (knownB k)) ∧ w = w' := by
  by_cases h : k = 1 ∨ k = 9 ∨ k = 13 ∨ k = 3 ∨ k = 11 ∨ k = 5 ∨ k = 2 ∨ k = 10 ∨ k = 14
  · rcases h with rfl | rfl | rfl | rfl | rfl | rfl | rfl | rfl | rfl
    all_goals
      go_enter Tryd.func34, Tryd.ntmps34
      go_wp2
      go_ret
      exact ⟨rfl, rfl⟩
  · have g := Lib.hid (knownB_f (k := k) (by unfold isTok isData isHs; omega))
    have d1 := tokB_f (k := k) (by unfold isTok; omega)
    have d2 := dataB_f (k := k) (by unfold isData; omega)
    have e1 : (k == 5) = false := PktW.bne (by omega)
    have e2 : (k == 2) = false := PktW.bne (by omega)
    have e3 : (k == 10) = false := PktW.bne (by omega)
    have e4 : (k == 14) = false := PktW.bne (by omega)
    clear h
    go_enter Tryd.func34, Tryd.ntmps34
    go_wp2_with (first | (go_at_call 35; refine (token_calls _ _).mono ?_; rintro e w' ⟨rfl, rfl⟩) | (go_at_call 36; refine (data_calls _ _).mono ?_; rintro e w' ⟨rfl, rfl⟩))
    go_ret
    exact ⟨by rw [g.out]; rfl, rfl⟩
def pkv (k a e f : Int) (d : ByteArray) : Value := .agg #[.int .i64 k, .int .i64 a, .int .i64 e, .int .i64 f, .string d]
theorem chk_0 {p : Pk} (h : Okp p) : chk p = 0 := if_pos h
theorem chk_2 {p : Pk} (h : Large p) : chk p = 2 := by
  have : ¬ Okp p := by
    obtain ⟨hk, _, _, _, hl⟩ := h
    obtain ⟨d1, d2, d3⟩ := dat_not hk
    rintro (⟨g, _⟩ | ⟨g, _⟩ | ⟨_, _, _, _, g⟩ | ⟨g, _⟩)
    · exact d1 g
    · exact d2 g
    · omega
    · exact d3 g
  unfold chk; rw [if_neg this, if_pos h]
theorem chk_1 {p : Pk} (h : ¬ Okp p) (h2 : ¬ Large p) : chk p = 1 := by unfold chk; rw [if_neg h, if_neg h2]
/-- the sorts told apart: of each what makes it right -/
def Fine (p : Pk) : Prop :=
  (isTok p.k → 0 ≤ p.a ∧ p.a ≤ 127 ∧ 0 ≤ p.e ∧ p.e ≤ 15) ∧ (¬ isTok p.k → p.a = 0 ∧ p.e = 0) ∧ (p.k = 5 → 0 ≤ p.f ∧ p.f ≤ 2047) ∧ (p.k ≠ 5 → p.f = 0) ∧ (¬ isData p.k → p.d = []) ∧ (isTok p.k ∨ isData p.k ∨ p.k = 5 ∨ isHs p.k)
theorem fine_of {p : Pk} (h : Okp p ∨ Large p) : Fine p := by
  obtain ⟨k, a, e, f, d⟩ := p
  unfold Okp Large at h; unfold Fine isTok isData isHs at *
  simp only at *
  rcases h with (⟨h, _, _, _, _, _, rfl⟩ | ⟨h, _, _, _, _, rfl⟩ | ⟨h, _, _, _, _⟩ | ⟨h, _, _, _, rfl⟩) | ⟨h, _, _, _, _⟩
  all_goals refine ⟨?_, ?_, ?_, ?_, ?_, ?_⟩ <;> first | omega | (intro _; rfl) | (intro hh; exfalso; omega)
theorem of_fine {p : Pk} (h : Fine p) : (p.d.length ≤ 64 → Okp p) ∧ (64 < p.d.length → Large p) := by
  obtain ⟨h1, h2, h3, h4, h5, h6⟩ := h
  have hd : ¬ isData p.k → p.d.length = 0 := fun hx => by rw [h5 hx]; rfl
  constructor
  · intro hl
    rcases h6 with h | h | h | h
    · have hh := h1 h
      exact Or.inl ⟨h, hh.1, hh.2.1, hh.2.2.1, hh.2.2.2, h4 (tok_not h), h5 (fun x => (dat_not x).1 h)⟩
    · have hh := h2 (dat_not h).1
      exact Or.inr (Or.inr (Or.inl ⟨h, hh.1, hh.2, h4 (dat_not h).2.1, hl⟩))
    · have hnt : ¬ isTok p.k := by unfold isTok; omega
      have hnd : ¬ isData p.k := by unfold isData; omega
      have hh := h2 hnt
      exact Or.inr (Or.inl ⟨h, hh.1, hh.2, (h3 h).1, (h3 h).2, h5 hnd⟩)
    · have hh := h2 (hs_not h).1
      exact Or.inr (Or.inr (Or.inr ⟨h, hh.1, hh.2, h4 (hs_not h).2.1, h5 (hs_not h).2.2⟩))
  · intro hl
    have hdt : isData p.k := Decidable.byContradiction fun hx => by have := hd hx; omega
    have hh := h2 (dat_not hdt).1
    exact ⟨hdt, hh.1, hh.2, h4 (dat_not hdt).2.1, hl⟩
theorem chk_not {p : Pk} (h : ¬ Fine p) : chk p = 1 := chk_1 (fun g => h (fine_of (Or.inl g))) (fun g => h (fine_of (Or.inr g)))
theorem chk_small {p : Pk} (h : Fine p) (hl : p.d.length ≤ 64) : chk p = 0 := chk_0 ((of_fine h).1 hl)
theorem chk_big {p : Pk} (h : Fine p) (hl : 64 < p.d.length) : chk p = 2 := chk_2 ((of_fine h).2 hl)
set_option maxHeartbeats 1600000 in
theorem check_tok (k a e f : Int) (d : ByteArray) (h : isTok k) (w : World) : Calls Tryd.prog 41 #[.agg #[.int .i64 k, .int .i64 a, .int .i64 e, .int .i64 f, .string d]] w fun en w' => en = .returned (.int .i64 (chk ⟨k, a, e, f, d.data.toList⟩)) ∧ Below w.heap.size w w' := by
  have d1 := tokB_t h
  have d2 := dataB_f (fun x => (dat_not x).1 h)
  have d3 := knownB_t (Or.inl h)
  have e1 : (k == 5) = false := PktW.bne (tok_not h)
  have H := Lib.hid h; clear h
  by_cases hd : d.data.toList = []
  all_goals
    first
      | (have hd1 : d.toList = [] := by rw [PktW.tl]; exact hd
         have hd2 : d.toList.isEmpty = true := by rw [hd1]; rfl)
      | (have hd1 : ¬ d.toList = [] := by rw [PktW.tl]; exact hd
         have hd2 : d.toList.isEmpty = false := by simpa using hd1
         have hd3 : (!d.toList.isEmpty) = true := by rw [hd2]; rfl)
    have hl : d.data.toList.length = d.size := by simp
    have hl2 : d.data.toList = [] → d.size = 0 := fun x => by rw [x] at hl; exact hl.symm
    have HL := Lib.hid hl; clear hl
    have HL2 := Lib.hid hl2; clear hl2
    have HD := Lib.hid hd; clear hd
    go_enter Tryd.func41, Tryd.ntmps41
    go_wp2_with (first | (go_at_call 35; refine (token_calls _ _).mono ?_; rintro e w' ⟨rfl, rfl⟩) | (go_at_call 36; refine (data_calls _ _).mono ?_; rintro e w' ⟨rfl, rfl⟩) | (go_at_call 34; refine (known_calls _ _).mono ?_; rintro e w' ⟨rfl, rfl⟩))
    all_goals
      go_ret
      refine ⟨?_, (Below.refl _ _).alloc (Nat.le_refl _) _⟩
      have hH := H.out
      have hL := HL.out
      have hL2 := HL2.out
      have hD := HD.out
      unfold isTok at hH
      first
        | (rw [chk_small (p := ⟨k, _, _, _, d.data.toList⟩) ⟨by unfold isTok; simp only; omega, by unfold isTok; simp only; omega, by simp only; omega, by simp only; omega, by unfold isData; simp only; first | (intro _; exact hD) | (intro hx; exfalso; omega), by unfold isTok isData isHs; simp only; omega⟩ (by simp only; omega)]; rfl)
        | (rw [chk_big (p := ⟨k, _, _, _, d.data.toList⟩) ⟨by unfold isTok; simp only; omega, by unfold isTok; simp only; omega, by simp only; omega, by simp only; omega, by unfold isData; simp only; first | (intro _; exact hD) | (intro hx; exfalso; omega), by unfold isTok isData isHs; simp only; omega⟩ (by simp only; omega)]; rfl)
        | (rw [chk_not (p := ⟨k, _, _, _, d.data.toList⟩) (by rintro ⟨x1, x2, x3, x4, x5, x6⟩; simp only [isTok, isData, isHs] at x1 x2 x3 x4 x5 x6; first | omega | (exact hD (x5 (by omega))))]; rfl)
set_option maxHeartbeats 1600000 in
theorem check_dat (k a e f : Int) (d : ByteArray) (h : isData k) (w : World) : Calls Tryd.prog 41 #[.agg #[.int .i64 k, .int .i64 a, .int .i64 e, .int .i64 f, .string d]] w fun en w' => en = .returned (.int .i64 (chk ⟨k, a, e, f, d.data.toList⟩)) ∧ Below w.heap.size w w' := by
  have d1 := tokB_f (dat_not h).1
  have d2 := dataB_t h
  have d3 := knownB_t (Or.inr (Or.inl h))
  have e1 : (k == 5) = false := PktW.bne (dat_not h).2.1
  have H := Lib.hid h; clear h
  by_cases hd : d.data.toList = []
  all_goals
    first
      | (have hd1 : d.toList = [] := by rw [PktW.tl]; exact hd
         have hd2 : d.toList.isEmpty = true := by rw [hd1]; rfl)
      | (have hd1 : ¬ d.toList = [] := by rw [PktW.tl]; exact hd
         have hd2 : d.toList.isEmpty = false := by simpa using hd1
         have hd3 : (!d.toList.isEmpty) = true := by rw [hd2]; rfl)
    have hl : d.data.toList.length = d.size := by simp
    have hl2 : d.data.toList = [] → d.size = 0 := fun x => by rw [x] at hl; exact hl.symm
    have HL := Lib.hid hl; clear hl
    have HL2 := Lib.hid hl2; clear hl2
    have HD := Lib.hid hd; clear hd
    go_enter Tryd.func41, Tryd.ntmps41
    go_wp2_with (first | (go_at_call 35; refine (token_calls _ _).mono ?_; rintro e w' ⟨rfl, rfl⟩) | (go_at_call 36; refine (data_calls _ _).mono ?_; rintro e w' ⟨rfl, rfl⟩) | (go_at_call 34; refine (known_calls _ _).mono ?_; rintro e w' ⟨rfl, rfl⟩))
    all_goals
      go_ret
      refine ⟨?_, (Below.refl _ _).alloc (Nat.le_refl _) _⟩
      have hH := H.out
      have hL := HL.out
      have hL2 := HL2.out
      have hD := HD.out
      unfold isData at hH
      first
        | (rw [chk_small (p := ⟨k, _, _, _, d.data.toList⟩) ⟨by unfold isTok; simp only; omega, by unfold isTok; simp only; omega, by simp only; omega, by simp only; omega, by unfold isData; simp only; first | (intro _; exact hD) | (intro hx; exfalso; omega), by unfold isTok isData isHs; simp only; omega⟩ (by simp only; omega)]; rfl)
        | (rw [chk_big (p := ⟨k, _, _, _, d.data.toList⟩) ⟨by unfold isTok; simp only; omega, by unfold isTok; simp only; omega, by simp only; omega, by simp only; omega, by unfold isData; simp only; first | (intro _; exact hD) | (intro hx; exfalso; omega), by unfold isTok isData isHs; simp only; omega⟩ (by simp only; omega)]; rfl)
        | (rw [chk_not (p := ⟨k, _, _, _, d.data.toList⟩) (by rintro ⟨x1, x2, x3, x4, x5, x6⟩; simp only [isTok, isData, isHs] at x1 x2 x3 x4 x5 x6; first | omega | (exact hD (x5 (by omega))))]; rfl)
set_option maxHeartbeats 1600000 in
theorem check_sof (k a e f : Int) (d : ByteArray) (h : k = 5) (w : World) : Calls Tryd.prog 41 #[.agg #[.int .i64 k, .int .i64 a, .int .i64 e, .int .i64 f, .string d]] w fun en w' => en = .returned (.int .i64 (chk ⟨k, a, e, f, d.data.toList⟩)) ∧ Below w.heap.size w w' := by
  have d1 := tokB_f (k := k) (by unfold isTok; omega)
  have d2 := dataB_f (k := k) (by unfold isData; omega)
  have d3 := knownB_t (Or.inr (Or.inr (Or.inl h)))
  have e1 : (k == 5) = true := PktW.beq h
  have H := Lib.hid h; clear h
  by_cases hd : d.data.toList = []
  all_goals
    first
      | (have hd1 : d.toList = [] := by rw [PktW.tl]; exact hd
         have hd2 : d.toList.isEmpty = true := by rw [hd1]; rfl)
      | (have hd1 : ¬ d.toList = [] := by rw [PktW.tl]; exact hd
         have hd2 : d.toList.isEmpty = false := by simpa using hd1
         have hd3 : (!d.toList.isEmpty) = true := by rw [hd2]; rfl)
    have hl : d.data.toList.length = d.size := by simp
    have hl2 : d.data.toList = [] → d.size = 0 := fun x => by rw [x] at hl; exact hl.symm
    have HL := Lib.hid hl; clear hl
    have HL2 := Lib.hid hl2; clear hl2
    have HD := Lib.hid hd; clear hd
    go_enter Tryd.func41, Tryd.ntmps41
    go_wp2_with (first | (go_at_call 35; refine (token_calls _ _).mono ?_; rintro e w' ⟨rfl, rfl⟩) | (go_at_call 36; refine (data_calls _ _).mono ?_; rintro e w' ⟨rfl, rfl⟩) | (go_at_call 34; refine (known_calls _ _).mono ?_; rintro e w' ⟨rfl, rfl⟩))
    all_goals
      go_ret
      refine ⟨?_, (Below.refl _ _).alloc (Nat.le_refl _) _⟩
      have hH := H.out
      have hL := HL.out
      have hL2 := HL2.out
      have hD := HD.out
      first
        | (rw [chk_small (p := ⟨k, _, _, _, d.data.toList⟩) ⟨by unfold isTok; simp only; omega, by unfold isTok; simp only; omega, by simp only; omega, by simp only; omega, by unfold isData; simp only; first | (intro _; exact hD) | (intro hx; exfalso; omega), by unfold isTok isData isHs; simp only; omega⟩ (by simp only; omega)]; rfl)
        | (rw [chk_big (p := ⟨k, _, _, _, d.data.toList⟩) ⟨by unfold isTok; simp only; omega, by unfold isTok; simp only; omega, by simp only; omega, by simp only; omega, by unfold isData; simp only; first | (intro _; exact hD) | (intro hx; exfalso; omega), by unfold isTok isData isHs; simp only; omega⟩ (by simp only; omega)]; rfl)
        | (rw [chk_not (p := ⟨k, _, _, _, d.data.toList⟩) (by rintro ⟨x1, x2, x3, x4, x5, x6⟩; simp only [isTok, isData, isHs] at x1 x2 x3 x4 x5 x6; first | omega | (exact hD (x5 (by omega))))]; rfl)
set_option maxHeartbeats 1600000 in
theorem check_hs (k a e f : Int) (d : ByteArray) (h : isHs k) (w : World) : Calls Tryd.prog 41 #[.agg #[.int .i64 k, .int .i64 a, .int .i64 e, .int .i64 f, .string d]] w fun en w' => en = .returned (.int .i64 (chk ⟨k, a, e, f, d.data.toList⟩)) ∧ Below w.heap.size w w' := by
  have d1 := tokB_f (hs_not h).1
  have d2 := dataB_f (hs_not h).2.2
  have d3 := knownB_t (Or.inr (Or.inr (Or.inr h)))
  have e1 : (k == 5) = false := PktW.bne (hs_not h).2.1
  have H := Lib.hid h; clear h
  by_cases hd : d.data.toList = []
  all_goals
    first
      | (have hd1 : d.toList = [] := by rw [PktW.tl]; exact hd
         have hd2 : d.toList.isEmpty = true := by rw [hd1]; rfl)
      | (have hd1 : ¬ d.toList = [] := by rw [PktW.tl]; exact hd
         have hd2 : d.toList.isEmpty = false := by simpa using hd1
         have hd3 : (!d.toList.isEmpty) = true := by rw [hd2]; rfl)
    have hl : d.data.toList.length = d.size := by simp
    have hl2 : d.data.toList = [] → d.size = 0 := fun x => by rw [x] at hl; exact hl.symm
    have HL := Lib.hid hl; clear hl
    have HL2 := Lib.hid hl2; clear hl2
    have HD := Lib.hid hd; clear hd
    go_enter Tryd.func41, Tryd.ntmps41
    go_wp2_with (first | (go_at_call 35; refine (token_calls _ _).mono ?_; rintro e w' ⟨rfl, rfl⟩) | (go_at_call 36; refine (data_calls _ _).mono ?_; rintro e w' ⟨rfl, rfl⟩) | (go_at_call 34; refine (known_calls _ _).mono ?_; rintro e w' ⟨rfl, rfl⟩))
    all_goals
      go_ret
      refine ⟨?_, (Below.refl _ _).alloc (Nat.le_refl _) _⟩
      have hH := H.out
      have hL := HL.out
      have hL2 := HL2.out
      have hD := HD.out
      unfold isHs at hH
      first
        | (rw [chk_small (p := ⟨k, _, _, _, d.data.toList⟩) ⟨by unfold isTok; simp only; omega, by unfold isTok; simp only; omega, by simp only; omega, by simp only; omega, by unfold isData; simp only; first | (intro _; exact hD) | (intro hx; exfalso; omega), by unfold isTok isData isHs; simp only; omega⟩ (by simp only; omega)]; rfl)
        | (rw [chk_big (p := ⟨k, _, _, _, d.data.toList⟩) ⟨by unfold isTok; simp only; omega, by unfold isTok; simp only; omega, by simp only; omega, by simp only; omega, by unfold isData; simp only; first | (intro _; exact hD) | (intro hx; exfalso; omega), by unfold isTok isData isHs; simp only; omega⟩ (by simp only; omega)]; rfl)
        | (rw [chk_not (p := ⟨k, _, _, _, d.data.toList⟩) (by rintro ⟨x1, x2, x3, x4, x5, x6⟩; simp only [isTok, isData, isHs] at x1 x2 x3 x4 x5 x6; first | omega | (exact hD (x5 (by omega))))]; rfl)
set_option maxHeartbeats 1600000 in
theorem check_non (k a e f : Int) (d : ByteArray) (h : ¬ (isTok k ∨ isData k ∨ k = 5 ∨ isHs k)) (w : World) : Calls Tryd.prog 41 #[.agg #[.int .i64 k, .int .i64 a, .int .i64 e, .int .i64 f, .string d]] w fun en w' => en = .returned (.int .i64 (chk ⟨k, a, e, f, d.data.toList⟩)) ∧ Below w.heap.size w w' := by
  have d1 := tokB_f (fun x => h (Or.inl x))
  have d2 := dataB_f (fun x => h (Or.inr (Or.inl x)))
  have d3 := knownB_f h
  have e1 : (k == 5) = false := PktW.bne (fun x => h (Or.inr (Or.inr (Or.inl x))))
  have H := Lib.hid h; clear h
  by_cases hd : d.data.toList = []
  all_goals
    first
      | (have hd1 : d.toList = [] := by rw [PktW.tl]; exact hd
         have hd2 : d.toList.isEmpty = true := by rw [hd1]; rfl)
      | (have hd1 : ¬ d.toList = [] := by rw [PktW.tl]; exact hd
         have hd2 : d.toList.isEmpty = false := by simpa using hd1
         have hd3 : (!d.toList.isEmpty) = true := by rw [hd2]; rfl)
    have hl : d.data.toList.length = d.size := by simp
    have hl2 : d.data.toList = [] → d.size = 0 := fun x => by rw [x] at hl; exact hl.symm
    have HL := Lib.hid hl; clear hl
    have HL2 := Lib.hid hl2; clear hl2
    have HD := Lib.hid hd; clear hd
    go_enter Tryd.func41, Tryd.ntmps41
    go_wp2_with (first | (go_at_call 35; refine (token_calls _ _).mono ?_; rintro e w' ⟨rfl, rfl⟩) | (go_at_call 36; refine (data_calls _ _).mono ?_; rintro e w' ⟨rfl, rfl⟩) | (go_at_call 34; refine (known_calls _ _).mono ?_; rintro e w' ⟨rfl, rfl⟩))
    all_goals
      go_ret
      refine ⟨?_, (Below.refl _ _).alloc (Nat.le_refl _) _⟩
      have hH := H.out
      have hL := HL.out
      have hL2 := HL2.out
      have hD := HD.out
      unfold isTok isData isHs at hH
      first
        | (rw [chk_small (p := ⟨k, _, _, _, d.data.toList⟩) ⟨by unfold isTok; simp only; omega, by unfold isTok; simp only; omega, by simp only; omega, by simp only; omega, by unfold isData; simp only; first | (intro _; exact hD) | (intro hx; exfalso; omega), by unfold isTok isData isHs; simp only; omega⟩ (by simp only; omega)]; rfl)
        | (rw [chk_big (p := ⟨k, _, _, _, d.data.toList⟩) ⟨by unfold isTok; simp only; omega, by unfold isTok; simp only; omega, by simp only; omega, by simp only; omega, by unfold isData; simp only; first | (intro _; exact hD) | (intro hx; exfalso; omega), by unfold isTok isData isHs; simp only; omega⟩ (by simp only; omega)]; rfl)
        | (rw [chk_not (p := ⟨k, _, _, _, d.data.toList⟩) (by rintro ⟨x1, x2, x3, x4, x5, x6⟩; simp only [isTok, isData, isHs] at x1 x2 x3 x4 x5 x6; first | omega | (exact hD (x5 (by omega))))]; rfl)
theorem check_calls (k a e f : Int) (d : ByteArray) (w : World) : Calls Tryd.prog 41 #[.agg #[.int .i64 k, .int .i64 a, .int .i64 e, .int .i64 f, .string d]] w fun en w' => en = .returned (.int .i64 (chk ⟨k, a, e, f, d.data.toList⟩)) ∧ Below w.heap.size w w' := by
  by_cases h1 : isTok k
  · exact check_tok k a e f d h1 w
  by_cases h2 : isData k
  · exact check_dat k a e f d h2 w
  by_cases h3 : k = 5
  · exact check_sof k a e f d h3 w
  by_cases h4 : isHs k
  · exact check_hs k a e f d h4 w
  exact check_non k a e f d (by rintro (x | x | x | x); exact h1 x; exact h2 x; exact h3 x; exact h4 x) w
end Go.Proofs.YtmnmlnnhngnfbaaDoor
