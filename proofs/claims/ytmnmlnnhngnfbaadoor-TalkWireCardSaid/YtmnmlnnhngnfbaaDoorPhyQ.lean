/- Packets on the wire, plainly: texts are heard as they were sent. -/
import Derived.Test.YtmnmlnnhngnfbaaDoorPhyP
namespace Go.Proofs.YtmnmlnnhngnfbaaDoor.Phy
open Go.Proofs.YtmnmlnnhngnfbaaDoor.Lan
theorem stuff_long : ∀ (l : List UInt8) (n : Nat), n < 6 → (stuff n l).length * 6 ≤ l.length * 7 + n
  | [], n, _ => Nat.zero_le _
  | b :: l, n, hn => by
    unfold stuff
    split
    next h6 =>
      have ih := stuff_long l 0 (by decide)
      have h5 : n = 5 := by unfold nxt at h6; split at h6 <;> omega
      simp only [List.length_cons]
      omega
    next h6 =>
      have h1 : nxt n b ≤ n + 1 := by unfold nxt; split <;> omega
      have ih := stuff_long l (nxt n b) (by omega)
      simp only [List.length_cons]
      omega
theorem levs_len {s : List UInt8} (h : s.length ≤ 80) : (levs s).length ≤ 756 := by
  have h1 := stuff_long (pat ++ bitsL s) 0 (by decide)
  rw [List.length_append, bitsL_len] at h1
  unfold levs
  rw [turn_len]
  have : pat.length = 8 := rfl
  omega
theorem levs_lv (s : List UInt8) : ∀ b ∈ levs s, isLv b := turn_is _ 74 (.inl rfl)
theorem levs_head (s : List UInt8) : ∃ r, levs s = 75 :: r := ⟨_, rfl⟩
theorem hearP_cons (r : List UInt8) (v : UInt8) (l : List UInt8) : hearP r (v :: l) = ((hearP (hearS (r, []) v).1 l).1, (hearS (r, []) v).2 ++ (hearP (hearS (r, []) v).1 l).2) := by
  have : hearP r (v :: l) = l.foldl hearS ((hearS (r, []) v).1, (hearS (r, []) v).2) := rfl
  rw [this, hear_out]
theorem hear_rest : ∀ n, hearP [] (List.replicate n 74) = ([], [])
  | 0 => rfl
  | n + 1 => by
    have h : hearS ([], []) 74 = ([], []) := rfl
    rw [List.replicate_succ, hearP_cons, h, hear_rest n]
    rfl
/-- a row that does not end in an end -/
theorem not_end {r : List UInt8} {v : UInt8} (hv : v ≠ 74) : ¬ (3 ≤ (r ++ [v]).length ∧ (r ++ [v]).drop ((r ++ [v]).length - 3) = endL) := by
  rintro ⟨h3, he⟩
  have h1 : ((r ++ [v]).drop ((r ++ [v]).length - 3))[2]? = some v := by
    rw [List.getElem?_drop, show (r ++ [v]).length - 3 + 2 = r.length by rw [List.length_append] at h3 ⊢; simp at h3 ⊢; omega]
    simp
  rw [he] at h1
  injection h1 with h1
  exact hv h1.symm
theorem not_end2 {r : List UInt8} {v : UInt8} (hr : ∀ b ∈ r, isLv b) : ¬ (3 ≤ (r ++ [v]).length ∧ (r ++ [v]).drop ((r ++ [v]).length - 3) = endL) := by
  rintro ⟨h3, he⟩
  have hl : (r ++ [v]).length = r.length + 1 := by simp
  have h1 : ((r ++ [v]).drop ((r ++ [v]).length - 3))[0]? = some 48 := by rw [he]; rfl
  rw [List.getElem?_drop, Nat.add_zero, List.getElem?_append_left (by omega)] at h1
  have := hr 48 (List.mem_of_getElem? h1)
  rcases this with h | h <;> exact absurd h (by decide)
theorem hearS_more {r : List UInt8} {v : UInt8} (h0 : ¬ (v = 74 ∧ r = [])) (he : ¬ (3 ≤ (r ++ [v]).length ∧ (r ++ [v]).drop ((r ++ [v]).length - 3) = endL)) (hl : r.length < 1000) : hearS (r, []) v = (r ++ [v], []) := by
  unfold hearS
  dsimp only
  rw [if_neg h0, if_neg he, if_neg (by rw [List.length_append]; simp; omega)]
theorem hear_lv : ∀ (x r : List UInt8), (∀ b ∈ x, isLv b) → (∀ b ∈ r, isLv b) → r.length + x.length ≤ 1000 → r ≠ [] → hearP r x = (r ++ x, [])
  | [], r, _, _, _, _ => by rw [List.append_nil]; rfl
  | v :: x, r, hx, hr, hl, hne => by
    rw [List.length_cons] at hl
    rw [hearP_cons, hearS_more (fun q => hne q.2) (not_end2 hr) (by omega)]
    dsimp only
    rw [hear_lv x (r ++ [v]) (fun b hb => hx b (List.mem_cons_of_mem _ hb)) (fun b hb => by
      rcases List.mem_append.1 hb with hb | hb
      · exact hr b hb
      · rw [List.mem_singleton] at hb; subst hb; exact hx _ (List.mem_cons_self ..)) (by rw [List.length_append]; simp; omega) (by simp)]
    rw [List.append_assoc]; rfl
/-- an end -/
theorem hear_end {r : List UInt8} (hl : r.length ≤ 998) : hearP r endL = ([], [pieceP r]) := by
  have e1 : hearS (r, []) 48 = (r ++ [48], []) := hearS_more (fun q => absurd q.1 (by decide)) (not_end (by decide)) (by omega)
  have e2 : hearS (r ++ [48], []) 48 = (r ++ [48] ++ [48], []) := hearS_more (fun q => absurd q.1 (by decide)) (not_end (by decide)) (by rw [List.length_append]; simp; omega)
  have e3 : hearS (r ++ [48] ++ [48], []) 74 = ([], [pieceP r]) := by
    unfold hearS
    dsimp only
    have hlen : (r ++ [48] ++ [48] ++ [74]).length = r.length + 3 := by simp
    have hd : (r ++ [48] ++ [48] ++ [74]) = r ++ endL := by simp [endL]
    rw [if_neg (by rintro ⟨_, q⟩; simp at q), if_pos ⟨by omega, by rw [hlen, hd, Nat.add_sub_cancel, List.drop_left]⟩, hlen, hd, Nat.add_sub_cancel, List.take_left]
    rfl
  show hearP r [48, 48, 74] = _
  rw [hearP_cons, e1, hearP_cons, e2, hearP_cons, e3]
  rfl
/-- one text -/
theorem hear_one {s : List UInt8} (h0 : s ≠ []) (h80 : s.length ≤ 80) : hearP [] (levs s ++ endL) = ([], [(s, 0)]) := by
  have hl := levs_len h80
  have hlv := levs_lv s
  obtain ⟨r, hr⟩ := levs_head s
  have e1 : hearP [] (levs s) = (levs s, []) := by
    rw [hr] at hl hlv ⊢
    rw [List.length_cons] at hl
    rw [hearP_cons, hearS_more (fun q => absurd q.1 (by decide)) (not_end (by decide)) (by decide)]
    dsimp only
    rw [hear_lv r ([] ++ [75]) (fun b hb => hlv b (List.mem_cons_of_mem _ hb)) (fun b hb => by
      rw [List.nil_append, List.mem_singleton] at hb; subst hb; exact .inr rfl) (by simp; omega) (by simp)]
    rfl
  rw [hear_cut, e1]
  dsimp only
  rw [hear_end (by omega), piece_send h0 h80]
  rfl
def okS (s : List UInt8) : Bool := decide (s ≠ []) && decide (s.length ≤ 80)
/-- texts on a wire -/
def wire (n : Nat) : List (List UInt8) → List UInt8
  | [] => []
  | s :: l => if okS s then List.replicate n 74 ++ (levs s ++ endL) ++ wire n l else wire n l
/-- PhyBack -/
theorem hear_wire (n : Nat) : ∀ l : List (List UInt8), hearP [] (wire n l) = ([], (l.filter okS).map (fun s => (s, 0)))
  | [] => rfl
  | s :: l => by
    unfold wire
    by_cases h : okS s = true
    · rw [if_pos h, List.filter_cons_of_pos h]
      have h' := h
      unfold okS at h'
      simp only [Bool.and_eq_true, decide_eq_true_eq] at h'
      rw [hear_cut, hear_cut, hear_rest, hear_one h'.1 h'.2, hear_wire n l]
      rfl
    · rw [if_neg h, List.filter_cons_of_neg h, hear_wire n l]
/-- whatever came: two ends -/
theorem hear_two (r : List UInt8) : (hearP r (endL ++ endL)).1 = [] := by
  have key : (hearP r endL).1 = [] ∨ (hearP r endL).1 = [48, 74] := by
    by_cases h1 : r.length < 1000
    · have e1 : hearS (r, []) 48 = (r ++ [48], []) := hearS_more (fun q => absurd q.1 (by decide)) (not_end (by decide)) h1
      by_cases h2 : r.length < 999
      · rw [hear_end (by omega)]; exact .inl rfl
      · have e2 : (hearS (r ++ [48], []) 48).1 = [] := by
          unfold hearS
          dsimp only
          rw [if_neg (fun q => absurd q.1 (by decide)), if_neg (not_end (by decide)), if_pos (by simp; omega)]
        left
        show (hearP r [48, 48, 74]).1 = _
        rw [hearP_cons, e1, hearP_cons, e2, hearP_cons]
        rfl
    · have e1 : (hearS (r, []) 48).1 = [] := by
        unfold hearS
        dsimp only
        rw [if_neg (fun q => absurd q.1 (by decide)), if_neg (not_end (by decide)), if_pos (by simp; omega)]
      right
      show (hearP r [48, 48, 74]).1 = _
      rw [hearP_cons, e1]
      show (hearP [] [48, 74]).1 = [48, 74]
      decide +kernel
  rw [hear_cut]
  dsimp only
  rcases key with h | h
  · rw [h, hear_end (by decide)]
  · rw [h, hear_end (by decide)]
/-- PhyAgain -/
theorem hear_again (r noise : List UInt8) {s : List UInt8} (h0 : s ≠ []) (h80 : s.length ≤ 80) : ∃ l, hearP r (noise ++ (endL ++ endL) ++ (levs s ++ endL)) = ([], l ++ [(s, 0)]) := by
  have h2 : (hearP r (noise ++ (endL ++ endL))).1 = [] := (congrArg Prod.fst (hear_cut r noise (endL ++ endL))).trans (hear_two (hearP r noise).1)
  rw [hear_cut r (noise ++ (endL ++ endL)), h2, hear_one h0 h80]
  exact ⟨_, rfl⟩
end Go.Proofs.YtmnmlnnhngnfbaaDoor.Phy
