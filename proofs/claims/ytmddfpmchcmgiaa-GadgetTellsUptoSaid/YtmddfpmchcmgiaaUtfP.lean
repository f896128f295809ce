/- Runes, and their units of sixteen bits: no program in sight. -/
import Derived.Lib.MapLaws
namespace Go.Proofs.Ytmddfpmchcmgiaa.Utf
open Go.Lib
def rns : Nat → List UInt8 → List Nat
  | 0, _ => []
  | n + 1, l => if l = [] then [] else (decodeL l).1 :: rns n (l.drop (decodeL l).2)
def runes (l : List UInt8) : List Nat := rns l.length l
theorem rns_nil : ∀ n, rns n [] = []
  | 0 => rfl
  | _ + 1 => by simp [rns]
theorem rns_fuel : ∀ (n m : Nat) (l : List UInt8), l.length ≤ n → l.length ≤ m → rns n l = rns m l
  | 0, m, l, hn, _ => by
    have : l = [] := List.eq_nil_of_length_eq_zero (by omega)
    subst this
    rw [rns_nil, rns_nil]
  | n + 1, 0, l, _, hm => by
    have : l = [] := List.eq_nil_of_length_eq_zero (by omega)
    subst this
    rw [rns_nil, rns_nil]
  | n + 1, m + 1, l, hn, hm => by
    by_cases hne : l = []
    · subst hne
      rw [rns_nil, rns_nil]
    · have hw := decodeL_width l
      have hl : 0 < l.length := List.length_pos_iff.2 hne
      simp only [rns, if_neg hne]
      rw [rns_fuel n m _ (by rw [List.length_drop]; omega) (by rw [List.length_drop]; omega)]
theorem runes_nil : runes [] = [] := rfl
theorem runes_step (l : List UInt8) (hne : l ≠ []) : runes l = (decodeL l).1 :: runes (l.drop (decodeL l).2) := by
  have hw := decodeL_width l
  have hl : 0 < l.length := List.length_pos_iff.2 hne
  unfold runes
  obtain ⟨n, hn⟩ : ∃ n, l.length = n + 1 := ⟨l.length - 1, by omega⟩
  rw [hn]
  simp only [rns, if_neg hne]
  rw [rns_fuel n _ _ (by rw [List.length_drop]; omega) (Nat.le_refl _)]
theorem rns_len : ∀ (n : Nat) (l : List UInt8), (rns n l).length ≤ l.length
  | 0, l => by simp [rns]
  | n + 1, l => by
    simp only [rns]
    split
    · simp
    · rename_i h
      have hw := decodeL_width l
      have hl : 0 < l.length := List.length_pos_iff.2 h
      have := rns_len n (l.drop (decodeL l).2)
      rw [List.length_drop] at this
      simp only [List.length_cons]; omega
def scalar (r : Nat) : Prop := r < 55296 ∨ (57344 ≤ r ∧ r ≤ 1114111)
theorem decodeL_scalar (l : List UInt8) : scalar (decodeL l).1 := by
  rw [decodeL_N]
  unfold scalar
  rcases decodeN_shape l.length (l.getD 0 0).toNat (l.getD 1 0).toNat (l.getD 2 0).toNat (l.getD 3 0).toNat with ⟨c, e⟩ | ⟨c1, c2, c3, cv, e⟩ | ⟨c1, c2, c3, c4, cv, cs, e⟩ | ⟨c1, c2, c3, c4, c5, cv, cw, e⟩ | e
  all_goals (rw [e]; dsimp only; omega)
theorem rns_scalar : ∀ (n : Nat) (l : List UInt8), ∀ r ∈ rns n l, scalar r
  | 0, l => by simp [rns]
  | n + 1, l => by
    simp only [rns]
    split
    · simp
    · intro r hr
      rcases List.mem_cons.1 hr with rfl | hr
      · exact decodeL_scalar l
      · exact rns_scalar n _ r hr
theorem runes_scalar (l : List UInt8) : ∀ r ∈ runes l, scalar r := rns_scalar _ l
theorem nat8 (z : Int) (h : 0 ≤ z ∧ z < 256) : (z.toNat.toUInt8).toNat = z.toNat := by simp; omega
theorem decode_encode (r : Nat) (h : scalar r) (t : List UInt8) : decodeL (encodeRune r ++ t) = (r, (encodeRune r).length) := by
  unfold scalar at h
  rw [decodeL_N]
  unfold encodeRune
  by_cases c1 : r ≤ 127
  · rw [encodeRuneZ_one (by omega) (by omega)]
    simp only [List.map_cons, List.map_nil, List.cons_append, List.nil_append, List.getD_cons_zero, List.length_cons, List.length_nil]
    rw [nat8 _ (by omega)]
    unfold decodeN
    rw [if_pos (by omega)]
    simp
  by_cases c2 : r ≤ 2047
  · rw [encodeRuneZ_two (by omega) (by omega)]
    simp only [List.map_cons, List.map_nil, List.cons_append, List.nil_append, List.getD_cons_zero, List.getD_cons_succ, List.length_cons, List.length_nil]
    rw [nat8 _ (by omega), nat8 _ (by omega)]
    unfold decodeN
    rw [if_neg, if_pos, if_pos]
    · simp only [Prod.mk.injEq, and_true]; omega
    all_goals omega
  by_cases c3 : r ≤ 65535
  · rw [encodeRuneZ_three (by omega)]
    simp only [List.map_cons, List.map_nil, List.cons_append, List.nil_append, List.getD_cons_zero, List.getD_cons_succ, List.length_cons, List.length_nil]
    rw [nat8 _ (by omega), nat8 _ (by omega), nat8 _ (by omega)]
    unfold decodeN
    rw [if_neg, if_neg, if_pos, if_pos]
    · simp only [Prod.mk.injEq, and_true]; omega
    all_goals omega
  · rw [encodeRuneZ_four (by omega) (by omega)]
    simp only [List.map_cons, List.map_nil, List.cons_append, List.nil_append, List.getD_cons_zero, List.getD_cons_succ, List.length_cons, List.length_nil]
    rw [nat8 _ (by omega), nat8 _ (by omega), nat8 _ (by omega), nat8 _ (by omega)]
    unfold decodeN
    rw [if_neg, if_neg, if_neg, if_pos, if_pos]
    · simp only [Prod.mk.injEq, and_true]; omega
    all_goals omega
def enc (rs : List Nat) : List UInt8 := rs.flatMap fun (r : Nat) => encodeRune (r : Int)
theorem enc_cons (r : Nat) (rs : List Nat) : enc (r :: rs) = encodeRune (r : Int) ++ enc rs := rfl
theorem enc_app (a b : List Nat) : enc (a ++ b) = enc a ++ enc b := by simp [enc]
theorem encodeRune_len (r : Int) : 1 ≤ (encodeRune r).length ∧ (encodeRune r).length ≤ 4 := by
  rw [← runeCells_length]; exact runeCells_le r
theorem runes_enc : ∀ rs : List Nat, (∀ r ∈ rs, scalar r) → runes (enc rs) = rs
  | [], _ => rfl
  | r :: rs, h => by
    have hl := (encodeRune_len (r : Int)).1
    rw [enc_cons, runes_step _ (by intro e; have := congrArg List.length e; rw [List.length_append, List.length_nil] at this; omega), decode_encode r (h r (by simp))]
    simp only
    rw [List.drop_left, runes_enc rs (fun x hx => h x (by simp [hx]))]
theorem enc_len (rs : List Nat) : (enc rs).length ≤ 4 * rs.length := by
  induction rs with
  | nil => simp [enc]
  | cons r rs ih => have := (encodeRune_len (r : Int)).2; rw [enc_cons, List.length_append, List.length_cons]; omega
/-! units -/
def units (r : Nat) : List Nat := if r < 65536 then [r] else [55296 + (r - 65536) / 1024, 56320 + (r - 65536) % 1024]
def two (u : Nat) : List UInt8 := [UInt8.ofNat (u % 256), UInt8.ofNat (u / 256 % 256)]
def un (r : Nat) : List UInt8 := (units r).flatMap two
def wideR (rs : List Nat) : List UInt8 := rs.flatMap un
def wide (l : List UInt8) : List UInt8 := wideR (runes l)
theorem un_small (r : Nat) (h : r < 65536) : un r = two r := by simp [un, units, h]
theorem un_big (r : Nat) (h : ¬ r < 65536) : un r = two (55296 + (r - 65536) / 1024) ++ two (56320 + (r - 65536) % 1024) := by simp [un, units, h]
theorem wideR_snoc (rs : List Nat) (r : Nat) : wideR (rs ++ [r]) = wideR rs ++ un r := by simp [wideR]
theorem wideR_app (a b : List Nat) : wideR (a ++ b) = wideR a ++ wideR b := by simp [wideR]
def cnt (rs : List Nat) : Nat := (rs.map fun r => if 65535 < r then 2 else 1).sum
theorem cnt_snoc (rs : List Nat) (r : Nat) : cnt (rs ++ [r]) = cnt rs + (if 65535 < r then 2 else 1) := by simp [cnt]
theorem un_len (r : Nat) : (un r).length = 2 * (if 65535 < r then 2 else 1) := by
  by_cases h : r < 65536
  · rw [un_small r h, if_neg (by omega)]; rfl
  · rw [un_big r h, if_pos (by omega)]; rfl
theorem wideR_len : ∀ rs : List Nat, (wideR rs).length = 2 * cnt rs
  | [] => rfl
  | r :: rs => by
    have := wideR_len rs
    have e : wideR (r :: rs) = un r ++ wideR rs := rfl
    have e2 : cnt (r :: rs) = (if 65535 < r then 2 else 1) + cnt rs := by simp [cnt]
    rw [e, e2, List.length_append, un_len, this]; omega
theorem cnt_le (rs : List Nat) : cnt rs ≤ 2 * rs.length := by
  induction rs with
  | nil => simp [cnt]
  | cons r rs ih =>
    have e2 : cnt (r :: rs) = (if 65535 < r then 2 else 1) + cnt rs := by simp [cnt]
    rw [e2]; simp only [List.length_cons]; split <;> omega
/-- the answer of Wide -/
def wideB (l : List UInt8) : Bool := decide ((wide l).length ≤ 252)
end Go.Proofs.Ytmddfpmchcmgiaa.Utf
