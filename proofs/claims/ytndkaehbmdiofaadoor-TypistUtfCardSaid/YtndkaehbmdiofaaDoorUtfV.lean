/- What is valid UTF-8 is the text of its runes: no program in sight. -/
import Derived.Test.YtndkaehbmdiofaaDoorUtfP
import Derived.Lib.ValidLaws
namespace Go.Proofs.YtndkaehbmdiofaaDoor.Utf
open Go.Lib
theorem encodeRune_ne (r : Int) (t : List UInt8) : encodeRune r ++ t ≠ [] := by
  intro e
  have := congrArg List.length e
  have := (encodeRune_len r).1
  rw [List.length_append, List.length_nil] at *
  omega
theorem len_bad : (encodeRune (65533 : Nat)).length = 3 := by decide
theorem valid_enc : ∀ rs : List Nat, (∀ r ∈ rs, scalar r) → validD (enc rs) = true
  | [], _ => rfl
  | r :: rs, h => by
    rw [enc_cons, validD_step _ (encodeRune_ne _ _), decode_encode r (h r (by simp))]
    simp only
    rw [if_neg, List.drop_left, valid_enc rs (fun x hx => h x (by simp [hx]))]
    rintro ⟨h1, h2⟩
    subst h1
    rw [len_bad] at h2
    omega
theorem enc_valid : ∀ (n : Nat) (l : List UInt8), l.length ≤ n → validD l = true → enc (runes l) = l
  | 0, l, hn, _ => by
    have : l = [] := List.eq_nil_of_length_eq_zero (by omega)
    subst this; rfl
  | n + 1, l, hn, hv => by
    by_cases hne : l = []
    · subst hne; rfl
    · have hw := decodeL_width l
      have hl : 0 < l.length := List.length_pos_iff.2 hne
      rw [validD_step l hne] at hv
      by_cases hb : (decodeL l).1 = 65533 ∧ (decodeL l).2 = 1
      · rw [if_pos hb] at hv; cases hv
      · rw [if_neg hb] at hv
        rw [runes_step l hne, enc_cons, encode_decode l hne hb, enc_valid n _ (by rw [List.length_drop]; omega) hv, List.take_append_drop]
end Go.Proofs.YtndkaehbmdiofaaDoor.Utf
