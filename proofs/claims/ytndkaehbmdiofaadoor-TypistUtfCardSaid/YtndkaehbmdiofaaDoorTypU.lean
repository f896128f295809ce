/- The last rune of a text of runes, and what is left without it: no program in sight. -/
import Derived.Test.YtndkaehbmdiofaaDoorUtfV
import Derived.Lib.SpaceUEq
import Derived.Lib.TrimAscii
namespace Go.Proofs.YtndkaehbmdiofaaDoor.Utf
open Go.Lib
theorem byte_is {x : Int} {n : Nat} (e : x = (n : Int)) (h : n < 256) : (x.toNat.toUInt8).toNat = n := by
  subst e
  show n % 256 = n
  omega
theorem start_of {b : UInt8} {n : Nat} (e : b.toNat = n) (h : 192 ≤ n) : runeStartB b = true := by
  unfold runeStartB
  rw [e, bne_iff_ne]
  omega
theorem cont_of {b : UInt8} {n : Nat} (e : b.toNat = n) (h : 128 ≤ n) (h2 : n < 192) : runeStartB b = false := by
  unfold runeStartB
  rw [e, bne_eq_false_iff_eq]
  omega
theorem last4 (t : List UInt8) (b0 b1 b2 b3 : UInt8) (h3 : 128 ≤ b3.toNat) (h2 : runeStartB b2 = false) (h1 : runeStartB b1 = false) (h0 : runeStartB b0 = true) (hd : (decodeL [b0, b1, b2, b3]).2 = 4) : (decodeLastL (t ++ [b0, b1, b2, b3])).2 = 4 := by
  have k1 := getD_app_end t [b0, b1, b2, b3] 1 (by decide) (by simp)
  have k2 := getD_app_end t [b0, b1, b2, b3] 2 (by decide) (by simp)
  have k3 := getD_app_end t [b0, b1, b2, b3] 3 (by decide) (by simp)
  have k4 := getD_app_end t [b0, b1, b2, b3] 4 (by decide) (by simp)
  have hn : (t ++ [b0, b1, b2, b3]).length = t.length + 4 := by simp
  have hs : lastStart (t ++ [b0, b1, b2, b3]) = t.length := by
    unfold lastStart
    simp only [k2, k3, k4]
    simp only [List.length_cons, List.length_nil, List.getD_cons_succ, List.getD_cons_zero, Nat.reduceAdd, Nat.reduceSub, h2, h1, h0, Bool.false_eq_true, if_false, if_true, hn]
    rw [if_neg (by omega), if_neg (by omega), if_neg (by omega)]
    omega
  unfold decodeLastL
  rw [if_neg (by simp), k1, if_neg (by simpa using h3), hs]
  simp only [List.drop_left, hd]
  rw [if_pos (by omega)]
  exact hd
/-- THE LAST RUNE OF A TEXT THAT ENDS IN A RUNE IS THAT ONE. -/
theorem last_enc (r : Nat) (h : scalar r) (t : List UInt8) : (decodeLastL (t ++ encodeRune r)).2 = (encodeRune r).length := by
  have hd := decode_encode r h []
  rw [List.append_nil] at hd
  unfold scalar at h
  unfold encodeRune at hd ⊢
  by_cases c1 : r ≤ 127
  · rw [encodeRuneZ_one (by omega) (by omega)]
    have e := byte_is (x := (r : Int)) (n := r) rfl (by omega)
    rw [List.map_cons, List.map_nil, decodeLastL_ascii _ _ (by omega)]
    rfl
  · by_cases c2 : r ≤ 2047
    · rw [encodeRuneZ_two (by omega) (by omega)] at hd ⊢
      have e0 := byte_is (x := 192 + (r : Int) / 64) (n := 192 + r / 64) (by omega) (by omega)
      have e1 := byte_is (x := 128 + (r : Int) % 64) (n := 128 + r % 64) (by omega) (by omega)
      simp only [List.map_cons, List.map_nil] at hd ⊢
      rw [last2 _ _ _ (by omega) (start_of e0 (by omega)) (by rw [hd]; rfl), hd]
    · by_cases c3 : r ≤ 65535
      · rw [encodeRuneZ_three (by omega)] at hd ⊢
        have e0 := byte_is (x := 224 + (r : Int) / 4096) (n := 224 + r / 4096) (by omega) (by omega)
        have e1 := byte_is (x := 128 + (r : Int) / 64 % 64) (n := 128 + r / 64 % 64) (by omega) (by omega)
        have e2 := byte_is (x := 128 + (r : Int) % 64) (n := 128 + r % 64) (by omega) (by omega)
        simp only [List.map_cons, List.map_nil] at hd ⊢
        rw [last3 _ _ _ _ (by omega) (cont_of e1 (by omega) (by omega)) (start_of e0 (by omega)) (by rw [hd]; rfl), hd]
      · rw [encodeRuneZ_four (by omega) (by omega)] at hd ⊢
        have e0 := byte_is (x := 240 + (r : Int) / 262144) (n := 240 + r / 262144) (by omega) (by omega)
        have e1 := byte_is (x := 128 + (r : Int) / 4096 % 64) (n := 128 + r / 4096 % 64) (by omega) (by omega)
        have e2 := byte_is (x := 128 + (r : Int) / 64 % 64) (n := 128 + r / 64 % 64) (by omega) (by omega)
        have e3 := byte_is (x := 128 + (r : Int) % 64) (n := 128 + r % 64) (by omega) (by omega)
        simp only [List.map_cons, List.map_nil] at hd ⊢
        rw [last4 _ _ _ _ _ (by omega) (cont_of e2 (by omega) (by omega)) (cont_of e1 (by omega) (by omega)) (start_of e0 (by omega)) (by rw [hd]; rfl)]
        rfl
theorem enc_append (a b : List Nat) : enc (a ++ b) = enc a ++ enc b := List.flatMap_append
/-- WITHOUT ITS LAST RUNE A VALID TEXT IS STILL VALID. -/
theorem valid_back (l : List UInt8) (h : validD l = true) : validD (l.take (l.length - (decodeLastL l).2)) = true := by
  have hs := runes_scalar l
  have he := enc_valid l.length l (Nat.le_refl _) h
  generalize runes l = rs at he hs
  subst he
  rcases List.eq_nil_or_concat rs with rfl | ⟨qs, r, rfl⟩
  · rfl
  · rw [List.concat_eq_append] at hs ⊢
    rw [enc_append, show enc [r] = encodeRune (r : Int) from List.append_nil _, last_enc r (hs r (by simp)), List.length_append, Nat.add_sub_cancel, List.take_left]
    exact valid_enc qs (fun x hx => hs x (by simp [hx]))
/-- two valid texts make one -/
theorem valid_app (a b : List UInt8) (h : validD a = true) (g : validD b = true) : validD (a ++ b) = true := by
  rw [← enc_valid a.length a (Nat.le_refl _) h, ← enc_valid b.length b (Nat.le_refl _) g, ← enc_append]
  exact valid_enc _ (fun x hx => by rcases List.mem_append.1 hx with q | q; exact runes_scalar a x q; exact runes_scalar b x q)
end Go.Proofs.YtndkaehbmdiofaaDoor.Utf
