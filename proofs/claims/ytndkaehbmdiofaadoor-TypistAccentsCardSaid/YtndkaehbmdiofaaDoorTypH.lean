/- typist, plainly: sets of keys; a key that is held types again and again. -/
import Derived.Test.YtndkaehbmdiofaaDoorTypY
namespace Go.Proofs.YtndkaehbmdiofaaDoor
open Go.RowKit Go.Proofs.YtndkaehbmdiofaaDoor.Typ
theorem Hd.has_bit (h : Hd) (c : Nat) : h.has c = (h.at (c / 64)).toNat.testBit (c % 64) := by
  unfold Hd.has
  rw [Nat.testBit_eq_decide_div_mod_eq]
  rfl
theorem Hd.ext_has {h h' : Hd} (e : ∀ c, c < 256 → h.has c = h'.has c) : h = h' := by
  have key : ∀ q, q < 4 → h.at q = h'.at q := by
    intro q hq
    apply UInt64.toNat_inj.1
    apply Nat.eq_of_testBit_eq
    intro i
    by_cases hi : i < 64
    · have := e (q * 64 + i) (by omega)
      rw [Hd.has_bit, Hd.has_bit, show (q * 64 + i) / 64 = q by omega, show (q * 64 + i) % 64 = i by omega] at this
      exact this
    · have hp : (2 : Nat) ^ 64 ≤ 2 ^ i := Nat.pow_le_pow_right (by omega) (by omega)
      rw [Nat.testBit_lt_two_pow (Nat.lt_of_lt_of_le (h.at q).toNat_lt hp), Nat.testBit_lt_two_pow (Nat.lt_of_lt_of_le (h'.at q).toNat_lt hp)]
  have k0 := key 0 (by omega)
  have k1 := key 1 (by omega)
  have k2 := key 2 (by omega)
  have k3 := key 3 (by omega)
  obtain ⟨a, b, c, d⟩ := h
  obtain ⟨a', b', c', d'⟩ := h'
  have k0 : a = a' := k0
  have k1 : b = b' := k1
  have k2 : c = c' := k2
  have k3 : d = d' := k3
  rw [k0, k1, k2, k3]
theorem Hd.has_set (h : Hd) (q : Nat) (hq : q < 4) (x : UInt64) (c : Nat) (hc : c < 256) : (h.set q x).has c = if c / 64 = q then x.toNat.testBit (c % 64) else h.has c := by
  rw [Hd.has_bit, Hd.at_set _ _ _ hq (by omega)]
  split
  · rfl
  · rw [Hd.has_bit]
theorem Hd.flip_has (h : Hd) (c d : Nat) (hc : c < 256) (hd : d < 256) : (h.flip c).has d = (h.has d != decide (c = d)) := by
  unfold Hd.flip
  rw [Hd.has_set _ _ (by omega) _ _ hd]
  have h2 : (h.at (c / 64)).toNat ^^^ 2 ^ (c % 64) < 2 ^ 64 := Nat.xor_lt_two_pow (h.at (c / 64)).toNat_lt (Nat.pow_lt_pow_right (by omega) (by omega))
  rw [UInt64.toNat_ofNat', Nat.mod_eq_of_lt h2, Nat.testBit_xor, Nat.testBit_two_pow, Hd.has_bit]
  by_cases e : d / 64 = c / 64
  · rw [if_pos e, e]
    have e2 : decide (c % 64 = d % 64) = decide (c = d) := decide_eq_decide.2 ⟨fun h => by omega, fun h => by omega⟩
    rw [e2]
  · rw [if_neg e, decide_eq_false (show ¬ c = d by omega)]
    cases (h.at (d / 64)).toNat.testBit (d % 64) <;> rfl
theorem Hd0_has (d : Nat) (hd : d < 256) : Hd0.has d = false := by
  have : ∀ d, d < 256 → Hd0.has d = false := by decide +kernel
  exact this d hd
/-- n times a text -/
def rep : Nat → ByteArray → ByteArray
  | 0, _ => ByteArray.empty
  | n + 1, s => rep n s ++ s
theorem rep_size (n : Nat) (s : ByteArray) : (rep n s).size = n * s.size := by
  induction n with
  | zero => show ByteArray.empty.size = 0 * s.size; rw [Nat.zero_mul]; rfl
  | succ n ih => show (rep n s ++ s).size = _; rw [ByteArray.size_append, ih, Nat.add_mul, Nat.one_mul]
theorem rep_front (n : Nat) (s : ByteArray) : rep (n + 1) s = s ++ rep n s := by
  induction n with
  | zero => show ByteArray.empty ++ s = s ++ ByteArray.empty; rw [ByteArray.empty_append, ByteArray.append_empty]
  | succ n ih => show rep (n + 1) s ++ s = s ++ (rep n s ++ s); rw [ih, ByteArray.append_assoc]
/-- how often n ticks type, with v to wait -/
def times (v n : Nat) : Nat := if n < v then 0 else 1 + (n - v) / 4
theorem times_hit (n : Nat) : times 1 (n + 1) = 1 + times 4 n := by
  unfold times
  rw [if_neg (by omega)]
  split <;> omega
theorem times_miss (v n : Nat) (h : 2 ≤ v) : times v (n + 1) = times (v - 1) n := by
  unfold times
  split
  · rw [if_pos (by omega)]
  · rw [if_neg (by omega)]; omega
/-- no shift, no capitals, no accent -/
structure Bare (u : St) (c : Int) : Prop where
  sh : shiftP u = false
  caps : u.caps = false
  dead : u.dead = 0
  last : u.last = c
theorem accd_zero (b : UInt8) : accdP 0 b = ByteArray.empty := by unfold accdP; rw [if_pos (.inr rfl)]
theorem typed_bare {u : St} {c : Int} (h : Bare u c) (hc : signs c = true) (k : Int) (hs : u.text.size + 1 ≤ 4096) (c' : Int) (e : c' = c) : typedP { u with wait := k } c' = { u with wait := k, text := u.text ++ charP c false } := by
  subst e
  obtain ⟨b, hb⟩ := charP_one hc false
  have hn : c' ≠ 42 := by
    intro e; subst e; revert hc; decide
  unfold typedP
  have hsh : shiftP { u with wait := k } = false := h.sh
  rw [if_neg hn]
  have hcp : ({ u with wait := k } : St).caps = false := h.caps
  have hdd : ({ u with wait := k } : St).dead = 0 := h.dead
  rw [hsh, hcp, hdd, Bool.false_and]
  dsimp only
  rw [show (false != false) = false from rfl, accd_zero, if_pos rfl]
  have ha : accP 0 = ByteArray.empty := rfl
  rw [ha, ByteArray.empty_append]
  unfold putP
  have h1 : (charP c' false).size = 1 := by rw [hb]; rfl
  rw [if_pos (by show u.text.size + (charP c' false).size ≤ 4096; omega)]
theorem ticks_bare : ∀ (n : Nat) (u : St) (c : Int) (v : Nat), Bare u c → signs c = true → u.wait = v → 1 ≤ v → v ≤ 20 → u.text.size + times v n ≤ 4096 →
    ∃ z : Int, tickP n u = { u with wait := z, text := u.text ++ rep (times v n) (charP c false) }
  | 0, u, c, v, h, hc, hw, h1, h2, hs => by
    refine ⟨u.wait, ?_⟩
    have : times v 0 = 0 := by unfold times; rw [if_pos (by omega)]
    rw [this]
    show u = { u with text := u.text ++ ByteArray.empty }
    rw [ByteArray.append_empty]
  | n + 1, u, c, v, h, hc, hw, h1, h2, hs => by
    have hl : u.last ≠ 0 := by
      rw [h.last]; intro e; subst e; revert hc; decide
    by_cases hv : v = 1
    · subst hv
      rw [tick_typed _ _ hl (by omega)]
      rw [times_hit] at hs ⊢
      rw [typed_bare h hc 0 (by omega) u.last h.last]
      obtain ⟨b, hb⟩ := charP_one hc false
      have h1 : (charP c false).size = 1 := by rw [hb]; rfl
      have hcs : (u.text ++ charP c false).size = u.text.size + 1 := by rw [ByteArray.size_append, h1]
      obtain ⟨z, hz⟩ := ticks_bare n { u with wait := 4, text := u.text ++ charP c false } c 4 ⟨h.sh, h.caps, h.dead, h.last⟩ hc rfl (by omega) (by omega) (by dsimp only; omega)
      refine ⟨z, ?_⟩
      change tickP n { u with wait := 4, text := u.text ++ charP c false } = _
      refine hz.trans ?_
      dsimp only
      rw [Nat.add_comm 1, rep_front, ByteArray.append_assoc]
    · rw [tick_less _ _ hl (by omega)]
      rw [times_miss v n (by omega)] at hs ⊢
      obtain ⟨z, hz⟩ := ticks_bare n { u with wait := u.wait - 1 } c (v - 1) ⟨h.sh, h.caps, h.dead, h.last⟩ hc (by dsimp only; omega) (by omega) (by omega) hs
      exact ⟨z, hz⟩
end Go.Proofs.YtndkaehbmdiofaaDoor
