/- The plain law of packets: what is written is read as it was; turned bits are told. -/
import Derived.Test.YtmnmlnnhngnfbaaDoorCrcP
namespace Go.Proofs.YtmnmlnnhngnfbaaDoor.PktP
open Go.Proofs.YtmnmlnnhngnfbaaDoor.CrcP

structure Pk where
  k : Int
  a : Int
  e : Int
  f : Int
  d : List UInt8
deriving DecidableEq

def zero : Pk := ⟨0, 0, 0, 0, []⟩
def isTok (k : Int) : Prop := k = 1 ∨ k = 9 ∨ k = 13
def isData (k : Int) : Prop := k = 3 ∨ k = 11
def isHs (k : Int) : Prop := k = 2 ∨ k = 10 ∨ k = 14
instance (k : Int) : Decidable (isTok k) := by unfold isTok; exact inferInstance
instance (k : Int) : Decidable (isData k) := by unfold isData; exact inferInstance
instance (k : Int) : Decidable (isHs k) := by unfold isHs; exact inferInstance

/-- the bytes of a number, of a number and its sum, of a kind -/
def word (n : Nat) : List UInt8 := [UInt8.ofNat (n % 256), UInt8.ofNat (n / 256)]
def sealed' (n : Nat) : List UInt8 := word (n + five n * 2048)
def head (k : Nat) : UInt8 := UInt8.ofNat (k + (15 - k) * 16)
def num (l : List UInt8) : Nat := (l.getD 0 0).toNat + (l.getD 1 0).toNat * 256

/-- the four sorts of right packets -/
def Okp (p : Pk) : Prop :=
  (isTok p.k ∧ 0 ≤ p.a ∧ p.a ≤ 127 ∧ 0 ≤ p.e ∧ p.e ≤ 15 ∧ p.f = 0 ∧ p.d = []) ∨ (p.k = 5 ∧ p.a = 0 ∧ p.e = 0 ∧ 0 ≤ p.f ∧ p.f ≤ 2047 ∧ p.d = []) ∨
  (isData p.k ∧ p.a = 0 ∧ p.e = 0 ∧ p.f = 0 ∧ p.d.length ≤ 64) ∨ (isHs p.k ∧ p.a = 0 ∧ p.e = 0 ∧ p.f = 0 ∧ p.d = [])
instance (p : Pk) : Decidable (Okp p) := by unfold Okp; exact inferInstance
/-- data of too many bytes, else right -/
def Large (p : Pk) : Prop := isData p.k ∧ p.a = 0 ∧ p.e = 0 ∧ p.f = 0 ∧ 64 < p.d.length
instance (p : Pk) : Decidable (Large p) := by unfold Large; exact inferInstance
def chk (p : Pk) : Int := if Okp p then 0 else if Large p then 2 else 1

def rest (p : Pk) : List UInt8 :=
  if isTok p.k then sealed' (p.a.toNat + p.e.toNat * 128) else if p.k = 5 then sealed' p.f.toNat else if isData p.k then p.d ++ word (six p.d) else []
def text (p : Pk) : List UInt8 := head p.k.toNat :: rest p

/-- what is read -/
def rdRest (k : Nat) (r : List UInt8) : Pk × Int :=
  if isTok k ∨ (k : Int) = 5 then
    if r.length < 2 then (zero, 3) else if 2 < r.length then (zero, 4)
    else if num r / 2048 ≠ five (num r % 2048) then (zero, 5)
    else if (k : Int) = 5 then (⟨5, 0, 0, (num r % 2048 : Nat), []⟩, 0) else (⟨k, (num r % 128 : Nat), (num r / 128 % 16 : Nat), 0, []⟩, 0)
  else if isData k then
    if r.length < 2 then (zero, 3) else if 66 < r.length then (zero, 4)
    else if num (r.drop (r.length - 2)) ≠ six (r.take (r.length - 2)) then (zero, 5) else (⟨k, 0, 0, 0, r.take (r.length - 2)⟩, 0)
  else if 0 < r.length then (zero, 4) else (⟨k, 0, 0, 0, []⟩, 0)
def rd (s : List UInt8) : Pk × Int :=
  match s with
  | [] => (zero, 3)
  | b :: r => if 15 - b.toNat / 16 ≠ b.toNat % 16 ∨ ¬ (isTok (b.toNat % 16 : Nat) ∨ isData (b.toNat % 16 : Nat) ∨ ((b.toNat % 16 : Nat) : Int) = 5 ∨ isHs (b.toNat % 16 : Nat)) then (zero, 4) else rdRest (b.toNat % 16) r

theorem of_lt {n : Nat} (h : n < 256) : (UInt8.ofNat n).toNat = n := by simp; omega
theorem head_toNat (k : Nat) (h : k < 16) : (head k).toNat = k + (15 - k) * 16 := of_lt (by omega)
theorem six_lt (s : List UInt8) : six s < 65536 := more_lt _ _ (by omega)
theorem word_len (n : Nat) : (word n).length = 2 := rfl
theorem num_word (n : Nat) (h : n < 65536) : num (word n) = n := by
  unfold num word
  show (UInt8.ofNat (n % 256)).toNat + (UInt8.ofNat (n / 256)).toNat * 256 = n
  rw [of_lt (by omega), of_lt (by omega)]; omega
theorem word_num (a b : UInt8) : word (num [a, b]) = [a, b] := by
  have ha := a.toNat_lt; have hb := b.toNat_lt
  have e : num [a, b] = a.toNat + b.toNat * 256 := rfl
  unfold word
  rw [e, show (a.toNat + b.toNat * 256) % 256 = a.toNat by omega, show (a.toNat + b.toNat * 256) / 256 = b.toNat by omega]
  simp
theorem num_lt (l : List UInt8) : num l < 65536 := by
  have := (l.getD 0 0).toNat_lt; have := (l.getD 1 0).toNat_lt
  unfold num; omega
theorem seal_lt {n : Nat} (h : n < 2048) : n + five n * 2048 < 65536 := by have := five_lt n; omega
theorem two_list {l : List UInt8} (h : l.length = 2) : ∃ a b, l = [a, b] := by
  match l, h with
  | [a, b], _ => exact ⟨a, b, rfl⟩
theorem seal_num {r : List UInt8} (h : r.length = 2) (h2 : num r / 2048 = five (num r % 2048)) : sealed' (num r % 2048) = r := by
  unfold sealed'
  rw [← h2]
  have : num r % 2048 + num r / 2048 * 2048 = num r := by omega
  rw [this]
  obtain ⟨a, b, rfl⟩ := two_list h
  exact word_num a b

/-- the kinds that are known, read off the first byte -/
theorem rd_head (k : Nat) (hk : k < 16) (hg : isTok k ∨ isData k ∨ (k : Int) = 5 ∨ isHs k) (r : List UInt8) : rd (head k :: r) = rdRest k r := by
  have h := head_toNat k hk
  have e1 : (head k).toNat % 16 = k := by rw [h]; omega
  have e2 : 15 - (head k).toNat / 16 = k := by rw [h]; omega
  unfold rd
  simp only [e1, e2]
  rw [if_neg]
  rintro (h | h)
  · exact h rfl
  · exact h hg
theorem kind_lt {p : Pk} (h : Okp p) : ∃ k : Nat, p.k = k ∧ k < 16 ∧ (isTok k ∨ isData k ∨ (k : Int) = 5 ∨ isHs k) := by
  have : 0 ≤ p.k ∧ p.k < 16 ∧ (isTok p.k ∨ isData p.k ∨ p.k = 5 ∨ isHs p.k) := by
    rcases h with ⟨h, _⟩ | ⟨h, _⟩ | ⟨h, _⟩ | ⟨h, _⟩
    · refine ⟨?_, ?_, Or.inl h⟩ <;> (unfold isTok at h; omega)
    · refine ⟨?_, ?_, Or.inr (Or.inr (Or.inl h))⟩ <;> omega
    · refine ⟨?_, ?_, Or.inr (Or.inl h)⟩ <;> (unfold isData at h; omega)
    · refine ⟨?_, ?_, Or.inr (Or.inr (Or.inr h))⟩ <;> (unfold isHs at h; omega)
  obtain ⟨h0, h1, h2⟩ := this
  obtain ⟨k, hk⟩ := Int.eq_ofNat_of_zero_le h0
  rw [hk] at h1 h2
  exact ⟨k, hk, by omega, h2⟩
theorem dat_not {k : Int} (h : isData k) : ¬ isTok k ∧ k ≠ 5 ∧ ¬ isHs k := by unfold isData isTok isHs at *; omega
theorem hs_not {k : Int} (h : isHs k) : ¬ isTok k ∧ k ≠ 5 ∧ ¬ isData k := by unfold isHs isTok isData at *; omega
theorem tok_not {k : Int} (h : isTok k) : k ≠ 5 := by unfold isTok at h; omega

theorem back (p : Pk) (h : Okp p) : rd (text p) = (p, 0) := by
  obtain ⟨k, hk, hk16, hkn⟩ := kind_lt h
  obtain ⟨pk, pa, pe, pf, pd⟩ := p
  simp only at hk; subst hk
  unfold text
  simp only [Int.toNat_natCast]
  rw [rd_head k hk16 hkn]
  unfold rdRest rest
  rcases h with ⟨h, ha, ha', he, he', hf, hd⟩ | ⟨h, ha, he, hf, hf', hd⟩ | ⟨h, ha, he, hf, hd⟩ | ⟨h, ha, he, hf, hd⟩ <;> simp only at *
  · obtain ⟨a, rfl⟩ := Int.eq_ofNat_of_zero_le ha
    obtain ⟨e, rfl⟩ := Int.eq_ofNat_of_zero_le he
    subst hf hd
    simp only [Int.toNat_natCast]
    have hn : a + e * 128 < 2048 := by omega
    rw [if_pos (Or.inl h), if_pos h]
    unfold sealed'
    rw [num_word _ (seal_lt hn), word_len]
    have hs := five_lt (a + e * 128)
    have e1 : (a + e * 128 + five (a + e * 128) * 2048) / 2048 = five (a + e * 128) := by omega
    have e2 : (a + e * 128 + five (a + e * 128) * 2048) % 2048 = a + e * 128 := by omega
    rw [e1, e2, if_neg (by omega), if_neg (by omega), if_neg (by simp), if_neg (tok_not h)]
    have e3 : (a + e * 128 + five (a + e * 128) * 2048) % 128 = a := by omega
    have e4 : (a + e * 128 + five (a + e * 128) * 2048) / 128 % 16 = e := by omega
    rw [e3, e4]
  · obtain ⟨f, rfl⟩ := Int.eq_ofNat_of_zero_le hf
    subst ha he hd
    simp only [Int.toNat_natCast]
    have hn : f < 2048 := by omega
    have hnt : ¬ isTok (k : Int) := by rw [h]; decide
    rw [if_pos (Or.inr h), if_neg hnt, if_pos h]
    unfold sealed'
    rw [num_word _ (seal_lt hn), word_len]
    have hs := five_lt f
    have e1 : (f + five f * 2048) / 2048 = five f := by omega
    have e2 : (f + five f * 2048) % 2048 = f := by omega
    rw [e1, e2, if_neg (by omega), if_neg (by omega), if_neg (by simp), if_pos h, h]
  · subst ha he hf
    obtain ⟨h1, h2, h3⟩ := dat_not h
    rw [if_neg (by rintro (x | x); exact h1 x; exact h2 x), if_pos h, if_neg h1, if_neg h2, if_pos h]
    have hl : (pd ++ word (six pd)).length = pd.length + 2 := by rw [List.length_append, word_len]
    rw [hl, if_neg (by omega), if_neg (by omega), Nat.add_sub_cancel, List.drop_left, List.take_left, num_word _ (six_lt _), if_neg (by simp)]
  · subst ha he hf hd
    obtain ⟨h1, h2, h3⟩ := hs_not h
    rw [if_neg (by rintro (x | x); exact h1 x; exact h2 x), if_neg h3, if_neg h1, if_neg h2, if_neg h3, if_neg (by simp)]

theorem rdRest_one (k : Nat) (_hk : k < 16) (hg : isTok k ∨ isData k ∨ (k : Int) = 5 ∨ isHs k) (r : List UInt8) : (rdRest k r = (zero, (rdRest k r).2) ∧ (rdRest k r).2 ≠ 0) ∨ ((rdRest k r).2 = 0 ∧ Okp (rdRest k r).1 ∧ (rdRest k r).1.k = k ∧ rest (rdRest k r).1 = r) := by
  unfold rdRest
  by_cases h1 : isTok k ∨ (k : Int) = 5
  · rw [if_pos h1]
    by_cases h2 : r.length < 2
    · rw [if_pos h2]; exact Or.inl ⟨rfl, by decide⟩
    rw [if_neg h2]
    by_cases h3 : 2 < r.length
    · rw [if_pos h3]; exact Or.inl ⟨rfl, by decide⟩
    rw [if_neg h3]
    have hl : r.length = 2 := by omega
    by_cases h4 : num r / 2048 = five (num r % 2048)
    · rw [if_neg (by simpa using h4)]
      have hseal := seal_num hl h4
      by_cases h5 : (k : Int) = 5
      · rw [if_pos h5]
        refine Or.inr ⟨rfl, Or.inr (Or.inl ⟨rfl, rfl, rfl, ?_, ?_, rfl⟩), h5.symm, ?_⟩
        · simp only; omega
        · simp only; omega
        · unfold rest
          rw [if_neg (show ¬ isTok (5 : Int) by decide), if_pos rfl]
          show sealed' (((num r % 2048 : Nat) : Int)).toNat = r
          rw [Int.toNat_natCast]; exact hseal
      · rw [if_neg h5]
        have ht : isTok (k : Int) := h1.resolve_right h5
        refine Or.inr ⟨rfl, Or.inl ⟨ht, ?_, ?_, ?_, ?_, rfl, rfl⟩, rfl, ?_⟩ <;> (try (simp only; omega))
        unfold rest
        rw [if_pos ht]
        simp only [Int.toNat_natCast]
        rw [show num r % 128 + num r / 128 % 16 * 128 = num r % 2048 by omega]
        exact hseal
    · rw [if_pos h4]; exact Or.inl ⟨rfl, by decide⟩
  rw [if_neg h1]
  by_cases h2 : isData k
  · rw [if_pos h2]
    by_cases h3 : r.length < 2
    · rw [if_pos h3]; exact Or.inl ⟨rfl, by decide⟩
    rw [if_neg h3]
    by_cases h4 : 66 < r.length
    · rw [if_pos h4]; exact Or.inl ⟨rfl, by decide⟩
    rw [if_neg h4]
    by_cases h5 : num (r.drop (r.length - 2)) = six (r.take (r.length - 2))
    · rw [if_neg (by simpa using h5)]
      refine Or.inr ⟨rfl, Or.inr (Or.inr (Or.inl ⟨h2, rfl, rfl, rfl, ?_⟩)), rfl, ?_⟩
      · simp; omega
      · obtain ⟨d1, d2, d3⟩ := dat_not h2
        unfold rest
        rw [if_neg d1, if_neg d2, if_pos h2, ← h5]
        obtain ⟨a, b, hab⟩ := two_list (l := r.drop (r.length - 2)) (by simp; omega)
        rw [hab, word_num, ← hab, List.take_append_drop]
    · rw [if_pos h5]; exact Or.inl ⟨rfl, by decide⟩
  rw [if_neg h2]
  by_cases h3 : 0 < r.length
  · rw [if_pos h3]; exact Or.inl ⟨rfl, by decide⟩
  rw [if_neg h3]
  have hh : isHs (k : Int) := by
    rcases hg with h | h | h | h
    · exact absurd (Or.inl h) h1
    · exact absurd h h2
    · exact absurd (Or.inr h) h1
    · exact h
  refine Or.inr ⟨rfl, Or.inr (Or.inr (Or.inr ⟨hh, rfl, rfl, rfl, rfl⟩)), rfl, ?_⟩
  obtain ⟨d1, d2, d3⟩ := hs_not hh
  unfold rest
  rw [if_neg d1, if_neg d2, if_neg d3]
  have : r = [] := by cases r with
    | nil => rfl
    | cons _ _ => simp at h3
  exact this.symm
theorem head_of (b : UInt8) (h : 15 - b.toNat / 16 = b.toNat % 16) : head (b.toNat % 16) = b := by
  have hb := b.toNat_lt
  have : (head (b.toNat % 16)).toNat = b.toNat := by rw [head_toNat _ (by omega)]; omega
  exact UInt8.toNat_inj.1 this
theorem one (s : List UInt8) : (rd s = (zero, (rd s).2) ∧ (rd s).2 ≠ 0) ∨ ((rd s).2 = 0 ∧ Okp (rd s).1 ∧ text (rd s).1 = s) := by
  cases s with
  | nil => exact Or.inl ⟨rfl, by decide⟩
  | cons b r =>
    unfold rd
    simp only
    split
    · exact Or.inl ⟨rfl, by decide⟩
    · rename_i h
      have h1 : 15 - b.toNat / 16 = b.toNat % 16 := by
        cases Nat.decEq (15 - b.toNat / 16) (b.toNat % 16) with
        | isTrue e => exact e
        | isFalse e => exact absurd (Or.inl e) h
      have h2 : isTok (b.toNat % 16 : Nat) ∨ isData (b.toNat % 16 : Nat) ∨ ((b.toNat % 16 : Nat) : Int) = 5 ∨ isHs (b.toNat % 16 : Nat) := by
        refine Decidable.byContradiction fun e => h (Or.inr e)
      rcases rdRest_one (b.toNat % 16) (by omega) h2 r with h3 | ⟨h3, h4, h5, h6⟩
      · exact Or.inl h3
      · refine Or.inr ⟨h3, h4, ?_⟩
        unfold text
        rw [h5, h6, Int.toNat_natCast, head_of b h1]
theorem apart (p q : Pk) (hp : Okp p) (hq : Okp q) : text p = text q ↔ p = q := by
  constructor
  · intro h
    have h1 := back p hp; have h2 := back q hq
    rw [h, h2] at h1
    exact (Prod.mk.inj h1).1.symm
  · rintro rfl; rfl

/-! turned bits -/
theorem head_flip : ∀ k, k < 16 → ∀ i, i < 8 → 15 - (head k ^^^ UInt8.ofNat (1 <<< i)).toNat / 16 ≠ (head k ^^^ UInt8.ofNat (1 <<< i)).toNat % 16 := by decide +kernel
theorem rd_bad_head (b : UInt8) (r : List UInt8) (h : 15 - b.toNat / 16 ≠ b.toNat % 16) : rd (b :: r) = (zero, 4) := by
  unfold rd; simp only; rw [if_pos (Or.inl h)]
theorem turn_cons_lo (b : UInt8) (r : List UInt8) (i : Nat) (h : i < 8) : turnBit (b :: r) i = (b ^^^ UInt8.ofNat (1 <<< i)) :: r := by
  unfold turnBit
  have e1 : i / 8 = 0 := by omega
  have e2 : i % 8 = i := by omega
  rw [e1, e2]; rfl
theorem turn_cons_hi (b : UInt8) (r : List UInt8) (i : Nat) (h : 8 ≤ i) : turnBit (b :: r) i = b :: turnBit r (i - 8) := by
  unfold turnBit
  have e1 : i / 8 = (i - 8) / 8 + 1 := by omega
  have e2 : i % 8 = (i - 8) % 8 := by omega
  rw [e1, e2]; rfl
theorem u8_mod_xor (a i : Nat) (hi : i < 256) : UInt8.ofNat (a % 256) ^^^ UInt8.ofNat i = UInt8.ofNat ((a ^^^ i) % 256) := by
  apply UInt8.toNat_inj.1
  rw [UInt8.toNat_xor, of_lt (by omega), of_lt hi, of_lt (by omega)]
  have := Nat.xor_mod_two_pow (a := a) (b := i) (n := 8)
  rw [show (2 : Nat) ^ 8 = 256 from rfl] at this
  rw [this, Nat.mod_eq_of_lt hi]
theorem shl_lt8 {i : Nat} (h : i < 8) : 1 <<< i < 256 := by
  rw [Nat.shiftLeft_eq, Nat.one_mul]
  exact Nat.lt_of_le_of_lt (Nat.pow_le_pow_right (by omega) (show i ≤ 7 by omega)) (by decide)
theorem shl_lt16 {i : Nat} (h : i < 16) : 1 <<< i < 65536 := by
  rw [Nat.shiftLeft_eq, Nat.one_mul]
  exact Nat.lt_of_le_of_lt (Nat.pow_le_pow_right (by omega) (show i ≤ 15 by omega)) (by decide)
theorem word_turn (n i : Nat) (hn : n < 65536) (hi : i < 16) : turnBit (word n) i = word (n ^^^ (1 <<< i)) := by
  unfold turnBit word
  by_cases h : i < 8
  · have e1 : i / 8 = 0 := by omega
    have e2 : i % 8 = i := by omega
    rw [e1, e2]
    show [UInt8.ofNat (n % 256) ^^^ UInt8.ofNat (1 <<< i), UInt8.ofNat (n / 256)] = _
    rw [u8_mod_xor n _ (shl_lt8 h)]
    have : (n ^^^ (1 <<< i)) / 256 = n / 256 := by
      have := @Nat.shiftRight_xor_distrib 8 n (1 <<< i)
      simp only [Nat.shiftRight_eq_div_pow] at this
      rw [show (2 : Nat) ^ 8 = 256 from rfl] at this
      rw [this, Nat.div_eq_of_lt (shl_lt8 h), Nat.xor_zero]
    rw [this]
  · have e1 : i / 8 = 1 := by omega
    have e2 : i % 8 = i - 8 := by omega
    rw [e1, e2]
    show [UInt8.ofNat (n % 256), UInt8.ofNat (n / 256) ^^^ UInt8.ofNat (1 <<< (i - 8))] = _
    have hsh : 1 <<< i = (1 <<< (i - 8)) * 256 := by
      rw [Nat.shiftLeft_eq, Nat.shiftLeft_eq, Nat.one_mul, Nat.one_mul]
      have : i = (i - 8) + 8 := by omega
      rw [this, Nat.pow_add]; simp
    have h1 : (n ^^^ (1 <<< i)) % 256 = n % 256 := by
      have := Nat.xor_mod_two_pow (a := n) (b := 1 <<< i) (n := 8)
      rw [show (2 : Nat) ^ 8 = 256 from rfl] at this
      rw [this, hsh, Nat.mul_mod_left, Nat.xor_zero]
    have h2 : (n ^^^ (1 <<< i)) / 256 = n / 256 ^^^ (1 <<< (i - 8)) := by
      have := @Nat.shiftRight_xor_distrib 8 n (1 <<< i)
      simp only [Nat.shiftRight_eq_div_pow] at this
      rw [show (2 : Nat) ^ 8 = 256 from rfl] at this
      rw [this]; congr 1; rw [hsh]; omega
    rw [h1, h2]
    congr 2
    have := u8_mod_xor (n / 256) (1 <<< (i - 8)) (shl_lt8 (by omega))
    rw [Nat.mod_eq_of_lt (by omega : n / 256 < 256)] at this
    rw [this]
    have hx : n / 256 ^^^ (1 <<< (i - 8)) < 256 := xor_lt (k := 8) (by omega) (shl_lt8 (by omega))
    rw [Nat.mod_eq_of_lt hx]
/-- a token's text, or a frame's number's, of which one bit or two were turned: its sum does not fit -/
theorem seal_bad (k n i j : Nat) (hk : isTok k ∨ (k : Int) = 5) (hn : n < 2048) (hi : i < 16) (hj : j < 16) (e : Nat) (he : e = if i = j then 1 <<< i else (1 <<< i) ^^^ (1 <<< j)) (r : List UInt8)
    (hr : r = word ((n + five n * 2048) ^^^ e)) : rdRest k r = (zero, 5) := by
  have he' : e < 65536 := by
    rw [he]; split
    · exact shl_lt16 hi
    · exact xor_lt (k := 16) (shl_lt16 hi) (shl_lt16 hj)
  have hx : (n + five n * 2048) ^^^ e < 65536 := xor_lt (k := 16) (seal_lt hn) he'
  have := two_law n i j e hn hi hj he
  subst hr
  unfold rdRest
  rw [if_pos hk, word_len, if_neg (by omega), if_neg (by omega), num_word _ hx, if_pos this.symm]
/-- data whose rest has another sum than the one that is always there -/
theorem data_bad (k : Nat) (hk : isData k) (r : List UInt8) (h1 : 2 ≤ r.length) (h2 : r.length ≤ 66) (h : six r ≠ 20478) : rdRest k r = (zero, 5) := by
  obtain ⟨d1, d2, d3⟩ := dat_not hk
  unfold rdRest
  rw [if_neg (by rintro (x | x); exact d1 x; exact d2 x), if_pos hk, if_neg (by omega), if_neg (by omega), if_pos]
  intro hs
  apply h
  obtain ⟨a, b, hab⟩ := two_list (l := r.drop (r.length - 2)) (by simp; omega)
  have hr : r = r.take (r.length - 2) ++ [a, b] := by rw [← hab, List.take_append_drop]
  have hn : num (r.drop (r.length - 2)) = a.toNat + b.toNat * 256 := by rw [hab]; rfl
  have ha := a.toNat_lt; have hb := b.toNat_lt
  rw [hr]
  apply rest_law
  · rw [← hs, hn]; omega
  · rw [← hs, hn]; omega
theorem data_sum (p : Pk) (h : isData p.k) : six (rest p) = 20478 := by
  obtain ⟨d1, d2, d3⟩ := dat_not h
  unfold rest
  rw [if_neg d1, if_neg d2, if_pos h]
  have := six_lt p.d
  exact rest_law p.d _ _ (of_lt (by omega)) (of_lt (by omega))
theorem data_len (p : Pk) (hg : Okp p) (h : isData p.k) : (rest p).length = p.d.length + 2 ∧ p.d.length ≤ 64 := by
  obtain ⟨d1, d2, d3⟩ := dat_not h
  refine ⟨?_, ?_⟩
  · unfold rest; rw [if_neg d1, if_neg d2, if_pos h, List.length_append, word_len]
  · rcases hg with ⟨g, _⟩ | ⟨g, _⟩ | ⟨_, _, _, _, g⟩ | ⟨g, _⟩
    · exact absurd g d1
    · exact absurd g d2
    · exact g
    · exact absurd g d3
/-- the rest of a token, of a frame's number -/
theorem seal_rest (p : Pk) (hg : Okp p) (h : isTok p.k ∨ p.k = 5) : ∃ n, n < 2048 ∧ rest p = sealed' n := by
  rcases h with h | h
  · rcases hg with ⟨_, a0, a1, e0, e1, _⟩ | ⟨g, _⟩ | ⟨g, _⟩ | ⟨g, _⟩
    · exact ⟨p.a.toNat + p.e.toNat * 128, by omega, by unfold rest; rw [if_pos h]⟩
    · exact absurd g (tok_not h)
    · exact absurd h (dat_not g).1
    · exact absurd h (hs_not g).1
  · rcases hg with ⟨g, _⟩ | ⟨_, _, _, f0, f1, _⟩ | ⟨g, _⟩ | ⟨g, _⟩
    · exact absurd h (tok_not g)
    · exact ⟨p.f.toNat, by omega, by unfold rest; rw [if_neg (by rw [h]; decide), if_pos h]⟩
    · exact absurd h (dat_not g).2.1
    · exact absurd h (hs_not g).2.1
theorem burst_one (r : List UInt8) (i : Nat) (hi : i < 8 * r.length) : six (turnBit r i) ≠ six r := by
  refine burst_law r (turnBit r i) i 1 (turn_len _ _) hi (by omega) (by omega) ?_ ?_
  · intro k _ hk
    have : k = 0 := by
      rw [Nat.testBit_one_eq_true_iff_self_eq_zero] at hk; exact hk
    omega
  · intro j hj
    rw [turn_bit r i hi]
    congr 1
    rw [Bool.eq_iff_iff]
    simp only [beq_iff_eq, Bool.and_eq_true, decide_eq_true_eq, Nat.testBit_one_eq_true_iff_self_eq_zero]
    omega
theorem flip (p : Pk) (hg : Okp p) (i : Nat) (hi : i < 8 * (text p).length) : (rd (turnBit (text p) i)).2 = 4 ∨ (8 ≤ i ∧ (rd (turnBit (text p) i)).2 = 5) := by
  obtain ⟨k, hk, hk16, hkn⟩ := kind_lt hg
  unfold text at *
  rw [hk, Int.toNat_natCast] at hi ⊢
  by_cases h8 : i < 8
  · left
    rw [turn_cons_lo _ _ _ h8, rd_bad_head _ _ (head_flip k hk16 i h8)]
  · right
    refine ⟨by omega, ?_⟩
    rw [turn_cons_hi _ _ _ (by omega), rd_head k hk16 hkn]
    have hi2 : i - 8 < 8 * (rest p).length := by rw [List.length_cons] at hi; omega
    rcases hkn with h | h | h | h
    · obtain ⟨n, hn, hr⟩ := seal_rest p hg (Or.inl (by rw [hk]; exact h))
      rw [hr] at hi2 ⊢
      unfold sealed' at *
      rw [word_len] at hi2
      rw [seal_bad k n (i - 8) (i - 8) (Or.inl h) hn (by omega) (by omega) (1 <<< (i - 8)) (by rw [if_pos rfl]) _ (word_turn _ _ (seal_lt hn) (by omega))]
    · obtain ⟨hl, hl2⟩ := data_len p hg (by rw [hk]; exact h)
      rw [data_bad k h _ (by rw [turn_len]; omega) (by rw [turn_len]; omega)]
      have h1 := burst_one (rest p) (i - 8) hi2
      rwa [data_sum p (by rw [hk]; exact h)] at h1
    · obtain ⟨n, hn, hr⟩ := seal_rest p hg (Or.inr (by rw [hk]; exact h))
      rw [hr] at hi2 ⊢
      unfold sealed' at *
      rw [word_len] at hi2
      rw [seal_bad k n (i - 8) (i - 8) (Or.inr h) hn (by omega) (by omega) (1 <<< (i - 8)) (by rw [if_pos rfl]) _ (word_turn _ _ (seal_lt hn) (by omega))]
    · obtain ⟨d1, d2, d3⟩ := hs_not h
      have : rest p = [] := by unfold rest; rw [hk, if_neg d1, if_neg d2, if_neg d3]
      rw [this] at hi2; simp at hi2
theorem two (p : Pk) (hg : Okp p) (i j : Nat) (hij : i < j) (hj : j < 16) (hl : (text p).length = 3) (hd : ¬ isData p.k) : (rd (turnBit (turnBit (text p) (8 + i)) (8 + j))).2 = 5 := by
  obtain ⟨k, hk, hk16, hkn⟩ := kind_lt hg
  unfold text at *
  rw [hk, Int.toNat_natCast] at hl ⊢
  rw [turn_cons_hi _ _ _ (by omega), turn_cons_hi _ _ _ (by omega), rd_head k hk16 hkn, Nat.add_sub_cancel_left, Nat.add_sub_cancel_left]
  have hts : isTok k ∨ (k : Int) = 5 := by
    rcases hkn with h | h | h | h
    · exact Or.inl h
    · exact absurd (by rw [hk]; exact h) hd
    · exact Or.inr h
    · obtain ⟨d1, d2, d3⟩ := hs_not h
      have : rest p = [] := by unfold rest; rw [hk, if_neg d1, if_neg d2, if_neg d3]
      rw [this] at hl; simp at hl
  obtain ⟨n, hn, hr⟩ := seal_rest p hg (by rw [hk]; exact hts)
  rw [hr]
  unfold sealed'
  have h1 := seal_lt hn
  rw [word_turn _ _ h1 (by omega), word_turn _ _ (xor_lt (k := 16) h1 (shl_lt16 (by omega))) hj,
    seal_bad k n i j hts hn (by omega) hj ((1 <<< i) ^^^ (1 <<< j)) (by rw [if_neg (by omega)]) _ (by rw [Nat.xor_assoc])]
/-- data of which something behind the first byte has turned the sum of the rest -/
theorem data_rd (p : Pk) (hg : Okp p) (h : isData p.k) (r : List UInt8) (hl : r.length = (rest p).length) (hs : six r ≠ six (rest p)) : (rd (head p.k.toNat :: r)).2 = 5 := by
  obtain ⟨k, hk, hk16, hkn⟩ := kind_lt hg
  obtain ⟨h1, h2⟩ := data_len p hg h
  rw [data_sum p h] at hs
  rw [hk, Int.toNat_natCast, rd_head k hk16 hkn, data_bad k (by rw [← hk]; exact h) r (by omega) (by omega) hs]
theorem text_len (p : Pk) (h : Okp p) : (text p).length ≤ 67 := by
  obtain ⟨k, hk, _, hkn⟩ := kind_lt h
  unfold text
  rw [List.length_cons]
  rcases hkn with hx | hx | hx | hx
  · obtain ⟨n, _, hr⟩ := seal_rest p h (Or.inl (by rw [hk]; exact hx))
    rw [hr]; unfold sealed'; rw [word_len]; omega
  · have := data_len p h (by rw [hk]; exact hx); omega
  · obtain ⟨n, _, hr⟩ := seal_rest p h (Or.inr (by rw [hk]; exact hx))
    rw [hr]; unfold sealed'; rw [word_len]; omega
  · obtain ⟨d1, d2, d3⟩ := hs_not hx
    have : rest p = [] := by unfold rest; rw [hk, if_neg d1, if_neg d2, if_neg d3]
    rw [this]; simp
end Go.Proofs.YtmnmlnnhngnfbaaDoor.PktP
