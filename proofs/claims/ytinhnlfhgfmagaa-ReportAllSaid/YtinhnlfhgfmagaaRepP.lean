/- Items of a report's text, plainly. -/
import Derived.Test.YtinhnlfhgfmagaaKit
namespace Go.Proofs.Ytinhnlfhgfmagaa.Rep
open Go.RowKit
/-- bytes as a number, the lower first -/
def leN : List UInt8 → Nat
  | [] => 0
  | b :: r => b.toNat + 256 * leN r
def long (b : UInt8) : Nat := if b.toNat % 4 = 3 then 4 else b.toNat % 4
/-- as a number with a sign -/
def sgn (l : List UInt8) : Int := if 2 * leN l < 256 ^ l.length then (leN l : Int) else (leN l : Int) - ((256 ^ l.length : Nat) : Int)
inductive Reads : List UInt8 → List (Int × Int) → Prop
  | nil : Reads [] []
  | cons (b : UInt8) (bs r : List UInt8) (m : List (Int × Int)) (hb : bs.length = long b) (h : Reads r m) : Reads (b :: (bs ++ r)) ((((b.toNat / 4 : Nat) : Int), sgn bs) :: m)
theorem Reads.append {s t : List UInt8} {a b : List (Int × Int)} (h : Reads s a) (g : Reads t b) : Reads (s ++ t) (a ++ b) := by
  induction h with
  | nil => exact g
  | cons x bs r m hb _ ih =>
    show Reads (x :: ((bs ++ r) ++ t)) (_ :: (m ++ b))
    rw [List.append_assoc]
    exact Reads.cons x bs (r ++ t) (m ++ b) hb ih
theorem Reads.cancel {p : List UInt8} {o : List (Int × Int)} (h : Reads p o) : ∀ {r : List UInt8} {m : List (Int × Int)}, Reads (p ++ r) m → ∃ k, m = o ++ k ∧ Reads r k := by
  induction h with
  | nil => intro r m g; exact ⟨m, rfl, g⟩
  | cons x bs q n hb _ ih =>
    intro r m g
    have e : x :: (bs ++ q) ++ r = x :: (bs ++ (q ++ r)) := by simp
    rw [e] at g
    generalize hz : x :: (bs ++ (q ++ r)) = z at g
    cases g with
    | nil => cases hz
    | cons x' bs' r' m' hb' g' =>
      obtain ⟨rfl, hz2⟩ := List.cons.inj hz
      obtain ⟨rfl, rfl⟩ := List.append_inj hz2 (by rw [hb, hb'])
      obtain ⟨k, rfl, hk⟩ := ih g'
      exact ⟨k, rfl, hk⟩
theorem Reads.one {s : List UInt8} {a b : List (Int × Int)} (h : Reads s a) (g : Reads s b) : a = b := by
  obtain ⟨k, e, hk⟩ := h.cancel (r := []) (m := b) (by rw [List.append_nil]; exact g)
  cases hk
  rw [e, List.append_nil]
theorem Reads.step {p : List UInt8} {o : List (Int × Int)} (h : Reads p o) (b : UInt8) (bs : List UInt8) (hb : bs.length = long b) : Reads (p ++ b :: bs) (o ++ [(((b.toNat / 4 : Nat) : Int), sgn bs)]) := by
  have := h.append (Reads.cons b bs [] [] hb .nil)
  rw [List.append_nil] at this
  exact this
theorem Reads.no {b : UInt8} {t : List UInt8} {m : List (Int × Int)} (h : t.length < long b) (g : Reads (b :: t) m) : False := by
  generalize hz : b :: t = z at g
  cases g with
  | nil => cases hz
  | cons b' bs r m hb _ =>
    obtain ⟨rfl, rfl⟩ := List.cons.inj hz
    simp at h; omega
theorem Reads.more {b : UInt8} {t : List UInt8} {m : List (Int × Int)} (g : Reads (b :: t) m) : 0 < m.length := by
  generalize hz : b :: t = z at g
  cases g with
  | nil => cases hz
  | cons _ _ _ _ _ _ => simp
def okI (x : Int × Int) : Prop := (0 ≤ x.1 ∧ x.1 ≤ 63) ∧ -2147483648 ≤ x.2 ∧ x.2 < 2147483648
theorem leN_lt : ∀ l : List UInt8, leN l < 256 ^ l.length
  | [] => by simp [leN]
  | b :: r => by
    have := leN_lt r
    have hb := b.toNat_lt
    simp only [leN, List.length_cons, Nat.pow_succ]
    omega
theorem long_cases (b : UInt8) : long b = 0 ∨ long b = 1 ∨ long b = 2 ∨ long b = 4 := by
  unfold long; split <;> omega
theorem sgn_bd (l : List UInt8) (h : l.length = 0 ∨ l.length = 1 ∨ l.length = 2 ∨ l.length = 4) : -2147483648 ≤ sgn l ∧ sgn l < 2147483648 := by
  have := leN_lt l
  unfold sgn
  rcases h with h | h | h | h <;> (rw [h] at this ⊢; split <;> omega)
theorem Reads.ok {s : List UInt8} {m : List (Int × Int)} (h : Reads s m) : ∀ x ∈ m, okI x := by
  induction h with
  | nil => intro x hx; cases hx
  | cons b bs r m hb _ ih =>
    intro x hx
    rcases List.mem_cons.1 hx with rfl | hx
    · have := b.toNat_lt
      exact ⟨by dsimp only; omega, sgn_bd bs (by rw [hb]; exact long_cases b)⟩
    · exact ih x hx
/-- how a value is written: a code, and how many bytes -/
def code (v : Int) : Nat := if v = 0 then 0 else if -128 ≤ v ∧ v < 128 then 1 else if -32768 ≤ v ∧ v < 32768 then 2 else 3
def size (v : Int) : Nat := if v = 0 then 0 else if -128 ≤ v ∧ v < 128 then 1 else if -32768 ≤ v ∧ v < 32768 then 2 else 4
def leB : Nat → Int → List UInt8
  | 0, _ => []
  | n + 1, v => UInt8.ofNat (v % 256).toNat :: leB n (v / 256)
theorem leB_len : ∀ (n : Nat) (v : Int), (leB n v).length = n
  | 0, _ => rfl
  | n + 1, v => by simp [leB, leB_len n]
theorem leB_at : ∀ (n : Nat) (v : Int) (i : Nat) (h : i < n), (leB n v)[i]'(by rw [leB_len]; exact h) = UInt8.ofNat (v / 256 ^ i % 256).toNat
  | n + 1, v, 0, _ => by simp [leB]
  | n + 1, v, i + 1, h => by
    simp only [leB, List.getElem_cons_succ]
    rw [leB_at n (v / 256) i (by omega), Int.ediv_ediv_of_nonneg (by omega), Int.pow_succ, Int.mul_comm]
def enc (x : Int × Int) : List UInt8 := UInt8.ofNat (x.1 * 4 + code x.2).toNat :: leB (size x.2) x.2
def encs (l : List (Int × Int)) : List UInt8 := l.flatMap enc
theorem long_enc (k : Int) (h : 0 ≤ k ∧ k ≤ 63) (v : Int) : long (UInt8.ofNat (k * 4 + code v).toNat) = size v ∧ ((UInt8.ofNat (k * 4 + code v).toNat).toNat / 4 : Nat) = k.toNat := by
  have hc : code v ≤ 3 := by unfold code; split; omega; split; omega; split <;> omega
  have e : (UInt8.ofNat (k * 4 + code v).toNat).toNat = (k * 4 + code v).toNat := by simp; omega
  refine ⟨?_, by rw [e]; omega⟩
  unfold long size
  rw [e]
  unfold code
  by_cases h0 : v = 0
  · simp only [h0, if_true]; split <;> omega
  · simp only [h0, if_false]
    by_cases h1 : -128 ≤ v ∧ v < 128
    · simp only [h1, and_self, if_true]; split <;> omega
    · simp only [h1, if_false]
      by_cases h2 : -32768 ≤ v ∧ v < 32768
      · simp only [h2, and_self, if_true]; split <;> omega
      · simp only [h2, if_false]; split <;> omega
theorem sgn_leB (v : Int) (h : -2147483648 ≤ v ∧ v < 2147483648) : sgn (leB (size v) v) = v := by
  unfold size
  by_cases h0 : v = 0
  · subst h0; decide
  · rw [if_neg h0]
    by_cases h1 : -128 ≤ v ∧ v < 128
    · rw [if_pos h1]
      simp only [sgn, leB, leN, List.length_cons, List.length_nil, UInt8.toNat_ofNat']
      split <;> omega
    · rw [if_neg h1]
      by_cases h2 : -32768 ≤ v ∧ v < 32768
      · rw [if_pos h2]
        simp only [sgn, leB, leN, List.length_cons, List.length_nil, UInt8.toNat_ofNat']
        split <;> omega
      · rw [if_neg h2]
        simp only [sgn, leB, leN, List.length_cons, List.length_nil, UInt8.toNat_ofNat']
        split <;> omega
theorem reads_enc (x : Int × Int) (h : okI x) {r : List UInt8} {m : List (Int × Int)} (g : Reads r m) : Reads (enc x ++ r) (x :: m) := by
  obtain ⟨k, v⟩ := x
  obtain ⟨h1, h2⟩ := h
  obtain ⟨e1, e2⟩ := long_enc k h1 v
  have := Reads.cons (UInt8.ofNat (k * 4 + code v).toNat) (leB (size v) v) r m (by rw [leB_len, e1]) g
  rw [e2, sgn_leB v h2] at this
  have ek : ((k.toNat : Nat) : Int) = k := by dsimp only at h1; omega
  rw [ek] at this
  exact this
theorem reads_encs : ∀ (l : List (Int × Int)), (∀ x ∈ l, okI x) → Reads (encs l) l
  | [], _ => .nil
  | x :: l, h => by
    have := reads_enc x (h x (List.mem_cons_self)) (reads_encs l (fun y hy => h y (List.mem_cons_of_mem _ hy)))
    exact this
theorem size_le (l : List UInt8) (h : l.length = 0 ∨ l.length = 1 ∨ l.length = 2 ∨ l.length = 4) : size (sgn l) ≤ l.length := by
  have hl := leN_lt l
  unfold size sgn
  rcases h with h | h | h | h <;> rw [h] at hl ⊢
  · simp at hl; simp [hl]
  all_goals (split <;> split <;> (try omega) <;> split <;> (try omega) <;> split <;> omega)
theorem encs_le {s : List UInt8} {m : List (Int × Int)} (h : Reads s m) : (encs m).length ≤ s.length := by
  induction h with
  | nil => simp [encs]
  | cons b bs r m hb _ ih =>
    have := size_le bs (by rw [hb]; exact long_cases b)
    simp only [encs, List.flatMap_cons, List.length_append, List.length_cons] at ih ⊢
    simp only [enc, List.length_cons, leB_len]
    omega
theorem encs_snoc (l : List (Int × Int)) (x : Int × Int) : encs (l ++ [x]) = encs l ++ enc x := by simp [encs]
end Go.Proofs.Ytinhnlfhgfmagaa.Rep
