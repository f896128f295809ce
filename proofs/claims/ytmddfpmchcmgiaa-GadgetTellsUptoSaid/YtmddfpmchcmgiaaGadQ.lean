/- Devices that answer, plainly: halts, requests. -/
import Derived.Test.YtmddfpmchcmgiaaGadP
import Derived.Test.YtmddfpmchcmgiaaSetQ
namespace Go.Proofs.Ytmddfpmchcmgiaa.Gad
open Go.RowKit Go.Proofs.Ytmddfpmchcmgiaa.Dsc Go.Proofs.Ytmddfpmchcmgiaa Go.Proofs.Ytmddfpmchcmgiaa.Utf
def kOf (e : Int) : Nat := (e % 16).toNat + (if 128 ≤ e then 16 else 0)
def clrN (n k : Nat) : Nat := n &&& (18446744073709551615 - 2 ^ k)
def setN (n k : Nat) : Nat := clrN n k ||| 2 ^ k
theorem mask_bit (k j : Nat) (hk : k < 64) : (18446744073709551615 - 2 ^ k).testBit j = (decide (j < 64) && !decide (k = j)) := by
  have h1 : (2 : Nat) ^ k < 2 ^ 64 := Nat.pow_lt_pow_right (by decide) hk
  have e : 18446744073709551615 - 2 ^ k = 2 ^ 64 - (2 ^ k + 1) := by omega
  rw [e, Nat.testBit_two_pow_sub_succ h1, Nat.testBit_two_pow]
theorem clr_bit (n k j : Nat) (hn : n < 18446744073709551616) (hk : k < 64) : (clrN n k).testBit j = (n.testBit j && !decide (k = j)) := by
  unfold clrN
  rw [Nat.testBit_and, mask_bit k j hk]
  by_cases h : j < 64
  · simp [h]
  · have : n.testBit j = false := Nat.testBit_lt_two_pow (Nat.lt_of_lt_of_le (show n < 2 ^ 64 from hn) (Nat.pow_le_pow_right (by decide) (by omega)))
    simp [this]
theorem set_bit (n k j : Nat) (hn : n < 18446744073709551616) (hk : k < 64) : (setN n k).testBit j = (n.testBit j || decide (k = j)) := by
  unfold setN
  rw [Nat.testBit_or, clr_bit n k j hn hk, Nat.testBit_two_pow]
  by_cases h : k = j <;> simp [h]
theorem clr_lt (n k : Nat) (hn : n < 4294967296) : clrN n k < 4294967296 := Nat.lt_of_le_of_lt Nat.and_le_left hn
theorem set_lt (n k : Nat) (hn : n < 4294967296) (hk : k < 32) : setN n k < 4294967296 := by
  have h1 : (2 : Nat) ^ k < 2 ^ 32 := Nat.pow_lt_pow_right (by decide) hk
  exact Nat.or_lt_two_pow (n := 32) (clr_lt n k hn) h1
theorem kOf_lt {e : Int} (_h : (0 ≤ e ∧ e ≤ 15) ∨ (128 ≤ e ∧ e ≤ 143)) : kOf e < 32 := by unfold kOf; split <;> omega
def haltd (s : Sh) (g : Gd) (e : Int) (on : Bool) : Gd × Int :=
  if g.st = 2 ∧ has s e = true then (⟨g.st, g.ad, ((if on then setN g.ha.toNat (kOf e) else clrN g.ha.toNat (kOf e) : Nat) : Int)⟩, 0) else (g, 8)
/-- a request done -/
def dod (s : Sh) (g : Gd) (k v i l : Int) : Gd × List UInt8 × Int :=
  if k = 1 then (g, [0, 0], 0)
  else if k = 5 then (g, (descr s v).1.take l.toNat, (descr s v).2)
  else if k = 4 then (if g.st = 2 then (g, [], 8) else (⟨min 1 v, v, g.ha⟩, [], 0))
  else if k = 6 then ((conf s g v).1, [], (conf s g v).2)
  else if k = 7 then (if g.st = 0 then (g, [], 8) else if g.st = 1 then (g, [0], 0) else (g, [UInt8.ofNat s.cfg.va.toNat], 0))
  else ((haltd s g i (k == 3)).1, [], (haltd s g i (k == 3)).2)
/-- Control, of an ask that was read as r (none: an error) -/
def ctl (s : Sh) (g : Gd) (r : Option (Int × Int × Int × Int)) : Gd × List UInt8 × Int :=
  if chk s ≠ 0 then (g, [], chk s)
  else if gOk g = false then (g, [], 1)
  else match r with
    | none => (g, [], 8)
    | some (k, v, i, l) => if 8 ≤ k then (g, [], 12) else if (dod s g k v i l).2.2 ≠ 0 then (g, [], (dod s g k v i l).2.2) else dod s g k v i l
end Go.Proofs.Ytmddfpmchcmgiaa.Gad
