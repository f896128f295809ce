/- Disks, plainly: what a command does. -/
import Derived.Test.YtafiedhjjnapoaaKit
namespace Go.Proofs.Ytafiedhjjnapoaa.Scs
/-- the i-th byte -/
def bt (s : ByteArray) (i : Nat) : Nat := (s.data.toList.getD i 0).toNat
theorem bt_lt (s : ByteArray) (i : Nat) : bt s i < 256 := by unfold bt; exact UInt8.toNat_lt _
theorem bt_get (s : ByteArray) (i : Nat) (h : i < s.size) : bt s i = (s[i]).toNat := by
  unfold bt
  rw [List.getD_eq_getElem?_getD, Array.getElem?_toList, Array.getElem?_eq_getElem h]; rfl
/-- is a disk right? -/
structure OkD (bs : List ByteArray) (s : Int) : Prop where
  n1 : 1 ≤ bs.length
  n2 : bs.length ≤ 64
  sz : ∀ b ∈ bs, b.size = 16
  sn : s = 0 ∨ s = 32 ∨ s = 33 ∨ s = 36
open Classical in
noncomputable def chkD (bs : List ByteArray) (s : Int) : Int := if bs.length < 1 ∨ 64 < bs.length then 1 else if OkD bs s then 0 else 4
theorem chkD_ok {bs : List ByteArray} {s : Int} : chkD bs s = 0 ↔ OkD bs s := by
  unfold chkD
  constructor
  · intro h
    split at h
    · cases h
    · split at h
      · assumption
      · cases h
  · intro h
    rw [if_neg (by have := h.n1; have := h.n2; omega), if_pos h]
/-- which bytes of a command may be other than 0 -/
def used (op : Nat) : Option (List Nat) :=
  if op = 0 ∨ op = 37 then some [] else if op = 3 ∨ op = 18 then some [4] else if op = 26 then some [2, 4]
  else if op = 40 ∨ op = 42 ∨ op = 53 then some [2, 3, 4, 5, 7, 8] else none
def clen (op : Nat) : Nat := if op < 32 then 6 else 10
/-- with what sense a command's form fails: 0, it does not -/
def formC (c : ByteArray) : Int :=
  if c.size = 0 then 32 else match used (bt c 0) with
  | none => 32
  | some u => if c.size ≠ clen (bt c 0) then 36 else if ∃ i, i < c.size ∧ 1 ≤ i ∧ bt c i ≠ 0 ∧ i ∉ u then 36 else if bt c 0 = 26 ∧ bt c 2 ≠ 63 then 36 else 0
def lba (c : ByteArray) : Nat := bt c 2 * 16777216 + bt c 3 * 65536 + bt c 4 * 256 + bt c 5
def cnt (c : ByteArray) : Nat := bt c 7 * 256 + bt c 8
def first (s : ByteArray) (n : Nat) : ByteArray := s.extract 0 (min s.size n)
def senseT (s : Int) : ByteArray := ⟨#[112, 0, if s = 0 then 0 else 5, 0, 0, 0, 0, 10, 0, 0, 0, 0, UInt8.ofNat s.toNat, 0, 0, 0, 0, 0]⟩
def inqT : ByteArray := ⟨#[0, 128, 4, 2, 31, 0, 0, 0, 112, 108, 117, 103, 116, 114, 101, 101, 100, 105, 115, 107, 32, 32, 32, 32, 32, 32, 32, 32, 32, 32, 32, 32, 49, 32, 32, 32]⟩
def modeT : ByteArray := ⟨#[3, 0, 0, 0]⟩
/-- a number in four bytes, the high ones first -/
def four (n : Nat) : ByteArray := ⟨#[UInt8.ofNat (n / 16777216), UInt8.ofNat (n / 65536), UInt8.ofNat (n / 256), UInt8.ofNat n]⟩
def joinS (l : List ByteArray) : ByteArray := l.foldl (· ++ ·) ByteArray.empty
/-- the i-th piece of sixteen bytes -/
def piece (d : ByteArray) (i : Nat) : ByteArray := d.extract (i * 16) (i * 16 + 16)
def putB (bs : List ByteArray) (a : Nat) (d : ByteArray) (n : Nat) : List ByteArray := bs.take a ++ (List.range n).map (piece d) ++ bs.drop (a + n)
/-- what a command answers: why it fails, or the blocks and the text -/
def ans (bs : List ByteArray) (s : Int) (c d : ByteArray) : Except Int (List ByteArray × ByteArray) :=
  if formC c ≠ 0 then .error (formC c)
  else if bt c 0 = 0 then .ok (bs, ByteArray.empty)
  else if bt c 0 = 3 then .ok (bs, first (senseT s) (bt c 4))
  else if bt c 0 = 18 then .ok (bs, first inqT (bt c 4))
  else if bt c 0 = 26 then .ok (bs, first modeT (bt c 4))
  else if bt c 0 = 37 then .ok (bs, four (bs.length - 1) ++ four 16)
  else if bs.length < lba c + cnt c then .error 33
  else if bt c 0 = 40 then .ok (bs, joinS ((bs.drop (lba c)).take (cnt c)))
  else if bt c 0 = 42 then (if d.size = cnt c * 16 then .ok (putB bs (lba c) d (cnt c), ByteArray.empty) else .error 36)
  else .ok (bs, ByteArray.empty)
/-- what Do does: the blocks, the sense, the text, the code -/
noncomputable def did (bs : List ByteArray) (s : Int) (c d : ByteArray) : List ByteArray × Int × ByteArray × Int :=
  if chkD bs s ≠ 0 then (bs, s, ByteArray.empty, chkD bs s) else match ans bs s c d with
  | .error f => (bs, f, ByteArray.empty, 14)
  | .ok (b, o) => (b, 0, o, 0)
theorem formC_vals (c : ByteArray) : formC c = 0 ∨ formC c = 32 ∨ formC c = 36 := by
  unfold formC
  split
  · exact .inr (.inl rfl)
  · split
    · exact .inr (.inl rfl)
    · split
      · exact .inr (.inr rfl)
      · split
        · exact .inr (.inr rfl)
        · split
          · exact .inr (.inr rfl)
          · exact .inl rfl
theorem ans_err {bs : List ByteArray} {s : Int} {c d : ByteArray} {f : Int} (h : ans bs s c d = .error f) : f = 32 ∨ f = 33 ∨ f = 36 := by
  unfold ans at h
  split at h
  · next hf =>
    simp only [Except.error.injEq] at h
    rcases formC_vals c with e | e | e
    · exact absurd e hf
    · exact .inl (by omega)
    · exact .inr (.inr (by omega))
  · repeat' split at h
    all_goals (simp only [Except.error.injEq, reduceCtorEq] at h)
    · exact .inr (.inl (by omega))
    · exact .inr (.inr (by omega))
end Go.Proofs.Ytafiedhjjnapoaa.Scs
