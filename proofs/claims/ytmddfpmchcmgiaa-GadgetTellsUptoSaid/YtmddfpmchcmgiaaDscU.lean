/- Devices, plainly. -/
import Derived.Test.YtmddfpmchcmgiaaDscD
namespace Go.Proofs.Ytmddfpmchcmgiaa.Dsc
structure Dv where
  usb : Int
  cls : Int
  sub : Int
  pro : Int
  m0 : Int
  ven : Int
  prd : Int
  rel : Int
  mak : Int
  nam : Int
  ser : Int
  cfs : Int
deriving DecidableEq
def isW (n : Int) : Prop := 0 ≤ n ∧ n ≤ 65535
instance (n : Int) : Decidable (isW n) := by unfold isW; exact inferInstance
def okS (n : Int) : Prop := n = 8 ∨ n = 16 ∨ n = 32 ∨ n = 64
instance (n : Int) : Decidable (okS n) := by unfold okS; exact inferInstance
def okD (d : Dv) : Prop := (isB d.cls ∧ isB d.sub ∧ isB d.pro ∧ isB d.mak ∧ isB d.nam ∧ isB d.ser) ∧ (isW d.usb ∧ isW d.ven ∧ isW d.prd ∧ isW d.rel) ∧ okS d.m0 ∧ 1 ≤ d.cfs ∧ d.cfs ≤ 255
instance (d : Dv) : Decidable (okD d) := by unfold okD; exact inferInstance
def wordT (n : Int) : List UInt8 := putB [n, n / 256]
def devT (d : Dv) : List UInt8 := putB [18, 1] ++ wordT d.usb ++ putB [d.cls, d.sub, d.pro, d.m0] ++ wordT d.ven ++ wordT d.prd ++ wordT d.rel ++ putB [d.mak, d.nam, d.ser, d.cfs]
def wDev (d : Dv) : List UInt8 × Int := if okD d then (devT d, 0) else ([], 1)
def zeroD : Dv := ⟨0, 0, 0, 0, 0, 0, 0, 0, 0, 0, 0, 0⟩
def devOf (s : List UInt8) : Dv := ⟨at' s 2 + 256 * at' s 3, at' s 4, at' s 5, at' s 6, at' s 7, at' s 8 + 256 * at' s 9, at' s 10 + 256 * at' s 11, at' s 12 + 256 * at' s 13, at' s 14, at' s 15, at' s 16, at' s 17⟩
def rDev (s : List UInt8) : Dv × Int := if s.length < 18 then (zeroD, 3) else if wDev (devOf s) = (s, 0) then (devOf s, 0) else (zeroD, 4)
theorem devT_len (d : Dv) : (devT d).length = 18 := rfl
theorem dev_of {d : Dv} (h : okD d) : devOf (devT d) = d := by
  obtain ⟨⟨h1, h2, h3, h4, h5, h6⟩, ⟨w1, w2, w3, w4⟩, hs, c1, c2⟩ := h
  obtain ⟨usb, cls, sub, pro, m0, ven, prd, rel, mak, nam, ser, cfs⟩ := d
  dsimp only at *
  have wd : ∀ n, isW n → ((UInt8.ofNat (n % 256).toNat).toNat : Int) + 256 * ((UInt8.ofNat (n / 256 % 256).toNat).toNat : Int) = n := fun n hn => by
    rw [byte_val, byte_val]
    unfold isW at hn
    omega
  have m : isB m0 := by unfold okS at hs; unfold isB; omega
  have e1 := wd usb w1
  have e2 := wd ven w2
  have e3 := wd prd w3
  have e4 := wd rel w4
  have b1 := byte_at h1
  have b2 := byte_at h2
  have b3 := byte_at h3
  have b4 := byte_at m
  have b5 := byte_at h4
  have b6 := byte_at h5
  have b7 := byte_at h6
  have b8 := byte_at (n := cfs) (by unfold isB; omega)
  show (⟨_, _, _, _, _, _, _, _, _, _, _, _⟩ : Dv) = _
  congr 1
theorem dev_back {d : Dv} (h : okD d) : rDev (devT d) = (d, 0) := by
  unfold rDev
  rw [devT_len, if_neg (by decide), dev_of h, if_pos (by unfold wDev; rw [if_pos h])]
theorem dev_one {s : List UInt8} {d : Dv} (h : rDev s = (d, 0)) : wDev d = (s, 0) := by
  unfold rDev at h
  split at h
  · cases h
  · split at h
    next hw =>
      simp only [Prod.mk.injEq, and_true] at h
      rw [← h]; exact hw
    · cases h
end Go.Proofs.Ytmddfpmchcmgiaa.Dsc
namespace Go.Proofs.Ytmddfpmchcmgiaa
open Go.RowKit Go.Proofs.Ytmddfpmchcmgiaa.Dsc
def dcells (d : Dv) : List Value := [.int .i64 d.usb, .int .i64 d.cls, .int .i64 d.sub, .int .i64 d.pro, .int .i64 d.m0, .int .i64 d.ven, .int .i64 d.prd, .int .i64 d.rel, .int .i64 d.mak, .int .i64 d.nam, .int .i64 d.ser, .int .i64 d.cfs]
def dV (d : Dv) : Value := .agg #[.int .i64 d.usb, .int .i64 d.cls, .int .i64 d.sub, .int .i64 d.pro, .int .i64 d.m0, .int .i64 d.ven, .int .i64 d.prd, .int .i64 d.rel, .int .i64 d.mak, .int .i64 d.nam, .int .i64 d.ser, .int .i64 d.cfs]
theorem size_is (n : Int) : decide (okS n) = (n == 8 || n == 16 || n == 32 || n == 64) := by
  rw [Bool.eq_iff_iff, decide_eq_true_iff]
  unfold okS
  simp [or_assoc]
/-- what WriteDevice is told to do -/
def WDev : Prop := ∀ (d : Dv) (w : World), Calls Try.prog 21 #[dV d] w fun e w' => e = .returned (.tuple #[.string (bs' (wDev d).1), .int .i64 (wDev d).2]) ∧ Below w.heap.size w w'
end Go.Proofs.Ytmddfpmchcmgiaa
