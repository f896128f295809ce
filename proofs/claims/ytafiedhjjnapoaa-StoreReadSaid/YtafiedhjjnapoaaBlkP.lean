/- Wraps and statuses, plainly. -/
import Derived.Test.YtafiedhjjnapoaaScsQ
namespace Go.Proofs.Ytafiedhjjnapoaa.Blk
open Go.Proofs.Ytafiedhjjnapoaa.Scs
/-- a number in four bytes, the low ones first -/
def le4 (n : Nat) : ByteArray := ⟨#[UInt8.ofNat n, UInt8.ofNat (n / 256), UInt8.ofNat (n / 65536), UInt8.ofNat (n / 16777216)]⟩
structure Wr where
  tag : Int
  len : Int
  inn : Bool
  unit : Int
  cmd : ByteArray
structure OkW (x : Wr) : Prop where
  t1 : 0 ≤ x.tag
  t2 : x.tag < 4294967296
  l1 : 0 ≤ x.len
  l2 : x.len < 4294967296
  u1 : 0 ≤ x.unit
  u2 : x.unit ≤ 15
  c1 : 1 ≤ x.cmd.size
  c2 : x.cmd.size ≤ 16
instance (x : Wr) : Decidable (OkW x) := decidable_of_iff (0 ≤ x.tag ∧ x.tag < 4294967296 ∧ 0 ≤ x.len ∧ x.len < 4294967296 ∧ 0 ≤ x.unit ∧ x.unit ≤ 15 ∧ 1 ≤ x.cmd.size ∧ x.cmd.size ≤ 16)
  ⟨fun ⟨a, b, c, d, e, f, g, h⟩ => ⟨a, b, c, d, e, f, g, h⟩, fun ⟨a, b, c, d, e, f, g, h⟩ => ⟨a, b, c, d, e, f, g, h⟩⟩
def usbc : ByteArray := ⟨#[85, 83, 66, 67]⟩
def usbs : ByteArray := ⟨#[85, 83, 66, 83]⟩
def flag (b : Bool) : UInt8 := if b then 128 else 0
def zeros (n : Nat) : ByteArray := ⟨(List.replicate n (0 : UInt8)).toArray⟩
def mid (x : Wr) : ByteArray := ⟨#[flag x.inn, UInt8.ofNat x.unit.toNat, UInt8.ofNat x.cmd.size]⟩
/-- a wrap, without what fills it up -/
def wrapS (x : Wr) : ByteArray := usbc ++ le4 x.tag.toNat ++ le4 x.len.toNat ++ mid x ++ x.cmd
def wrapT (x : Wr) : ByteArray := wrapS x ++ zeros (31 - (wrapS x).size)
/-- a number out of four bytes -/
def num4 (s : ByteArray) (i : Nat) : Nat := bt s i + bt s (i + 1) * 256 + bt s (i + 2) * 65536 + bt s (i + 3) * 16777216
def unW (s : ByteArray) : Wr := ⟨num4 s 4, num4 s 8, bt s 12 == 128, bt s 13, s.extract 15 (15 + min (bt s 14) 16)⟩
def zeroW : Wr := ⟨0, 0, false, 0, ByteArray.empty⟩
open Classical in
noncomputable def readW (s : ByteArray) : Wr × Int := if s.size < 31 then (zeroW, 3) else if OkW (unW s) ∧ wrapT (unW s) = s then (unW s, 0) else (zeroW, 4)
theorem wrapS_size (x : Wr) : (wrapS x).size = 15 + x.cmd.size := by
  unfold wrapS
  simp only [ByteArray.size_append]
  show 4 + 4 + 4 + 3 + x.cmd.size = _
  rfl
theorem zeros_size (n : Nat) : (zeros n).size = n := by
  show (List.replicate n (0 : UInt8)).toArray.size = n
  simp
theorem wrapT_size (x : Wr) (h : OkW x) : (wrapT x).size = 31 := by
  unfold wrapT
  rw [ByteArray.size_append, zeros_size, wrapS_size]
  have := h.c2
  omega
theorem wrapT_list (x : Wr) : (wrapT x).data.toList = [85, 83, 66, 67, UInt8.ofNat x.tag.toNat, UInt8.ofNat (x.tag.toNat / 256), UInt8.ofNat (x.tag.toNat / 65536), UInt8.ofNat (x.tag.toNat / 16777216), UInt8.ofNat x.len.toNat, UInt8.ofNat (x.len.toNat / 256), UInt8.ofNat (x.len.toNat / 65536), UInt8.ofNat (x.len.toNat / 16777216), flag x.inn, UInt8.ofNat x.unit.toNat, UInt8.ofNat x.cmd.size] ++ (x.cmd.data.toList ++ List.replicate (16 - x.cmd.size) 0) := by
  unfold wrapT
  rw [wrapS_size, show 31 - (15 + x.cmd.size) = 16 - x.cmd.size by omega]
  unfold wrapS
  simp only [ByteArray.data_append, Array.toList_append, List.append_assoc]
  rfl
theorem bt_app (s : ByteArray) (l m : List UInt8) (h : s.data.toList = l ++ m) (i : Nat) (hi : i < l.length) : bt s i = (l[i]).toNat := by
  unfold bt
  rw [h, List.getD_eq_getElem?_getD, List.getElem?_append_left hi, List.getElem?_eq_getElem hi]; rfl
theorem num4_of {n : Nat} (h : n < 4294967296) : n % 256 + n / 256 % 256 * 256 + n / 65536 % 256 * 65536 + n / 16777216 % 256 * 16777216 = n := by omega
theorem unW_wrapT (x : Wr) (h : OkW x) : unW (wrapT x) = x := by
  have hl := wrapT_list x
  have b := fun i hi => bt_app (wrapT x) _ _ hl i hi
  have b4 := b 4 (by simp); have b5 := b 5 (by simp); have b6 := b 6 (by simp); have b7 := b 7 (by simp)
  have b8 := b 8 (by simp); have b9 := b 9 (by simp); have b10 := b 10 (by simp); have b11 := b 11 (by simp)
  have b12 := b 12 (by simp); have b13 := b 13 (by simp); have b14 := b 14 (by simp)
  simp only [List.getElem_cons_succ, List.getElem_cons_zero, u8m] at b4 b5 b6 b7 b8 b9 b10 b11 b12 b13 b14
  have hx1 := h.t1; have hx2 := h.t2; have hx3 := h.l1; have hx4 := h.l2; have hx5 := h.u1; have hx6 := h.u2; have hx7 := h.c1; have hx8 := h.c2
  have e1 : (num4 (wrapT x) 4 : Int) = x.tag := by
    unfold num4
    rw [b4, b5, b6, b7, num4_of (by omega)]; omega
  have e2 : (num4 (wrapT x) 8 : Int) = x.len := by
    unfold num4
    rw [b8, b9, b10, b11, num4_of (by omega)]; omega
  have e3 : (bt (wrapT x) 12 == 128) = x.inn := by
    rw [b12]; cases x.inn <;> rfl
  have e4 : (bt (wrapT x) 13 : Int) = x.unit := by rw [b13]; omega
  have e5 : bt (wrapT x) 14 = x.cmd.size := by rw [b14]; omega
  have e6 : (wrapT x).extract 15 (15 + min (bt (wrapT x) 14) 16) = x.cmd := by
    rw [e5, Nat.min_eq_left hx8]
    apply ext_bytes
    rw [ByteArray.data_extract, Array.toList_extract, hl, List.extract, List.drop_append_of_le_length (by simp)]
    simp only [List.drop_succ_cons, List.drop_zero, List.nil_append]
    rw [show 15 + x.cmd.size - 15 = x.cmd.data.toList.length by rw [Nat.add_sub_cancel_left]; rfl, List.take_append_of_le_length (Nat.le_refl _), List.take_length]
  show Wr.mk (num4 (wrapT x) 4) (num4 (wrapT x) 8) (bt (wrapT x) 12 == 128) (bt (wrapT x) 13) ((wrapT x).extract 15 (15 + min (bt (wrapT x) 14) 16)) = x
  rw [e1, e2, e3, e4, e6]
theorem readW_wrapT (x : Wr) (h : OkW x) : readW (wrapT x) = (x, 0) := by
  unfold readW
  rw [if_neg (by rw [wrapT_size x h]; decide), unW_wrapT x h, if_pos ⟨h, rfl⟩]
theorem readW_ok {s : ByteArray} {x : Wr} (h : readW s = (x, 0)) : 31 ≤ s.size ∧ OkW x ∧ wrapT x = s := by
  unfold readW at h
  split at h
  · cases h
  · split at h
    · next h1 h2 => cases h; exact ⟨by omega, h2.1, h2.2⟩
    · cases h
/- statuses -/
structure St where
  tag : Int
  res : Int
  code : Int
structure OkS (x : St) : Prop where
  t1 : 0 ≤ x.tag
  t2 : x.tag < 4294967296
  r1 : 0 ≤ x.res
  r2 : x.res < 4294967296
  c1 : 0 ≤ x.code
  c2 : x.code ≤ 2
def statT (x : St) : ByteArray := usbs ++ le4 x.tag.toNat ++ le4 x.res.toNat ++ ⟨#[UInt8.ofNat x.code.toNat]⟩
def unS (s : ByteArray) : St := ⟨num4 s 4, num4 s 8, bt s 12⟩
def zeroS : St := ⟨0, 0, 0⟩
open Classical in
noncomputable def writeS (x : St) : ByteArray × Int := if OkS x then (statT x, 0) else (ByteArray.empty, 1)
open Classical in
noncomputable def writeW (x : Wr) : ByteArray × Int := if OkW x then (wrapT x, 0) else (ByteArray.empty, 1)
open Classical in
noncomputable def readS (s : ByteArray) : St × Int := if s.size < 13 then (zeroS, 3) else if OkS (unS s) ∧ statT (unS s) = s then (unS s, 0) else (zeroS, 4)
theorem statT_size (x : St) : (statT x).size = 13 := rfl
theorem statT_list (x : St) : (statT x).data.toList = [85, 83, 66, 83, UInt8.ofNat x.tag.toNat, UInt8.ofNat (x.tag.toNat / 256), UInt8.ofNat (x.tag.toNat / 65536), UInt8.ofNat (x.tag.toNat / 16777216), UInt8.ofNat x.res.toNat, UInt8.ofNat (x.res.toNat / 256), UInt8.ofNat (x.res.toNat / 65536), UInt8.ofNat (x.res.toNat / 16777216), UInt8.ofNat x.code.toNat] ++ [] := rfl
theorem unS_statT (x : St) (h : OkS x) : unS (statT x) = x := by
  have b := fun i hi => bt_app (statT x) _ _ (statT_list x) i hi
  have b4 := b 4 (by simp); have b5 := b 5 (by simp); have b6 := b 6 (by simp); have b7 := b 7 (by simp)
  have b8 := b 8 (by simp); have b9 := b 9 (by simp); have b10 := b 10 (by simp); have b11 := b 11 (by simp)
  have b12 := b 12 (by simp)
  simp only [List.getElem_cons_succ, List.getElem_cons_zero, u8m] at b4 b5 b6 b7 b8 b9 b10 b11 b12
  have hx1 := h.t1; have hx2 := h.t2; have hx3 := h.r1; have hx4 := h.r2; have hx5 := h.c1; have hx6 := h.c2
  have e1 : (num4 (statT x) 4 : Int) = x.tag := by
    unfold num4
    rw [b4, b5, b6, b7, num4_of (by omega)]; omega
  have e2 : (num4 (statT x) 8 : Int) = x.res := by
    unfold num4
    rw [b8, b9, b10, b11, num4_of (by omega)]; omega
  have e4 : (bt (statT x) 12 : Int) = x.code := by rw [b12]; omega
  show St.mk (num4 (statT x) 4) (num4 (statT x) 8) (bt (statT x) 12) = x
  rw [e1, e2, e4]
theorem readS_statT (x : St) (h : OkS x) : readS (statT x) = (x, 0) := by
  unfold readS
  rw [if_neg (by rw [statT_size]; decide), unS_statT x h, if_pos ⟨h, rfl⟩]
theorem readS_ok {s : ByteArray} {x : St} (h : readS s = (x, 0)) : 13 ≤ s.size ∧ OkS x ∧ statT x = s := by
  unfold readS at h
  split at h
  · cases h
  · split at h
    · next h1 h2 => cases h; exact ⟨by omega, h2.1, h2.2⟩
    · cases h
theorem num4_lt (s : ByteArray) (i : Nat) : num4 s i < 4294967296 := by
  unfold num4
  have := bt_lt s i; have := bt_lt s (i + 1); have := bt_lt s (i + 2); have := bt_lt s (i + 3)
  omega
end Go.Proofs.Ytafiedhjjnapoaa.Blk
