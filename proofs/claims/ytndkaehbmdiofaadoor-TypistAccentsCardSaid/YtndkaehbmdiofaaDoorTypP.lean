/- Typists, plainly: what keys and ticks do. -/
import Derived.Test.YtndkaehbmdiofaaDoorKeyW
import Derived.Lib.IndexLaws
import Derived.Lib.SpaceU
namespace Go.Proofs.YtndkaehbmdiofaaDoor.Typ
open Go.Proofs.YtndkaehbmdiofaaDoor
structure St where
  held : Hd
  caps : Bool
  dead : Int
  last : Int
  wait : Int
  text : ByteArray
def Hd0 : Hd := ⟨0, 0, 0, 0⟩
def St.zero : St := ⟨Hd0, false, 0, 0, 0, ByteArray.empty⟩
def St.cs (t : St) : Array Value := #[.int .u64 (t.held.a.toNat : Int), .int .u64 (t.held.b.toNat : Int), .int .u64 (t.held.c.toNat : Int), .int .u64 (t.held.d.toNat : Int), .bool t.caps, .int .i64 t.dead, .int .i64 t.last, .int .i64 t.wait, .string t.text]
def St.v (t : St) : Value := .agg t.cs
def one (b : UInt8) : ByteArray := ⟨#[b]⟩
def digL : List UInt8 := [49, 50, 51, 52, 53, 54, 55, 56, 57, 48]
def digU : List UInt8 := [33, 64, 35, 36, 37, 94, 38, 42, 40, 41]
def letB (c : Int) : Bool := decide (4 ≤ c) && decide (c ≤ 29)
/-- the sign of a key -/
def charP (c : Int) (sh : Bool) : ByteArray :=
  if 4 ≤ c ∧ c ≤ 29 then one (UInt8.ofNat ((if sh then 61 else 93) + c.toNat))
  else if 30 ≤ c ∧ c ≤ 39 then one ((if sh then digU else digL).getD (c.toNat - 30) 0)
  else if c = 44 then one 32 else if c = 40 then one 10 else if c = 45 then one (if sh then 95 else 45)
  else if c = 54 then one (if sh then 60 else 44) else if c = 55 then one (if sh then 62 else 46) else ByteArray.empty
def signs (c : Int) : Bool := decide ((4 ≤ c ∧ c ≤ 40) ∨ c = 44 ∨ c = 45 ∨ c = 54 ∨ c = 55)
def prints (c : Int) : Bool := c == 42 || signs c
theorem charP_none {c : Int} (h : signs c = false) (sh : Bool) : charP c sh = ByteArray.empty := by
  unfold signs at h
  rw [decide_eq_false_iff_not] at h
  unfold charP
  rw [if_neg (by omega), if_neg (by omega), if_neg (by omega), if_neg (by omega), if_neg (by omega), if_neg (by omega), if_neg (by omega)]
theorem charP_one {c : Int} (h : signs c = true) (sh : Bool) : ∃ b, charP c sh = one b := by
  unfold signs at h
  rw [decide_eq_true_iff] at h
  unfold charP
  split
  · exact ⟨_, rfl⟩
  split
  · exact ⟨_, rfl⟩
  split
  · exact ⟨_, rfl⟩
  split
  · exact ⟨_, rfl⟩
  split
  · exact ⟨_, rfl⟩
  split
  · exact ⟨_, rfl⟩
  split
  · exact ⟨_, rfl⟩
  · omega
/-- an accent's sign -/
def accP (d : Int) : ByteArray := if d = 1 then ⟨#[194, 180]⟩ else if d = 2 then ⟨#[194, 168]⟩ else ByteArray.empty
def plainL (d : Int) : List UInt8 := if d = 2 then [97, 101, 105, 111, 117, 65, 69, 73, 79, 85] else [97, 101, 105, 111, 117, 121, 65, 69, 73, 79, 85, 89]
def withR (d : Int) : List Int := if d = 2 then [228, 235, 239, 246, 252, 196, 203, 207, 214, 220] else [225, 233, 237, 243, 250, 253, 193, 201, 205, 211, 218, 221]
/-- a letter with an accent, or nothing -/
def accdP (d : Int) (b : UInt8) : ByteArray :=
  if Lib.indexByte (plainL d) b < 0 ∨ d = 0 then ByteArray.empty else Utf8.encode ((withR d).getD (Lib.indexByte (plainL d) b).toNat 0)
def shiftP (t : St) : Bool := t.held.has 225 || t.held.has 229
def putP (t : St) (s : ByteArray) : St := if t.text.size + s.size ≤ 4096 then { t with text := t.text ++ s } else t
/-- what a printing key does -/
def typedP (t : St) (c : Int) : St :=
  if c = 42 then
    (if t.dead = 0 then { t with dead := 0, text := t.text.extract 0 (t.text.size - (Lib.decodeLastL t.text.data.toList).2) } else { t with dead := 0 })
  else
    let s := charP c (shiftP t != (t.caps && letB c))
    let x := accdP t.dead (s.data.toList.getD 0 0)
    { putP t (if x = ByteArray.empty then accP t.dead ++ s else x) with dead := 0 }
def downP (t : St) (c : Int) : St :=
  if prints c then { typedP t c with last := c, wait := 20 }
  else if c = 57 then { t with caps := !t.caps }
  else if c = 47 then { putP t (accP t.dead) with dead := if shiftP t then 2 else 1, last := 0, wait := 0 }
  else t
def tickP : Nat → St → St
  | 0, t => t
  | n + 1, t => if t.last = 0 then t else if t.wait - 1 = 0 then tickP n { typedP { t with wait := 0 } t.last with wait := 4 } else tickP n { t with wait := t.wait - 1 }
structure Sk where
  kind : Int
  code : Int
  down : Bool
  n : Int
def Sk.cs (s : Sk) : List Value := [.int .i64 s.kind, .int .i64 s.code, .bool s.down, .int .i64 s.n]
/-- what keys.Apply does with one key -/
def app1 (h : Hd) (c : Int) (d : Bool) : Hd × Int := if c < 4 ∨ 255 < c then (Hd0, 1) else if h.has c.toNat = d then (Hd0, 13) else (h.flip c.toNat, 0)
def strokeP (t : St) (s : Sk) : St × Int :=
  if s.kind = 1 then
    (if (app1 t.held s.code s.down).2 ≠ 0 then (t, (app1 t.held s.code s.down).2)
     else if s.down then (downP { t with held := (app1 t.held s.code s.down).1 } s.code, 0)
     else if s.code = t.last then ({ t with held := (app1 t.held s.code s.down).1, last := 0, wait := 0 }, 0)
     else ({ t with held := (app1 t.held s.code s.down).1 }, 0))
  else if s.kind ≠ 2 ∨ s.n < 0 ∨ 100 < s.n then (t, 1)
  else (tickP s.n.toNat t, 0)
def lastB (t : St) : Bool := (t.last == 0 && t.wait == 0) || (prints t.last && t.held.has t.last.toNat && decide (1 ≤ t.wait) && decide (t.wait ≤ 20))
def formB (t : St) : Bool := t.held.a.toNat % 16 == 0 && decide (0 ≤ t.dead) && decide (t.dead ≤ 2) && lastB t
def chkP (t : St) : Int := if formB t = false then 4 else if 4096 < t.text.size then 2 else 0
def runP (t : St) : List Sk → St × Int
  | [] => (t, 0)
  | s :: l => if (strokeP t s).2 ≠ 0 then (St.zero, (strokeP t s).2) else runP (strokeP t s).1 l
def typeP (t : St) (l : List Sk) : St × Int := if chkP t ≠ 0 then (St.zero, chkP t) else if 400 < l.length then (St.zero, 2) else runP t l
end Go.Proofs.YtndkaehbmdiofaaDoor.Typ
