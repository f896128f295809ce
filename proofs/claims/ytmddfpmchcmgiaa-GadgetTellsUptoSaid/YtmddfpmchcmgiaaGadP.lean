/- Devices that answer, plainly. -/
import Derived.Test.YtmddfpmchcmgiaaDscU
import Derived.Test.YtmddfpmchcmgiaaGadW
namespace Go.Proofs.Ytmddfpmchcmgiaa.Gad
open Go.Proofs.Ytmddfpmchcmgiaa.Dsc Go.Proofs.Ytmddfpmchcmgiaa Go.Proofs.Ytmddfpmchcmgiaa.Utf
structure Sh where
  dev : Dv
  cfg : Cf
  tx : List (List UInt8)
/-- a text's code -/
def txC (t : List UInt8) : Int := if (wide t).length ≤ 252 then 0 else 2
def txsC : List (List UInt8) → Int
  | [] => 0
  | t :: l => if txC t = 0 then txsC l else txC t
def names (s : Sh) : List Int := [s.dev.mak, s.dev.nam, s.dev.ser, s.cfg.nm] ++ s.cfg.fs.map Fa.nm
def chk (s : Sh) : Int :=
  if (wDev s.dev).2 ≠ 0 then (wDev s.dev).2
  else if s.dev.cfs ≠ 1 then 4
  else if (wCfg s.cfg).2 ≠ 0 then (wCfg s.cfg).2
  else if 8 < s.tx.length then 2
  else if txsC s.tx ≠ 0 then txsC s.tx
  else if ∀ n ∈ names s, n ≤ s.tx.length then 0 else 12
/-- what is described -/
def txT (t : List UInt8) : List UInt8 := if (wide t).length ≤ 252 then wtxt (wide t) else []
def descr (s : Sh) (value : Int) : List UInt8 × Int :=
  if value = 256 then wDev s.dev
  else if value = 512 then wCfg s.cfg
  else if value = 768 then ([4, 3, 9, 4], 0)
  else if 769 ≤ value ∧ value - 768 ≤ s.tx.length then (txT (s.tx.getD (value - 769).toNat []), txC (s.tx.getD (value - 769).toNat []))
  else ([], 8)
def conf (s : Sh) (g : Gd) (value : Int) : Gd × Int :=
  if g.st = 0 then (g, 8)
  else if value = 0 then (⟨1, g.ad, 0⟩, 0)
  else if value = s.cfg.va then (⟨2, g.ad, 0⟩, 0)
  else (g, 8)
def endN (x : En) : Int := x.ad + (if x.inn then 128 else 0)
def has (s : Sh) (e : Int) : Bool := e == 0 || e == 128 || s.cfg.fs.any fun f => f.es.any fun x => endN x == e
end Go.Proofs.Ytmddfpmchcmgiaa.Gad
