/- TypistAccents, plainly: an accent and a key. -/
import Derived.Test.YtndkaehbmdiofaaDoorTypE
import Derived.Lib.RuneCount
namespace Go.Proofs.YtndkaehbmdiofaaDoor
open Go.Proofs.YtndkaehbmdiofaaDoor.Typ
def deadL (two : Bool) : List Sk := if two then [⟨1, 225, true, 0⟩, ⟨1, 47, true, 0⟩, ⟨1, 47, false, 0⟩, ⟨1, 225, false, 0⟩] else [⟨1, 47, true, 0⟩, ⟨1, 47, false, 0⟩]
def accN (two : Bool) : Int := if two then 2 else 1
/-- an accent and a sign: one letter, or both -/
def wantP (d : Int) (s : ByteArray) : ByteArray := if accdP d (s.data.toList.getD 0 0) = ByteArray.empty then accP d ++ s else accdP d (s.data.toList.getD 0 0)
def accB (c : Int) (two : Bool) : Bool :=
  let T := typeP St.zero (deadL two ++ pressL [c])
  let W := wantP (accN two) (charP c false)
  let U := typeP T.1 (pressL [42])
  let V := typeP T.1 (deadL two ++ pressL [42])
  T.2 == 0 && U.2 == 0 && V.2 == 0 && decide (T.1.text = W) && T.1.dead == 0 && decide (U.1.text = if accdP (accN two) ((charP c false).data.toList.getD 0 0) = ByteArray.empty then accP (accN two) else ByteArray.empty) && decide (V.1.text = W) && ((Lib.runeCount W == 2) == decide (accdP (accN two) ((charP c false).data.toList.getD 0 0) = ByteArray.empty)) && decide (W.size ≤ 10)
theorem acc_all : ∀ j, j < 41 → accB (keyAt j) true = true ∧ accB (keyAt j) false = true := by decide +kernel
theorem acc_plain {c : Int} (hc : signs c = true) (two : Bool) : ∃ T U V : St, typeP St.zero (deadL two ++ pressL [c]) = (T, 0) ∧ typeP T (pressL [42]) = (U, 0) ∧ typeP T (deadL two ++ pressL [42]) = (V, 0) ∧
    T.text = wantP (accN two) (charP c false) ∧ T.dead = 0 ∧ U.text = (if accdP (accN two) ((charP c false).data.toList.getD 0 0) = ByteArray.empty then accP (accN two) else ByteArray.empty) ∧ V.text = wantP (accN two) (charP c false) ∧ (Lib.runeCount (wantP (accN two) (charP c false)) == 2) = decide (accdP (accN two) ((charP c false).data.toList.getD 0 0) = ByteArray.empty) ∧ (wantP (accN two) (charP c false)).size ≤ 10 := by
  obtain ⟨j, hj, rfl⟩ := keys_all hc
  have h : accB (keyAt j) two = true := by
    cases two
    · exact (acc_all j hj).2
    · exact (acc_all j hj).1
  unfold accB at h
  simp only [Bool.and_eq_true, beq_iff_eq, decide_eq_true_eq] at h
  obtain ⟨⟨⟨⟨⟨⟨⟨⟨h1, h2⟩, h3⟩, h4⟩, h5⟩, h6⟩, h7⟩, h8⟩, h9⟩ := h
  exact ⟨_, _, _, Prod.ext rfl h1, Prod.ext rfl h2, Prod.ext rfl h3, h4, h5, h6, h7, h8, h9⟩
end Go.Proofs.YtndkaehbmdiofaaDoor
