/- Disks, plainly: a command that is turned by strings.Replace; what is read in two parts. -/
import Derived.Test.YtfhndjccghchjaaDoorScsQ
import Derived.Lib.Replace
import Derived.Lib.SplitLaws
namespace Go.Proofs.YtfhndjccghchjaaDoor.Scs
theorem rep_one (r : List UInt8) : Lib.replace (40 :: r) [40] [42] 1 = 42 :: r := by
  have hi : Lib.index (40 :: r) [40] = ((0 : Nat) : Int) := by rw [Lib.index]; simp [List.isPrefixOf]
  have hn : Lib.replaceNum (40 :: r) [40] 1 = 1 := by
    unfold Lib.replaceNum
    rw [Lib.count_cons_eq]
    rw [if_neg (by omega)]; rfl
  unfold Lib.replace
  rw [if_neg (by decide), hn, Lib.replaceK_hit _ _ _ _ 0 hi]
  rfl
/-- READ turned to WRITE -/
theorem rep_mk (a n : Nat) : (⟨(Lib.replace (mk 40 a n).data.toList (⟨#[40]⟩ : ByteArray).data.toList (⟨#[42]⟩ : ByteArray).data.toList 1).toArray⟩ : ByteArray) = mk 42 a n := by
  show (⟨(Lib.replace (40 :: _) [40] [42] 1).toArray⟩ : ByteArray) = _
  rw [rep_one]
  rfl
/-- what is read at once is what is read in two parts -/
theorem read_parts (bs : List ByteArray) (a n m : Nat) : joinS ((bs.drop a).take (n + m)) = joinS ((bs.drop a).take n) ++ joinS ((bs.drop (a + n)).take m) := by
  rw [← joinS_app, List.take_add, List.drop_drop]
end Go.Proofs.YtfhndjccghchjaaDoor.Scs
