/- Disks, plainly: the commands that are made, blocks that are put. -/
import Derived.Test.YtafiedhjjnapoaaScsP
namespace Go.Proofs.Ytafiedhjjnapoaa.Scs
/-- a command for blocks -/
def mk (op a n : Nat) : ByteArray := ⟨#[UInt8.ofNat op, 0, UInt8.ofNat (a / 16777216), UInt8.ofNat (a / 65536), UInt8.ofNat (a / 256), UInt8.ofNat a, 0, UInt8.ofNat (n / 256), UInt8.ofNat n, 0]⟩
theorem u8m (n : Nat) : (UInt8.ofNat n).toNat = n % 256 := by simp
theorem mk_size (op a n : Nat) : (mk op a n).size = 10 := rfl
theorem mk_bt (op a n : Nat) : bt (mk op a n) 0 = op % 256 ∧ bt (mk op a n) 1 = 0 ∧ bt (mk op a n) 2 = a / 16777216 % 256 ∧ bt (mk op a n) 3 = a / 65536 % 256 ∧ bt (mk op a n) 4 = a / 256 % 256 ∧ bt (mk op a n) 5 = a % 256 ∧ bt (mk op a n) 6 = 0 ∧ bt (mk op a n) 7 = n / 256 % 256 ∧ bt (mk op a n) 8 = n % 256 ∧ bt (mk op a n) 9 = 0 := by
  refine ⟨u8m op, rfl, u8m _, u8m _, u8m _, u8m _, rfl, u8m _, u8m _, rfl⟩
theorem mk_lba (op a n : Nat) (ha : a < 4294967296) : lba (mk op a n) = a := by
  obtain ⟨_, _, h2, h3, h4, h5, _⟩ := mk_bt op a n
  unfold lba
  rw [h2, h3, h4, h5]
  omega
theorem mk_cnt (op a n : Nat) (hn : n < 65536) : cnt (mk op a n) = n := by
  obtain ⟨_, _, _, _, _, _, _, h7, h8, _⟩ := mk_bt op a n
  unfold cnt
  rw [h7, h8]
  omega
theorem mk_form (op a n : Nat) (ho : op = 40 ∨ op = 42 ∨ op = 53) : formC (mk op a n) = 0 := by
  obtain ⟨h0, h1, h2, h3, h4, h5, h6, h7, h8, h9⟩ := mk_bt op a n
  have hop : op % 256 = op := by omega
  rw [hop] at h0
  unfold formC
  rw [mk_size, if_neg (by decide), h0]
  have hu : used op = some [2, 3, 4, 5, 7, 8] := by
    unfold used
    rw [if_neg (by omega), if_neg (by omega), if_neg (by omega), if_pos ho]
  rw [hu]
  simp only
  rw [if_neg (by unfold clen; rw [if_neg (by omega)]; decide), if_neg, if_neg (by omega)]
  rintro ⟨i, hi, hi1, hb, hm⟩
  have : i = 1 ∨ i = 2 ∨ i = 3 ∨ i = 4 ∨ i = 5 ∨ i = 6 ∨ i = 7 ∨ i = 8 ∨ i = 9 := by omega
  rcases this with rfl | rfl | rfl | rfl | rfl | rfl | rfl | rfl | rfl
  · exact hb h1
  · exact hm (by decide)
  · exact hm (by decide)
  · exact hm (by decide)
  · exact hm (by decide)
  · exact hb h6
  · exact hm (by decide)
  · exact hm (by decide)
  · exact hb h9
theorem mk_op (op a n : Nat) (ho : op = 40 ∨ op = 42 ∨ op = 53) : bt (mk op a n) 0 = op := by
  rw [(mk_bt op a n).1]; omega
theorem mk_ans (bs : List ByteArray) (s : Int) (op a n : Nat) (d : ByteArray) (ho : op = 40 ∨ op = 42 ∨ op = 53) (ha : a < 4294967296) (hn : n < 65536) :
    ans bs s (mk op a n) d = if bs.length < a + n then .error 33 else if op = 40 then .ok (bs, joinS ((bs.drop a).take n)) else if op = 42 then (if d.size = n * 16 then .ok (putB bs a d n, ByteArray.empty) else .error 36) else .ok (bs, ByteArray.empty) := by
  unfold ans
  rw [mk_form op a n ho, mk_op op a n ho, mk_lba op a n ha, mk_cnt op a n hn, if_neg (by decide), if_neg (by omega), if_neg (by omega), if_neg (by omega), if_neg (by omega), if_neg (by omega)]
theorem putB_len (bs : List ByteArray) (a : Nat) (d : ByteArray) (n : Nat) (h : a + n ≤ bs.length) : (putB bs a d n).length = bs.length := by
  unfold putB
  simp only [List.length_append, List.length_take, List.length_map, List.length_range, List.length_drop]
  omega
theorem putB_get (bs : List ByteArray) (a : Nat) (d : ByteArray) (n : Nat) (h : a + n ≤ bs.length) (i : Nat) : (putB bs a d n)[i]? = if a ≤ i ∧ i < a + n then some (piece d (i - a)) else bs[i]? := by
  have h1 : (bs.take a).length = a := by rw [List.length_take]; omega
  have h2 : ((List.range n).map (piece d)).length = n := by simp
  unfold putB
  rw [List.append_assoc, List.getElem?_append, h1]
  by_cases c1 : i < a
  · rw [if_pos c1, if_neg (by omega), List.getElem?_take, if_pos c1]
  · rw [if_neg c1, List.getElem?_append, h2]
    by_cases c2 : i < a + n
    · rw [if_pos (by omega), if_pos ⟨by omega, c2⟩, List.getElem?_map, List.getElem?_range (by omega)]; rfl
    · rw [if_neg (by omega), if_neg (by omega), List.getElem?_drop]; congr 1; omega
theorem piece_size (d : ByteArray) (i n : Nat) (h : d.size = n * 16) (hi : i < n) : (piece d i).size = 16 := by
  unfold piece
  rw [ByteArray.size_extract]
  omega
theorem putB_ok {bs : List ByteArray} {s : Int} (ho : OkD bs s) (a : Nat) (d : ByteArray) (n : Nat) (h : a + n ≤ bs.length) (hd : d.size = n * 16) : OkD (putB bs a d n) 0 := by
  refine ⟨by rw [putB_len _ _ _ _ h]; exact ho.n1, by rw [putB_len _ _ _ _ h]; exact ho.n2, fun b hb => ?_, .inl rfl⟩
  obtain ⟨i, hi, rfl⟩ := List.mem_iff_getElem.1 hb
  have hg := putB_get bs a d n h i
  rw [List.getElem?_eq_getElem hi] at hg
  split at hg
  · next c =>
    simp only [Option.some.injEq] at hg
    rw [hg]; exact piece_size d _ n hd (by omega)
  · rw [putB_len _ _ _ _ h] at hi
    rw [List.getElem?_eq_getElem hi] at hg
    simp only [Option.some.injEq] at hg
    rw [hg]; exact ho.sz _ (List.getElem_mem _)
theorem joinS_aux (l : List ByteArray) : ∀ x : ByteArray, l.foldl (· ++ ·) x = x ++ joinS l := by
  induction l with
  | nil => intro x; simp [joinS]
  | cons y l ih =>
    intro x
    show l.foldl (· ++ ·) (x ++ y) = x ++ l.foldl (· ++ ·) (ByteArray.empty ++ y)
    rw [ih, ih (ByteArray.empty ++ y), ByteArray.empty_append, ByteArray.append_assoc]
theorem joinS_app (l m : List ByteArray) : joinS (l ++ m) = joinS l ++ joinS m := by
  show (l ++ m).foldl _ _ = _
  rw [List.foldl_append, joinS_aux]; rfl
theorem joinS_one (x : ByteArray) : joinS [x] = x := by simp [joinS]
theorem ext_bytes {a b : ByteArray} (h : a.data.toList = b.data.toList) : a = b := by
  cases a; cases b; simp only at h; congr 1; exact Array.toList_inj.1 h
theorem joinS_pieces (d : ByteArray) : ∀ n, n * 16 ≤ d.size → joinS ((List.range n).map (piece d)) = d.extract 0 (n * 16)
  | 0, _ => by
    simp only [List.range_zero, List.map_nil, Nat.zero_mul]
    show ByteArray.empty = _
    apply ext_bytes; simp
  | n + 1, h => by
    rw [List.range_succ, List.map_append, joinS_app, joinS_pieces d n (by omega)]
    simp only [List.map_cons, List.map_nil]
    rw [joinS_one]
    unfold piece
    apply ext_bytes
    simp only [ByteArray.data_append, ByteArray.data_extract, Array.toList_append, Array.toList_extract, List.extract]
    simp only [Nat.sub_zero, List.drop_zero]
    rw [show (n + 1) * 16 = n * 16 + 16 by omega, show n * 16 + 16 - n * 16 = 16 by omega, List.take_add]
theorem joinS_back (bs : List ByteArray) (a : Nat) (d : ByteArray) (n : Nat) (h : a + n ≤ bs.length) (hd : d.size = n * 16) : joinS (((putB bs a d n).drop a).take n) = d := by
  have e : ((putB bs a d n).drop a).take n = (List.range n).map (piece d) := by
    apply List.ext_getElem?
    intro i
    rw [List.getElem?_take, List.getElem?_drop, List.getElem?_map]
    by_cases hi : i < n
    · rw [if_pos hi, putB_get _ _ _ _ h, if_pos ⟨by omega, by omega⟩, List.getElem?_range hi, Nat.add_sub_cancel_left]; rfl
    · rw [if_neg hi, List.getElem?_eq_none (by simp; omega)]; rfl
  rw [e, joinS_pieces d n (by omega), ← hd]
  apply ext_bytes; simp
theorem putB_swap (bs : List ByteArray) (a b : Nat) (x y : ByteArray) (n m : Nat) (h : a + n ≤ bs.length) (h2 : b + m ≤ bs.length) (hd : a + n ≤ b ∨ b + m ≤ a) : putB (putB bs a x n) b y m = putB (putB bs b y m) a x n := by
  have l1 := putB_len bs a x n h
  have l2 := putB_len bs b y m h2
  apply List.ext_getElem?
  intro i
  rw [putB_get _ _ _ _ (by omega), putB_get _ _ _ _ h, putB_get _ _ _ _ (by omega), putB_get _ _ _ _ h2]
  by_cases c1 : a ≤ i ∧ i < a + n
  · rw [if_neg (by omega), if_pos c1, if_pos c1]
  · rw [if_neg c1, if_neg c1]
theorem putB_parts (bs : List ByteArray) (a : Nat) (d : ByteArray) (n m : Nat) (h : a + n + m ≤ bs.length) (hd : d.size = (n + m) * 16) : putB (putB bs a (d.extract 0 (n * 16)) n) (a + n) (d.extract (n * 16) d.size) m = putB bs a d (n + m) := by
  have l1 := putB_len bs a (d.extract 0 (n * 16)) n (by omega)
  apply List.ext_getElem?
  intro i
  rw [putB_get _ _ _ _ (by omega), putB_get _ _ _ _ (by omega), putB_get _ _ _ _ (by omega)]
  have pe : ∀ (x y : ByteArray), x.data.toList = y.data.toList → some x = some y := fun x y h => by rw [ext_bytes h]
  by_cases c1 : a + n ≤ i ∧ i < a + n + m
  · rw [if_pos c1, if_pos (by omega)]
    apply pe
    unfold piece
    simp only [ByteArray.data_extract, Array.toList_extract, List.extract]
    rw [List.drop_take, List.drop_drop, List.take_take]
    congr 1
    · omega
    · congr 1; omega
  · rw [if_neg c1]
    by_cases c2 : a ≤ i ∧ i < a + n
    · rw [if_pos c2, if_pos (by omega)]
      apply pe
      unfold piece
      simp only [ByteArray.data_extract, Array.toList_extract, List.extract]
      rw [List.drop_take, List.take_take]
      simp only [Nat.sub_zero, List.drop_zero]
      congr 1
      omega
    · rw [if_neg c2, if_neg (by omega)]
end Go.Proofs.Ytafiedhjjnapoaa.Scs
