/- The laws UtfBack and UtfGood, walked, over a contract of utf8.ValidString. -/
import Derived.Test.YtecbcklbmaimgaaDoorUtfO
import Derived.Test.YtecbcklbmaimgaaDoorUtfL
import Derived.Test.YtecbcklbmaimgaaDoorUtfV
namespace Go.Proofs.YtecbcklbmaimgaaDoor
open Go.RowKit Go.Proofs.YtecbcklbmaimgaaDoor.Utf
theorem txt_size (l : List UInt8) : (⟨l.toArray⟩ : ByteArray).size = l.length := by show l.toArray.size = _; rw [List.size_toArray]
/-- utf8.ValidString, in all worlds from w on -/
def Vd (w : World) : Prop := ∀ (s : ByteArray) (w1 : World), s.size ≤ 140737488355328 → Below w.heap.size w w1 → Calls Tryd.prog 9 #[.string s] w1 fun e w' => e = .returned (.bool (Go.Lib.validD s.data.toList)) ∧ Below w1.heap.size w1 w'
def Nr (s : ByteArray) (t : ByteArray) (e : Int) : Prop := ∀ w : World, Calls Tryd.prog 7 #[.string s] w fun en w' => en = .returned (.tuple #[.string t, .int .i64 e]) ∧ Below w.heap.size w w'
theorem nr_any (s : ByteArray) : (∃ n, s.size = 2 * n ∧ n ≤ 126 ∧ Nr s ⟨(enc (nar (unitsOf s.data.toList))).toArray⟩ 0) ∨ (∃ e, e ≠ 0 ∧ Nr s ⟨#[]⟩ e) := by
  by_cases h1 : s.size % 2 = 0
  · have h1' : ((s.size : Int) % 2 != 0) = false := by rw [bne_eq_false_iff_eq]; omega
    by_cases h2 : s.size ≤ 252
    · exact .inl ⟨s.size / 2, by omega, by omega, fun w => narrow_ok s w (s.size / 2) (by omega) (by omega)⟩
    · exact .inr ⟨2, by decide, fun w => narrow_large s w h1' (by omega)⟩
  · have h1' : ((s.size : Int) % 2 != 0) = true := by rw [bne_iff_ne]; omega
    exact .inr ⟨4, by decide, fun w => narrow_odd s w h1'⟩
/-- the units of a text, read again -/
theorem nr_wide (s : ByteArray) (h : (wide s.data.toList).length ≤ 252) : Nr ⟨(wide s.data.toList).toArray⟩ ⟨(enc (runes s.data.toList)).toArray⟩ 0 := fun w => by
  have hl : (wide s.data.toList).length = 2 * cnt (runes s.data.toList) := wideR_len _
  have := narrow_ok ⟨(wide s.data.toList).toArray⟩ w (cnt (runes s.data.toList)) (by rw [txt_size, hl]) (by omega)
  rw [show (⟨(wide s.data.toList).toArray⟩ : ByteArray).data.toList = wideR (runes s.data.toList) from rfl, nar_wide _ (runes_scalar _)] at this
  exact this
theorem enc_size {s : ByteArray} (h : (wide s.data.toList).length ≤ 252) : (⟨(enc (runes s.data.toList)).toArray⟩ : ByteArray).size ≤ 504 := by
  rw [txt_size]
  have h1 := enc_len (runes s.data.toList)
  have hl : (wide s.data.toList).length = 2 * cnt (runes s.data.toList) := wideR_len _
  have h2 : (runes s.data.toList).length ≤ cnt (runes s.data.toList) := by
    unfold cnt
    generalize runes s.data.toList = l
    induction l with
    | nil => simp
    | cons r l ih => simp only [List.map_cons, List.sum_cons, List.length_cons]; split <;> omega
  omega
theorem back_ok {s t : ByteArray} (hv : Go.Lib.validD s.data.toList = true) (ht : (⟨(enc (runes s.data.toList)).toArray⟩ : ByteArray) = t) : t = s := by
  rw [← ht, enc_valid _ _ (Nat.le_refl _) hv]
set_option maxHeartbeats 1600000 in
theorem back_walk (v0 : Value) (w : World) (hvd : Vd w) (r0 : Fr.RdV w 1048576 .string v0) :
    Calls Tryd.prog 3 #[v0] w fun e w' => e = .returned (.bool true) ∧ Below w.heap.size w w' := by
  obtain ⟨s, e, hs⟩ := r0; cases e
  by_cases h : (wide s.data.toList).length ≤ 252
  · have HW := Lib.hid (wd_ok s (by omega) h)
    have HN := Lib.hid (nr_wide s h)
    have HOF := Lib.hid (fun w => of_calls s (by omega) w)
    have HVD := Lib.hid (fun w1 hb => hvd s w1 (by omega) hb)
    have HBK : Hid (∀ t : ByteArray, Go.Lib.validD s.data.toList = true → (⟨(enc (runes s.data.toList)).toArray⟩ : ByteArray) = t → t = s) := Lib.hid (fun t => back_ok (s := s) (t := t))
    clear h hvd
    generalize (⟨(wide s.data.toList).toArray⟩ : ByteArray) = t at *
    obtain ⟨u, hu⟩ : ∃ u : ByteArray, (⟨(enc (runes s.data.toList)).toArray⟩ : ByteArray) = u := ⟨_, rfl⟩
    rw [hu] at HN HOF
    have HB : Hid (Go.Lib.validD s.data.toList = true → u = s) := Lib.hid fun hv => HBK.out u hv hu
    clear hu HBK
    obtain ⟨b, hb⟩ : ∃ b, Go.Lib.validD s.data.toList = b := ⟨_, rfl⟩
    rw [hb] at HVD HB
    clear hb
    go_enter Tryd.func3, Tryd.ntmps3
    go_wp2_with fail
    refine (HW.out _).mono ?_
    rintro en w1 ⟨rfl, hb1⟩
    go_wp2_with fail
    refine (lives_calls _).mono ?_
    rintro en w2 ⟨rfl, hb2⟩
    replace hb1 := Kt.bthen hb1 hb2
    clear hb2
    go_wp2_with fail
    refine (HN.out _).mono ?_
    rintro en w3 ⟨rfl, hb3⟩
    replace hb1 := Kt.bthen hb1 hb3
    clear hb3
    go_wp2_with fail
    refine (HOF.out _).mono ?_
    rintro en w4 ⟨rfl, hb4⟩
    replace hb1 := Kt.bthen hb1 hb4
    clear hb4
    have HBL := Lib.hid hb1
    go_wp2_with fail
    refine (HVD.out _ HBL.out).mono ?_
    rintro en w5 ⟨rfl, hb5⟩
    replace hb1 := Kt.bthen hb1 hb5
    clear hb5
    cases b with
    | false =>
      go_wp2_with fail
      go_ret
      exact ⟨rfl, hb1⟩
    | true =>
      obtain rfl := HB.out rfl
      go_wp2_with fail
      go_ret
      exact ⟨rfl, hb1⟩
  · have HW := Lib.hid (wd_no s (by omega) h)
    clear h hvd
    go_enter Tryd.func3, Tryd.ntmps3
    go_wp2_with fail
    refine (HW.out _).mono ?_
    rintro en w1 ⟨rfl, hb1⟩
    go_wp2_with fail
    refine (lives_calls _).mono ?_
    rintro en w2 ⟨rfl, hb2⟩
    replace hb1 := Kt.bthen hb1 hb2
    clear hb2
    go_wp2_with fail
    refine (lives_calls _).mono ?_
    rintro en w3 ⟨rfl, hb2⟩
    replace hb1 := Kt.bthen hb1 hb2
    clear hb2
    go_wp2_with fail
    go_ret
    exact ⟨rfl, hb1⟩
theorem good_size (t : ByteArray) (n : Nat) (hn : t.size = 2 * n) : (wide (⟨(enc (nar (unitsOf t.data.toList))).toArray⟩ : ByteArray).data.toList).length = t.size ∧ (⟨(enc (nar (unitsOf t.data.toList))).toArray⟩ : ByteArray).size ≤ 4 * n ∧ runes (⟨(enc (nar (unitsOf t.data.toList))).toArray⟩ : ByteArray).data.toList = nar (unitsOf t.data.toList) := by
  have hle := unitsOf_le t.data.toList
  have hul : (unitsOf t.data.toList).length = n := by
    rw [unitsOf_len]
    have e : t.data.toList.length = t.size := by simp
    omega
  have hsc : ∀ r ∈ nar (unitsOf t.data.toList), scalar r := nar_scalar _ hle
  have hcn : cnt (nar (unitsOf t.data.toList)) = n := by rw [nar_cnt _ hle, hul]
  have hru : runes (⟨(enc (nar (unitsOf t.data.toList))).toArray⟩ : ByteArray).data.toList = nar (unitsOf t.data.toList) := runes_enc _ hsc
  refine ⟨?_, ?_, hru⟩
  · show (wideR (runes (⟨(enc (nar (unitsOf t.data.toList))).toArray⟩ : ByteArray).data.toList)).length = _
    rw [hru, wideR_len, hcn, hn]
  · rw [txt_size]
    have h1 := enc_len (nar (unitsOf t.data.toList))
    have h2 : (nar (unitsOf t.data.toList)).length ≤ cnt (nar (unitsOf t.data.toList)) := by
      unfold cnt
      generalize nar (unitsOf t.data.toList) = l
      induction l with
      | nil => simp
      | cons r l ih => simp only [List.map_cons, List.sum_cons, List.length_cons]; split <;> omega
    omega
set_option maxHeartbeats 1600000 in
theorem good_walk {B : Nat} (v0 : Value) (w : World) (hvd : Vd w) (r0 : Fr.RdV w B .string v0) :
    Calls Tryd.prog 4 #[v0] w fun e w' => e = .returned (.bool true) ∧ Below w.heap.size w w' := by
  obtain ⟨t, e, hs⟩ := r0; cases e
  rcases nr_any t with ⟨n, hn, hn2, h⟩ | ⟨n, hn, h⟩
  · have HN := Lib.hid h
    obtain ⟨g1, g2, g3⟩ := good_size t n hn
    have HW := Lib.hid (wd_ok ⟨(enc (nar (unitsOf t.data.toList))).toArray⟩ (by omega) (by omega))
    have hnw := nr_wide ⟨(enc (nar (unitsOf t.data.toList))).toArray⟩ (by omega)
    rw [g3] at hnw
    have HNW := Lib.hid hnw
    have hsz : (⟨(wide (⟨(enc (nar (unitsOf t.data.toList))).toArray⟩ : ByteArray).data.toList).toArray⟩ : ByteArray).size = t.size := by rw [txt_size, g1]
    have hv : Go.Lib.validD (⟨(enc (nar (unitsOf t.data.toList))).toArray⟩ : ByteArray).data.toList = true := valid_enc _ (nar_scalar _ (unitsOf_le _))
    have HVD := Lib.hid (fun w1 hb => hvd ⟨(enc (nar (unitsOf t.data.toList))).toArray⟩ w1 (by omega) hb)
    rw [hv] at HVD
    clear h hnw g1 g2 g3 hv hvd hn hn2
    generalize (⟨(wide (⟨(enc (nar (unitsOf t.data.toList))).toArray⟩ : ByteArray).data.toList).toArray⟩ : ByteArray) = u at *
    generalize (⟨(enc (nar (unitsOf t.data.toList))).toArray⟩ : ByteArray) = s at *
    go_enter Tryd.func4, Tryd.ntmps4
    go_wp2_with fail
    refine (HN.out _).mono ?_
    rintro en w1 ⟨rfl, hb1⟩
    go_wp2_with fail
    refine (lives_calls _).mono ?_
    rintro en w2 ⟨rfl, hb2⟩
    replace hb1 := Kt.bthen hb1 hb2
    clear hb2
    go_wp2_with fail
    refine (HW.out _).mono ?_
    rintro en w3 ⟨rfl, hb3⟩
    replace hb1 := Kt.bthen hb1 hb3
    clear hb3
    have HBL := Lib.hid hb1
    go_wp2_with fail
    refine (HVD.out _ HBL.out).mono ?_
    rintro en w4 ⟨rfl, hb4⟩
    replace hb1 := Kt.bthen hb1 hb4
    clear hb4
    go_wp2_with fail
    refine (HNW.out _).mono ?_
    rintro en w5 ⟨rfl, hb5⟩
    replace hb1 := Kt.bthen hb1 hb5
    clear hb5
    go_wp2_with fail
    go_ret
    exact ⟨rfl, hb1⟩
  · have HN := Lib.hid h
    have hne : (n != 0) = true := by rw [bne_iff_ne]; exact hn
    clear h hvd hn
    go_enter Tryd.func4, Tryd.ntmps4
    go_wp2_with fail
    refine (HN.out _).mono ?_
    rintro en w1 ⟨rfl, hb1⟩
    go_wp2_with fail
    refine (lives_calls _).mono ?_
    rintro en w2 ⟨rfl, hb2⟩
    replace hb1 := Kt.bthen hb1 hb2
    clear hb2
    go_wp2_with fail
    refine (lives_calls _).mono ?_
    rintro en w3 ⟨rfl, hb2⟩
    replace hb1 := Kt.bthen hb1 hb2
    clear hb2
    go_wp2_with fail
    go_ret
    exact ⟨rfl, hb1⟩
end Go.Proofs.YtecbcklbmaimgaaDoor
