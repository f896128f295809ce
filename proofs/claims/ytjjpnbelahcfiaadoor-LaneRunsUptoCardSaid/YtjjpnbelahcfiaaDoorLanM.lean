/- The laws LaneJoins, LanePoles, LaneFlips. -/
import Derived.Test.YtjjpnbelahcfiaaDoorLanL
import Derived.Test.YtjjpnbelahcfiaaDoorSlm
namespace Go.Proofs.YtjjpnbelahcfiaaDoor
open Go.RowKit Go.Proofs.YtjjpnbelahcfiaaDoor.Lan
theorem joins_bad (a b : ByteArray) (v : UInt8) (w : World) (ha : a.size ≤ 140737488351232) (h : ¬ (okL [48, 49] a.data.toList = true ∧ isLv v)) :
    Calls Tryd.prog 3 #[.string a, .string b, .int .u8 (v.toNat : Int)] w fun e w' => e = .returned (.bool true) ∧ Below w.heap.size w w' := by
  have H1 := Lib.hid (turn_bad a v w (by omega) h)
  clear h ha
  go_enter Tryd.func3, Tryd.ntmps3
  go_wp2_with fail
  refine H1.out.mono ?_
  rintro e w1 ⟨rfl, hb⟩
  have HB1 := Lib.hid hb
  clear hb
  go_wp2_with fail
  refine (lives_calls _).mono ?_
  rintro e w2 ⟨rfl, hb⟩
  have HB2 := Lib.hid (Kt.bthen HB1.out hb)
  clear hb
  go_wp2_with fail
  refine (lives_calls _).mono ?_
  rintro e w3 ⟨rfl, hb⟩
  have HB3 := Lib.hid (Kt.bthen HB2.out hb)
  clear hb
  go_wp2_with fail
  go_ret
  exact ⟨rfl, HB3.out⟩
theorem joins_good (a b : ByteArray) (v : UInt8) (w : World) (ha : a.size ≤ 140737488351232) (hb : b.size ≤ 140737488351232) (hok : okL [48, 49] a.data.toList = true) (hv : isLv v) :
    Calls Tryd.prog 3 #[.string a, .string b, .int .u8 (v.toNat : Int)] w fun e w' => e = .returned (.bool true) ∧ Below w.heap.size w w' := by
  have H1 := Lib.hid (turn_good a v w (by omega) hok hv)
  have H2 := Lib.hid (fun W : World => turn_calls b (lastL v a.data.toList) W (by omega))
  have H3 := Lib.hid (fun W : World => turn_calls (a ++ b) v W (by rw [ByteArray.size_append]; omega))
  have HE : Hid ((turnR (a ++ b) v).2 = (turnR b (lastL v a.data.toList)).2 ∧ ((turnR b (lastL v a.data.toList)).2 = 0 ∧ (turnR (a ++ b) v).1 = ⟨(turn v a.data.toList).toArray⟩ ++ (turnR b (lastL v a.data.toList)).1 ∨ (turnR b (lastL v a.data.toList)).2 = 1)) := Lib.hid (by
    have hab : (a ++ b).data.toList = a.data.toList ++ b.data.toList := by simp
    have hl2 := lastL_is a.data.toList v hv
    by_cases hob : okL [48, 49] b.data.toList = true
    · have e1 : turnR b (lastL v a.data.toList) = (⟨(turn (lastL v a.data.toList) b.data.toList).toArray⟩, 0) := if_pos ⟨hob, hl2⟩
      have e2 : turnR (a ++ b) v = (⟨(turn v (a ++ b).data.toList).toArray⟩, 0) := if_pos ⟨by rw [hab, okL_app, hok, hob]; rfl, hv⟩
      rw [e1, e2]
      refine ⟨rfl, .inl ⟨rfl, ?_⟩⟩
      rw [hab, turn_app]
      apply ByteArray.ext
      simp
    · have e1 : turnR b (lastL v a.data.toList) = (⟨#[]⟩, 1) := if_neg (fun h => hob h.1)
      have e2 : turnR (a ++ b) v = (⟨#[]⟩, 1) := if_neg (fun h => hob (by have := h.1; rw [hab, okL_app, hok] at this; simpa using this))
      rw [e1, e2]
      exact ⟨rfl, .inr rfl⟩)
  have HAB : Hid (¬ 9223372036854775807 < a.size + b.size) := Lib.hid (by omega)
  have HMS : Hid ((turnR b (lastL v a.data.toList)).1.size ≤ 140737488351232) := Lib.hid (by
    unfold turnR
    split
    · show (turn _ _).toArray.size ≤ _
      rw [List.size_toArray, turn_len]
      simpa using hb
    · exact Nat.zero_le _)
  have hLAST : ∀ h : turn v a.data.toList ≠ [], (turn v a.data.toList).getLast h = lastL v a.data.toList := turn_last a.data.toList v
  have hNIL : turn v a.data.toList = [] → lastL v a.data.toList = v := by
    intro h
    have := turn_len a.data.toList v
    rw [h] at this
    have : a.data.toList = [] := List.eq_nil_of_length_eq_zero this.symm
    rw [this]; rfl
  have hbnd : (turn v a.data.toList).length ≤ 140737488351232 := by rw [turn_len]; simpa using ha
  generalize turn v a.data.toList = L at *
  generalize lastL v a.data.toList = u at *
  generalize turnR b u = R1 at *
  generalize turnR (a ++ b) v = R2 at *
  obtain ⟨M, c⟩ := R1
  obtain ⟨N, f⟩ := R2
  dsimp only at *
  obtain ⟨rfl, hE⟩ := HE.out
  clear HE hok hv ha hb
  have HEE := Lib.hid hE
  clear hE
  by_cases hn : L = []
  · subst hn
    have hu := hNIL rfl
    subst hu
    clear hNIL hLAST hbnd
    go_enter Tryd.func3, Tryd.ntmps3
    go_wp2_with fail
    refine H1.out.mono ?_
    rintro e w1 ⟨rfl, hb⟩
    have HB1 := Lib.hid hb
    clear hb
    go_wp2_with fail
    refine (lives_calls _).mono ?_
    rintro e w2 ⟨rfl, hb⟩
    have HB2 := Lib.hid (Kt.bthen HB1.out hb)
    clear hb
    go_wp2_with fail
    refine (H2.out _).mono ?_
    rintro e w3 ⟨rfl, hb⟩
    have HB3 := Lib.hid (Kt.bthen HB2.out hb)
    clear hb
    have hab := HAB.out
    go_wp2_with fail
    refine (H3.out _).mono ?_
    rintro e w4 ⟨rfl, hb⟩
    have HB4 := Lib.hid (Kt.bthen HB3.out hb)
    clear hb hab
    have hms : ¬ 9223372036854775807 < (0 + M.size) := by have := HMS.out; omega
    have hme : (⟨#[]⟩ : ByteArray) ++ M = M := by apply ByteArray.ext; simp
    rcases HEE.out with ⟨rfl, h⟩ | rfl
    · rw [hme] at h
      subst h
      clear HEE H1 H2 H3
      go_wp2_with fail
      go_ret
      exact ⟨rfl, HB4.out⟩
    · clear HEE H1 H2 H3
      go_wp2_with fail
      go_ret
      exact ⟨rfl, HB4.out⟩
  · obtain ⟨n, hX⟩ : ∃ n, L.length = n + 1 := ⟨L.length - 1, by have := List.length_pos_iff.2 hn; omega⟩
    have hlast := hLAST hn
    have hxs : (⟨L.toArray⟩ : ByteArray).size = n + 1 := by show L.toArray.size = _; simpa using hX
    have hxl : (⟨L.toArray⟩ : ByteArray)[n]'(by rw [hxs]; omega) = u := by
      rw [← hlast, List.getLast_eq_getElem]
      show L.toArray[n]'_ = _
      simp [hX]
    have hne : (!(⟨L.toArray⟩ : ByteArray).toList.isEmpty) = true := by
      rw [Lib.toList_data]
      show (!L.isEmpty) = true
      cases L with
      | nil => exact absurd rfl hn
      | cons x l => rfl
    generalize (⟨L.toArray⟩ : ByteArray) = X at *
    have hnb : (n : Int) ≤ 140737488351232 := by omega
    clear hNIL hLAST hbnd hlast hX hn
    go_enter Tryd.func3, Tryd.ntmps3
    go_wp2_with fail
    refine H1.out.mono ?_
    rintro e w1 ⟨rfl, hb⟩
    have HB1 := Lib.hid hb
    clear hb
    go_wp2_with fail
    refine (lives_calls _).mono ?_
    rintro e w2 ⟨rfl, hb⟩
    have HB2 := Lib.hid (Kt.bthen HB1.out hb)
    clear hb
    go_wp2_with fail
    refine (H2.out _).mono ?_
    rintro e w3 ⟨rfl, hb⟩
    have HB3 := Lib.hid (Kt.bthen HB2.out hb)
    clear hb
    have hab := HAB.out
    go_wp2_with fail
    refine (H3.out _).mono ?_
    rintro e w4 ⟨rfl, hb⟩
    have HB4 := Lib.hid (Kt.bthen HB3.out hb)
    clear hb hab
    have hms : ¬ 9223372036854775807 < (X.size + M.size) := by have := HMS.out; omega
    rcases HEE.out with ⟨rfl, h⟩ | rfl
    · subst h
      clear HEE H1 H2 H3 hxl hne hxs
      go_wp2_with fail
      go_ret
      exact ⟨rfl, HB4.out⟩
    · clear HEE H1 H2 H3
      go_wp2_with fail
      go_ret
      exact ⟨rfl, HB4.out⟩
theorem reach_is : reachBytes = 140737488351232 := rfl
theorem joins_walk (v0 v1 v2 : Value) (w : World) (r0 : Fr.RdV w reachBytes .string v0) (r1 : Fr.RdV w reachBytes .string v1) (r2 : Fr.RdV w reachBytes (.int .u8) v2) :
    Calls Tryd.prog 3 #[v0, v1, v2] w fun e w' => e = .returned (.bool true) ∧ Below w.heap.size w w' := by
  obtain ⟨a, rfl, ha⟩ := str_rd r0
  obtain ⟨b, rfl, hb⟩ := str_rd r1
  obtain ⟨v, rfl⟩ := byte_rd r2
  rw [reach_is] at ha hb
  by_cases h : okL [48, 49] a.data.toList = true ∧ isLv v
  · exact joins_good a b v w ha hb h.1 h.2
  · exact joins_bad a b v w ha h
end Go.Proofs.YtjjpnbelahcfiaaDoor
