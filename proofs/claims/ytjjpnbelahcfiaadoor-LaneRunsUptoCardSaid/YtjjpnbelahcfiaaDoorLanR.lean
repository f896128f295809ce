/- The law LaneBack. -/
import Derived.Test.YtjjpnbelahcfiaaDoorLanQ
namespace Go.Proofs.YtjjpnbelahcfiaaDoor
open Go.RowKit Go.Proofs.YtjjpnbelahcfiaaDoor.Lan
theorem back_bytes (s : ByteArray) : bytesR ⟨(bitsL s.data.toList).toArray⟩ = (s, 0) := by
  unfold bytesR
  have e : ((⟨(bitsL s.data.toList).toArray⟩ : ByteArray).data.toList) = bitsL s.data.toList := rfl
  have h8 : (⟨(bitsL s.data.toList).toArray⟩ : ByteArray).size % 8 = 0 := by
    show (bitsL s.data.toList).toArray.size % 8 = 0
    rw [List.size_toArray, bitsL_len]; omega
  rw [e, if_pos ((ok_bit _).2 (bitsL_bit _)), if_pos h8, bytes_bits, ba_of]
theorem stuff_bit : ∀ (l : List UInt8) (n : Nat), (∀ b ∈ l, bit b) → (∀ b ∈ stuff n l, bit b) ∧ (stuff n l).length ≤ 2 * l.length
  | [], _, _ => ⟨fun b hb => (by cases hb), Nat.le_refl _⟩
  | a :: l, n, h => by
    have h1 := h a List.mem_cons_self
    have h2 := fun x hx => h x (List.mem_cons_of_mem a hx)
    by_cases h6 : nxt n a = 6
    · have e : stuff n (a :: l) = a :: 48 :: stuff 0 l := if_pos h6
      have ih := stuff_bit l 0 h2
      rw [e]
      refine ⟨fun b hb => ?_, by simp only [List.length_cons]; omega⟩
      rcases List.mem_cons.1 hb with rfl | hb
      · exact h1
      · rcases List.mem_cons.1 hb with rfl | hb
        · exact .inl rfl
        · exact ih.1 b hb
    · have e : stuff n (a :: l) = a :: stuff (nxt n a) l := if_neg h6
      have ih := stuff_bit l (nxt n a) h2
      rw [e]
      refine ⟨fun b hb => ?_, by simp only [List.length_cons]; omega⟩
      rcases List.mem_cons.1 hb with rfl | hb
      · exact h1
      · exact ih.1 b hb
theorem back_unstuff (s : ByteArray) (w : World) (hs : s.size * 2 + 2 ≤ 140737488355328) (hok : okL [48, 49] s.data.toList = true) :
    Calls Tryd.prog 16 #[.string ⟨(stuff 0 s.data.toList).toArray⟩] w fun e w' => e = .returned (.tuple #[.string s, .int .i64 0]) ∧ Below w.heap.size w w' := by
  have hst := stuff_bit s.data.toList 0 ((ok_bit _).1 hok)
  have hl : s.data.toList.length = s.size := by simp
  refine (unstuff_good ⟨(stuff 0 s.data.toList).toArray⟩ w ?_ ?_).mono ?_
  · show (stuff 0 s.data.toList).toArray.size + 2 ≤ _
    rw [List.size_toArray]; omega
  · exact (ok_bit _).2 hst.1
  · rintro e w' ⟨x, c, hu, rfl, hb⟩
    have e1 : ((⟨(stuff 0 s.data.toList).toArray⟩ : ByteArray).data.toList) = stuff 0 s.data.toList := rfl
    rw [e1, unstuff_stuff _ 0 (by omega)] at hu
    obtain ⟨rfl, rfl⟩ := hu
    rw [ba_of]
    exact ⟨rfl, hb⟩
theorem back_unturn (s : ByteArray) (v : UInt8) (w : World) (hs : s.size ≤ 281474976702464) (hok : okL [48, 49] s.data.toList = true) (hv : isLv v) :
    Calls Tryd.prog 12 #[.string ⟨(turn v s.data.toList).toArray⟩, .int .u8 (v.toNat : Int)] w fun e w' => e = .returned (.tuple #[.string s, .int .i64 0]) ∧ Below w.heap.size w w' := by
  have h := unturn_good ⟨(turn v s.data.toList).toArray⟩ v w (by show (turn v s.data.toList).toArray.size ≤ _; rw [List.size_toArray, turn_len]; simpa using hs) ((ok_lv _).2 (turn_is _ _ hv)) hv
  rw [show ((⟨(turn v s.data.toList).toArray⟩ : ByteArray).data.toList) = turn v s.data.toList from rfl, unturn_turn _ _ hv ((ok_bit _).1 hok), ba_of] at h
  exact h
set_option maxHeartbeats 3200000 in
theorem back_calls (s a : ByteArray) (v : UInt8) (w : World) (hs : s.size ≤ 1048576) (ha : a.size ≤ 1048576) :
    Calls Tryd.prog 6 #[.string s, .string a, .int .u8 (v.toNat : Int)] w fun e w' => e = .returned (.bool true) ∧ Below w.heap.size w w' := by
  have H1 := Lib.hid (fun W : World => bits_calls s W (by omega))
  have hb8 : (⟨(bitsL s.data.toList).toArray⟩ : ByteArray).size = 8 * s.size := by
    show (bitsL s.data.toList).toArray.size = _
    rw [List.size_toArray, bitsL_len]; simp
  have h2 := fun W : World => bytes_calls ⟨(bitsL s.data.toList).toArray⟩ W (by omega)
  rw [back_bytes] at h2
  have H2 := Lib.hid h2
  generalize (⟨(bitsL s.data.toList).toArray⟩ : ByteArray) = row at *
  clear h2 hb8
  have hal : a.data.toList.length = a.size := by simp
  go_enter Tryd.func6, Tryd.ntmps6
  go_wp2_with fail
  refine (H1.out _).mono ?_
  rintro e w1 ⟨rfl, hb⟩
  have HB1 := Lib.hid hb
  clear hb H1
  go_wp2_with fail
  refine (H2.out _).mono ?_
  rintro e w2 ⟨rfl, hb⟩
  have HB2 := Lib.hid (Kt.bthen HB1.out hb)
  clear hb H2
  go_wp2_with fail
  refine (lives_calls _).mono ?_
  rintro e w3 ⟨rfl, hb⟩
  have HB3 := Lib.hid (Kt.bthen HB2.out hb)
  clear hb
  by_cases hok : okL [48, 49] a.data.toList = true
  · have HS := Lib.hid (fun W : World => stuff_good a W (by omega) (by have := (stuff_bit a.data.toList 0 ((ok_bit _).1 hok)).2; omega) hok)
    have HU := Lib.hid (fun W : World => back_unstuff a W (by omega) hok)
    generalize (⟨(stuff 0 a.data.toList).toArray⟩ : ByteArray) = st at *
    by_cases hv : isLv v
    · have HT := Lib.hid (fun W : World => turn_good a v W (by omega) hok hv)
      have HUT := Lib.hid (fun W : World => back_unturn a v W (by omega) hok hv)
      generalize (⟨(turn v a.data.toList).toArray⟩ : ByteArray) = tu at *
      clear hok hv hal hs ha
      go_wp2_with fail
      refine (HS.out _).mono ?_
      rintro e w4 ⟨rfl, hb⟩
      have HB4 := Lib.hid (Kt.bthen HB3.out hb)
      clear hb HS
      go_wp2_with fail
      refine (HU.out _).mono ?_
      rintro e w5 ⟨rfl, hb⟩
      have HB5 := Lib.hid (Kt.bthen HB4.out hb)
      clear hb HU
      go_wp2_with fail
      refine (HT.out _).mono ?_
      rintro e w6 ⟨rfl, hb⟩
      have HB6 := Lib.hid (Kt.bthen HB5.out hb)
      clear hb HT
      go_wp2_with fail
      refine (HUT.out _).mono ?_
      rintro e w7 ⟨rfl, hb⟩
      have HB7 := Lib.hid (Kt.bthen HB6.out hb)
      clear hb HUT
      go_wp2_with fail
      go_ret
      exact ⟨rfl, HB7.out⟩
    · have HT := Lib.hid (fun W : World => turn_bad a v W (by omega) (fun h => hv h.2))
      have e1 : ((v.toNat : Int) != 74) = true := by
        rw [bne_iff_ne]; intro e; exact hv (.inl (UInt8.toNat_inj.1 (by show v.toNat = 74; omega)))
      have e2 : ((v.toNat : Int) != 75) = true := by
        rw [bne_iff_ne]; intro e; exact hv (.inr (UInt8.toNat_inj.1 (by show v.toNat = 75; omega)))
      clear hok hv hal hs ha
      go_wp2_with fail
      refine (HS.out _).mono ?_
      rintro e w4 ⟨rfl, hb⟩
      have HB4 := Lib.hid (Kt.bthen HB3.out hb)
      clear hb HS
      go_wp2_with fail
      refine (HU.out _).mono ?_
      rintro e w5 ⟨rfl, hb⟩
      have HB5 := Lib.hid (Kt.bthen HB4.out hb)
      clear hb HU
      go_wp2_with fail
      refine (HT.out _).mono ?_
      rintro e w6 ⟨rfl, hb⟩
      have HB6 := Lib.hid (Kt.bthen HB5.out hb)
      clear hb HT
      go_wp2_with fail
      go_ret
      exact ⟨rfl, HB6.out⟩
  · have HS := Lib.hid (fun W : World => stuff_bad a W (by omega) (by simpa using hok))
    clear hok hal hs ha
    go_wp2_with fail
    refine (HS.out _).mono ?_
    rintro e w4 ⟨rfl, hb⟩
    have HB4 := Lib.hid (Kt.bthen HB3.out hb)
    clear hb HS
    go_wp2_with fail
    go_ret
    exact ⟨rfl, HB4.out⟩
theorem back_walk (v0 v1 v2 : Value) (w : World) (r0 : Fr.RdV w 1048576 .string v0) (r1 : Fr.RdV w 1048576 .string v1) (r2 : Fr.RdV w 1048576 (.int .u8) v2) :
    Calls Tryd.prog 6 #[v0, v1, v2] w fun e w' => e = .returned (.bool true) ∧ Below w.heap.size w w' := by
  obtain ⟨s, rfl, hs⟩ := str_rd r0
  obtain ⟨a, rfl, ha⟩ := str_rd r1
  obtain ⟨v, rfl⟩ := byte_rd r2
  exact back_calls s a v w hs ha
end Go.Proofs.YtjjpnbelahcfiaaDoor
