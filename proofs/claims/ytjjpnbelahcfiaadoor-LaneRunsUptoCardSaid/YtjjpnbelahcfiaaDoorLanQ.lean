/- The law LaneOne. -/
import Derived.Test.YtjjpnbelahcfiaaDoorLanO
namespace Go.Proofs.YtjjpnbelahcfiaaDoor
open Go.RowKit Go.Proofs.YtjjpnbelahcfiaaDoor.Lan
theorem ok_bit (l : List UInt8) : okL [48, 49] l = true ↔ ∀ b ∈ l, bit b := by
  unfold okL bit
  simp [List.all_eq_true]
theorem ba_of (s : ByteArray) : (⟨s.data.toList.toArray⟩ : ByteArray) = s := by cases s; rfl
theorem bytes_one (s : ByteArray) (h : (bytesR s).2 = 0) : (⟨(bitsL (bytesR s).1.data.toList).toArray⟩ : ByteArray) = s ∧ (bytesR s).1.size * 8 ≤ s.size := by
  unfold bytesR at h ⊢
  by_cases h1 : okL [48, 49] s.data.toList = true
  · by_cases h2 : s.size % 8 = 0
    · rw [if_pos h1, if_pos h2]
      have hl : s.data.toList.length = s.size := by simp
      have e : ((⟨(bytesL s.data.toList).toArray⟩ : ByteArray).data.toList) = bytesL s.data.toList := rfl
      refine ⟨?_, ?_⟩
      · show (⟨(bitsL (bytesL s.data.toList)).toArray⟩ : ByteArray) = s
        rw [bits_bytes _ (by rw [hl]; exact h2) ((ok_bit _).1 h1)]
      · show (bytesL s.data.toList).toArray.size * 8 ≤ _
        rw [List.size_toArray]
        unfold bytesL
        rw [bytesN_len, hl]; omega
    · rw [if_pos h1, if_neg h2] at h; exact absurd h (by decide)
  · rw [if_neg h1] at h; exact absurd h (by decide)
theorem stuff_mem : ∀ (l : List UInt8) (n : Nat), (∀ b ∈ l, b ∈ stuff n l) ∧ l.length ≤ (stuff n l).length
  | [], _ => ⟨fun b hb => (by cases hb), Nat.zero_le _⟩
  | a :: l, n => by
    by_cases h : nxt n a = 6
    · have e : stuff n (a :: l) = a :: 48 :: stuff 0 l := if_pos h
      have ih := stuff_mem l 0
      rw [e]
      refine ⟨fun b hb => ?_, by simp only [List.length_cons]; omega⟩
      rcases List.mem_cons.1 hb with rfl | hb
      · exact List.mem_cons_self
      · exact List.mem_cons_of_mem _ (List.mem_cons_of_mem _ (ih.1 b hb))
    · have e : stuff n (a :: l) = a :: stuff (nxt n a) l := if_neg h
      have ih := stuff_mem l (nxt n a)
      rw [e]
      refine ⟨fun b hb => ?_, by simp only [List.length_cons]; omega⟩
      rcases List.mem_cons.1 hb with rfl | hb
      · exact List.mem_cons_self
      · exact List.mem_cons_of_mem _ (ih.1 b hb)
theorem uns_one_plain (s : ByteArray) (x : ByteArray) (c : Int) (hok : okL [48, 49] s.data.toList = true) (h : UnsIs (unstuff 0 s.data.toList) x c) (hc : c = 0) : stuffR x = (s, 0) ∧ stuff 0 x.data.toList = s.data.toList ∧ x.size ≤ s.size := by
  cases hu : unstuff 0 s.data.toList with
  | none =>
    rw [hu] at h
    rcases h with h | h <;> omega
  | some m =>
    rw [hu] at h
    obtain ⟨rfl, _⟩ := h
    have hs := stuff_unstuff s.data.toList 0 m (by omega) ((ok_bit _).1 hok) hu
    rw [if_neg (by decide)] at hs
    have hm := stuff_mem m 0
    have e : ((⟨m.toArray⟩ : ByteArray).data.toList) = m := rfl
    have hokm : okL [48, 49] m = true := by
      rw [ok_bit]
      intro b hb
      exact (ok_bit _).1 hok b (by rw [← hs]; exact hm.1 b hb)
    refine ⟨?_, hs, ?_⟩
    · unfold stuffR
      rw [e, if_pos hokm, hs, ba_of]
    · show m.toArray.size ≤ _
      rw [List.size_toArray]
      have := hm.2
      rw [hs] at this
      simpa using this
theorem unturn_bits (l : List UInt8) (v : UInt8) : ∀ b ∈ unturn v l, bit b := by
  induction l generalizing v with
  | nil => intro b hb; cases hb
  | cons a l ih =>
    intro b hb
    rcases List.mem_cons.1 hb with rfl | hb
    · unfold unt bit
      split
      · exact .inr rfl
      · exact .inl rfl
    · exact ih a b hb
theorem turn_one (s : ByteArray) (v : UInt8) (h : (unturnR s v).2 = 0) : turnR (unturnR s v).1 v = (s, 0) ∧ (unturnR s v).1.size ≤ s.size := by
  unfold unturnR at h ⊢
  by_cases h1 : okL [74, 75] s.data.toList = true ∧ isLv v
  · rw [if_pos h1]
    refine ⟨?_, ?_⟩
    · unfold turnR
      show (if okL [48, 49] (unturn v s.data.toList) = true ∧ isLv v then ((⟨(turn v (unturn v s.data.toList)).toArray⟩ : ByteArray), (0 : Int)) else (⟨#[]⟩, 1)) = (s, 0)
      rw [if_pos ⟨(ok_bit _).2 (unturn_bits _ _), h1.2⟩, turn_unturn _ _ h1.2 ((ok_lv _).1 h1.1), ba_of]
    · show (unturn v s.data.toList).toArray.size ≤ _
      rw [List.size_toArray, unturn_len]
      simp
  · rw [if_neg h1] at h; exact absurd h (by decide)
/-- whatever Unstuff answers -/
theorem unstuff_any (s : ByteArray) (w : World) (hs : s.size + 2 ≤ 140737488355328) :
    Calls Tryd.prog 16 #[.string s] w fun e w' => ∃ x c, (c = 0 → stuffR x = (s, 0) ∧ stuff 0 x.data.toList = s.data.toList ∧ x.size ≤ s.size) ∧ e = .returned (.tuple #[.string x, .int .i64 c]) ∧ Below w.heap.size w w' := by
  by_cases h : okL [48, 49] s.data.toList = true
  · refine (unstuff_good s w hs h).mono ?_
    rintro e w' ⟨x, c, hu, he, hb⟩
    exact ⟨x, c, uns_one_plain s x c h hu, he, hb⟩
  · refine (unstuff_bad s w hs (by simpa using h)).mono ?_
    rintro e w' ⟨he, hb⟩
    exact ⟨_, _, fun h => absurd h (by decide), he, hb⟩
set_option maxHeartbeats 3200000 in
theorem one_calls (a s : ByteArray) (v : UInt8) (w : World) (ha : a.size ≤ 140737488351232) (hs : s.size ≤ 140737488351232) :
    Calls Tryd.prog 7 #[.string a, .string s, .int .u8 (v.toNat : Int)] w fun e w' => e = .returned (.bool true) ∧ Below w.heap.size w w' := by
  have H1 := Lib.hid (fun W : World => bytes_calls a W (by omega))
  have HA := Lib.hid (bytes_one a)
  have H2 := Lib.hid (fun W : World => unstuff_any a W (by omega))
  have H3 := Lib.hid (fun W : World => unturn_calls s v W (by omega))
  have HC := Lib.hid (turn_one s v)
  have HLA := Lib.hid ha
  have HLS := Lib.hid hs
  generalize bytesR a = R1 at *
  obtain ⟨A1, c1⟩ := R1
  generalize unturnR s v = R3 at *
  obtain ⟨A3, c3⟩ := R3
  dsimp only at *
  clear ha hs
  go_enter Tryd.func7, Tryd.ntmps7
  go_wp2_with fail
  refine (lives_calls _).mono ?_
  rintro e w1 ⟨rfl, hb⟩
  have HB1 := Lib.hid hb
  clear hb
  go_wp2_with fail
  refine (H1.out _).mono ?_
  rintro e w2 ⟨rfl, hb⟩
  have HB2 := Lib.hid (Kt.bthen HB1.out hb)
  clear hb H1
  by_cases hc1 : c1 = 0
  · subst hc1
    obtain ⟨hA, hA2⟩ := HA.out rfl
    have hbits := bits_calls A1
    rw [hA] at hbits
    have HBITS := Lib.hid (fun W : World => hbits W (by have := HLA.out; omega))
    clear hbits hA hA2 HA
    go_wp2_with fail
    refine (HBITS.out _).mono ?_
    rintro e w3 ⟨rfl, hb⟩
    have HB3 := Lib.hid (Kt.bthen HB2.out hb)
    clear hb HBITS
    go_wp2_with fail
    refine (H2.out _).mono ?_
    rintro e w4 ⟨x, c2, hst, rfl, hb⟩
    have HB4 := Lib.hid (Kt.bthen HB3.out hb)
    have HST := Lib.hid hst
    clear hb H2 hst
    by_cases hc2 : c2 = 0
    · subst hc2
      obtain ⟨hB, hB2, hB3⟩ := HST.out rfl
      have hstuff := stuff_calls x
      rw [hB, hB2] at hstuff
      have HS := Lib.hid (fun W : World => hstuff W (by have := HLA.out; omega) (by have := HLA.out; rw [show a.data.toList.length = a.size by simp]; omega))
      clear hstuff hB hB2 hB3 HST
      go_wp2_with fail
      refine (HS.out _).mono ?_
      rintro e w5 ⟨rfl, hb⟩
      have HB5 := Lib.hid (Kt.bthen HB4.out hb)
      clear hb HS
      go_wp2_with fail
      refine (H3.out _).mono ?_
      rintro e w6 ⟨rfl, hb⟩
      have HB6 := Lib.hid (Kt.bthen HB5.out hb)
      clear hb H3
      by_cases hc3 : c3 = 0
      · subst hc3
        obtain ⟨hC, hC2⟩ := HC.out rfl
        have hturn := turn_calls A3 v
        rw [hC] at hturn
        have HT := Lib.hid (fun W : World => hturn W (by have := HLS.out; omega))
        clear hturn hC hC2 HC
        go_wp2_with fail
        refine (HT.out _).mono ?_
        rintro e w7 ⟨rfl, hb⟩
        have HB7 := Lib.hid (Kt.bthen HB6.out hb)
        clear hb HT
        go_wp2_with fail
        go_ret
        exact ⟨rfl, HB7.out⟩
      · have e3 : (c3 == 0) = false := by rw [beq_eq_false_iff_ne]; exact hc3
        clear HC hc3
        go_wp2_with fail
        go_ret
        exact ⟨rfl, HB6.out⟩
    · have e2 : (c2 == 0) = false := by rw [beq_eq_false_iff_ne]; exact hc2
      clear HST hc2
      go_wp2_with fail
      refine (H3.out _).mono ?_
      rintro e w6 ⟨rfl, hb⟩
      have HB6 := Lib.hid (Kt.bthen HB4.out hb)
      clear hb H3
      by_cases hc3 : c3 = 0
      · subst hc3
        obtain ⟨hC, hC2⟩ := HC.out rfl
        have hturn := turn_calls A3 v
        rw [hC] at hturn
        have HT := Lib.hid (fun W : World => hturn W (by have := HLS.out; omega))
        clear hturn hC hC2 HC
        go_wp2_with fail
        refine (HT.out _).mono ?_
        rintro e w7 ⟨rfl, hb⟩
        have HB7 := Lib.hid (Kt.bthen HB6.out hb)
        clear hb HT
        go_wp2_with fail
        go_ret
        exact ⟨rfl, HB7.out⟩
      · have e3 : (c3 == 0) = false := by rw [beq_eq_false_iff_ne]; exact hc3
        clear HC hc3
        go_wp2_with fail
        go_ret
        exact ⟨rfl, HB6.out⟩
  · have e1 : (c1 == 0) = false := by rw [beq_eq_false_iff_ne]; exact hc1
    clear HA hc1
    go_wp2_with fail
    refine (H2.out _).mono ?_
    rintro e w4 ⟨x, c2, hst, rfl, hb⟩
    have HB4 := Lib.hid (Kt.bthen HB2.out hb)
    have HST := Lib.hid hst
    clear hb H2 hst
    by_cases hc2 : c2 = 0
    · subst hc2
      obtain ⟨hB, hB2, hB3⟩ := HST.out rfl
      have hstuff := stuff_calls x
      rw [hB, hB2] at hstuff
      have HS := Lib.hid (fun W : World => hstuff W (by have := HLA.out; omega) (by have := HLA.out; rw [show a.data.toList.length = a.size by simp]; omega))
      clear hstuff hB hB2 hB3 HST
      go_wp2_with fail
      refine (HS.out _).mono ?_
      rintro e w5 ⟨rfl, hb⟩
      have HB5 := Lib.hid (Kt.bthen HB4.out hb)
      clear hb HS
      go_wp2_with fail
      refine (H3.out _).mono ?_
      rintro e w6 ⟨rfl, hb⟩
      have HB6 := Lib.hid (Kt.bthen HB5.out hb)
      clear hb H3
      by_cases hc3 : c3 = 0
      · subst hc3
        obtain ⟨hC, hC2⟩ := HC.out rfl
        have hturn := turn_calls A3 v
        rw [hC] at hturn
        have HT := Lib.hid (fun W : World => hturn W (by have := HLS.out; omega))
        clear hturn hC hC2 HC
        go_wp2_with fail
        refine (HT.out _).mono ?_
        rintro e w7 ⟨rfl, hb⟩
        have HB7 := Lib.hid (Kt.bthen HB6.out hb)
        clear hb HT
        go_wp2_with fail
        go_ret
        exact ⟨rfl, HB7.out⟩
      · have e3 : (c3 == 0) = false := by rw [beq_eq_false_iff_ne]; exact hc3
        clear HC hc3
        go_wp2_with fail
        go_ret
        exact ⟨rfl, HB6.out⟩
    · have e2 : (c2 == 0) = false := by rw [beq_eq_false_iff_ne]; exact hc2
      clear HST hc2
      go_wp2_with fail
      refine (H3.out _).mono ?_
      rintro e w6 ⟨rfl, hb⟩
      have HB6 := Lib.hid (Kt.bthen HB4.out hb)
      clear hb H3
      by_cases hc3 : c3 = 0
      · subst hc3
        obtain ⟨hC, hC2⟩ := HC.out rfl
        have hturn := turn_calls A3 v
        rw [hC] at hturn
        have HT := Lib.hid (fun W : World => hturn W (by have := HLS.out; omega))
        clear hturn hC hC2 HC
        go_wp2_with fail
        refine (HT.out _).mono ?_
        rintro e w7 ⟨rfl, hb⟩
        have HB7 := Lib.hid (Kt.bthen HB6.out hb)
        clear hb HT
        go_wp2_with fail
        go_ret
        exact ⟨rfl, HB7.out⟩
      · have e3 : (c3 == 0) = false := by rw [beq_eq_false_iff_ne]; exact hc3
        clear HC hc3
        go_wp2_with fail
        go_ret
        exact ⟨rfl, HB6.out⟩
theorem one_walk (v0 v1 v2 : Value) (w : World) (r0 : Fr.RdV w reachBytes .string v0) (r1 : Fr.RdV w reachBytes .string v1) (r2 : Fr.RdV w reachBytes (.int .u8) v2) :
    Calls Tryd.prog 7 #[v0, v1, v2] w fun e w' => e = .returned (.bool true) ∧ Below w.heap.size w w' := by
  obtain ⟨a, rfl, ha⟩ := str_rd r0
  obtain ⟨s, rfl, hs⟩ := str_rd r1
  obtain ⟨v, rfl⟩ := byte_rd r2
  rw [reach_is] at ha hs
  exact one_calls a s v w ha hs
end Go.Proofs.YtjjpnbelahcfiaaDoor
