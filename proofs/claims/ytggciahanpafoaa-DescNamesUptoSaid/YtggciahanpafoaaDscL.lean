/- The laws of package desc, walked: Names. -/
import Derived.Test.YtggciahanpafoaaDscN
namespace Go.Proofs.Ytggciahanpafoaa
open Go.RowKit Go.Proofs.Ytggciahanpafoaa.Utf
theorem hub_wide : (wide (⟨#[104, 117, 98]⟩ : ByteArray).data.toList).length ≤ 252 := by decide
theorem hub_val : (⟨(wtxt (wide (⟨#[104, 117, 98]⟩ : ByteArray).data.toList)).toArray⟩ : ByteArray) = ⟨#[8, 3, 104, 0, 117, 0, 98, 0]⟩ := by decide
theorem wtxt_len (l : List UInt8) : (wtxt l).length = l.length + 2 := by simp [wtxt, putB]
theorem txt_size (l : List UInt8) : (⟨l.toArray⟩ : ByteArray).size = l.length := by show l.toArray.size = _; rw [List.size_toArray]
theorem wtxt_ok (rs : List Nat) (h : (wideR rs).length ≤ 252) : okTxt ⟨(wtxt (wideR rs)).toArray⟩ (cnt rs) := by
  have hl := wideR_len rs
  have hz : (⟨(wtxt (wideR rs)).toArray⟩ : ByteArray).size = (wideR rs).length + 2 := by rw [txt_size, wtxt_len]
  refine ⟨by omega, by omega, by omega, by omega, ?_, ?_⟩
  · refine Eq.trans (b := (UInt8.ofNat ((((wideR rs).length : Int) + 2) % 256).toNat).toNat) rfl ?_
    rw [hz]
    simp; omega
  · show (UInt8.ofNat ((3 : Int) % 256).toNat).toNat = 3
    decide
theorem wtxt_runes (rs : List Nat) (hs : ∀ r ∈ rs, scalar r) : runesOfTxt ⟨(wtxt (wideR rs)).toArray⟩ = rs := by
  unfold runesOfTxt
  have e : ((⟨(wtxt (wideR rs)).toArray⟩ : ByteArray).data.toList).drop 2 = wideR rs := rfl
  rw [e, nar_wide rs hs]
theorem txt_le (t : ByteArray) (n : Nat) (h : okTxt t n) : (wide (⟨(enc (runesOfTxt t)).toArray⟩ : ByteArray).data.toList).length = 2 * n ∧ (⟨(enc (runesOfTxt t)).toArray⟩ : ByteArray).size ≤ 504 := by
  have hle := unitsOf_le (t.data.toList.drop 2)
  have hul : (unitsOf (t.data.toList.drop 2)).length = n := by
    rw [unitsOf_len, List.length_drop]
    have := h.1
    have e : t.data.toList.length = t.size := by simp
    omega
  have hsc : ∀ r ∈ runesOfTxt t, scalar r := nar_scalar _ hle
  have hcn : cnt (runesOfTxt t) = n := by unfold runesOfTxt; rw [nar_cnt _ hle, hul]
  refine ⟨?_, ?_⟩
  · show (wideR (runes (enc (runesOfTxt t)))).length = _
    rw [runes_enc _ hsc, wideR_len, hcn]
  · rw [txt_size]
    have h1 := enc_len (runesOfTxt t)
    have h2 : (runesOfTxt t).length ≤ cnt (runesOfTxt t) := by
      unfold cnt
      generalize runesOfTxt t = l
      induction l with
      | nil => simp
      | cons r l ih => simp only [List.map_cons, List.sum_cons, List.length_cons]; split <;> omega
    have := h.2.1
    omega
set_option maxHeartbeats 1600000 in
theorem names_walk (v0 v1 : Value) (w : World) (r0 : Fr.RdV w 1048576 .string v0) (r1 : Fr.RdV w 1048576 .string v1) :
    Calls Try.prog 3 #[v0, v1] w fun e w' => e = .returned (.bool true) ∧ Below w.heap.size w w' := by
  obtain ⟨s, e, hs⟩ := r0; cases e
  obtain ⟨t, e, ht⟩ := r1; cases e
  have ht2 : t.size ≤ 140737488355328 := by omega
  have HHUB := write_ok ⟨#[104, 117, 98]⟩ (by decide) w hub_wide
  rw [hub_val] at HHUB
  have HHUB2 := Lib.hid HHUB; clear HHUB
  go_enter Try.func3, Try.ntmps3
  go_wp2_with fail
  refine HHUB2.out.mono ?_
  rintro en w1 ⟨rfl, hb1⟩
  by_cases h : (wide s.data.toList).length ≤ 252
  · have HW := Lib.hid (write_ok s (by omega) w1 h)
    have HOK : Hid (okTxt ⟨(wtxt (wide s.data.toList)).toArray⟩ (cnt (runes s.data.toList))) := Lib.hid (wtxt_ok (runes s.data.toList) h)
    have HRU : Hid (runesOfTxt ⟨(wtxt (wide s.data.toList)).toArray⟩ = runes s.data.toList) := Lib.hid (wtxt_runes _ (runes_scalar _))
    have HAZ : Hid ((⟨(wtxt (wide s.data.toList)).toArray⟩ : ByteArray).size ≤ 254) := Lib.hid (by rw [txt_size, wtxt_len]; omega)
    have HOF := Lib.hid (fun w => of_calls s (by omega) w)
    clear h
    obtain ⟨a, ha⟩ : ∃ a : ByteArray, (⟨(wtxt (wide s.data.toList)).toArray⟩ : ByteArray) = a := ⟨_, rfl⟩
    rw [ha] at HW HOK HRU HAZ
    clear ha
    go_wp2_with fail
    refine HW.out.mono ?_
    rintro en w2 ⟨rfl, hb2⟩
    go_wp2_with fail
    refine (read_calls a _ (by have := HAZ.out; omega)).mono ?_
    rintro en w3 ⟨⟨n, _, rfl⟩ | ⟨hno, _⟩, hb3⟩
    · rw [HRU.out]
      obtain ⟨b, hb⟩ : ∃ b : ByteArray, (⟨(enc (runes s.data.toList)).toArray⟩ : ByteArray) = b := ⟨_, rfl⟩
      rw [hb] at HOF ⊢
      clear hb
      go_wp2_with fail
      refine (HOF.out _).mono ?_
      rintro en w4 ⟨rfl, hb4⟩
      have hbb4 := Kt.bthen (Kt.bthen (Kt.bthen hb1 hb2) hb3) hb4
      clear hb1 hb2 hb3 hb4
      go_wp2_with fail
      refine (read_calls t _ ht2).mono ?_
      rintro en w7 ⟨⟨n, hok, rfl⟩ | ⟨_, n, hn, rfl⟩, hb7⟩
      · obtain ⟨z1, z2⟩ := txt_le t n hok
        have hbb7 := Kt.bthen hbb4 hb7
        have HWR := Lib.hid (fun w => write_ok ⟨(enc (runesOfTxt t)).toArray⟩ (by omega) w (by have := hok.2.1; omega))
        have HSZ : Hid ((⟨(wtxt (wide (⟨(enc (runesOfTxt t)).toArray⟩ : ByteArray).data.toList)).toArray⟩ : ByteArray).size = t.size) := Lib.hid (by rw [txt_size, wtxt_len, z1, hok.1])
        have z3 : (⟨(enc (runesOfTxt t)).toArray⟩ : ByteArray).size ≤ 504 := z2
        obtain ⟨a2, ha2⟩ : ∃ a2 : ByteArray, (⟨(wtxt (wide (⟨(enc (runesOfTxt t)).toArray⟩ : ByteArray).data.toList)).toArray⟩ : ByteArray) = a2 := ⟨_, rfl⟩
        have HWR2 : Hid (∀ w, Calls Try.prog 10 #[.string ⟨(enc (runesOfTxt t)).toArray⟩] w fun e w' => e = .returned (.tuple #[.string a2, .int .i64 0]) ∧ Below w.heap.size w w') := Lib.hid (fun w => by rw [← ha2]; exact HWR.out w)
        have hsz2 : a2.size = t.size := by rw [← ha2]; exact HSZ.out
        clear ha2 z1 z2 z3 hok HSZ HWR
        generalize (⟨(enc (runesOfTxt t)).toArray⟩ : ByteArray) = bb at *
        go_wp2_with fail
        refine (HWR2.out _).mono ?_
        rintro en w8 ⟨rfl, hb8⟩
        go_wp2_with fail
        go_ret
        exact ⟨rfl, Kt.bthen hbb7 hb8⟩
      · have hne : (n != 0) = true := by rw [bne_iff_ne]; exact hn
        clear hn
        go_wp2_with fail
        go_ret
        exact ⟨rfl, Kt.bthen hbb4 hb7⟩
    · exact absurd HOK.out (hno _)
  · have HW := Lib.hid (write_no s (by omega) w1 h)
    clear h
    go_wp2_with fail
    refine HW.out.mono ?_
    rintro en w2 ⟨rfl, hb2⟩
    have hbb4 := Kt.bthen hb1 hb2
    clear hb1 hb2
    go_wp2_with fail
    refine (read_calls t _ ht2).mono ?_
    rintro en w7 ⟨⟨n, hok, rfl⟩ | ⟨_, n, hn, rfl⟩, hb7⟩
    · obtain ⟨z1, z2⟩ := txt_le t n hok
      have hbb7 := Kt.bthen hbb4 hb7
      have HWR := Lib.hid (fun w => write_ok ⟨(enc (runesOfTxt t)).toArray⟩ (by omega) w (by have := hok.2.1; omega))
      have HSZ : Hid ((⟨(wtxt (wide (⟨(enc (runesOfTxt t)).toArray⟩ : ByteArray).data.toList)).toArray⟩ : ByteArray).size = t.size) := Lib.hid (by rw [txt_size, wtxt_len, z1, hok.1])
      have z3 : (⟨(enc (runesOfTxt t)).toArray⟩ : ByteArray).size ≤ 504 := z2
      obtain ⟨a2, ha2⟩ : ∃ a2 : ByteArray, (⟨(wtxt (wide (⟨(enc (runesOfTxt t)).toArray⟩ : ByteArray).data.toList)).toArray⟩ : ByteArray) = a2 := ⟨_, rfl⟩
      have HWR2 : Hid (∀ w, Calls Try.prog 10 #[.string ⟨(enc (runesOfTxt t)).toArray⟩] w fun e w' => e = .returned (.tuple #[.string a2, .int .i64 0]) ∧ Below w.heap.size w w') := Lib.hid (fun w => by rw [← ha2]; exact HWR.out w)
      have hsz2 : a2.size = t.size := by rw [← ha2]; exact HSZ.out
      clear ha2 z1 z2 z3 hok HSZ HWR
      generalize (⟨(enc (runesOfTxt t)).toArray⟩ : ByteArray) = bb at *
      go_wp2_with fail
      refine (HWR2.out _).mono ?_
      rintro en w8 ⟨rfl, hb8⟩
      go_wp2_with fail
      go_ret
      exact ⟨rfl, Kt.bthen hbb7 hb8⟩
    · have hne : (n != 0) = true := by rw [bne_iff_ne]; exact hn
      clear hn
      go_wp2_with fail
      go_ret
      exact ⟨rfl, Kt.bthen hbb4 hb7⟩
end Go.Proofs.Ytggciahanpafoaa
