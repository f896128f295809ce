/- The walks of package desc: put, WriteText, ReadText. -/
import Derived.Test.YtmddfpmchcmgiaaUtfO
import Derived.Test.YtmddfpmchcmgiaaGen
namespace Go.Proofs.Ytmddfpmchcmgiaa
open Go.RowKit Go.Proofs.Ytmddfpmchcmgiaa.Utf
def ics (l : List Int) : List Value := l.map (Value.int .i64)
theorem ics_len (a : List Int) : (ics a).length = a.length := by simp [ics]
def putB (l : List Int) : List UInt8 := l.map fun n => UInt8.ofNat (n % 256).toNat
theorem putB_app (a b : List Int) : putB (a ++ b) = putB a ++ putB b := by simp [putB]
theorem putB_len (a : List Int) : (putB a).length = a.length := by simp [putB]
theorem byte_val (n : Int) : ((UInt8.ofNat (n % 256).toNat).toNat : Int) = n % 256 := by simp; omega
set_option maxRecDepth 100000 in
set_option maxHeartbeats 800000 in
theorem put_calls (V : Value) (ns : List Int) (w : World) (h : Kt.Ar w V 1 ns.length (ics ns)) (hn : ns.length ≤ 1000) : Calls Try.prog 35 #[V] w fun e w' => e = .returned (.string ⟨(putB ns).toArray⟩) ∧ Below w.heap.size w w' := by
  obtain ⟨A, c, rfl, hc, hx⟩ := h.form
  have HX := Lib.hid hx; clear hx h
  go_enter Try.func35, Try.ntmps35
  go_wp2_with fail
  go_loopw [3, 8] (fun out i wr => ∃ k : Nat, k ≤ ns.length ∧ i = .int .i64 k ∧ Kt.Sl wr w.heap.size 5 1 out k (bcs (putB (ns.take k))) ∧ Below w.heap.size w wr) (fun _ i _ => ns.length - (intOf i).toNat)
  case atStart => exact ⟨0, Nat.zero_le _, rfl, by simpa [putB, bcs] using Kt.Sl.nil _ _ _ _, Below.refl _ _⟩
  case round =>
    obtain ⟨k, hk, rfl, hs, hb⟩ := hrel
    by_cases hlt : k < ns.length
    · obtain ⟨b, o, rfl, hbo, hx⟩ := HX.out (by omega)
      have hcell : wr.cell? ⟨b, o + k, none⟩ = some (.int .i64 ns[k]) := (hb.cell (p := ⟨b, o + k, none⟩) hbo).trans ((hx k (by rw [ics_len]; exact hlt)).trans (by simp [ics]))
      have HT : Hid (bcs (putB (ns.take (k + 1))) = bcs (putB (ns.take k)) ++ [.int .u8 (ns[k] % 256)]) := Lib.hid (by
        rw [List.take_succ_eq_append_getElem hlt, putB_app, bcs_app]; simp only [putB, bcs, List.map_cons, List.map_nil]; rw [byte_val])
      clear hx
      generalize ns[k] = n at *
      go_wp2_with (
        refine Kt.append_sl _ (by rfl) (.tmp 12) (.tmp 15) 66 rfl w.heap.size 5 (.int .u8 0) 1 1 infoB Try.underlying66 rfl (by decide) _ _ _ rfl (hs.alloc _) ⟨wr.heap.size, 0, none⟩ 1 1 [.int .u8 (n % 256)] rfl rfl (Kt.new_cells wr #[.int .u8 (n % 256)] _) (by simp [Value.oneCell']) (by unfold maxLen; omega) (by omega) (by rw [World.size_alloc]; have := hb.size; omega) ?_
        intro A' c' w3 hs3 hb3 hz3 _ _)
      go_roundw
      case rel => exact ⟨k + 1, by omega, by go_num, by rw [HT.out]; exact hs3, (Kt.balloc hb _).trans hb3⟩
      case measure => (simp [intOf] <;> omega)
    · obtain rfl : k = ns.length := by omega
      rw [List.take_length] at hs
      have hcv := conv_sl wr _ _ _ _ hs
      obtain ⟨A', c', rfl, _, _⟩ := hs.form
      go_wp2_with fail
      go_ret
      exact ⟨rfl, hb⟩
theorem str_eq {a b : ByteArray} (h : a = b) : Value.string a = .string b := by rw [h]
/-- a text's descriptor -/
def wtxt (l : List UInt8) : List UInt8 := putB [(l.length : Int) + 2, 3] ++ l
set_option maxRecDepth 100000 in
theorem write_no (s : ByteArray) (hs : s.size ≤ 35184372088832) (w : World) (h : ¬ (wide s.data.toList).length ≤ 252) : Calls Try.prog 54 #[.string s] w fun e w' => e = .returned (.tuple #[.string ⟨#[]⟩, .int .i64 2]) ∧ Below w.heap.size w w' := by
  have HW := wide_calls s hs w
  rw [wideV_no h] at HW
  have HW := Lib.hid HW
  go_enter Try.func54, Try.ntmps54
  go_wp2_with fail
  refine HW.out.mono ?_
  rintro en w1 ⟨rfl, hb⟩
  go_wp2_with fail
  go_ret2
  exact ⟨rfl, hb⟩
set_option maxRecDepth 100000 in
set_option maxHeartbeats 800000 in
theorem write_ok (s : ByteArray) (hs : s.size ≤ 35184372088832) (w : World) (h : (wide s.data.toList).length ≤ 252) : Calls Try.prog 54 #[.string s] w fun e w' => e = .returned (.tuple #[.string ⟨(wtxt (wide s.data.toList)).toArray⟩, .int .i64 0]) ∧ Below w.heap.size w w' := by
  have HW := wide_calls s hs w
  rw [wideV_ok h] at HW
  have HE : Hid ((⟨(putB [((wide s.data.toList).length : Int) + 2, 3]).toArray⟩ : ByteArray) ++ ⟨(wide s.data.toList).toArray⟩ = ⟨(wtxt (wide s.data.toList)).toArray⟩) := Lib.hid (by
    apply Kt.bytes_eq; rw [Kt.str_app]; rfl)
  have HZ : Hid ((⟨(wide s.data.toList).toArray⟩ : ByteArray).size = (wide s.data.toList).length) := Lib.hid (by show (List.toArray _).size = _; rw [List.size_toArray])
  obtain ⟨t, ht⟩ : ∃ t : ByteArray, t = ⟨(wide s.data.toList).toArray⟩ := ⟨_, rfl⟩
  rw [← ht] at HW HE HZ
  have HW := Lib.hid HW
  obtain ⟨n, hn⟩ : ∃ n, n = (wide s.data.toList).length := ⟨_, rfl⟩
  rw [← hn] at HE HZ h
  have hz : t.size ≤ 252 := by rw [HZ.out]; exact h
  have HZ2 : Hid ((t.size : Int) = n) := Lib.hid (by rw [HZ.out])
  obtain ⟨z, hzz⟩ : ∃ z : Int, z = t.size := ⟨_, rfl⟩
  clear ht hn HZ h
  go_enter Try.func54, Try.ntmps54
  go_wp2_with fail
  refine HW.out.mono ?_
  rintro en w1 ⟨rfl, hb⟩
  go_wp2_with fail
  have hA := Kt.Ar.new w1 #[.int .i64 ((t.size : Int) + 2), .int .i64 3] 3 2 1 rfl
  refine (put_calls _ [(t.size : Int) + 2, 3] _ hA (by simp)).mono ?_
  rintro en w2 ⟨rfl, hb2⟩
  have hps : (⟨(putB [(t.size : Int) + 2, 3]).toArray⟩ : ByteArray).size ≤ 2 := by show (List.toArray _).size ≤ _; rw [List.size_toArray, putB_len]; exact Nat.le_refl _
  have HE2 : Hid ((⟨(putB [(t.size : Int) + 2, 3]).toArray⟩ : ByteArray) ++ t = ⟨(wtxt (wide s.data.toList)).toArray⟩) := Lib.hid (by rw [HZ2.out]; exact HE.out)
  generalize (⟨(putB [(t.size : Int) + 2, 3]).toArray⟩ : ByteArray) = p at *
  go_wp2_with fail
  go_ret2
  exact ⟨by rw [HE2.out]; rfl, Kt.bthen (Kt.balloc hb _) hb2⟩
/-- what ReadText takes -/
def okTxt (t : ByteArray) (n : Nat) : Prop := t.size = 2 * n + 2 ∧ n ≤ 126 ∧ ∃ (h0 : 0 < t.size) (h1 : 1 < t.size), t[0].toNat = t.size ∧ t[1].toNat = 3
def runesOfTxt (t : ByteArray) : List Nat := nar (unitsOf (t.data.toList.drop 2))
def Reads (t : ByteArray) (w : World) (e : Ending) (w' : World) : Prop :=
  ((∃ n, okTxt t n ∧ e = .returned (.tuple #[.string ⟨(enc (runesOfTxt t)).toArray⟩, .int .i64 0])) ∨ ((∀ n, ¬ okTxt t n) ∧ ∃ n : Int, n ≠ 0 ∧ e = .returned (.tuple #[.string ⟨#[]⟩, .int .i64 n]))) ∧ Below w.heap.size w w'
set_option maxRecDepth 100000 in
set_option maxHeartbeats 800000 in
theorem read_calls (t : ByteArray) (w : World) (ht : t.size ≤ 140737488355328) : Calls Try.prog 31 #[.string t] w (Reads t w) := by
  by_cases h2 : t.size < 2
  · have HN := Lib.hid (show ∀ n, ¬ okTxt t n from fun n h => by have := h.1; omega)
    go_enter Try.func31, Try.ntmps31
    go_wp2_with fail
    go_ret2
    exact ⟨.inr ⟨HN.out, 3, by omega, rfl⟩, Below.refl _ _⟩
  · have hlo : (2 : Int) ≤ t.size := by omega
    obtain ⟨a, ha⟩ : ∃ a, a = t[0]'(by omega) := ⟨_, rfl⟩
    obtain ⟨b, hb⟩ : ∃ b, b = t[1]'(by omega) := ⟨_, rfl⟩
    have HAB := Lib.hid (show (t[0]'(by omega)).toNat = a.toNat ∧ (t[1]'(by omega)).toNat = b.toNat by rw [← ha, ← hb]; exact ⟨rfl, rfl⟩)
    have ha2 : ((t[0]'(by omega)).toNat : Int) = a.toNat := by rw [ha]
    have hb2 : ((t[1]'(by omega)).toNat : Int) = b.toNat := by rw [hb]
    clear ha hb
    have ha255 := UInt8.toNat_lt a
    by_cases h3 : a.toNat = t.size
    · have e3 : ((a.toNat : Int) != t.size) = false := by simp [h3]
      by_cases h4 : b.toNat = 3
      · have e4 : ((b.toNat : Int) != 3) = false := by simp [h4]
        have hux : (t.extract 2 t.size).size = t.size - 2 := by simp
        have HUX := Lib.hid hux
        have HUD := Lib.hid (show (t.extract 2 t.size).data.toList = t.data.toList.drop 2 by
          simp only [ByteArray.data_extract, Array.toList_extract, List.extract_eq_take_drop]
          exact List.take_of_length_le (by rw [List.length_drop]; simp))
        by_cases hodd : t.size % 2 = 0
        · obtain ⟨n, hn⟩ : ∃ n, t.size = 2 * n + 2 := ⟨t.size / 2 - 1, by omega⟩
          have HOK : Hid (okTxt t n) := Lib.hid ⟨hn, by omega, by omega, by omega, by rw [HAB.out.1]; exact h3, by rw [HAB.out.2]; exact h4⟩
          have HNW : Hid (Calls Try.prog 56 #[.string (t.extract 2 t.size)] w fun e w' => e = .returned (.tuple #[.string ⟨(enc (runesOfTxt t)).toArray⟩, .int .i64 0]) ∧ Below w.heap.size w w') := Lib.hid (by
            have h := narrow_ok (t.extract 2 t.size) w n (by omega) (by omega)
            rw [HUD.out] at h; exact h)
          clear h3 h4 hux hodd hn
          go_enter Try.func31, Try.ntmps31
          go_wp2_with fail
          refine HNW.out.mono ?_
          rintro en w1 ⟨rfl, hb1⟩
          go_wp2_with fail
          go_ret2
          exact ⟨.inl ⟨n, HOK.out, rfl⟩, hb1⟩
        · have HN := Lib.hid (show ∀ n, ¬ okTxt t n from fun n h => by have := h.1; omega)
          have HNW := Lib.hid (narrow_odd (t.extract 2 t.size) w (by rw [hux]; simp; omega))
          clear h3 h4 hux hodd
          go_enter Try.func31, Try.ntmps31
          go_wp2_with fail
          refine HNW.out.mono ?_
          rintro en w1 ⟨rfl, hb1⟩
          go_wp2_with fail
          go_ret2
          exact ⟨.inr ⟨HN.out, 4, by omega, rfl⟩, hb1⟩
      · have e4 : ((b.toNat : Int) != 3) = true := by rw [bne_iff_ne]; omega
        have HN := Lib.hid (show ∀ n, ¬ okTxt t n from fun n h => by
          obtain ⟨_, _, _, _, _, h5⟩ := h
          rw [HAB.out.2] at h5; exact h4 h5)
        clear h3 h4
        go_enter Try.func31, Try.ntmps31
        go_wp2_with fail
        go_ret2
        exact ⟨.inr ⟨HN.out, 4, by omega, rfl⟩, Below.refl _ _⟩
    · have e3 : ((a.toNat : Int) != t.size) = true := by rw [bne_iff_ne]; omega
      have HN := Lib.hid (show ∀ n, ¬ okTxt t n from fun n h => by
        obtain ⟨_, _, _, _, h5, _⟩ := h
        rw [HAB.out.1] at h5; exact h3 h5)
      clear h3
      go_enter Try.func31, Try.ntmps31
      go_wp2_with fail
      go_ret2
      exact ⟨.inr ⟨HN.out, 4, by omega, rfl⟩, Below.refl _ _⟩
end Go.Proofs.Ytmddfpmchcmgiaa
