/- The law of two texts of runes, walked: UtfJoins. -/
import Derived.Test.YtecbcklbmaimgaaUtfU
namespace Go.Proofs.Ytecbcklbmaimgaa
open Go.RowKit Go.Proofs.Ytecbcklbmaimgaa.Utf
theorem enc_eq (r : Nat) (h : scalar r) : (Utf8.encode (r : Int)).data.toList = Go.Lib.encodeRune (r : Int) := by
  unfold scalar at h
  have hv : Utf8.valid (r : Int) = true := by simp only [Utf8.valid, Bool.or_eq_true, Bool.and_eq_true, decide_eq_true_eq]; omega
  unfold Utf8.encode Go.Lib.encodeRune
  simp only [hv, if_true, Int.toNat_natCast]
  by_cases c1 : r ≤ 127
  · rw [Go.Lib.encodeRuneZ_one (by omega) (by omega), if_pos (by omega)]; rfl
  by_cases c2 : r ≤ 2047
  · rw [Go.Lib.encodeRuneZ_two (by omega) (by omega), if_neg (by omega), if_pos (by omega)]
    simp only [List.map_cons, List.map_nil, Nat.toUInt8]
    congr 3 <;> omega
  by_cases c3 : r ≤ 65535
  · rw [Go.Lib.encodeRuneZ_three (by omega), if_neg (by omega), if_neg (by omega), if_pos (by omega)]
    simp only [List.map_cons, List.map_nil, Nat.toUInt8]
    congr 4 <;> omega
  · rw [Go.Lib.encodeRuneZ_four (by omega) (by omega), if_neg (by omega), if_neg (by omega), if_neg (by omega)]
    simp only [List.map_cons, List.map_nil, Nat.toUInt8]
    congr 5 <;> omega
theorem enc_snoc (done : List Nat) (r : Nat) (h : scalar r) : (⟨(enc done).toArray⟩ : ByteArray) ++ Utf8.encode (r : Int) = ⟨(enc (done ++ [r])).toArray⟩ := by
  apply Kt.bytes_eq
  rw [Kt.str_app, enc_eq r h, enc_app, enc_cons]
  simp [enc]
theorem dec_scalar (s : ByteArray) (pos : Nat) : scalar (Utf8.decode s pos).1 := by
  rw [← Go.Lib.decodeL_drop]; exact decodeL_scalar _
def OfRel (s : ByteArray) (k : Nat) (w0 : World) (n : Value) (wr : World) : Prop := ∃ (pos : Nat) (done : List Nat), n = .string ⟨(enc done).toArray⟩ ∧ wr.heap[k]? = some (.stringIter s pos) ∧ Below w0.heap.size w0 wr ∧ done ++ runes (s.data.toList.drop pos) = runes s.data.toList ∧ done.length ≤ pos
set_option maxHeartbeats 1600000 in
set_option maxRecDepth 100000 in
theorem of_calls (s : ByteArray) (hs : s.size ≤ 35184372088832) (w : World) :
    Calls Try.prog 7 #[.string s] w fun e w' => e = .returned (.string ⟨(enc (runes s.data.toList)).toArray⟩) ∧ Below w.heap.size w w' := by
  have HZ := Lib.hid hs; clear hs
  go_enter Try.func7, Try.ntmps7
  go_wp2_with fail
  go_loopw [5, 3] (fun _ n wr => OfRel s w.heap.size w n wr) (fun _ _ wr => s.size - wr.iterPos w.heap.size)
  case atStart =>
    exact ⟨0, [], rfl, World.iter_heap w s 0, Kt.balloc (Below.refl _ w) _, rfl, by simp⟩
  case round =>
    obtain ⟨pos, done, rfl, hit, hbel, hdone, hpos⟩ := hrel
    by_cases hp : pos < s.size
    · have hnx : ∀ ty, (Instr.next (.pointer (some ⟨w.heap.size, 0, none⟩)) true ty).run Try.prog wr = _ := fun ty => Lib.run_next_any_at wr w.heap.size s pos ty hit hp
      have hw := dec_wide s pos
      have hsc := dec_scalar s pos
      have hst := drop_step s pos hp
      have hit2 := Lib.iterAt_heap wr w.heap.size s pos (pos + (Utf8.decode s pos).2) hit
      have hbel2 := Lib.below_iterAt hbel (k := w.heap.size) (Nat.le_refl _) s (pos + (Utf8.decode s pos).2)
      have hln := enc_len done
      generalize Utf8.decode s pos = d at *
      obtain ⟨r, wd⟩ := d
      simp only at hnx hw hst hit2 hbel2 hsc
      have HS := Lib.hid hst; clear hst
      have HD := Lib.hid hdone; clear hdone
      have HC := Lib.hid (enc_snoc done r hsc)
      have h4 := encode_size_le (r : Int)
      generalize hW2 : wr.iterAt w.heap.size s (pos + wd) = w2 at *
      clear hW2
      generalize hcn : (⟨(enc done).toArray⟩ : ByteArray) = c at *
      have hcz : c.size ≤ 140737488355328 := by
        rw [← hcn]; show (enc done).toArray.size ≤ _; rw [List.size_toArray]; have := HZ.out; omega
      clear hcn hln
      obtain ⟨z, hz⟩ : ∃ z : Int, z = r := ⟨_, rfl⟩
      rw [← hz] at hnx h4
      have HR := Lib.hid hz; clear hz
      go_wp2_with fail
      go_roundw
      case rel =>
        have hr := HR.out
        refine ⟨pos + wd, done ++ [r], ?_, hit2, hbel2, ?_, by simp; omega⟩
        · rw [hr, HC.out]
        · rw [← HD.out, HS.out]; simp
      case measure =>
        simp only [World.iterPos, hit2, hit]
        omega
    · have hnx : ∀ ty, (Instr.next (.pointer (some ⟨w.heap.size, 0, none⟩)) true ty).run Try.prog wr = _ := fun ty => Lib.run_next_end_at wr w.heap.size s pos ty hit hp
      rw [drop_end s pos hp, List.append_nil] at hdone
      subst hdone
      go_wp2_with fail
      go_ret
      exact ⟨rfl, hbel⟩
def Of (s t : ByteArray) : Prop := ∀ w : World, Calls Try.prog 7 #[.string s] w fun e w' => e = .returned (.string t) ∧ Below w.heap.size w w'
set_option maxHeartbeats 1600000 in
theorem joins_go (a b A B s t : ByteArray) (HA : Hid (Of a A)) (HB : Hid (Of b B)) (W1 : Hid (Wd A s 0)) (W2 : Hid (Wd B t 0)) (W3 : Hid (Wd (A ++ B) (s ++ t) 0)) (hA : A.size ≤ 140737488355328) (hB : B.size ≤ 140737488355328) (hs : s.size ≤ 252) (ht : t.size ≤ 252) (w : World) :
    Calls Try.prog 4 #[.string a, .string b] w fun e w' => e = .returned (.bool true) ∧ Below w.heap.size w w' := by
  go_enter Try.func4, Try.ntmps4
  go_wp2_with fail
  refine (HA.out _).mono ?_; rintro en w1 ⟨rfl, hb1⟩
  go_wp2_with fail
  refine (HB.out _).mono ?_; rintro en w2 ⟨rfl, hb2⟩
  go_wp2_with fail
  refine (W1.out _).mono ?_; rintro en w3 ⟨rfl, hb3⟩
  go_wp2_with fail
  refine (W2.out _).mono ?_; rintro en w4 ⟨rfl, hb4⟩
  go_wp2_with fail
  refine (W3.out _).mono ?_; rintro en w5 ⟨rfl, hb5⟩
  go_wp2_with fail
  refine (lives_calls _).mono ?_; rintro en w6 ⟨rfl, hb6⟩
  go_wp2_with fail
  go_ret
  exact ⟨rfl, Kt.bthen (Kt.bthen (Kt.bthen (Kt.bthen (Kt.bthen hb1 hb2) hb3) hb4) hb5) hb6⟩
set_option maxHeartbeats 1600000 in
theorem joins_no (a b A B s t u : ByteArray) (e f : Int) (HA : Hid (Of a A)) (HB : Hid (Of b B)) (W1 : Hid (Wd A s e)) (W2 : Hid (Wd B t f)) (W3 : Hid (Wd (A ++ B) u 2)) (hA : A.size ≤ 140737488355328) (hB : B.size ≤ 140737488355328) (he : e = 0 ∨ e = 2) (hf : f = 0 ∨ f = 2) (w : World) :
    Calls Try.prog 4 #[.string a, .string b] w fun e w' => e = .returned (.bool true) ∧ Below w.heap.size w w' := by
  rcases he with rfl | rfl <;> rcases hf with rfl | rfl
  all_goals
    go_enter Try.func4, Try.ntmps4
    go_wp2_with fail
    refine (HA.out _).mono ?_; rintro en w1 ⟨rfl, hb1⟩
    go_wp2_with fail
    refine (HB.out _).mono ?_; rintro en w2 ⟨rfl, hb2⟩
    go_wp2_with fail
    refine (W1.out _).mono ?_; rintro en w3 ⟨rfl, hb3⟩
    go_wp2_with fail
    refine (W2.out _).mono ?_; rintro en w4 ⟨rfl, hb4⟩
    go_wp2_with fail
    refine (W3.out _).mono ?_; rintro en w5 ⟨rfl, hb5⟩
    go_wp2_with fail
    refine (lives_calls _).mono ?_; rintro en w6 ⟨rfl, hb6⟩
    go_wp2_with fail
    go_ret
    exact ⟨rfl, Kt.bthen (Kt.bthen (Kt.bthen (Kt.bthen (Kt.bthen hb1 hb2) hb3) hb4) hb5) hb6⟩
theorem wd_any (s : ByteArray) (hs : s.size ≤ 35184372088832) : ∃ t e, (e = 0 ∨ e = 2) ∧ Wd s t e := by
  by_cases h : (wide s.data.toList).length ≤ 252
  · exact ⟨_, 0, .inl rfl, wd_ok s hs h⟩
  · exact ⟨_, 2, .inr rfl, wd_no s hs h⟩
theorem joins_walk (v0 v1 : Value) (w : World) (r0 : Fr.RdV w 1048576 .string v0) (r1 : Fr.RdV w 1048576 .string v1) :
    Calls Try.prog 4 #[v0, v1] w fun e w' => e = .returned (.bool true) ∧ Below w.heap.size w w' := by
  obtain ⟨a, e, ha⟩ := r0; cases e
  obtain ⟨b, e, hb⟩ := r1; cases e
  have size_of : ∀ s : ByteArray, s.size ≤ 1048576 → ∀ A : ByteArray, A = ⟨(enc (runes s.data.toList)).toArray⟩ → A.size ≤ 4194304 ∧ wide A.data.toList = wideR (runes s.data.toList) := by
    intro s hs A hA
    subst hA
    refine ⟨?_, ?_⟩
    · show (enc (runes s.data.toList)).toArray.size ≤ _
      rw [List.size_toArray]
      have h1 := enc_len (runes s.data.toList)
      have h2 : (runes s.data.toList).length ≤ s.data.toList.length := rns_len _ _
      have h3 : s.data.toList.length = s.size := by simp
      omega
    · show wideR (runes (enc (runes s.data.toList))) = _
      rw [runes_enc _ (runes_scalar _)]
  obtain ⟨hA1, hA2⟩ := size_of a ha _ rfl
  obtain ⟨hB1, hB2⟩ := size_of b hb _ rfl
  have HA := Lib.hid (of_calls a (by omega) : Of a _)
  have HB := Lib.hid (of_calls b (by omega) : Of b _)
  have hAB : wide ((⟨(enc (runes a.data.toList)).toArray⟩ : ByteArray) ++ ⟨(enc (runes b.data.toList)).toArray⟩).data.toList = wideR (runes a.data.toList) ++ wideR (runes b.data.toList) := by
    rw [Kt.str_app]
    show wideR (runes (enc (runes a.data.toList) ++ enc (runes b.data.toList))) = _
    rw [← enc_app, runes_enc _ (fun r hr => by
      rcases List.mem_append.1 hr with h | h
      · exact runes_scalar _ r h
      · exact runes_scalar _ r h), wideR_app]
  generalize (⟨(enc (runes a.data.toList)).toArray⟩ : ByteArray) = A at *
  generalize (⟨(enc (runes b.data.toList)).toArray⟩ : ByteArray) = B at *
  have hABz : (A ++ B).size ≤ 35184372088832 := by rw [ByteArray.size_append]; omega
  by_cases h : (wide (A ++ B).data.toList).length ≤ 252
  · have hl := h
    rw [hAB, List.length_append] at hl
    have W1 := wd_ok A (by omega) (by rw [hA2]; omega)
    have W2 := wd_ok B (by omega) (by rw [hB2]; omega)
    have W3 := wd_ok (A ++ B) hABz h
    rw [hAB] at W3
    rw [hA2] at W1
    rw [hB2] at W2
    have e : (⟨(wideR (runes a.data.toList) ++ wideR (runes b.data.toList)).toArray⟩ : ByteArray) = ⟨(wideR (runes a.data.toList)).toArray⟩ ++ ⟨(wideR (runes b.data.toList)).toArray⟩ := by
      apply Kt.bytes_eq; rw [Kt.str_app]
    rw [e] at W3
    exact joins_go a b A B _ _ HA HB (Lib.hid W1) (Lib.hid W2) (Lib.hid W3) (by omega) (by omega) (by show (wideR _).toArray.size ≤ _; rw [List.size_toArray]; omega) (by show (wideR _).toArray.size ≤ _; rw [List.size_toArray]; omega) w
  · obtain ⟨s, e, he, W1⟩ := wd_any A (by omega)
    obtain ⟨t, f, hf, W2⟩ := wd_any B (by omega)
    exact joins_no a b A B s t _ e f HA HB (Lib.hid W1) (Lib.hid W2) (Lib.hid (wd_no (A ++ B) hABz h)) (by omega) (by omega) he hf w
end Go.Proofs.Ytecbcklbmaimgaa
