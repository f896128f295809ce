/- What is read, for every text; and what is written, joined. -/
import Derived.Test.YtmnmlnnhngnfbaaDoorPktS
import Derived.Test.YtmnmlnnhngnfbaaDoorPktT
namespace Go.Proofs.YtmnmlnnhngnfbaaDoor
open Go.RowKit Go.Proofs.YtmnmlnnhngnfbaaDoor.CrcP Go.Proofs.YtmnmlnnhngnfbaaDoor.PktP
set_option maxHeartbeats 800000 in
theorem read_hs (s : ByteArray) (h0 : s.size = 1) (h1 : 15 - s[0].toNat / 16 = s[0].toNat % 16) (hk : isHs (s[0].toNat % 16 : Nat)) (w : World) : Calls Tryd.prog 21 #[.string s] w fun e w' => e = rdV (⟨(s[0].toNat % 16 : Nat), 0, 0, 0, []⟩, 0) ∧ Below w.heap.size w w' := by
  have ha := PktR.and15 s[0]
  have hx := PktR.hi s[0]
  have ht := PktR.nn h1
  obtain ⟨hne, hne2⟩ := PktR.ne0 (s := s) (by omega)
  have hK : s[0].toNat % 16 ≤ 15 := by omega
  have hB := s[0].toNat_lt
  have hkn := knownB_t (Or.inr (Or.inr (Or.inr hk)))
  have hkt := tokB_f (hs_not hk).1
  have hkd := dataB_f (hs_not hk).2.2
  have hk5 := PktW.bne (hs_not hk).2.1
  clear h1 hk
  generalize 15 - s[0].toNat / 16 = J at *
  generalize s[0].toNat % 16 = K at *
  go_enter Tryd.func21, Tryd.ntmps21
  go_wp2_with (first | (go_at_call 34; refine (known_calls _ _).mono ?_; rintro e w' ⟨rfl, rfl⟩) | (go_at_call 35; refine (token_calls _ _).mono ?_; rintro e w' ⟨rfl, rfl⟩) | (go_at_call 36; refine (data_calls _ _).mono ?_; rintro e w' ⟨rfl, rfl⟩))
  refine bodyPost_ret (v := .tuple #[pkV ⟨K, 0, 0, 0, []⟩, .int .i64 0]) (by simp [pkV, results, Tryd.results21, go_sem]) rfl ⟨rfl, Kt.balloc (Kt.balloc (Below.refl _ w) _) _⟩
theorem cons_drop (l : List UInt8) (h : 0 < l.length) : l = l[0] :: l.drop 1 := by
  cases l with
  | nil => simp at h
  | cons x l => simp
theorem len_size (s : ByteArray) : s.data.toList.length = s.size := by rw [Array.length_toList]; rfl
theorem get_list (s : ByteArray) (i : Nat) (h : i < s.size) : s[i] = s.data.toList[i]'(by rw [len_size]; exact h) := by
  show s.data[i] = _
  simp
theorem list_cons {s : ByteArray} (h : 0 < s.size) : s.data.toList = s[0] :: s.data.toList.drop 1 := by
  rw [get_list s 0 h]
  exact cons_drop _ _
theorem drop_two {l : List UInt8} {m : Nat} {a b : UInt8} (h : l.drop m = [a, b]) : l[m]? = some a ∧ l[m + 1]? = some b := by
  have h0 : (l.drop m)[0]? = some a := by rw [h]; rfl
  have h1 : (l.drop m)[1]? = some b := by rw [h]; rfl
  rw [List.getElem?_drop] at h0 h1
  exact ⟨h0, h1⟩
theorem num_last (r : ByteArray) (m : Nat) (hr : r.size = m + 2) : num (r.data.toList.drop m) = num [r[m]'(by omega), r[m + 1]'(by omega)] := by
  have hl := len_size r
  obtain ⟨a, b, hab⟩ := two_list (l := r.data.toList.drop m) (by rw [List.length_drop, hl]; omega)
  obtain ⟨q0, q1⟩ := drop_two hab
  have e0 : r[m]'(by omega) = a := by
    rw [get_list r m (by omega)]; rw [List.getElem?_eq_getElem (by omega)] at q0; exact Option.some.inj q0
  have e1 : r[m + 1]'(by omega) = b := by
    rw [get_list r (m + 1) (by omega)]; rw [List.getElem?_eq_getElem (by omega)] at q1; exact Option.some.inj q1
  rw [hab, e0, e1]
theorem numE_eq {s : ByteArray} {m : Nat} (h0 : s.size = m + 3) : num ((s.data.toList.drop 1).drop m) = numE s m h0 := by
  have hx := PktT.exn h0
  have h1 : (s.extract 1 (m + 3)).data.toList = s.data.toList.drop 1 := by
    have hl : s.data.toList.length = m + 3 := by simpa using h0
    simp
    exact List.take_of_length_le (by simp [hl])
  rw [← h1]
  exact num_last _ m hx
theorem read_calls (s : ByteArray) (hm : s.size ≤ maxLen) (w : World) : Calls Tryd.prog 21 #[.string s] w fun e w' => e = rdV (rd s.data.toList) ∧ Below w.heap.size w w' := by
  by_cases hz : s.size = 0
  · obtain rfl : s = ByteArray.empty := Kt.bytes_eq (by
      have : s.data.toList.length = 0 := by simpa using hz
      rw [List.length_eq_zero_iff.1 this]; rfl)
    exact read_nil w
  have h0 : 0 < s.size := by omega
  rw [list_cons h0]
  have hrl : (s.data.toList.drop 1).length = s.size - 1 := by simp
  by_cases h1 : 15 - s[0].toNat / 16 = s[0].toNat % 16
  · by_cases hk : isTok (s[0].toNat % 16 : Nat) ∨ isData (s[0].toNat % 16 : Nat) ∨ ((s[0].toNat % 16 : Nat) : Int) = 5 ∨ isHs (s[0].toNat % 16 : Nat)
    · have e : rd (s[0] :: s.data.toList.drop 1) = rdRest (s[0].toNat % 16) (s.data.toList.drop 1) := by
        unfold rd; simp only; rw [if_neg]
        rintro (x | x)
        · exact x h1
        · exact x hk
      rw [e]
      unfold rdRest
      rcases hk with hk | hk | hk | hk
      · rw [if_pos (Or.inl hk), hrl]
        by_cases c1 : s.size - 1 < 2
        · rw [if_pos c1]; exact read_short_tok s h0 h1 hk c1 w
        rw [if_neg c1]
        by_cases c2 : 2 < s.size - 1
        · rw [if_pos c2]; exact read_long_tok s h0 h1 hk c2 hm w
        rw [if_neg c2]
        have h3 : s.size = 3 := by omega
        rw [PktR.num3_eq h3]
        by_cases c3 : num3 s h3 / 2048 = five (num3 s h3 % 2048)
        · rw [if_neg (by simpa using c3), if_neg (tok_not hk)]; exact read_tok_good s h3 h1 hk c3 w
        · rw [if_pos c3]; exact read_tok_bad s h3 h1 hk c3 w
      · obtain ⟨d1, d2, d3⟩ := dat_not hk
        rw [if_neg (by rintro (x | x); exact d1 x; exact d2 x), if_pos hk, hrl]
        by_cases c1 : s.size - 1 < 2
        · rw [if_pos c1]; exact read_short_dat s h0 h1 hk c1 w
        rw [if_neg c1]
        by_cases c2 : 66 < s.size - 1
        · rw [if_pos c2]; exact read_long_dat s h0 h1 hk c2 hm w
        rw [if_neg c2]
        obtain ⟨m, h3⟩ : ∃ m, s.size = m + 3 := ⟨s.size - 3, by omega⟩
        rw [show s.size - 1 - 2 = m by omega, numE_eq h3]
        by_cases c3 : numE s m h3 = six ((s.data.toList.drop 1).take m)
        · rw [if_neg (by simpa using c3)]; exact read_dat_good s m h3 (by omega) h1 hk c3 w
        · rw [if_pos c3]; exact read_dat_bad s m h3 (by omega) h1 hk c3 w
      · rw [if_pos (Or.inr hk), hrl]
        by_cases c1 : s.size - 1 < 2
        · rw [if_pos c1]; exact read_short_sof s h0 h1 hk c1 w
        rw [if_neg c1]
        by_cases c2 : 2 < s.size - 1
        · rw [if_pos c2]; exact read_long_sof s h0 h1 hk c2 hm w
        rw [if_neg c2]
        have h3 : s.size = 3 := by omega
        rw [PktR.num3_eq h3]
        by_cases c3 : num3 s h3 / 2048 = five (num3 s h3 % 2048)
        · rw [if_neg (by simpa using c3), if_pos hk]
          have := read_sof_good s h3 h1 hk c3 w
          rw [hk] at this; exact this
        · rw [if_pos c3]; exact read_sof_bad s h3 h1 hk c3 w
      · obtain ⟨d1, d2, d3⟩ := hs_not hk
        rw [if_neg (by rintro (x | x); exact d1 x; exact d2 x), if_neg d3, hrl]
        by_cases c1 : 0 < s.size - 1
        · rw [if_pos c1]; exact read_long_hs s h0 h1 hk c1 hm w
        rw [if_neg c1]
        exact read_hs s (by omega) h1 hk w
    · have e : rd (s[0] :: s.data.toList.drop 1) = (zero, 4) := by
        unfold rd; simp only; rw [if_pos (Or.inr hk)]
      rw [e]; exact read_unknown s h0 h1 hk w
  · rw [rd_bad_head _ _ h1]; exact read_head s h0 h1 w
theorem write_ack (w : World) : Calls Tryd.prog 27 #[.agg #[.int .i64 2, .int .i64 0, .int .i64 0, .int .i64 0, .string ByteArray.empty]] w fun en w' => en = .returned (.tuple #[.string ⟨#[210]⟩, .int .i64 0]) ∧ Below w.heap.size w w' :=
  (write_hs 2 (Or.inl rfl) w).mono fun _ _ h => by
    rw [show text ⟨((2 : Nat) : Int), 0, 0, 0, []⟩ = [210] by decide] at h; exact h
end Go.Proofs.YtmnmlnnhngnfbaaDoor
