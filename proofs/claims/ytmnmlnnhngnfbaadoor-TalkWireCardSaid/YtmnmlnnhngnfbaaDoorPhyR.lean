/- phy: Piece walked. -/
import Derived.Test.YtmnmlnnhngnfbaaDoorPhyW
import Derived.Test.YtmnmlnnhngnfbaaDoorShelf
namespace Go.Proofs.YtmnmlnnhngnfbaaDoor
open Go.RowKit Go.Proofs.YtmnmlnnhngnfbaaDoor.Lan Go.Proofs.YtmnmlnnhngnfbaaDoor.Phy
theorem has_pat (l : List UInt8) : Lib.hasPrefix (bt l).data.toList pat = decide (pat <+: l) := by
  rw [bt_list]
  unfold Lib.hasPrefix
  rw [Bool.eq_iff_iff]
  simp
theorem piece_bad {l : List UInt8} (h : okL [74, 75] l = false) : pieceP l = ([], 4) := by unfold pieceP; rw [h]; rfl
theorem piece_ok {l : List UInt8} (h : okL [74, 75] l = true) : pieceP l = rowP (unturn 74 l) := by unfold pieceP; rw [if_pos h]
theorem rowP_no {r : List UInt8} (h : ¬ pat <+: r) : rowP r = ([], 7) := by unfold rowP; rw [if_neg h]
theorem rowP_stuff {r : List UInt8} (h : pat <+: r) (hu : unstuff 0 r = none) : rowP r = ([], unsE 0 r) := by unfold rowP; rw [if_pos h, hu]
def tailP (m : List UInt8) : List UInt8 × Int := if m.length % 8 = 0 then (if m = [] then ([], 3) else if 80 < (bytesL m).length then ([], 2) else (bytesL m, 0)) else ([], 4)
theorem rowP_tail {r m : List UInt8} (h : pat <+: r) (hu : unstuff 0 r = some m) : rowP r = tailP (m.drop 8) := by unfold rowP tailP; rw [if_pos h, hu]
theorem uns_bits : ∀ (l : List UInt8) (n : Nat) (m : List UInt8), (∀ b ∈ l, bit b) → unstuff n l = some m → ∀ b ∈ m, bit b := by
  intro l
  induction l with
  | nil =>
    intro n m _ hu b hb
    unfold unstuff at hu
    split at hu
    · cases hu
    · cases hu; cases hb
  | cons x l ih =>
    intro n m hl hu b hb
    have hr := fun c hc => hl c (List.mem_cons_of_mem _ hc)
    unfold unstuff at hu
    split at hu
    · split at hu
      · cases hu
      · exact ih 0 m hr hu b hb
    · obtain ⟨m2, h2, rfl⟩ := Option.map_eq_some_iff.1 hu
      rcases List.mem_cons.1 hb with rfl | hb
      · exact hl _ (List.mem_cons_self ..)
      · exact ih _ m2 hr h2 b hb
theorem uns_pat {r m : List UInt8} (h : pat <+: r) (hu : unstuff 0 r = some m) : ∃ k, m = pat ++ k := by
  obtain ⟨q, rfl⟩ := h
  rw [unstuff_pat] at hu
  obtain ⟨k, _, rfl⟩ := Option.map_eq_some_iff.1 hu
  exact ⟨k, rfl⟩
theorem uns_len : ∀ (l : List UInt8) (n : Nat) (m : List UInt8), unstuff n l = some m → m.length ≤ l.length := by
  intro l
  induction l with
  | nil =>
    intro n m hu
    unfold unstuff at hu
    split at hu
    · cases hu
    · cases hu; exact Nat.le_refl _
  | cons x l ih =>
    intro n m hu
    unfold unstuff at hu
    split at hu
    · split at hu
      · cases hu
      · exact Nat.le_succ_of_le (ih 0 m hu)
    · obtain ⟨m2, h2, rfl⟩ := Option.map_eq_some_iff.1 hu
      exact Nat.succ_le_succ (ih _ m2 h2)
theorem bytes_bt {l : List UInt8} (h : ∀ b ∈ l, bit b) : bytesR (bt l) = (if l.length % 8 = 0 then (bt (bytesL l), 0) else (bt [], 4)) := by
  unfold bytesR
  rw [bt_list, if_pos (ok_bit.2 h), bt_size]; rfl
theorem bytesL_nil {l : List UInt8} (h8 : l.length % 8 = 0) : bytesL l = [] ↔ l = [] := by
  constructor
  · intro h
    have h1 := bytesN_len l l.length
    unfold bytesL at h
    rw [h] at h1
    apply List.eq_nil_of_length_eq_zero
    simp at h1
    omega
  · rintro rfl; rfl
theorem bt_extract (l : List UInt8) (k : Nat) : (bt l).extract k (bt l).size = bt (l.drop k) := by
  apply Kt.bytes_eq
  rw [bt_list]
  simp [bt]
  apply List.take_of_length_le
  simp [ByteArray.size]
set_option maxRecDepth 100000 in
set_option maxHeartbeats 1600000 in
theorem piece_calls (l : List UInt8) (w : World) (hl : l.length + 2 ≤ 140737488355328) : Calls Tryd.prog 33 #[.string (bt l)] w fun e w' => e = .returned (.tuple #[.string (bt (pieceP l).1), .int .i64 (pieceP l).2]) ∧ Below w.heap.size w w' := by
  have hut := unturn_calls (bt l) 74 w (by rw [bt_size]; omega)
  unfold unturnR at hut
  rw [bt_list] at hut
  cases hok : okL [74, 75] l with
  | false =>
    rw [hok, if_neg (by simp)] at hut
    have HU := Lib.hid hut
    rw [piece_bad hok]
    obtain ⟨S, hS⟩ : ∃ S, bt l = S := ⟨_, rfl⟩
    rw [hS] at HU ⊢
    clear hut hok hl hS
    go_enter Tryd.func33, Tryd.ntmps33
    go_wp2_with fail
    refine HU.out.mono ?_; rintro e w1 ⟨rfl, hb1⟩
    have HW1 := Lib.hid hb1
    clear hb1
    go_wp2_with fail
    refine bodyPost_ret (v := .tuple #[.string ⟨#[]⟩, .int .i64 4]) (by simp [results, Tryd.results33, go_sem]) rfl ?_
    exact ⟨rfl, HW1.out⟩
  | true =>
    rw [hok, if_pos ⟨rfl, .inl rfl⟩] at hut
    have HU := Lib.hid hut
    have hrl : (unturn 74 l).length + 2 ≤ 140737488355328 := by rw [unturn_len]; exact hl
    have hrb := unturn_bit l 74
    rw [piece_ok hok]
    obtain ⟨S, hS⟩ : ∃ S, bt l = S := ⟨_, rfl⟩
    rw [hS] at HU ⊢
    clear hut hok hl hS
    generalize unturn 74 l = r at *
    have HP := Lib.hid (fun W => Tryd.strings_HasPrefix (bt r) (bt pat) W)
    rw [bt_list pat, has_pat] at HP
    have HX := Lib.hid (fun W => unstuff_calls (bt r) W (by rw [bt_size]; exact hrl) (by rw [bt_list]; exact ok_bit.2 hrb))
    rw [bt_list] at HX
    by_cases hp : pat <+: r
    · rw [decide_eq_true hp] at HP
      cases hu : unstuff 0 r with
      | none =>
        rw [unsR_none hu] at HX
        rw [rowP_stuff hp hu]
        have hne := unsE_ne r 0
        generalize unsE 0 r = c at *
        obtain ⟨R, hR⟩ : ∃ S, bt r = S := ⟨_, rfl⟩
        have hR' : (⟨r.toArray⟩ : ByteArray) = R := hR
        rw [hR] at HP HX
        rw [hR'] at HU
        clear hR hR' hp hu hrl hrb
        go_enter Tryd.func33, Tryd.ntmps33
        go_wp2_with fail
        refine HU.out.mono ?_; rintro e w1 ⟨rfl, hb1⟩
        have HW1 := Lib.hid hb1
        clear hb1
        go_wp2_with fail
        refine (HP.out _).mono ?_; rintro e w2 ⟨rfl, rfl⟩
        go_wp2_with fail
        refine (HX.out _).mono ?_; rintro e w3 ⟨rfl, hb3⟩
        have HW3 := Lib.hid (Kt.bthen HW1.out hb3)
        clear hb3
        have hcne : (c == 0) = false := beq_eq_false_iff_ne.2 hne
        go_wp2_with fail
        refine bodyPost_ret (v := .tuple #[.string ⟨#[]⟩, .int .i64 c]) (by simp [results, Tryd.results33, go_sem]) rfl ?_
        exact ⟨rfl, HW3.out⟩
      | some m =>
        rw [unsR_some hu] at HX
        rw [rowP_tail hp hu]
        have hmb := uns_bits r 0 m hrb hu
        have hml := uns_len r 0 m hu
        obtain ⟨k, rfl⟩ := uns_pat hp hu
        have hd : (pat ++ k).drop 8 = k := rfl
        rw [hd]
        have hkb : ∀ b ∈ k, bit b := fun b hb => hmb b (List.mem_append_right _ hb)
        have hkl : (bt (pat ++ k)).size = k.length + 8 := by rw [bt_size, List.length_append]; have : pat.length = 8 := rfl; omega
        have hex : Hid ((bt (pat ++ k)).extract 8 (bt (pat ++ k)).size = bt k) := Lib.hid (by rw [bt_extract, hd])
        rw [List.length_append] at hml
        have HY := Lib.hid (fun W => bytes_calls (bt k) W (by rw [bt_size]; omega))
        rw [bytes_bt hkb] at HY
        obtain ⟨R, hR⟩ : ∃ S, bt r = S := ⟨_, rfl⟩
        have hR' : (⟨r.toArray⟩ : ByteArray) = R := hR
        obtain ⟨M, hM⟩ : ∃ S, bt (pat ++ k) = S := ⟨_, rfl⟩
        have hM' : (⟨(pat ++ k).toArray⟩ : ByteArray) = M := hM
        rw [hR] at HP HX
        rw [hR'] at HU
        rw [hM] at HX hex hkl
        have h8 : (8 : Int) ≤ M.size := by rw [hkl]; omega
        clear hR hR' hp hu hrb hmb hM hM' hd hkl
        go_enter Tryd.func33, Tryd.ntmps33
        go_wp2_with fail
        refine HU.out.mono ?_; rintro e w1 ⟨rfl, hb1⟩
        have HW1 := Lib.hid hb1
        clear hb1
        go_wp2_with fail
        refine (HP.out _).mono ?_; rintro e w2 ⟨rfl, rfl⟩
        go_wp2_with fail
        refine (HX.out _).mono ?_; rintro e w3 ⟨rfl, hb3⟩
        have HW3 := Lib.hid (Kt.bthen HW1.out hb3)
        clear hb3
        go_wp2_with fail
        rw [hex.out]
        clear hex HX HP HU h8
        by_cases h8 : k.length % 8 = 0
        · rw [if_pos h8] at HY
          have hT : tailP k = (if bytesL k = [] then ([], 3) else if 80 < (bytesL k).length then ([], 2) else (bytesL k, 0)) := by
            unfold tailP
            rw [if_pos h8]
            by_cases hk : k = []
            · rw [if_pos hk, if_pos ((bytesL_nil h8).2 hk)]
            · rw [if_neg hk, if_neg (fun q => hk ((bytesL_nil h8).1 q))]
          generalize bytesL k = a at *
          clear h8 hkb hml
          have hsz := bt_size a
          by_cases ha : a = []
          · subst ha
            have hB : bt [] = ⟨#[]⟩ := rfl
            rw [if_pos rfl] at hT
            have HT := Lib.hid hT
            dsimp only at HY
            rw [hB] at HY
            clear hB hsz hT
            refine (HY.out _).mono ?_; rintro e w4 ⟨rfl, hb4⟩
            have HW4 := Lib.hid (Kt.bthen HW3.out hb4)
            clear hb4
            go_wp2_with fail
            refine bodyPost_ret (v := .tuple #[.string ⟨#[]⟩, .int .i64 3]) (by simp [results, Tryd.results33, go_sem]) rfl ?_
            rw [HT.out]
            exact ⟨rfl, HW4.out⟩
          · rw [if_neg ha] at hT
            have hne : (bt a).toList.isEmpty = false := by
              rw [ByteArray.toList_eq, bt_list]
              cases a with
              | nil => exact absurd rfl ha
              | cons b q => rfl
            by_cases h80 : 80 < a.length
            · rw [if_pos h80] at hT
              have HT := Lib.hid hT
              have h80' : (80 : Int) < (bt a).size := by rw [hsz]; omega
              dsimp only at HY
              obtain ⟨S2, hS2⟩ : ∃ x, bt a = x := ⟨_, rfl⟩
              rw [hS2] at HY hne h80'
              clear hsz ha h80 hT hS2
              refine (HY.out _).mono ?_; rintro e w4 ⟨rfl, hb4⟩
              have HW4 := Lib.hid (Kt.bthen HW3.out hb4)
              clear hb4
              go_wp2_with fail
              refine bodyPost_ret (v := .tuple #[.string ⟨#[]⟩, .int .i64 2]) (by simp [results, Tryd.results33, go_sem]) rfl ?_
              rw [HT.out]
              exact ⟨rfl, HW4.out⟩
            · rw [if_neg h80] at hT
              have HT := Lib.hid hT
              have h80' : ¬ (80 : Int) < (bt a).size := by rw [hsz]; omega
              dsimp only at HY
              obtain ⟨S2, hS2⟩ : ∃ x, bt a = x := ⟨_, rfl⟩
              rw [hS2] at HY hne h80'
              have HS2 := Lib.hid hS2
              clear hsz ha h80 hT hS2
              refine (HY.out _).mono ?_; rintro e w4 ⟨rfl, hb4⟩
              have HW4 := Lib.hid (Kt.bthen HW3.out hb4)
              clear hb4
              go_wp2_with fail
              refine bodyPost_ret (v := .tuple #[.string S2, .int .i64 0]) (by simp [results, Tryd.results33, go_sem]) rfl ?_
              rw [HT.out]
              dsimp only
              rw [HS2.out]
              exact ⟨rfl, HW4.out⟩
        · rw [if_neg h8] at HY
          have hT : tailP k = ([], 4) := by unfold tailP; rw [if_neg h8]
          have hB : bt [] = ⟨#[]⟩ := rfl
          have HT := Lib.hid hT
          dsimp only at HY
          rw [hB] at HY
          clear hT h8 hkb hml hB
          refine (HY.out _).mono ?_; rintro e w4 ⟨rfl, hb4⟩
          have HW4 := Lib.hid (Kt.bthen HW3.out hb4)
          clear hb4
          go_wp2_with fail
          refine bodyPost_ret (v := .tuple #[.string ⟨#[]⟩, .int .i64 4]) (by simp [results, Tryd.results33, go_sem]) rfl ?_
          rw [HT.out]
          exact ⟨rfl, HW4.out⟩
    · rw [decide_eq_false hp] at HP
      rw [rowP_no hp]
      obtain ⟨R, hR⟩ : ∃ S, bt r = S := ⟨_, rfl⟩
      have hR' : (⟨r.toArray⟩ : ByteArray) = R := hR
      rw [hR] at HP
      rw [hR'] at HU
      clear hR hR' hp hrl hrb HX
      go_enter Tryd.func33, Tryd.ntmps33
      go_wp2_with fail
      refine HU.out.mono ?_; rintro e w1 ⟨rfl, hb1⟩
      have HW1 := Lib.hid hb1
      clear hb1
      go_wp2_with fail
      refine (HP.out _).mono ?_; rintro e w2 ⟨rfl, rfl⟩
      go_wp2_with fail
      refine bodyPost_ret (v := .tuple #[.string ⟨#[]⟩, .int .i64 7]) (by simp [results, Tryd.results33, go_sem]) rfl ?_
      exact ⟨rfl, HW1.out⟩
end Go.Proofs.YtmnmlnnhngnfbaaDoor
