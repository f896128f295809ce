/- phy: Send walked. -/
import Derived.Test.YtmnmlnnhngnfbaaDoorPhyY
namespace Go.Proofs.YtmnmlnnhngnfbaaDoor
open Go.RowKit Go.Proofs.YtmnmlnnhngnfbaaDoor.Lan Go.Proofs.YtmnmlnnhngnfbaaDoor.Phy
theorem stuff_bt {l : List UInt8} (h : ∀ b ∈ l, bit b) : stuffR (bt l) = (bt (stuff 0 l), 0) := by
  unfold stuffR
  rw [bt_list, if_pos (ok_bit.2 h)]; rfl
theorem turn_bt {l : List UInt8} (h : ∀ b ∈ l, bit b) : turnR (bt l) 74 = (bt (turn 74 l), 0) := by
  unfold turnR
  rw [bt_list, if_pos ⟨ok_bit.2 h, .inl rfl⟩]; rfl
set_option maxRecDepth 100000 in
set_option maxHeartbeats 1600000 in
theorem send_calls (s : List UInt8) (w : World) (hs : s.length ≤ 9223372036854775807) : Calls Tryd.prog 28 #[.string (bt s)] w fun e w' => e = .returned (.tuple #[.string (bt (sendP s).1), .int .i64 (sendP s).2]) ∧ Below w.heap.size w w' := by
  have hsz := bt_size s
  by_cases h0 : s = []
  · subst h0
    have hS : bt [] = ⟨#[]⟩ := rfl
    have hP : sendP [] = ([], 3) := rfl
    rw [hP, hS]
    clear hsz hs hS hP
    go_enter Tryd.func28, Tryd.ntmps28
    go_wp2_with fail
    refine bodyPost_ret (v := .tuple #[.string ⟨#[]⟩, .int .i64 3]) (by simp [results, Tryd.results28, go_sem]) rfl ?_
    exact ⟨rfl, Below.refl _ _⟩
  · have hne : (bt s).toList.isEmpty = false := by
      rw [ByteArray.toList_eq, bt_list]
      cases s with
      | nil => exact absurd rfl h0
      | cons a r => rfl
    by_cases h80 : 80 < s.length
    · have hP : Hid (sendP s = ([], 2)) := Lib.hid (by unfold sendP; rw [if_neg h0, if_pos h80])
      have h80' : (80 : Int) < (bt s).size := by rw [hsz]; omega
      rw [hP.out]
      generalize bt s = S at *
      clear h0 h80 hsz hs hP
      go_enter Tryd.func28, Tryd.ntmps28
      go_wp2_with fail
      refine bodyPost_ret (v := .tuple #[.string ⟨#[]⟩, .int .i64 2]) (by simp [results, Tryd.results28, go_sem]) rfl ?_
      exact ⟨rfl, Below.refl _ _⟩
    · have hP : Hid (sendP s = (levs s ++ endL, 0)) := Lib.hid (by unfold sendP; rw [if_neg h0, if_neg h80])
      have h80' : ¬ (80 : Int) < (bt s).size := by rw [hsz]; omega
      have hb := bits_calls (bt s) w (by omega)
      rw [bt_list] at hb
      have HB1 := Lib.hid hb
      have hst : (stuff 0 (pat ++ bitsL s)).length ≤ 756 := by
        have h1 := stuff_long (pat ++ bitsL s) 0 (by decide)
        rw [List.length_append, bitsL_len] at h1
        have : pat.length = 8 := rfl
        omega
      have hps : (bt (pat ++ bitsL s)).size ≤ 700 := by rw [bt_size, List.length_append, bitsL_len]; have : pat.length = 8 := rfl; omega
      have HS1 := Lib.hid (fun W => stuff_calls (bt (pat ++ bitsL s)) W (by omega) (by rw [bt_list]; omega))
      rw [stuff_bt (row_bit s)] at HS1
      have HT1 := Lib.hid (fun W => turn_calls (bt (stuff 0 (pat ++ bitsL s))) 74 W (by rw [bt_size]; omega))
      rw [turn_bt (stuff_bit _ 0 (row_bit s))] at HT1
      have HA : Hid ((⟨#[48, 48, 48, 48, 48, 48, 48, 49]⟩ : ByteArray) ++ ⟨(bitsL s).toArray⟩ = bt (pat ++ bitsL s) ∧ bt (turn 74 (stuff 0 (pat ++ bitsL s))) ++ (⟨#[48, 48, 74]⟩ : ByteArray) = bt (levs s ++ endL)) := Lib.hid ⟨bt_app pat (bitsL s), bt_app _ endL⟩
      have z1 : ¬ 9223372036854775807 < (⟨#[48, 48, 48, 48, 48, 48, 48, 49]⟩ : ByteArray).size + (⟨(bitsL s).toArray⟩ : ByteArray).size := by
        show ¬ 9223372036854775807 < 8 + (bt (bitsL s)).size
        rw [bt_size, bitsL_len]; omega
      have z2 : ¬ 9223372036854775807 < (bt (turn 74 (stuff 0 (pat ++ bitsL s)))).size + (⟨#[48, 48, 74]⟩ : ByteArray).size := by
        rw [bt_size, turn_len]
        show ¬ 9223372036854775807 < _ + 3
        omega
      rw [hP.out]
      obtain ⟨S, hS⟩ : ∃ S, bt s = S := ⟨_, rfl⟩
      obtain ⟨B1, hB1⟩ : ∃ S, (⟨(bitsL s).toArray⟩ : ByteArray) = S := ⟨_, rfl⟩
      obtain ⟨P, hPP⟩ : ∃ S, bt (pat ++ bitsL s) = S := ⟨_, rfl⟩
      obtain ⟨R, hR⟩ : ∃ S, bt (stuff 0 (pat ++ bitsL s)) = S := ⟨_, rfl⟩
      obtain ⟨T, hT⟩ : ∃ S, bt (turn 74 (stuff 0 (pat ++ bitsL s))) = S := ⟨_, rfl⟩
      rw [hS] at HB1 hne h80' ⊢
      rw [hB1] at HB1 HA z1
      rw [hPP] at HS1 HA
      rw [hR] at HS1 HT1
      rw [hT] at HT1 HA z2
      clear hsz hb hst hps h0 h80 hs hS hB1 hPP hR hT
      go_enter Tryd.func28, Tryd.ntmps28
      go_wp2_with fail
      refine HB1.out.mono ?_; rintro e w1 ⟨rfl, hb1⟩
      have HW1 := Lib.hid hb1
      clear hb1
      go_wp2_with fail
      rw [HA.out.1]
      refine (HS1.out _).mono ?_; rintro e w2 ⟨rfl, hb2⟩
      have HW2 := Lib.hid (Kt.bthen HW1.out hb2)
      clear hb2
      go_wp2_with fail
      refine (HT1.out _).mono ?_; rintro e w3 ⟨rfl, hb3⟩
      have HW3 := Lib.hid (Kt.bthen HW2.out hb3)
      clear hb3
      go_wp2_with fail
      rw [HA.out.2]
      refine bodyPost_ret (v := .tuple #[.string (bt (levs s ++ endL)), .int .i64 0]) (by simp [results, Tryd.results28, go_sem]) rfl ?_
      exact ⟨rfl, HW3.out⟩
end Go.Proofs.YtmnmlnnhngnfbaaDoor
