/- phyLives; the law PhyOne. -/
import Derived.Test.YtmajeonfblcfnaaDoorPhyR
namespace Go.Proofs.YtmajeonfblcfnaaDoor
open Go.RowKit Go.Proofs.YtmajeonfblcfnaaDoor.Lan Go.Proofs.YtmajeonfblcfnaaDoor.Phy
def lvs1 : List UInt8 := [75, 74, 75, 74, 75, 74, 75, 75, 74, 74, 75, 74, 74, 75, 75, 75]
theorem plives_calls (w : World) : Calls Tryd.prog 11 #[] w fun e w' => e = .returned (.bool true) ∧ Below w.heap.size w w' := by
  have h1 := fun W : World => send_calls [210] W (by decide)
  have e1 : sendP [210] = (lvs1 ++ endL, 0) := by decide +kernel
  have h2 := fun W : World => piece_calls lvs1 W (by decide)
  have e2 : pieceP lvs1 = ([210], 0) := by decide +kernel
  have b1 : bt [210] = ⟨#[210]⟩ := rfl
  have b2 : bt lvs1 = ⟨#[75, 74, 75, 74, 75, 74, 75, 75, 74, 74, 75, 74, 74, 75, 75, 75]⟩ := rfl
  have b3 : bt (lvs1 ++ endL) = ⟨#[75, 74, 75, 74, 75, 74, 75, 75, 74, 74, 75, 74, 74, 75, 75, 75, 48, 48, 74]⟩ := rfl
  rw [e1] at h1
  rw [e2] at h2
  dsimp only at h1 h2
  rw [b1, b3] at h1
  rw [b2, b1] at h2
  have H1 := Lib.hid h1
  have H2 := Lib.hid h2
  clear h1 h2 e1 e2 b1 b2 b3
  go_enter Tryd.func11, Tryd.ntmps11
  go_wp2_with fail
  refine (H1.out _).mono ?_
  rintro e w1 ⟨rfl, hb1⟩
  have HB1 := Lib.hid hb1
  clear hb1
  go_wp2_with fail
  refine (H2.out _).mono ?_
  rintro e w2 ⟨rfl, hb⟩
  have HB2 := Lib.hid (Kt.bthen HB1.out hb)
  clear hb
  go_wp2_with fail
  go_ret
  exact ⟨rfl, HB2.out⟩
theorem trim_end (l : List UInt8) : Lib.trimSuffix (l ++ endL) endL = l := by
  have h : Lib.hasSuffix (l ++ endL) endL = true := List.isSuffixOf_iff_suffix.2 (List.suffix_append _ _)
  unfold Lib.trimSuffix
  rw [if_pos h, List.length_append, Nat.add_sub_cancel, List.take_left]
theorem send_cases (s : List UInt8) : ((sendP s).2 ≠ 0 ∧ (sendP s).1 = []) ∨ (sendP s = (levs s ++ endL, 0) ∧ s ≠ [] ∧ s.length ≤ 80) := by
  unfold sendP
  split
  · left; simp
  · split
    · left; simp
    · right; refine ⟨rfl, by assumption, by omega⟩
theorem send_len {a x : List UInt8} (h : sendP a = (x, 0)) : a.length ≤ 9223372036854775807 := by
  rcases send_cases a with ⟨h1, _⟩ | ⟨_, _, h80⟩
  · exact absurd (congrArg Prod.snd h) h1
  · omega
set_option maxHeartbeats 1600000 in
theorem one_calls (s l : List UInt8) (w : World) (hs : s.length ≤ 9223372036854775807) (hl : l.length + 2 ≤ 140737488355328) :
    Calls Tryd.prog 3 #[.string (bt s), .string (bt l)] w fun e w' => e = .returned (.bool true) ∧ Below w.heap.size w w' := by
  have HS := Lib.hid (send_calls s w hs)
  have HV := Lib.hid plives_calls
  have HP : ∀ W, Calls Tryd.prog 9 #[.string (bt l)] W fun e w' => e = .returned (.tuple #[.string (bt (pieceP l).1), .int .i64 (pieceP l).2]) ∧ Below W.heap.size W w' := fun W => piece_calls l W hl
  have hP2 : ((pieceP l).2 == 0) = false ∨ ∃ a, pieceP l = (a, 0) ∧ sendP a = (l ++ endL, 0) := by
    by_cases h : (pieceP l).2 = 0
    · right
      have h' : pieceP l = ((pieceP l).1, 0) := by rw [← h]
      exact ⟨_, h', send_piece h'⟩
    · left; rw [beq_eq_false_iff_ne]; exact h
  have hn3 : bt endL = ⟨#[48, 48, 74]⟩ := rfl
  have z1 : ¬ 9223372036854775807 < (bt l).size + (⟨#[48, 48, 74]⟩ : ByteArray).size := by
    rw [bt_size]
    show ¬ 9223372036854775807 < _ + 3
    omega
  obtain ⟨L, hL⟩ : ∃ x, bt l = x := ⟨_, rfl⟩
  have hLA : bt (l ++ endL) = L ++ ⟨#[48, 48, 74]⟩ := by rw [← bt_app, hL, hn3]
  have HP' := Lib.hid HP
  rcases send_cases s with ⟨h1, h2⟩ | ⟨h1, h0, h80⟩
  · have e1 : ((sendP s).2 == 0) = false := by rw [beq_eq_false_iff_ne]; exact h1
    obtain ⟨E, hE⟩ : ∃ E, (sendP s).2 = E := ⟨_, rfl⟩
    rw [hE] at HS e1
    obtain ⟨S, hS⟩ : ∃ x, bt s = x := ⟨_, rfl⟩
    obtain ⟨S2, hS2⟩ : ∃ x, bt (sendP s).1 = x := ⟨_, rfl⟩
    rw [hS, hS2] at HS
    rw [hS, hL]
    rw [hL] at z1
    rcases hP2 with e2 | ⟨a, ha, hsa⟩
    · obtain ⟨E2, hE2⟩ : ∃ E, (pieceP l).2 = E := ⟨_, rfl⟩
      obtain ⟨S3, hS3⟩ : ∃ x, bt (pieceP l).1 = x := ⟨_, rfl⟩
      rw [hE2] at HP' e2
      rw [hS3, hL] at HP'
      clear HP h1 h2 hE hS hS2 hL hLA hE2 hS3 hs hl hn3
      go_enter Tryd.func3, Tryd.ntmps3
      go_wp2_with fail
      refine HS.out.mono ?_; rintro e w1 ⟨rfl, hb1⟩
      have HB1 := Lib.hid hb1
      clear hb1 HS
      go_wp2_with fail
      refine (HP'.out _).mono ?_; rintro e w2 ⟨rfl, hb⟩
      have HB2 := Lib.hid (Kt.bthen HB1.out hb)
      clear hb HP'
      go_wp2_with fail
      refine (HV.out _).mono ?_; rintro e w3 ⟨rfl, hb⟩
      have HB3 := Lib.hid (Kt.bthen HB2.out hb)
      clear hb
      go_wp2_with fail
      go_ret
      exact ⟨rfl, HB3.out⟩
    · have HQ := fun W => send_calls a W (send_len hsa)
      rw [hsa] at HQ
      rw [ha] at HP'
      dsimp only at HQ HP'
      obtain ⟨A, hA⟩ : ∃ x, bt a = x := ⟨_, rfl⟩
      rw [hA, hLA] at HQ
      rw [hA, hL] at HP'
      have HQ' := Lib.hid HQ
      clear HP HQ h1 h2 hE hS hS2 hL hLA hs hl hn3 ha hsa hA
      go_enter Tryd.func3, Tryd.ntmps3
      go_wp2_with fail
      refine HS.out.mono ?_; rintro e w1 ⟨rfl, hb1⟩
      have HB1 := Lib.hid hb1
      clear hb1 HS
      go_wp2_with fail
      refine (HP'.out _).mono ?_; rintro e w2 ⟨rfl, hb⟩
      have HB2 := Lib.hid (Kt.bthen HB1.out hb)
      clear hb HP'
      go_wp2_with fail
      refine (HQ'.out _).mono ?_; rintro e w3 ⟨rfl, hb⟩
      have HB3 := Lib.hid (Kt.bthen HB2.out hb)
      clear hb HQ'
      go_wp2_with fail
      refine (HV.out _).mono ?_; rintro e w3 ⟨rfl, hb⟩
      have HB4 := Lib.hid (Kt.bthen HB3.out hb)
      clear hb
      go_wp2_with fail
      go_ret
      exact ⟨rfl, HB4.out⟩
  · have hll := levs_len h80
    have HT := fun W => Tryd.strings_TrimSuffix (bt (levs s ++ endL)) ⟨#[48, 48, 74]⟩ W (by rw [bt_size, List.length_append]; show _ + 3 ≤ _; omega)
    rw [bt_list, show (⟨#[48, 48, 74]⟩ : ByteArray).data.toList = endL from rfl, trim_end] at HT
    have HR := fun W => piece_calls (levs s) W (by omega)
    rw [piece_send h0 h80] at HR
    rw [h1] at HS
    dsimp only at HS HR
    obtain ⟨S, hS⟩ : ∃ x, bt s = x := ⟨_, rfl⟩
    obtain ⟨S2, hS2⟩ : ∃ x, bt (levs s ++ endL) = x := ⟨_, rfl⟩
    obtain ⟨S4, hS4⟩ : ∃ x, bt (levs s) = x := ⟨_, rfl⟩
    have hS4' : (⟨(levs s).toArray⟩ : ByteArray) = S4 := hS4
    rw [hS, hS2] at HS
    rw [hS2, hS4'] at HT
    rw [hS, hS4] at HR
    rw [hS, hL]
    rw [hL] at z1
    have HT' := Lib.hid HT
    have HR' := Lib.hid HR
    clear HT HR
    rcases hP2 with e2 | ⟨a, ha, hsa⟩
    · obtain ⟨E2, hE2⟩ : ∃ E, (pieceP l).2 = E := ⟨_, rfl⟩
      obtain ⟨S3, hS3⟩ : ∃ x, bt (pieceP l).1 = x := ⟨_, rfl⟩
      rw [hE2] at HP' e2
      rw [hS3, hL] at HP'
      clear HP h1 h0 h80 hS hS2 hL hLA hE2 hS3 hs hl hn3 hS4 hS4' hll
      go_enter Tryd.func3, Tryd.ntmps3
      go_wp2_with fail
      refine HS.out.mono ?_; rintro e w1 ⟨rfl, hb1⟩
      have HB1 := Lib.hid hb1
      clear hb1 HS
      go_wp2_with fail
      refine (HT'.out _).mono ?_; rintro e w1b ⟨rfl, rfl⟩
      go_wp2_with fail
      refine (HR'.out _).mono ?_; rintro e w1c ⟨rfl, hb⟩
      have HB1c := Lib.hid (Kt.bthen HB1.out hb)
      clear hb HR' HB1
      go_wp2_with fail
      refine (HP'.out _).mono ?_; rintro e w2 ⟨rfl, hb⟩
      have HB2 := Lib.hid (Kt.bthen HB1c.out hb)
      clear hb HP'
      go_wp2_with fail
      refine (HV.out _).mono ?_; rintro e w3 ⟨rfl, hb⟩
      have HB3 := Lib.hid (Kt.bthen HB2.out hb)
      clear hb
      go_wp2_with fail
      go_ret
      exact ⟨rfl, HB3.out⟩
    · have HQ := fun W => send_calls a W (send_len hsa)
      rw [hsa] at HQ
      rw [ha] at HP'
      dsimp only at HQ HP'
      obtain ⟨A, hA⟩ : ∃ x, bt a = x := ⟨_, rfl⟩
      rw [hA, hLA] at HQ
      rw [hA, hL] at HP'
      have HQ' := Lib.hid HQ
      clear HP HQ h1 h0 h80 hS hS2 hL hLA hs hl hn3 ha hsa hA hS4 hS4' hll
      go_enter Tryd.func3, Tryd.ntmps3
      go_wp2_with fail
      refine HS.out.mono ?_; rintro e w1 ⟨rfl, hb1⟩
      have HB1 := Lib.hid hb1
      clear hb1 HS
      go_wp2_with fail
      refine (HT'.out _).mono ?_; rintro e w1b ⟨rfl, rfl⟩
      go_wp2_with fail
      refine (HR'.out _).mono ?_; rintro e w1c ⟨rfl, hb⟩
      have HB1c := Lib.hid (Kt.bthen HB1.out hb)
      clear hb HR' HB1
      go_wp2_with fail
      refine (HP'.out _).mono ?_; rintro e w2 ⟨rfl, hb⟩
      have HB2 := Lib.hid (Kt.bthen HB1c.out hb)
      clear hb HP'
      go_wp2_with fail
      refine (HQ'.out _).mono ?_; rintro e w3 ⟨rfl, hb⟩
      have HB3 := Lib.hid (Kt.bthen HB2.out hb)
      clear hb HQ'
      go_wp2_with fail
      refine (HV.out _).mono ?_; rintro e w3 ⟨rfl, hb⟩
      have HB4 := Lib.hid (Kt.bthen HB3.out hb)
      clear hb
      go_wp2_with fail
      go_ret
      exact ⟨rfl, HB4.out⟩
theorem str_bt {w : World} {B : Nat} {v : Value} (r : Fr.RdV w B .string v) : ∃ l : List UInt8, v = .string (bt l) ∧ l.length ≤ B := by
  obtain ⟨s, hs, hb⟩ := r
  injection hs with hs _
  exact ⟨s.data.toList, hs, hb⟩
theorem one_walk (v0 v1 : Value) (w : World) (r0 : Fr.RdV w reachBytes .string v0) (r1 : Fr.RdV w reachBytes .string v1) :
    Calls Tryd.prog 3 #[v0, v1] w fun e w' => e = .returned (.bool true) ∧ Below w.heap.size w w' := by
  obtain ⟨s, rfl, hs⟩ := str_bt r0
  obtain ⟨l, rfl, hl⟩ := str_bt r1
  exact one_calls s l w (Nat.le_trans hs (by decide)) (Nat.le_trans (Nat.add_le_add_right hl 2) (by decide))
end Go.Proofs.YtmajeonfblcfnaaDoor
