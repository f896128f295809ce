/- Sorting in place, walked: ranges that change places, rotations. -/
import Derived.Test.YthmcnopogahffaaBudW
namespace Go.Proofs.Ythmcnopogahffaa
open Go.RowKit Go.Proofs.Ythmcnopogahffaa.Bud
theorem add_facts {a i p : Nat} (h : p = a + i) (hp : p ≤ 200) : wrap64 ((a : Int) + (i : Int)) = (p : Int) ∧ IntKind.i64.wrap ((a : Int) + (i : Int)) = (p : Int) := by
  have e : (a : Int) + i = p := by omega
  rw [e]
  exact ⟨wrap_i (by omega), wrap_k (by omega)⟩
theorem sub_facts {a i p : Nat} (h : p + i = a) (hp : a ≤ 200) : wrap64 ((a : Int) - (i : Int)) = (p : Int) ∧ IntKind.i64.wrap ((a : Int) - (i : Int)) = (p : Int) := by
  have e : (a : Int) - i = p := by omega
  rw [e]
  exact ⟨wrap_i (by omega), wrap_k (by omega)⟩
theorem lt_int {p n : Nat} (h : p < n) : (p : Int) < n := by omega
theorem swr_next (a b i c : Nat) (l : List Nat) (h : i < c) : swr a b (c - i) i l = swr a b (c - (i + 1)) (i + 1) (swp l (a + i) (b + i)) := by
  rw [show c - i = c - (i + 1) + 1 by omega]; rfl
theorem swr_end (a b i c : Nat) (l : List Nat) (h : c ≤ i) : swr a b (c - i) i l = l := by rw [show c - i = 0 by omega]; rfl
theorem swr_pq {a b c i n : Nat} (hlt : i < c) (h1 : a + c ≤ b) (h2 : b + c ≤ n) : a + i < n ∧ b + i < n ∧ a + i ≠ b + i := by omega
set_option maxRecDepth 100000 in
set_option maxHeartbeats 3200000 in
theorem swr_calls (w0 : World) (g n : Nat) (cv : Value) (l : List Nat) (a b c : Nat) (hl : Lo n l) (hn : n ≤ 64) (h1 : a + c ≤ b) (h2 : b + c ≤ n) (W : World) (hH : Hd g l W) (hB : Below g w0 W) :
    Calls Try.prog 32 #[.slice (some ⟨g, 0, none⟩) n n, .int .i64 (a : Int), .int .i64 (b : Int), .int .i64 (c : Int), cv] W fun e w' => e = .returned (.tuple #[]) ∧ Hd g (swr a b c 0 l) w' ∧ Below g w0 w' := by
  have HL := Lib.hid hl; have HN := Lib.hid hn; have H1 := Lib.hid h1; have H2 := Lib.hid h2; have HH := Lib.hid hH; have HB := Lib.hid hB
  clear hl hn h1 h2 hH hB
  go_enter Try.func32, Try.ntmps32
  go_wp2_with fail
  go_loopw [10] (fun vi wr => ∃ (i : Nat) (l' : List Nat), i ≤ c ∧ vi = .int .i64 i ∧ Hid (Hd g l' wr) ∧ Hid (Below g w0 wr) ∧ Hid (Lo n l') ∧ Hid (swr a b (c - i) i l' = swr a b c 0 l)) (fun vi _ => c - (intOf vi).toNat)
  case atStart => exact ⟨0, l, Nat.zero_le _, rfl, HH, HB, HL, Lib.hid rfl⟩
  case round =>
    clear HH HB HL
    obtain ⟨i, l', hic, rfl, HH, HB, HL, HE⟩ := hrel
    by_cases hlt : i < c
    · have HEN := Lib.hid ((swr_next a b i c l' hlt).symm.trans HE.out)
      obtain ⟨hp1, hq1, hne⟩ := swr_pq hlt H1.out H2.out
      obtain ⟨p, hp⟩ : ∃ p, p = a + i := ⟨_, rfl⟩
      obtain ⟨q, hq⟩ : ∃ q, q = b + i := ⟨_, rfl⟩
      rw [← hp] at hp1
      rw [← hq] at hq1
      rw [← hp, ← hq] at hne HEN
      obtain ⟨w1, w2⟩ := add_facts hp (Nat.le_trans (Nat.le_of_lt hp1) (Nat.le_trans HN.out (by decide)))
      obtain ⟨w3, w4⟩ := add_facts hq (Nat.le_trans (Nat.le_of_lt hq1) (Nat.le_trans HN.out (by decide)))
      have c1 := HH.out.cell p (by rw [HL.out.1]; exact hp1)
      have c2 := HH.out.cell q (by rw [HL.out.1]; exact hq1)
      have f1 := HH.out.free p
      have f2 := HH.out.free q
      have hwk : wrap64 ((i : Int) + 1) = ((i + 1 : Nat) : Int) := i_next (Nat.lt_of_lt_of_le hlt (Nat.le_trans (Nat.le_add_left _ _) H2.out)) HN.out
      have HWK := Lib.hid hwk
      have b1 := lt_int hp1
      have b2 := lt_int hq1
      have HP1 := Lib.hid hp1; have HQ1 := Lib.hid hq1
      have hne1 : p ≠ q := hne
      have hne2 : q ≠ p := fun e => hne e.symm
      have HHS := Lib.hid (HH.out.swp p q)
      obtain ⟨x, hx⟩ : ∃ x, x = at' l' p := ⟨_, rfl⟩
      obtain ⟨y, hy⟩ : ∃ y, y = at' l' q := ⟨_, rfl⟩
      rw [← hx] at c1 HHS
      rw [← hy] at c2 HHS
      have HBS := Lib.hid ((HB.out.setCell (p := ⟨g, p, none⟩) (Nat.le_refl _) (.int .i64 (y : Int))).setCell (p := ⟨g, q, none⟩) (Nat.le_refl _) (.int .i64 (x : Int)))
      clear hp hq hwk hx hy hp1 hq1 hne
      go_wp2_with fail
      go_region
      have HHD : Hid (Hd g (swp l' p q) (((wr.setCell ⟨g, p, none⟩ (.int .i64 (y : Int))).setCell ⟨g, q, none⟩ (.int .i64 (x : Int))).drew)) := HHS
      have HBD : Hid (Below g w0 (((wr.setCell ⟨g, p, none⟩ (.int .i64 (y : Int))).setCell ⟨g, q, none⟩ (.int .i64 (x : Int))).drew)) := Lib.hid (bdrewN HBS.out 1)
      clear HHS HBS c1 c2 f1 f2
      go_wp2_with fail
      go_roundw
      case rel => exact ⟨i + 1, swp l' p q, hlt, congrArg _ HWK.out, HHD, HBD, Lib.hid (HL.out.swp _ _ HP1.out HQ1.out), HEN⟩
      case measure => rw [HWK.out]; exact Nat.sub_lt_sub_left hlt (Nat.lt_succ_self i)
    · have HE2 := Lib.hid ((swr_end a b i c l' (Nat.not_lt.1 hlt)).symm.trans HE.out)
      go_wp2_with fail
      go_end0
      exact ⟨rfl, by rw [← HE2.out]; exact HH.out, HB.out⟩
theorem rot_eq {m f i : Nat} (l : List Nat) (h : i + i ≤ f) (h0 : 0 < i) : rot m f i i l = swr (m - i) m i 0 l := by
  obtain ⟨f, rfl⟩ : ∃ q, f = q + 1 := ⟨f - 1, by omega⟩
  unfold rot
  rw [if_pos rfl]
theorem rot_gt {m f i j : Nat} (l : List Nat) (h : i + j ≤ f) (h0 : 0 < j) (h1 : j < i) : rot m f i j l = rot m (f - 1) (i - j) j (swr (m - i) m j 0 l) := by
  obtain ⟨f, rfl⟩ : ∃ q, f = q + 1 := ⟨f - 1, by omega⟩
  conv => lhs; unfold rot
  rw [if_neg (by omega), if_pos h1]
  rfl
theorem rot_lt {m f i j : Nat} (l : List Nat) (h : i + j ≤ f) (h0 : 0 < i) (h1 : i < j) : rot m f i j l = rot m (f - 1) i (j - i) (swr (m - i) (m + j - i) i 0 l) := by
  obtain ⟨f, rfl⟩ : ∃ q, f = q + 1 := ⟨f - 1, by omega⟩
  conv => lhs; unfold rot
  rw [if_neg (by omega), if_neg (by omega)]
  rfl
theorem Lo.swr {n : Nat} {l : List Nat} (h : Lo n l) {a b c : Nat} (h1 : a + c ≤ b) (h2 : b + c ≤ n) : Lo n (swr a b c 0 l) := h.perm (swr_loc a b c 0 l h1 (by rw [h.1]; exact h2)).perm
structure RotIn (m n i j f : Nat) : Prop where
  i0 : 0 < i
  j0 : 0 < j
  im : i ≤ m
  jn : m + j ≤ n
  fu : i + j ≤ f
theorem RotIn.gt {m n i j f : Nat} (h : RotIn m n i j f) (h1 : j < i) : RotIn m n (i - j) j (f - 1) ∧ m - i + i = m ∧ m - i + j ≤ m ∧ i - j + j = i ∧ m ≤ 200 + m ∧ i - j < i := by
  obtain ⟨a, b, c, d, e⟩ := h
  exact ⟨⟨by omega, b, by omega, d, by omega⟩, by omega, by omega, by omega, by omega, by omega⟩
theorem RotIn.lt {m n i j f : Nat} (h : RotIn m n i j f) (h1 : i < j) : RotIn m n i (j - i) (f - 1) ∧ m - i + i = m ∧ m - i + i ≤ m + j - i ∧ m + j - i + i = m + j ∧ m + j - i + i ≤ n ∧ j - i + i = j ∧ j - i < j := by
  obtain ⟨a, b, c, d, e⟩ := h
  exact ⟨⟨a, by omega, c, by omega, by omega⟩, by omega, by omega, by omega, by omega, by omega, by omega⟩
theorem le200 {a n : Nat} (h : a ≤ n) (hn : n ≤ 64) : a ≤ 200 := by omega
theorem le200b {i m n : Nat} (h : i ≤ m) (h2 : m ≤ n) (hn : n ≤ 64) : i ≤ 200 ∧ m ≤ 200 := by omega
theorem ne_bne {i j : Nat} (h : i ≠ j) : ((i : Int) != (j : Int)) = true := by rw [bne_iff_ne]; omega
set_option maxRecDepth 100000 in
set_option maxHeartbeats 3200000 in
theorem rot_calls (w0 : World) (g n : Nat) (cv : Value) (l : List Nat) (a m b : Nat) (hl : Lo n l) (hn : n ≤ 64) (h1 : a < m) (h2 : m < b) (h3 : b ≤ n) (W : World) (hH : Hd g l W) (hB : Below g w0 W) :
    Calls Try.prog 31 #[.slice (some ⟨g, 0, none⟩) n n, .int .i64 (a : Int), .int .i64 (m : Int), .int .i64 (b : Int), cv] W fun e w' => e = .returned (.tuple #[]) ∧ Hd g (rot m (b - a) (m - a) (b - m) l) w' ∧ Below g w0 w' := by
  have HL := Lib.hid hl; have HN := Lib.hid hn; have HH := Lib.hid hH; have HB := Lib.hid hB
  have HSW := Lib.hid (fun l' (hl' : Lo n l') x y c (h4 : x + c ≤ y) (h5 : y + c ≤ n) W hH hB => swr_calls w0 g n cv l' x y c hl' hn h4 h5 W hH hB)
  have HRI : Hid (RotIn m n (m - a) (b - m) (b - a)) := Lib.hid ⟨by omega, by omega, by omega, by omega, by omega⟩
  have HMN : Hid (m ≤ n) := Lib.hid (by omega)
  obtain ⟨i0, hi0⟩ : ∃ i0, i0 = m - a := ⟨_, rfl⟩
  obtain ⟨j0, hj0⟩ : ∃ j0, j0 = b - m := ⟨_, rfl⟩
  obtain ⟨f0, hf0⟩ : ∃ f0, f0 = b - a := ⟨_, rfl⟩
  obtain ⟨w1, _⟩ := sub_facts (a := m) (i := a) (p := i0) (by omega) (by omega)
  obtain ⟨w2, _⟩ := sub_facts (a := b) (i := m) (p := j0) (by omega) (by omega)
  rw [← hi0, ← hj0, ← hf0] at HRI ⊢
  clear hl hn h1 h2 h3 hH hB hi0 hj0 hf0
  go_enter Try.func31, Try.ntmps31
  go_wp2_with fail
  go_loopw [10, 11] (fun vi vj wr => ∃ (i j f : Nat) (l' : List Nat), vi = .int .i64 i ∧ vj = .int .i64 j ∧ Hid (RotIn m n i j f) ∧ Hid (Hd g l' wr) ∧ Hid (Below g w0 wr) ∧ Hid (Lo n l') ∧ Hid (rot m f i j l' = rot m f0 i0 j0 l)) (fun vi vj _ => (intOf vi).toNat + (intOf vj).toNat)
  case atStart => exact ⟨i0, j0, f0, l, rfl, rfl, HRI, HH, HB, HL, Lib.hid rfl⟩
  case round =>
    clear HH HB HL HRI w1 w2
    obtain ⟨i, j, f, l', rfl, rfl, HRI, HH, HB, HL, HE⟩ := hrel
    by_cases hij : i = j
    · subst hij
      have hp : m - i + i = m := Nat.sub_add_cancel HRI.out.im
      have HE2 := Lib.hid ((rot_eq l' HRI.out.fu HRI.out.i0).symm.trans HE.out)
      have HS1 := Lib.hid (HSW.out l' HL.out (m - i) m i (Nat.le_of_eq hp) HRI.out.jn)
      obtain ⟨p, hpp⟩ : ∃ p, p = m - i := ⟨_, rfl⟩
      rw [← hpp] at hp HE2 HS1
      obtain ⟨w1, w2⟩ := sub_facts hp (le200 HMN.out HN.out)
      clear hp hpp
      go_wp2_with fail
      refine (HS1.out wr HH.out HB.out).mono ?_
      rintro e ws ⟨rfl, hh, hbb⟩
      have HHN := Lib.hid hh; have HBN := Lib.hid hbb
      clear hh hbb
      go_wp2_with fail
      go_end0
      exact ⟨rfl, by rw [← HE2.out]; exact HHN.out, HBN.out⟩
    · have e1 := ne_bne hij
      by_cases hji : j < i
      · have HE2 := Lib.hid ((rot_gt l' HRI.out.fu HRI.out.j0 hji).symm.trans HE.out)
        obtain ⟨h1, h2, h3, h4, _, h6⟩ := HRI.out.gt hji
        have HS1 := Lib.hid (HSW.out l' HL.out (m - i) m j h3 HRI.out.jn)
        have HLN := Lib.hid (HL.out.swr h3 HRI.out.jn)
        have HRN := Lib.hid h1
        obtain ⟨p, hpp⟩ : ∃ p, p = m - i := ⟨_, rfl⟩
        obtain ⟨i2, hi2⟩ : ∃ p, p = i - j := ⟨_, rfl⟩
        rw [← hpp] at h2 HE2 HS1 HLN
        rw [← hi2] at h4 HE2 HRN h6
        obtain ⟨w1, w2⟩ := sub_facts h2 (le200 HMN.out HN.out)
        obtain ⟨w3, w4⟩ := sub_facts h4 (le200 (Nat.le_trans HRI.out.im HMN.out) HN.out)
        have e2 : (j : Int) < i := lt_int hji
        have H6 := Lib.hid h6; have W3 := Lib.hid w3
        clear h1 h2 h3 h4 h6 hpp hi2 hji
        go_wp2_with fail
        refine (HS1.out wr HH.out HB.out).mono ?_
        rintro e ws ⟨rfl, hh, hbb⟩
        have HHN := Lib.hid hh; have HBN := Lib.hid hbb
        clear hh hbb
        go_wp2_with fail
        go_roundw
        case rel => exact ⟨i2, j, f - 1, _, congrArg _ (by first | rfl | exact W3.out), rfl, HRN, HHN, HBN, HLN, HE2⟩
        case measure => (try rw [W3.out]); exact Nat.add_lt_add_right H6.out _
      · have hji : i < j := Nat.lt_of_le_of_ne (Nat.not_lt.1 hji) hij
        have HE2 := Lib.hid ((rot_lt l' HRI.out.fu HRI.out.i0 hji).symm.trans HE.out)
        obtain ⟨h1, h2, h3, h4, h5, h6, h7⟩ := HRI.out.lt hji
        have HS1 := Lib.hid (HSW.out l' HL.out (m - i) (m + j - i) i h3 h5)
        have HLN := Lib.hid (HL.out.swr h3 h5)
        have HRN := Lib.hid h1
        obtain ⟨p, hpp⟩ : ∃ p, p = m - i := ⟨_, rfl⟩
        obtain ⟨s, hs⟩ : ∃ p, p = m + j := ⟨_, rfl⟩
        obtain ⟨r, hr⟩ : ∃ p, p = m + j - i := ⟨_, rfl⟩
        obtain ⟨j2, hj2⟩ : ∃ p, p = j - i := ⟨_, rfl⟩
        have hs2 : s ≤ 200 := by rw [hs]; exact le200 HRI.out.jn HN.out
        rw [← hpp] at h2 HE2 HS1 HLN
        rw [← hr] at h4 HE2 HS1 HLN
        rw [← hj2] at h6 HE2 HRN h7
        rw [← hs] at h4
        obtain ⟨w1, w2⟩ := sub_facts h2 (le200 HMN.out HN.out)
        obtain ⟨w3, w4⟩ := sub_facts h6 (le200 (Nat.le_trans (Nat.le_add_left _ _) HRI.out.jn) HN.out)
        obtain ⟨w5, w6⟩ := add_facts hs hs2
        obtain ⟨w7, w8⟩ := sub_facts h4 hs2
        have e2 : ¬ (j : Int) < i := Int.not_lt.2 (Int.le_of_lt (lt_int hji))
        have H7 := Lib.hid h7; have W3 := Lib.hid w3
        clear h1 h2 h3 h4 h5 h6 h7 hpp hr hs hj2 hji hs2
        go_wp2_with fail
        refine (HS1.out wr HH.out HB.out).mono ?_
        rintro e ws ⟨rfl, hh, hbb⟩
        have HHN := Lib.hid hh; have HBN := Lib.hid hbb
        clear hh hbb
        go_wp2_with fail
        go_roundw
        case rel => exact ⟨i, j2, f - 1, _, rfl, congrArg _ (by first | rfl | exact W3.out), HRN, HHN, HBN, HLN, HE2⟩
        case measure => (try rw [W3.out]); exact Nat.add_lt_add_left H7.out _
end Go.Proofs.Ythmcnopogahffaa
