/- Sorting in place, walked: symmetric merging. -/
import Derived.Test.YthmcnopogahffaaBudX
namespace Go.Proofs.Ythmcnopogahffaa
open Go.RowKit Go.Proofs.Ythmcnopogahffaa.Bud
theorem mid_fact {i j h : Nat} (hh : h = (i + j) / 2) (h2 : i + j ≤ 200) : wrap64 (IntKind.u64.wrap (wrap64 ((i : Int) + (j : Int))) / 2) = (h : Int) := by
  have e1 : wrap64 ((i : Int) + (j : Int)) = (i : Int) + j := wrap_i (by omega)
  rw [e1, IntWalk.u64_in _ (by omega), wrap_i (by omega), hh]
  omega
theorem mid_bd {i j h lo hi n : Nat} (hh : h = (i + j) / 2) (hlt : i < j) (h1 : lo ≤ i) (h2 : j ≤ hi) (h3 : hi ≤ n) (hn : n ≤ 64) : i + j ≤ 200 ∧ i ≤ h ∧ h < j ∧ h < n ∧ lo ≤ h + 1 ∧ h + 1 ≤ j ∧ h ≤ hi := by omega
theorem bs_yes {P : Nat → Bool} {ff i j h : Nat} (hf : j - i ≤ ff) (hlt : i < j) (hh : h = (i + j) / 2) (hp : P h = true) : bs P ff i j = bs P (ff - 1) (h + 1) j := by
  obtain ⟨ff, rfl⟩ : ∃ q, ff = q + 1 := ⟨ff - 1, by omega⟩
  conv => lhs; unfold bs
  rw [if_pos hlt, ← hh, if_pos hp]
  rfl
theorem bs_no {P : Nat → Bool} {ff i j h : Nat} (hf : j - i ≤ ff) (hlt : i < j) (hh : h = (i + j) / 2) (hp : P h = false) : bs P ff i j = bs P (ff - 1) i h := by
  obtain ⟨ff, rfl⟩ : ∃ q, ff = q + 1 := ⟨ff - 1, by omega⟩
  conv => lhs; unfold bs
  rw [if_pos hlt, ← hh, if_neg (by simp [hp])]
  rfl
theorem bs_end {P : Nat → Bool} {ff i : Nat} : bs P ff i i = i := by
  cases ff with
  | zero => rfl
  | succ f => unfold bs; rw [if_neg (Nat.lt_irrefl _)]
theorem le_pred {i j h ff : Nat} (hf : j - i ≤ ff) (hlt : i < j) (h1 : i ≤ h) (h2 : h < j) : j - (h + 1) ≤ ff - 1 := by omega
theorem le_pred2 {i j h ff : Nat} (hf : j - i ≤ ff) (hlt : i < j) (h1 : i ≤ h) (h2 : h < j) : h - i ≤ ff - 1 := by omega
theorem sub_lt1 {i j h : Nat} (h1 : i ≤ h) (h2 : h < j) : (intOf (.int .i64 (j : Int))).toNat - (intOf (.int .i64 ((h + 1 : Nat) : Int))).toNat < (intOf (.int .i64 (j : Int))).toNat - (intOf (.int .i64 (i : Int))).toNat := by simp [intOf]; omega
theorem sub_lt2 {i j h : Nat} (h1 : i ≤ h) (h2 : h < j) : (intOf (.int .i64 (h : Int))).toNat - (intOf (.int .i64 (i : Int))).toNat < (intOf (.int .i64 (j : Int))).toNat - (intOf (.int .i64 (i : Int))).toNat := by simp [intOf]; omega
theorem ic_p {i c p q : Nat} (h : i + (c + 1) = q) (h2 : p + 1 = q) : i + c = p := by omega
theorem sub1_facts {i u : Nat} (h : u + 1 = i) (hi : i ≤ 200) : wrap64 ((i : Int) - 1) = (u : Int) ∧ IntKind.i64.wrap ((i : Int) - 1) = (u : Int) := by
  have e : (i : Int) - 1 = u := by omega
  rw [e]
  exact ⟨wrap_i (by omega), wrap_k (by omega)⟩
theorem add1_facts {i u : Nat} (h : u = i + 1) (hi : u ≤ 200) : wrap64 ((i : Int) + 1) = (u : Int) ∧ IntKind.i64.wrap ((i : Int) + 1) = (u : Int) := by
  have e : (i : Int) + 1 = u := by omega
  rw [e]
  exact ⟨wrap_i (by omega), wrap_k (by omega)⟩
theorem i_bd {a m b n i : Nat} (h : a < m ∧ m < b ∧ b ≤ n) (h1 : m ≤ i) (h2 : i ≤ b) (hn : n ≤ 64) : i - 1 + 1 = i ∧ i ≤ 200 ∧ a + (i - 1 - a) = i - 1 := by omega
theorem shU_next (c t u : Nat) (l : List Nat) (hu : u = t + 1) : shU (c + 1) t l = shU c u (swp l t u) := by subst hu; rfl
theorem t_bd {t c u n : Nat} (h : t + (c + 1) = u) (hu : u < n) (hn : n ≤ 64) : t < n ∧ t + 1 < n ∧ t + 1 ≤ 200 ∧ t < u ∧ t + 1 + c = u := by omega
theorem sym_bd {a m b n mid : Nat} (hmid : mid = (a + b) / 2) (h : a < m ∧ m < b ∧ b ≤ n) (hn : n ≤ 64) : a + b ≤ 200 ∧ mid + m ≤ 200 ∧ mid + m - 1 + 1 = mid + m ∧ (mid < m → mid + m - b + b = mid + m) ∧ mid ≤ 200 := by omega
structure LoHi (a m b n mid lo hi : Nat) : Prop where
  le : lo ≤ hi
  hn : hi ≤ n
  ix : ∀ h, lo ≤ h → h < hi → mid + m - 1 - h < n ∧ mid + m - 1 - h + h = mid + m - 1 ∧ h < n
  s : ∀ s, lo ≤ s → s ≤ hi → s ≤ mid + m ∧ mid + m - s + s = mid + m ∧ s ≤ m ∧ a ≤ s ∧ mid + m - s ≤ b ∧ m ≤ mid + m - s
theorem loHi {a m b n mid : Nat} (hmid : mid = (a + b) / 2) (h : a < m ∧ m < b ∧ b ≤ n) : LoHi a m b n mid (if mid < m then mid + m - b else a) (if mid < m then mid else m) := by
  obtain ⟨ha, hb, hbn⟩ := h
  have q1 : 2 * mid ≤ a + b := by omega
  have q2 : a + b ≤ 2 * mid + 1 := by omega
  clear hmid
  by_cases c : mid < m
  · rw [if_pos c, if_pos c]
    refine ⟨by omega, by omega, fun h h1 h2 => ?_, fun s h1 h2 => ?_⟩
    · have g1 : mid + m ≤ h + b := by omega
      clear h1
      exact ⟨by omega, by omega, by omega⟩
    · have g1 : mid + m ≤ s + b := by omega
      have g2 : a ≤ s := by omega
      clear h1
      exact ⟨by omega, by omega, by omega, g2, by omega, by omega⟩
  · rw [if_neg c, if_neg c]
    refine ⟨by omega, by omega, fun h h1 h2 => ?_, fun s h1 h2 => ?_⟩
    · exact ⟨by omega, by omega, by omega⟩
    · exact ⟨by omega, by omega, by omega, by omega, by omega, by omega⟩
theorem sym_eq (k : Nat → Int) {f a m b : Nat} {l : List Nat} (c1 : ¬ m - a = 1) (c2 : ¬ b - m = 1) {mid lo hi s e : Nat} (hmid : mid = (a + b) / 2) (hlo : lo = if mid < m then mid + m - b else a) (hhi : hi = if mid < m then mid else m)
    (hs : bs (P3 k l (mid + m - 1)) (hi - lo) lo hi = s) (he : e = mid + m - s) {l1 l2 l3 : List Nat} (h1 : l1 = if s < m ∧ m < e then rot m (e - s) (m - s) (e - m) l else l) (h2 : l2 = if a < s ∧ s < mid then sym k f a s mid l1 else l1) (h3 : l3 = if mid < e ∧ e < b then sym k f mid e b l2 else l2) :
    sym k (f + 1) a m b l = l3 := by
  unfold sym
  rw [if_neg c1, if_neg c2]
  subst h3 h2 h1 he hs hlo hhi hmid
  rfl
theorem rd_bd {a m b mid f : Nat} (h0 : b - a ≤ f + 1) (h : a < m ∧ m < b) (hmid : mid = (a + b) / 2) : mid - a ≤ f ∧ b - mid ≤ f := by omega
set_option maxRecDepth 100000 in
set_option maxHeartbeats 6400000 in
theorem sym_one (w0 : World) (g b0 n : Nat) (k : Nat → Int) (HC : CmpOk w0 g b0 n k) (hn : n ≤ 64) (f : Nat) (l : List Nat) (a m b : Nat) (_h0 : b - a ≤ f + 1) (h1 : a < m) (h2 : m < b) (h3 : b ≤ n) (hl : Lo n l) (W : World) (hH : Hd g l W) (hB : Below g w0 W) (c1 : m - a = 1) :
    Calls Try.prog 29 #[.slice (some ⟨g, 0, none⟩) n n, .int .i64 (a : Int), .int .i64 (m : Int), .int .i64 (b : Int), cmpV b0] W fun e w' => e = .returned (.tuple #[]) ∧ Hd g (sym k (f + 1) a m b l) w' ∧ Below g w0 w' := by
  have HCM := Lib.hid HC
  have HL := Lib.hid hl; have HN := Lib.hid hn; have HH := Lib.hid hH; have HB := Lib.hid hB
  have HI := Lib.hid (And.intro h1 (And.intro h2 h3))
  unfold cmpV
  have HS : Hid (sym k (f + 1) a m b l = shU (bs (P1 k l a) (b - m) m b - 1 - a) a l) := Lib.hid (by unfold sym; rw [if_pos c1])
  obtain ⟨w1, _⟩ := sub_facts (a := m) (i := a) (p := 1) (by omega) (by omega)
  clear HC hn h1 h2 h3 hl hH hB c1
  go_enter Try.func29, Try.ntmps29
  go_wp2_with fail
  go_loopw [10, 11] (fun vi vj wr => ∃ (i j ff : Nat), m ≤ i ∧ i ≤ j ∧ j ≤ b ∧ j - i ≤ ff ∧ vi = .int .i64 i ∧ vj = .int .i64 j ∧ Hid (Hd g l wr) ∧ Hid (Below g w0 wr) ∧ Hid (bs (P1 k l a) ff i j = bs (P1 k l a) (b - m) m b)) (fun vi vj _ => (intOf vj).toNat - (intOf vi).toNat)
  case atStart => exact ⟨m, b, b - m, Nat.le_refl _, Nat.le_of_lt HI.out.2.1, Nat.le_refl _, Nat.le_refl _, rfl, rfl, HH, HB, Lib.hid rfl⟩
  case round =>
    clear HH HB w1
    obtain ⟨i, j, ff, hmi, hij, hjb, hff, rfl, rfl, HH, HB, HE⟩ := hrel
    by_cases hlt : i < j
    · have hlt2 := lt_int hlt
      obtain ⟨h, hh⟩ : ∃ h, h = (i + j) / 2 := ⟨_, rfl⟩
      obtain ⟨s1, s2, s3, s4, s5, s6, s7⟩ := mid_bd hh hlt hmi hjb HI.out.2.2 HN.out
      have hmid := mid_fact hh s1
      have HMID := Lib.hid hmid
      have HX : Hid (at' l h < n) := Lib.hid (HL.out.at _ s4)
      have han : a < n := Nat.lt_trans HI.out.1 (Nat.lt_of_lt_of_le HI.out.2.1 HI.out.2.2)
      have HY : Hid (at' l a < n) := Lib.hid (HL.out.at _ han)
      have d1 := HH.out.cell h (by rw [HL.out.1]; exact s4)
      have d2 := HH.out.cell a (by rw [HL.out.1]; exact han)
      have HCC := Lib.hid (fun q => HCM.out.2 (wr.drewN q) (bdrewN HB.out q) (at' l h) (at' l a) HX.out HY.out)
      have HPY : Hid (k (at' l h) < k (at' l a) → bs (P1 k l a) (ff - 1) (h + 1) j = bs (P1 k l a) (b - m) m b) := Lib.hid (fun q => (bs_yes hff hlt hh (decide_eq_true q)).symm.trans HE.out)
      have HPN : Hid (¬ k (at' l h) < k (at' l a) → bs (P1 k l a) (ff - 1) i h = bs (P1 k l a) (b - m) m b) := Lib.hid (fun q => (bs_no hff hlt hh (decide_eq_false q)).symm.trans HE.out)
      have hk1 := HCM.out.1 _ HX.out
      have hk2 := HCM.out.1 _ HY.out
      obtain ⟨x, hx⟩ : ∃ x, x = at' l h := ⟨_, rfl⟩
      obtain ⟨y, hy⟩ : ∃ y, y = at' l a := ⟨_, rfl⟩
      rw [← hx] at d1 HCC HPY HPN hk1
      rw [← hy] at d2 HCC HPY HPN hk2
      obtain ⟨kx, hkx⟩ : ∃ z, z = k x := ⟨_, rfl⟩
      obtain ⟨ky, hky⟩ : ∃ z, z = k y := ⟨_, rfl⟩
      rw [← hkx] at HCC HPY HPN hk1
      rw [← hky] at HCC HPY HPN hk2
      have b1 := lt_int s4
      have b2 := lt_int han
      have hz := i_next s4 HN.out
      have HZ := Lib.hid hz
      have HS5 := Lib.hid s5; have HS6 := Lib.hid s6; have HS2 := Lib.hid s2; have HS3 := Lib.hid s3; have HS7 := Lib.hid s7; have HFF := Lib.hid hff; have HLT := Lib.hid hlt
      clear hh s1 s2 s3 s4 s5 s6 s7 han hx hy hkx hky hk1 hk2 hff HX HY
      go_upto_region 5 with (fail)
      go_quiet (exact Calls.quiet_of (HCC.out _))
      have HH2 := Lib.hid (HH.out.drew nq)
      have HB2 := Lib.hid (bdrewN HB.out nq)
      clear d1 d2
      generalize wr.drewN nq = ws at *
      by_cases hc : kx < ky
      · have hc2 : kx - ky < 0 := Int.sub_neg_of_lt hc
        have HE2 := Lib.hid (HPY.out hc)
        clear hc
        go_wp2_with fail
        go_roundw
        case rel => exact ⟨h + 1, j, ff - 1, HS5.out, HS6.out, hjb, le_pred HFF.out HLT.out HS2.out HS3.out, congrArg _ HZ.out, rfl, HH2, HB2, HE2⟩
        case measure => rw [HZ.out]; exact sub_lt1 HS2.out HS3.out
      · have hc2 : ¬ kx - ky < 0 := fun h => hc (Int.lt_of_sub_neg h)
        have HE2 := Lib.hid (HPN.out hc)
        clear hc
        go_wp2_with fail
        go_roundw
        case rel => exact ⟨i, h, ff - 1, hmi, HS2.out, HS7.out, le_pred2 HFF.out HLT.out HS2.out HS3.out, rfl, congrArg _ (by first | rfl | exact HMID.out), HH2, HB2, HE2⟩
        case measure => (try rw [HMID.out]); exact sub_lt2 HS2.out HS3.out
    · obtain rfl : i = j := Nat.le_antisymm hij (Nat.not_lt.1 hlt)
      have HR := Lib.hid (bs_end.symm.trans HE.out)
      rw [← HR.out] at HS
      obtain ⟨s1, s2, s3⟩ := i_bd HI.out hmi hjb HN.out
      obtain ⟨u, hu⟩ : ∃ u, u = i - 1 := ⟨_, rfl⟩
      rw [← hu] at s1 s3 HS
      obtain ⟨w1, w2⟩ := sub1_facts s1 s2
      have HUN : Hid (u < n) := Lib.hid (Nat.lt_of_lt_of_le (Nat.lt_of_lt_of_le (Nat.lt_of_succ_le (Nat.le_of_eq s1)) hjb) HI.out.2.2)
      have HS3 := Lib.hid s3
      clear HE hff hij hlt s1 s2 s3 hu hmi hjb
      go_wp2_with fail
      go_loopw [13] (fun vt wt => ∃ (q c : Nat) (l' : List Nat), q + c = u ∧ vt = .int .i64 q ∧ Hid (Hd g l' wt) ∧ Hid (Below g w0 wt) ∧ Hid (Lo n l') ∧ Hid (shU c q l' = shU (u - a) a l)) (fun vt _ => u - (intOf vt).toNat)
      case atStart => exact ⟨a, u - a, l, HS3.out, rfl, HH, HB, HL, Lib.hid rfl⟩
      case round =>
        clear HH HB HL
        obtain ⟨q, c, l', hqc, rfl, HH, HB, HL, HE⟩ := hrel
        cases c with
        | zero =>
          have hnl : ¬ (q : Int) < u := by rw [← hqc]; exact Int.lt_irrefl _
          have HE2 := Lib.hid (HS.out.trans HE.out.symm)
          clear hqc
          go_wp2_with fail
          refine bodyPost_ret (results_none rfl _ _ _) rfl ?_
          exact ⟨rfl, by rw [HE2.out]; exact HH.out, HB.out⟩
        | succ c =>
          obtain ⟨s1, s2, s3, s4, s5⟩ := t_bd hqc HUN.out HN.out
          obtain ⟨p, hp⟩ : ∃ p, p = q + 1 := ⟨_, rfl⟩
          have hl4 := lt_int s4
          have HE2 := Lib.hid ((shU_next c q p l' hp).symm.trans HE.out)
          have HLN := Lib.hid (HL.out.swp q (q + 1) s1 s2)
          rw [← hp] at s2 s3 s5 HLN
          obtain ⟨w3, w4⟩ := add1_facts hp s3
          have d1 := HH.out.cell q (by rw [HL.out.1]; exact s1)
          have d2 := HH.out.cell p (by rw [HL.out.1]; exact s2)
          have f1 := HH.out.free q
          have f2 := HH.out.free p
          have b1 := lt_int s1
          have b2 := lt_int s2
          have n1 : q ≠ p := by rw [hp]; exact Nat.ne_of_lt (Nat.lt_succ_self _)
          have n2 : p ≠ q := fun e => n1 e.symm
          have HHS := Lib.hid (HH.out.swp q p)
          have HQP : Hid (q < p) := Lib.hid (by rw [hp]; exact Nat.lt_succ_self _)
          have HS5 := Lib.hid s5; have HS4 := Lib.hid s4; have W3 := Lib.hid w3
          obtain ⟨x, hx⟩ : ∃ x, x = at' l' q := ⟨_, rfl⟩
          obtain ⟨y, hy⟩ : ∃ y, y = at' l' p := ⟨_, rfl⟩
          rw [← hx] at d1 HHS
          rw [← hy] at d2 HHS
          have HHD : Hid (Hd g (swp l' q p) (((wr.setCell ⟨g, q, none⟩ (.int .i64 (y : Int))).setCell ⟨g, p, none⟩ (.int .i64 (x : Int))).drew)) := HHS
          have HBD : Hid (Below g w0 (((wr.setCell ⟨g, q, none⟩ (.int .i64 (y : Int))).setCell ⟨g, p, none⟩ (.int .i64 (x : Int))).drew)) := Lib.hid (bdrewN ((HB.out.setCell (p := ⟨g, q, none⟩) (Nat.le_refl _) (.int .i64 (y : Int))).setCell (p := ⟨g, p, none⟩) (Nat.le_refl _) (.int .i64 (x : Int))) 1)
          clear hp hx hy s1 s2 s3 s4 s5 hqc HHS
          go_wp2_with fail
          go_region
          clear d1 d2 f1 f2 b1 b2 n1 n2
          go_wp2_with fail
          go_roundw
          case rel => exact ⟨p, c, _, HS5.out, congrArg _ (by first | rfl | exact W3.out), HHD, HBD, HLN, HE2⟩
          case measure => (try rw [W3.out]); exact Nat.sub_lt_sub_left HS4.out HQP.out
set_option maxRecDepth 100000 in
set_option maxHeartbeats 6400000 in
theorem sym_two (w0 : World) (g b0 n : Nat) (k : Nat → Int) (HC : CmpOk w0 g b0 n k) (hn : n ≤ 64) (f : Nat) (l : List Nat) (a m b : Nat) (_h0 : b - a ≤ f + 1) (h1 : a < m) (h2 : m < b) (h3 : b ≤ n) (hl : Lo n l) (W : World) (hH : Hd g l W) (hB : Below g w0 W) (c1 : ¬ m - a = 1) (c2 : b - m = 1) :
    Calls Try.prog 29 #[.slice (some ⟨g, 0, none⟩) n n, .int .i64 (a : Int), .int .i64 (m : Int), .int .i64 (b : Int), cmpV b0] W fun e w' => e = .returned (.tuple #[]) ∧ Hd g (sym k (f + 1) a m b l) w' ∧ Below g w0 w' := by
  have HCM := Lib.hid HC
  have HL := Lib.hid hl; have HN := Lib.hid hn; have HH := Lib.hid hH; have HB := Lib.hid hB
  have HI := Lib.hid (And.intro h1 (And.intro h2 h3))
  unfold cmpV
  obtain ⟨d, hd⟩ : ∃ d, d = m - a := ⟨_, rfl⟩
  obtain ⟨v1, _⟩ := sub_facts (a := m) (i := a) (p := d) (by omega) (by omega)
  have v2 : ((d : Int) == 1) = false := by rw [beq_eq_false_iff_ne]; omega
  have HS : Hid (sym k (f + 1) a m b l = shD (m - bs (P2 k l m) (m - a) a m) m l) := Lib.hid (by unfold sym; rw [if_neg c1, if_pos c2])
  obtain ⟨w1, _⟩ := sub_facts (a := b) (i := m) (p := 1) (by omega) (by omega)
  clear HC hn h1 h2 h3 hl hH hB c1 c2 hd
  go_enter Try.func29, Try.ntmps29
  go_wp2_with fail
  go_loopw [14, 15] (fun vi vj wr => ∃ (i j ff : Nat), a ≤ i ∧ i ≤ j ∧ j ≤ m ∧ j - i ≤ ff ∧ vi = .int .i64 i ∧ vj = .int .i64 j ∧ Hid (Hd g l wr) ∧ Hid (Below g w0 wr) ∧ Hid (bs (P2 k l m) ff i j = bs (P2 k l m) (m - a) a m)) (fun vi vj _ => (intOf vj).toNat - (intOf vi).toNat)
  case atStart => exact ⟨a, m, m - a, Nat.le_refl _, Nat.le_of_lt HI.out.1, Nat.le_refl _, Nat.le_refl _, rfl, rfl, HH, HB, Lib.hid rfl⟩
  case round =>
    clear HH HB w1 v1 v2
    obtain ⟨i, j, ff, hmi, hij, hjb, hff, rfl, rfl, HH, HB, HE⟩ := hrel
    by_cases hlt : i < j
    · have hlt2 := lt_int hlt
      obtain ⟨h, hh⟩ : ∃ h, h = (i + j) / 2 := ⟨_, rfl⟩
      obtain ⟨s1, s2, s3, s4, s5, s6, s7⟩ := mid_bd hh hlt hmi hjb (Nat.le_trans (Nat.le_of_lt HI.out.2.1) HI.out.2.2) HN.out
      have hmid := mid_fact hh s1
      have HMID := Lib.hid hmid
      have hmn : m < n := Nat.lt_of_lt_of_le HI.out.2.1 HI.out.2.2
      have HX : Hid (at' l m < n) := Lib.hid (HL.out.at _ hmn)
      have HY : Hid (at' l h < n) := Lib.hid (HL.out.at _ s4)
      have d1 := HH.out.cell m (by rw [HL.out.1]; exact hmn)
      have d2 := HH.out.cell h (by rw [HL.out.1]; exact s4)
      have HCC := Lib.hid (fun q => HCM.out.2 (wr.drewN q) (bdrewN HB.out q) (at' l m) (at' l h) HX.out HY.out)
      have HPY : Hid (¬ k (at' l m) < k (at' l h) → bs (P2 k l m) (ff - 1) (h + 1) j = bs (P2 k l m) (m - a) a m) := Lib.hid (fun q => (bs_yes hff hlt hh (by unfold P2; rw [decide_eq_false q]; rfl)).symm.trans HE.out)
      have HPN : Hid (k (at' l m) < k (at' l h) → bs (P2 k l m) (ff - 1) i h = bs (P2 k l m) (m - a) a m) := Lib.hid (fun q => (bs_no hff hlt hh (by unfold P2; rw [decide_eq_true q]; rfl)).symm.trans HE.out)
      have hk1 := HCM.out.1 _ HX.out
      have hk2 := HCM.out.1 _ HY.out
      obtain ⟨x, hx⟩ : ∃ x, x = at' l m := ⟨_, rfl⟩
      obtain ⟨y, hy⟩ : ∃ y, y = at' l h := ⟨_, rfl⟩
      rw [← hx] at d1 HCC HPY HPN hk1
      rw [← hy] at d2 HCC HPY HPN hk2
      obtain ⟨kx, hkx⟩ : ∃ z, z = k x := ⟨_, rfl⟩
      obtain ⟨ky, hky⟩ : ∃ z, z = k y := ⟨_, rfl⟩
      rw [← hkx] at HCC HPY HPN hk1
      rw [← hky] at HCC HPY HPN hk2
      have b1 := lt_int s4
      have b2 := lt_int hmn
      have hz := i_next s4 HN.out
      have HZ := Lib.hid hz
      have HS5 := Lib.hid s5; have HS6 := Lib.hid s6; have HS2 := Lib.hid s2; have HS3 := Lib.hid s3; have HS7 := Lib.hid s7; have HFF := Lib.hid hff; have HLT := Lib.hid hlt
      clear hh s1 s2 s3 s4 s5 s6 s7 hmn hx hy hkx hky hk1 hk2 hff HX HY
      go_upto_region 17 with (fail)
      go_quiet (exact Calls.quiet_of (HCC.out _))
      have HH2 := Lib.hid (HH.out.drew nq)
      have HB2 := Lib.hid (bdrewN HB.out nq)
      clear d1 d2
      generalize wr.drewN nq = ws at *
      generalize hbb : decide (kx - ky < 0) = bb
      cases bb with
      | true =>
        have hc : kx < ky := Int.lt_of_sub_neg (of_decide_eq_true hbb)
        have HE2 := Lib.hid (HPN.out hc)
        clear hc hbb
        go_wp2_with fail
        go_roundw
        case rel => exact ⟨i, h, ff - 1, hmi, HS2.out, HS7.out, le_pred2 HFF.out HLT.out HS2.out HS3.out, rfl, congrArg _ (by first | rfl | exact HMID.out), HH2, HB2, HE2⟩
        case measure => (try rw [HMID.out]); exact sub_lt2 HS2.out HS3.out
      | false =>
        have hc : ¬ kx < ky := fun h => of_decide_eq_false hbb (Int.sub_neg_of_lt h)
        have HE2 := Lib.hid (HPY.out hc)
        clear hc hbb
        go_wp2_with fail
        go_roundw
        case rel => exact ⟨h + 1, j, ff - 1, HS5.out, HS6.out, hjb, le_pred HFF.out HLT.out HS2.out HS3.out, congrArg _ HZ.out, rfl, HH2, HB2, HE2⟩
        case measure => rw [HZ.out]; exact sub_lt1 HS2.out HS3.out
    · obtain rfl : i = j := Nat.le_antisymm hij (Nat.not_lt.1 hlt)
      have HR := Lib.hid (bs_end.symm.trans HE.out)
      rw [← HR.out] at HS
      have hin : m < n := Nat.lt_of_lt_of_le HI.out.2.1 HI.out.2.2
      have HMI : Hid (i + (m - i) = m) := Lib.hid (Nat.add_sub_cancel' hjb)
      have HMN : Hid (m < n) := Lib.hid hin
      clear HE hff hij hlt hmi hjb hin
      go_wp2_with fail
      go_loopw [17] (fun vt wt => ∃ (q c : Nat) (l' : List Nat), i + c = q ∧ q < n ∧ vt = .int .i64 q ∧ Hid (Hd g l' wt) ∧ Hid (Below g w0 wt) ∧ Hid (Lo n l') ∧ Hid (shD c q l' = shD (m - i) m l)) (fun vt _ => (intOf vt).toNat)
      case atStart => exact ⟨m, m - i, l, HMI.out, HMN.out, rfl, HH, HB, HL, Lib.hid rfl⟩
      case round =>
        clear HH HB HL
        obtain ⟨q, c, l', hqc, hqn, rfl, HH, HB, HL, HE⟩ := hrel
        cases c with
        | zero =>
          have hnl : ¬ (i : Int) < q := by rw [← hqc]; exact Int.lt_irrefl _
          have HE2 := Lib.hid (HS.out.trans HE.out.symm)
          clear hqc
          go_wp2_with fail
          refine bodyPost_ret (results_none rfl _ _ _) rfl ?_
          exact ⟨rfl, by rw [HE2.out]; exact HH.out, HB.out⟩
        | succ c =>
          have hiq : i < q := by rw [← hqc]; exact Nat.lt_add_of_pos_right (Nat.succ_pos _)
          have hl4 := lt_int hiq
          obtain ⟨p, hp⟩ : ∃ p, p = q - 1 := ⟨_, rfl⟩
          have hpq : p + 1 = q := by rw [hp]; exact Nat.sub_add_cancel (Nat.lt_of_le_of_lt (Nat.zero_le _) hiq)
          have hpn : p < n := Nat.lt_of_le_of_lt (by rw [hp]; exact Nat.sub_le _ _) hqn
          have HE2 : Hid (shD c p (swp l' q p) = shD (m - i) m l) := Lib.hid (by rw [← HE.out, hp]; rfl)
          have HLN := Lib.hid (HL.out.swp q p hqn hpn)
          obtain ⟨w3, w4⟩ := sub1_facts hpq (le200 (Nat.le_of_lt hqn) HN.out)
          have d1 := HH.out.cell q (by rw [HL.out.1]; exact hqn)
          have d2 := HH.out.cell p (by rw [HL.out.1]; exact hpn)
          have f1 := HH.out.free q
          have f2 := HH.out.free p
          have b1 := lt_int hqn
          have b2 := lt_int hpn
          have n2 : p ≠ q := by rw [← hpq]; exact Nat.ne_of_lt (Nat.lt_succ_self _)
          have n1 : q ≠ p := fun e => n2 e.symm
          have HHS := Lib.hid (HH.out.swp q p)
          have HQP : Hid (p < q) := Lib.hid (by rw [← hpq]; exact Nat.lt_succ_self _)
          have HIP : Hid (i + c = p) := Lib.hid (ic_p hqc hpq)
          have HPN := Lib.hid hpn; have W3 := Lib.hid w3
          obtain ⟨x, hx⟩ : ∃ x, x = at' l' q := ⟨_, rfl⟩
          obtain ⟨y, hy⟩ : ∃ y, y = at' l' p := ⟨_, rfl⟩
          rw [← hx] at d1 HHS
          rw [← hy] at d2 HHS
          have HHD : Hid (Hd g (swp l' q p) (((wr.setCell ⟨g, q, none⟩ (.int .i64 (y : Int))).setCell ⟨g, p, none⟩ (.int .i64 (x : Int))).drew)) := HHS
          have HBD : Hid (Below g w0 (((wr.setCell ⟨g, q, none⟩ (.int .i64 (y : Int))).setCell ⟨g, p, none⟩ (.int .i64 (x : Int))).drew)) := Lib.hid (bdrewN ((HB.out.setCell (p := ⟨g, q, none⟩) (Nat.le_refl _) (.int .i64 (y : Int))).setCell (p := ⟨g, p, none⟩) (Nat.le_refl _) (.int .i64 (x : Int))) 1)
          clear hp hx hy hpq hpn hqn hiq hqc HHS
          go_wp2_with fail
          go_region
          clear d1 d2 f1 f2 b1 b2 n1 n2
          go_wp2_with fail
          go_roundw
          case rel => exact ⟨p, c, _, HIP.out, HPN.out, congrArg _ (by first | rfl | exact W3.out), HHD, HBD, HLN, HE2⟩
          case measure => (try rw [W3.out]); exact HQP.out
end Go.Proofs.Ythmcnopogahffaa
