/- Sorting in place, walked: symmetric merging, the third way. -/
import Derived.Test.YthmcnopogahffaaBudY
namespace Go.Proofs.Ythmcnopogahffaa
open Go.RowKit Go.Proofs.Ythmcnopogahffaa.Bud
theorem sym_loc (k : Nat → Int) : ∀ f a m b (l : List Nat), b - a ≤ f → a < m → m < b → b ≤ l.length → Bud.Loc l (sym k f a m b l) a b
  | 0, a, m, b, l, h0, h1, h2, _ => by omega
  | f + 1, a, m, b, l, h0, h1, h2, h3 => by
    unfold sym
    split
    · obtain ⟨b1, b2, _, _⟩ := bs_spec (P1 k l a) m b (b - m) m b (Nat.le_refl _) (Nat.le_refl _) (by omega) (Nat.le_refl _) (.inl rfl) (.inl rfl)
      exact (shU_loc _ a l (by omega)).wide (Nat.le_refl _) (by omega)
    split
    · obtain ⟨b1, b2, _, _⟩ := bs_spec (P2 k l m) a m (m - a) a m (Nat.le_refl _) (Nat.le_refl _) (by omega) (Nat.le_refl _) (.inl rfl) (.inl rfl)
      exact (shD_loc _ m l (by omega) (by omega)).wide (by omega) (by omega)
    obtain ⟨mid, hmid⟩ : ∃ mid, mid = (a + b) / 2 := ⟨_, rfl⟩
    rw [← hmid]
    dsimp only
    obtain ⟨lo, hlo⟩ : ∃ lo, lo = if mid < m then mid + m - b else a := ⟨_, rfl⟩
    obtain ⟨hi, hhi⟩ : ∃ hi, hi = if mid < m then mid else m := ⟨_, rfl⟩
    rw [← hlo, ← hhi]
    have hb0 : lo ≤ hi ∧ a ≤ lo ∧ hi ≤ m ∧ hi ≤ mid ∧ mid + m - lo ≤ b := by
      by_cases c : mid < m
      · rw [if_pos c] at hlo hhi; omega
      · rw [if_neg c] at hlo hhi; omega
    obtain ⟨b1, b2, _, _⟩ := bs_spec (P3 k l (mid + m - 1)) lo hi (hi - lo) lo hi (Nat.le_refl _) (Nat.le_refl _) hb0.1 (Nat.le_refl _) (.inl rfl) (.inl rfl)
    generalize bs (P3 k l (mid + m - 1)) (hi - lo) lo hi = s at *
    obtain ⟨e, he⟩ : ∃ e, e = mid + m - s := ⟨_, rfl⟩
    rw [← he]
    have hse : s ≤ m ∧ m ≤ e ∧ e ≤ b ∧ a ≤ s ∧ s ≤ mid ∧ mid ≤ e := by omega
    have hmb : mid - a ≤ f ∧ b - mid ≤ f ∧ mid ≤ b := by omega
    clear hmid hlo hhi hb0 he b1 b2
    obtain ⟨l1, hl1⟩ : ∃ x, x = if s < m ∧ m < e then rot m (e - s) (m - s) (e - m) l else l := ⟨_, rfl⟩
    have L1 : Bud.Loc l l1 a b := by
      by_cases c : s < m ∧ m < e
      · rw [if_pos c] at hl1; subst hl1
        exact (rot_loc m _ _ _ l (by omega) (by omega) (by omega) (by omega) (by omega)).wide (by omega) (by omega)
      · rw [if_neg c] at hl1; subst hl1; exact Bud.Loc.refl _ _ _
    obtain ⟨l2, hl2⟩ : ∃ x, x = if a < s ∧ s < mid then sym k f a s mid l1 else l1 := ⟨_, rfl⟩
    have L2 : Bud.Loc l l2 a b := by
      by_cases c : a < s ∧ s < mid
      · rw [if_pos c] at hl2; subst hl2
        exact L1.trans ((sym_loc k f a s mid l1 hmb.1 c.1 c.2 (by rw [L1.len]; omega)).wide (Nat.le_refl _) (by omega))
      · rw [if_neg c] at hl2; subst hl2; exact L1
    rw [← hl1, ← hl2]
    split
    · rename_i c
      exact L2.trans ((sym_loc k f mid e b l2 hmb.2.1 c.1 c.2 (by rw [L2.len]; omega)).wide (by omega) (by omega))
    · exact L2
theorem Lo.sym {n : Nat} {l : List Nat} (h : Lo n l) {k : Nat → Int} {f a m b : Nat} (h0 : b - a ≤ f) (h1 : a < m) (h2 : m < b) (h3 : b ≤ n) : Lo n (sym k f a m b l) := h.perm (sym_loc k f a m b l h0 h1 h2 (by rw [h.1]; exact h3)).perm
theorem Lo.rot {n : Nat} {l : List Nat} (h : Lo n l) {s m e : Nat} (h1 : s < m) (h2 : m < e) (h3 : e ≤ n) : Lo n (rot m (e - s) (m - s) (e - m) l) := h.perm (rot_loc m _ _ _ l (by omega) (by omega) (by omega) (by omega) (by rw [h.1]; omega)).perm
theorem mid_le {a b m n mid : Nat} (h : mid = (a + b) / 2) (h1 : a < m ∧ m < b ∧ b ≤ n) : mid ≤ n := by omega
set_option maxRecDepth 100000 in
set_option maxHeartbeats 6400000 in
theorem sym_rest_one (w0 : World) (g b0 n : Nat) (k : Nat → Int) (HC : CmpOk w0 g b0 n k) (hn : n ≤ 64) (f : Nat) (l : List Nat) (a m b : Nat) (h0 : b - a ≤ f + 1) (h1 : a < m) (h2 : m < b) (h3 : b ≤ n) (hl : Lo n l) (W : World) (hH : Hd g l W) (hB : Below g w0 W) (c1 : ¬ m - a = 1) (c2 : ¬ b - m = 1) (IH : ∀ (l : List Nat) (a m b : Nat), b - a ≤ f → a < m → m < b → b ≤ n → Lo n l → ∀ W, Hd g l W → Below g w0 W → Calls Try.prog 29 #[.slice (some ⟨g, 0, none⟩) n n, .int .i64 (a : Int), .int .i64 (m : Int), .int .i64 (b : Int), cmpV b0] W fun e w' => e = .returned (.tuple #[]) ∧ Hd g (sym k f a m b l) w' ∧ Below g w0 w') (cm : ∀ mid, mid = (a + b) / 2 → mid < m) :
    Calls Try.prog 29 #[.slice (some ⟨g, 0, none⟩) n n, .int .i64 (a : Int), .int .i64 (m : Int), .int .i64 (b : Int), cmpV b0] W fun e w' => e = .returned (.tuple #[]) ∧ Hd g (sym k (f + 1) a m b l) w' ∧ Below g w0 w' := by
  have HCM := Lib.hid HC
  have HL := Lib.hid hl; have HN := Lib.hid hn; have HH := Lib.hid hH; have HB := Lib.hid hB
  have HI := Lib.hid (And.intro h1 (And.intro h2 h3))
  unfold cmpV
  have HIH := Lib.hid IH
  clear IH
  obtain ⟨d, hd⟩ : ∃ d, d = m - a := ⟨_, rfl⟩
  obtain ⟨v1, _⟩ := sub_facts (a := m) (i := a) (p := d) (by omega) (by omega)
  have v2 : ((d : Int) == 1) = false := by rw [beq_eq_false_iff_ne]; omega
  obtain ⟨d2, hd2⟩ : ∃ d, d = b - m := ⟨_, rfl⟩
  obtain ⟨v3, _⟩ := sub_facts (a := b) (i := m) (p := d2) (by omega) (by omega)
  have v4 : ((d2 : Int) == 1) = false := by rw [beq_eq_false_iff_ne]; omega
  obtain ⟨mid, hmid⟩ : ∃ mid, mid = (a + b) / 2 := ⟨_, rfl⟩
  replace cm := cm mid hmid
  obtain ⟨z1, z2, z3, z4, z5⟩ := sym_bd hmid ⟨h1, h2, h3⟩ hn
  have w1 := mid_fact hmid z1
  obtain ⟨nn, hnn⟩ : ∃ nn, nn = mid + m := ⟨_, rfl⟩
  obtain ⟨pp, hpp⟩ : ∃ pp, pp = mid + m - 1 := ⟨_, rfl⟩
  obtain ⟨w2, _⟩ := add_facts hnn (by rw [hnn]; exact z2)
  obtain ⟨w7, _⟩ := sub1_facts (i := nn) (u := pp) (by rw [hpp, hnn]; exact z3) (by rw [hnn]; exact z2)
  obtain ⟨lo, hlo⟩ : ∃ lo, lo = mid + m - b := ⟨_, rfl⟩
  have hlh : LoHi a m b n mid lo mid := by have := loHi hmid (⟨h1, h2, h3⟩ : a < m ∧ m < b ∧ b ≤ n); rw [if_pos cm, if_pos cm, ← hlo] at this; exact this
  obtain ⟨w3, _⟩ := sub_facts (a := nn) (i := b) (p := lo) (by rw [hlo, hnn]; exact z4 cm) (by rw [hnn]; exact z2)
  have cm2 := lt_int cm
  have hloe : lo = if mid < m then mid + m - b else a := by rw [if_pos cm]; exact hlo
  have hhie : mid = if mid < m then mid else m := by rw [if_pos cm]
  have HLH := Lib.hid hlh
  have HPP := Lib.hid hpp; have HNN := Lib.hid hnn
  have HP2 : Hid (pp ≤ 200) := Lib.hid (by rw [hpp]; exact Nat.le_trans (Nat.sub_le _ _) z2)
  have HN2 : Hid (nn ≤ 200) := Lib.hid (by rw [hnn]; exact z2)
  have HSE := Lib.hid (fun s e l1 l2 l3 (hs : bs (P3 k l (mid + m - 1)) (mid - lo) lo mid = s) he h1 h2 h3 => sym_eq k (f := f) c1 c2 hmid hloe hhie (s := s) (e := e) (l1 := l1) (l2 := l2) (l3 := l3) hs he h1 h2 h3)
  rw [← hpp] at HSE
  rw [← hnn] at HSE
  have HMN : Hid (mid ≤ n) := Lib.hid (mid_le hmid ⟨h1, h2, h3⟩)
  have HRB := Lib.hid (rd_bd h0 ⟨h1, h2⟩ hmid)
  clear HC h0 h1 h2 h3 hl hH hB c1 c2 hd hd2 hmid hnn hpp hlh z1 z2 z3 z4 z5 cm hloe hhie hlo
  go_enter Try.func29, Try.ntmps29
  go_upto_if 140 with (fail)
  try rw [w1]
  try rw [w2]
  go_wp2_with fail
  go_loopw [20, 21] (fun vi vj wr => ∃ (i j ff : Nat), lo ≤ i ∧ i ≤ j ∧ j ≤ mid ∧ j - i ≤ ff ∧ vi = .int .i64 i ∧ vj = .int .i64 j ∧ Hid (Hd g l wr) ∧ Hid (Below g w0 wr) ∧ Hid (bs (P3 k l pp) ff i j = bs (P3 k l pp) (mid - lo) lo mid)) (fun vi vj _ => (intOf vj).toNat - (intOf vi).toNat)
  case atStart => exact ⟨lo, mid, mid - lo, Nat.le_refl _, HLH.out.le, Nat.le_refl _, Nat.le_refl _, rfl, rfl, HH, HB, Lib.hid rfl⟩
  case round =>
    clear HH HB w7 w1 w2 v1 v2 v3 v4 w3 cm2
    obtain ⟨i, j, ff, hmi, hij, hjb, hff, rfl, rfl, HH, HB, HE⟩ := hrel
    by_cases hlt : i < j
    · have hlt2 := lt_int hlt
      obtain ⟨h, hh⟩ : ∃ h, h = (i + j) / 2 := ⟨_, rfl⟩
      obtain ⟨s1, s2, s3, s4, s5, s6, s7⟩ := mid_bd hh hlt hmi hjb HLH.out.hn HN.out
      have hmid := mid_fact hh s1
      have HMID := Lib.hid hmid
      obtain ⟨hmn, hpe, _⟩ := HLH.out.ix h (Nat.le_trans hmi s2) (Nat.lt_of_lt_of_le s3 hjb)
      rw [← HPP.out] at hmn hpe
      obtain ⟨eh, heh⟩ : ∃ eh, eh = pp - h := ⟨_, rfl⟩
      rw [← heh] at hmn hpe
      obtain ⟨w8, w9⟩ := sub_facts hpe HP2.out
      have HX : Hid (at' l eh < n) := Lib.hid (HL.out.at _ hmn)
      have HY : Hid (at' l h < n) := Lib.hid (HL.out.at _ s4)
      have d1 := HH.out.cell eh (by rw [HL.out.1]; exact hmn)
      have d2 := HH.out.cell h (by rw [HL.out.1]; exact s4)
      have HCC := Lib.hid (fun q => HCM.out.2 (wr.drewN q) (bdrewN HB.out q) (at' l eh) (at' l h) HX.out HY.out)
      have HPY : Hid (¬ k (at' l eh) < k (at' l h) → bs (P3 k l pp) (ff - 1) (h + 1) j = bs (P3 k l pp) (mid - lo) lo mid) := Lib.hid (fun q => (bs_yes hff hlt hh (by unfold P3; rw [← heh, decide_eq_false q]; rfl)).symm.trans HE.out)
      have HPN : Hid (k (at' l eh) < k (at' l h) → bs (P3 k l pp) (ff - 1) i h = bs (P3 k l pp) (mid - lo) lo mid) := Lib.hid (fun q => (bs_no hff hlt hh (by unfold P3; rw [← heh, decide_eq_true q]; rfl)).symm.trans HE.out)
      have hk1 := HCM.out.1 _ HX.out
      have hk2 := HCM.out.1 _ HY.out
      obtain ⟨x, hx⟩ : ∃ x, x = at' l eh := ⟨_, rfl⟩
      obtain ⟨y, hy⟩ : ∃ y, y = at' l h := ⟨_, rfl⟩
      rw [← hx] at d1 HCC HPY HPN hk1
      rw [← hy] at d2 HCC HPY HPN hk2
      obtain ⟨kx, hkx⟩ : ∃ z, z = k x := ⟨_, rfl⟩
      obtain ⟨ky, hky⟩ : ∃ z, z = k y := ⟨_, rfl⟩
      rw [← hkx] at HCC HPY HPN hk1
      rw [← hky] at HCC HPY HPN hk2
      have b1 := lt_int s4
      have b2 := lt_int hmn
      have hz := i_next s4 HN.out
      have HZ := Lib.hid hz
      have HS5 := Lib.hid s5; have HS6 := Lib.hid s6; have HS2 := Lib.hid s2; have HS3 := Lib.hid s3; have HS7 := Lib.hid s7; have HFF := Lib.hid hff; have HLT := Lib.hid hlt
      clear hh s1 s2 s3 s4 s5 s6 s7 hmn hpe heh hx hy hkx hky hk1 hk2 hff HX HY
      go_upto_region 35 with (fail)
      rw [hmid]
      clear hmid
      go_quiet (exact Calls.quiet_of (HCC.out _))
      have HH2 := Lib.hid (HH.out.drew nq)
      have HB2 := Lib.hid (bdrewN HB.out nq)
      clear d1 d2
      generalize wr.drewN nq = ws at *
      clear w8 w9 b1 b2 hlt2 hz
      generalize hbb : decide (kx - ky < 0) = bb
      cases bb with
      | true =>
        have hc : kx < ky := Int.lt_of_sub_neg (of_decide_eq_true hbb)
        have HE2 := Lib.hid (HPN.out hc)
        clear hc hbb
        go_wp2_with fail
        go_roundw
        case rel => exact ⟨i, h, ff - 1, hmi, HS2.out, HS7.out, le_pred2 HFF.out HLT.out HS2.out HS3.out, rfl, rfl, HH2, HB2, HE2⟩
        case measure => exact sub_lt2 HS2.out HS3.out
      | false =>
        have hc : ¬ kx < ky := fun h => of_decide_eq_false hbb (Int.sub_neg_of_lt h)
        have HE2 := Lib.hid (HPY.out hc)
        clear hc hbb
        go_wp2_with fail
        go_roundw
        case rel => exact ⟨h + 1, j, ff - 1, HS5.out, HS6.out, hjb, le_pred HFF.out HLT.out HS2.out HS3.out, congrArg _ (by first | rfl | exact HZ.out), rfl, HH2, HB2, HE2⟩
        case measure => (try rw [HZ.out]); exact sub_lt1 HS2.out HS3.out
    · obtain rfl : i = j := Nat.le_antisymm hij (Nat.not_lt.1 hlt)
      have HR := Lib.hid (bs_end.symm.trans HE.out)
      obtain ⟨e, he⟩ : ∃ e, e = nn - i := ⟨_, rfl⟩
      have HSY := Lib.hid (HSE.out i e _ _ _ HR.out.symm he rfl rfl rfl)
      obtain ⟨_, q2, q3, q4, q5, q6⟩ := HLH.out.s i hmi hjb
      rw [← HNN.out] at q2 q5 q6
      rw [← he] at q2 q5 q6
      obtain ⟨w8, w9⟩ := sub_facts q2 HN2.out
      clear HE hff hij hlt hmi hjb HSE HLH he
      by_cases c0a : i < m
      · by_cases c0b : m < e
        · have t0a := lt_int c0a
          have t0b := lt_int c0b
          rw [if_pos (show i < m ∧ m < e from ⟨c0a, c0b⟩)] at HSY
          have HCL := Lib.hid (rot_calls w0 g n (cmpV b0) l i m e HL.out HN.out c0a c0b (Nat.le_trans q5 HI.out.2.2) wr HH.out HB.out)
          have HL1 := Lib.hid (HL.out.rot c0a c0b (Nat.le_trans q5 HI.out.2.2))
          obtain ⟨l1, hl1⟩ : ∃ x, x = rot m (e - i) (m - i) (e - m) l := ⟨_, rfl⟩
          rw [← hl1] at HSY HCL HL1
          unfold cmpV at HCL
          clear hl1 c0a c0b
          go_wp2_with fail
          refine HCL.out.mono ?_
          rintro _ w1 ⟨rfl, hh, hbb⟩
          have HH1 := Lib.hid hh; have HB1 := Lib.hid hbb
          clear hh hbb HCL t0a t0b
          by_cases c1a : a < i
          · by_cases c1b : i < mid
            · have t1a := lt_int c1a
              have t1b := lt_int c1b
              rw [if_pos (show a < i ∧ i < mid from ⟨c1a, c1b⟩)] at HSY
              have HCL := Lib.hid (HIH.out l1 a i mid HRB.out.1 c1a c1b HMN.out HL1.out w1 HH1.out HB1.out)
              have HL2 := Lib.hid (HL1.out.sym (k := k) (f := f) HRB.out.1 c1a c1b HMN.out)
              obtain ⟨l2, hl2⟩ : ∃ x, x = sym k f a i mid l1 := ⟨_, rfl⟩
              rw [← hl2] at HSY HCL HL2
              unfold cmpV at HCL
              clear hl2 c1a c1b
              go_wp2_with fail
              refine HCL.out.mono ?_
              rintro _ w2 ⟨rfl, hh, hbb⟩
              have HH2 := Lib.hid hh; have HB2 := Lib.hid hbb
              clear hh hbb HCL t1a t1b
              by_cases c2a : mid < e
              · by_cases c2b : e < b
                · have t2a := lt_int c2a
                  have t2b := lt_int c2b
                  rw [if_pos (show mid < e ∧ e < b from ⟨c2a, c2b⟩)] at HSY
                  have HCL := Lib.hid (HIH.out l2 mid e b HRB.out.2 c2a c2b HI.out.2.2 HL2.out w2 HH2.out HB2.out)
                  obtain ⟨l3, hl3⟩ : ∃ x, x = sym k f mid e b l2 := ⟨_, rfl⟩
                  rw [← hl3] at HSY HCL
                  unfold cmpV at HCL
                  clear hl3 c2a c2b
                  go_wp2_with fail
                  refine HCL.out.mono ?_
                  rintro _ w3 ⟨rfl, hh, hbb⟩
                  have HH3 := Lib.hid hh; have HB3 := Lib.hid hbb
                  clear hh hbb HCL t2a t2b
                  go_wp2_with fail
                  all_goals (go_end0; exact ⟨rfl, by rw [HSY.out]; exact HH3.out, HB3.out⟩)
                · have t2a := lt_int c2a
                  have t2b : ¬ (e : Int) < b := fun h => c2b (Int.ofNat_lt.1 h)
                  rw [if_neg (show ¬ (mid < e ∧ e < b) from fun h => c2b h.2)] at HSY
                  clear c2a c2b
                  go_wp2_with fail
                  all_goals (go_end0; exact ⟨rfl, by rw [HSY.out]; exact HH2.out, HB2.out⟩)
              · have t2a : ¬ (mid : Int) < e := fun h => c2a (Int.ofNat_lt.1 h)
                rw [if_neg (show ¬ (mid < e ∧ e < b) from fun h => c2a h.1)] at HSY
                clear c2a
                go_wp2_with fail
                all_goals (go_end0; exact ⟨rfl, by rw [HSY.out]; exact HH2.out, HB2.out⟩)
            · have t1a := lt_int c1a
              have t1b : ¬ (i : Int) < mid := fun h => c1b (Int.ofNat_lt.1 h)
              rw [if_neg (show ¬ (a < i ∧ i < mid) from fun h => c1b h.2)] at HSY
              clear c1a c1b
              by_cases c2a : mid < e
              · by_cases c2b : e < b
                · have t2a := lt_int c2a
                  have t2b := lt_int c2b
                  rw [if_pos (show mid < e ∧ e < b from ⟨c2a, c2b⟩)] at HSY
                  have HCL := Lib.hid (HIH.out l1 mid e b HRB.out.2 c2a c2b HI.out.2.2 HL1.out w1 HH1.out HB1.out)
                  obtain ⟨l3, hl3⟩ : ∃ x, x = sym k f mid e b l1 := ⟨_, rfl⟩
                  rw [← hl3] at HSY HCL
                  unfold cmpV at HCL
                  clear hl3 c2a c2b
                  go_wp2_with fail
                  refine HCL.out.mono ?_
                  rintro _ w3 ⟨rfl, hh, hbb⟩
                  have HH3 := Lib.hid hh; have HB3 := Lib.hid hbb
                  clear hh hbb HCL t2a t2b
                  go_wp2_with fail
                  all_goals (go_end0; exact ⟨rfl, by rw [HSY.out]; exact HH3.out, HB3.out⟩)
                · have t2a := lt_int c2a
                  have t2b : ¬ (e : Int) < b := fun h => c2b (Int.ofNat_lt.1 h)
                  rw [if_neg (show ¬ (mid < e ∧ e < b) from fun h => c2b h.2)] at HSY
                  clear c2a c2b
                  go_wp2_with fail
                  all_goals (go_end0; exact ⟨rfl, by rw [HSY.out]; exact HH1.out, HB1.out⟩)
              · have t2a : ¬ (mid : Int) < e := fun h => c2a (Int.ofNat_lt.1 h)
                rw [if_neg (show ¬ (mid < e ∧ e < b) from fun h => c2a h.1)] at HSY
                clear c2a
                go_wp2_with fail
                all_goals (go_end0; exact ⟨rfl, by rw [HSY.out]; exact HH1.out, HB1.out⟩)
          · have t1a : ¬ (a : Int) < i := fun h => c1a (Int.ofNat_lt.1 h)
            rw [if_neg (show ¬ (a < i ∧ i < mid) from fun h => c1a h.1)] at HSY
            clear c1a
            by_cases c2a : mid < e
            · by_cases c2b : e < b
              · have t2a := lt_int c2a
                have t2b := lt_int c2b
                rw [if_pos (show mid < e ∧ e < b from ⟨c2a, c2b⟩)] at HSY
                have HCL := Lib.hid (HIH.out l1 mid e b HRB.out.2 c2a c2b HI.out.2.2 HL1.out w1 HH1.out HB1.out)
                obtain ⟨l3, hl3⟩ : ∃ x, x = sym k f mid e b l1 := ⟨_, rfl⟩
                rw [← hl3] at HSY HCL
                unfold cmpV at HCL
                clear hl3 c2a c2b
                go_wp2_with fail
                refine HCL.out.mono ?_
                rintro _ w3 ⟨rfl, hh, hbb⟩
                have HH3 := Lib.hid hh; have HB3 := Lib.hid hbb
                clear hh hbb HCL t2a t2b
                go_wp2_with fail
                all_goals (go_end0; exact ⟨rfl, by rw [HSY.out]; exact HH3.out, HB3.out⟩)
              · have t2a := lt_int c2a
                have t2b : ¬ (e : Int) < b := fun h => c2b (Int.ofNat_lt.1 h)
                rw [if_neg (show ¬ (mid < e ∧ e < b) from fun h => c2b h.2)] at HSY
                clear c2a c2b
                go_wp2_with fail
                all_goals (go_end0; exact ⟨rfl, by rw [HSY.out]; exact HH1.out, HB1.out⟩)
            · have t2a : ¬ (mid : Int) < e := fun h => c2a (Int.ofNat_lt.1 h)
              rw [if_neg (show ¬ (mid < e ∧ e < b) from fun h => c2a h.1)] at HSY
              clear c2a
              go_wp2_with fail
              all_goals (go_end0; exact ⟨rfl, by rw [HSY.out]; exact HH1.out, HB1.out⟩)
        · have t0a := lt_int c0a
          have t0b : ¬ (m : Int) < e := fun h => c0b (Int.ofNat_lt.1 h)
          rw [if_neg (show ¬ (i < m ∧ m < e) from fun h => c0b h.2)] at HSY
          clear c0a c0b
          by_cases c1a : a < i
          · by_cases c1b : i < mid
            · have t1a := lt_int c1a
              have t1b := lt_int c1b
              rw [if_pos (show a < i ∧ i < mid from ⟨c1a, c1b⟩)] at HSY
              have HCL := Lib.hid (HIH.out l a i mid HRB.out.1 c1a c1b HMN.out HL.out wr HH.out HB.out)
              have HL2 := Lib.hid (HL.out.sym (k := k) (f := f) HRB.out.1 c1a c1b HMN.out)
              obtain ⟨l2, hl2⟩ : ∃ x, x = sym k f a i mid l := ⟨_, rfl⟩
              rw [← hl2] at HSY HCL HL2
              unfold cmpV at HCL
              clear hl2 c1a c1b
              go_wp2_with fail
              refine HCL.out.mono ?_
              rintro _ w2 ⟨rfl, hh, hbb⟩
              have HH2 := Lib.hid hh; have HB2 := Lib.hid hbb
              clear hh hbb HCL t1a t1b
              by_cases c2a : mid < e
              · by_cases c2b : e < b
                · have t2a := lt_int c2a
                  have t2b := lt_int c2b
                  rw [if_pos (show mid < e ∧ e < b from ⟨c2a, c2b⟩)] at HSY
                  have HCL := Lib.hid (HIH.out l2 mid e b HRB.out.2 c2a c2b HI.out.2.2 HL2.out w2 HH2.out HB2.out)
                  obtain ⟨l3, hl3⟩ : ∃ x, x = sym k f mid e b l2 := ⟨_, rfl⟩
                  rw [← hl3] at HSY HCL
                  unfold cmpV at HCL
                  clear hl3 c2a c2b
                  go_wp2_with fail
                  refine HCL.out.mono ?_
                  rintro _ w3 ⟨rfl, hh, hbb⟩
                  have HH3 := Lib.hid hh; have HB3 := Lib.hid hbb
                  clear hh hbb HCL t2a t2b
                  go_wp2_with fail
                  all_goals (go_end0; exact ⟨rfl, by rw [HSY.out]; exact HH3.out, HB3.out⟩)
                · have t2a := lt_int c2a
                  have t2b : ¬ (e : Int) < b := fun h => c2b (Int.ofNat_lt.1 h)
                  rw [if_neg (show ¬ (mid < e ∧ e < b) from fun h => c2b h.2)] at HSY
                  clear c2a c2b
                  go_wp2_with fail
                  all_goals (go_end0; exact ⟨rfl, by rw [HSY.out]; exact HH2.out, HB2.out⟩)
              · have t2a : ¬ (mid : Int) < e := fun h => c2a (Int.ofNat_lt.1 h)
                rw [if_neg (show ¬ (mid < e ∧ e < b) from fun h => c2a h.1)] at HSY
                clear c2a
                go_wp2_with fail
                all_goals (go_end0; exact ⟨rfl, by rw [HSY.out]; exact HH2.out, HB2.out⟩)
            · have t1a := lt_int c1a
              have t1b : ¬ (i : Int) < mid := fun h => c1b (Int.ofNat_lt.1 h)
              rw [if_neg (show ¬ (a < i ∧ i < mid) from fun h => c1b h.2)] at HSY
              clear c1a c1b
              by_cases c2a : mid < e
              · by_cases c2b : e < b
                · have t2a := lt_int c2a
                  have t2b := lt_int c2b
                  rw [if_pos (show mid < e ∧ e < b from ⟨c2a, c2b⟩)] at HSY
                  have HCL := Lib.hid (HIH.out l mid e b HRB.out.2 c2a c2b HI.out.2.2 HL.out wr HH.out HB.out)
                  obtain ⟨l3, hl3⟩ : ∃ x, x = sym k f mid e b l := ⟨_, rfl⟩
                  rw [← hl3] at HSY HCL
                  unfold cmpV at HCL
                  clear hl3 c2a c2b
                  go_wp2_with fail
                  refine HCL.out.mono ?_
                  rintro _ w3 ⟨rfl, hh, hbb⟩
                  have HH3 := Lib.hid hh; have HB3 := Lib.hid hbb
                  clear hh hbb HCL t2a t2b
                  go_wp2_with fail
                  all_goals (go_end0; exact ⟨rfl, by rw [HSY.out]; exact HH3.out, HB3.out⟩)
                · have t2a := lt_int c2a
                  have t2b : ¬ (e : Int) < b := fun h => c2b (Int.ofNat_lt.1 h)
                  rw [if_neg (show ¬ (mid < e ∧ e < b) from fun h => c2b h.2)] at HSY
                  clear c2a c2b
                  go_wp2_with fail
                  all_goals (go_end0; exact ⟨rfl, by rw [HSY.out]; exact HH.out, HB.out⟩)
              · have t2a : ¬ (mid : Int) < e := fun h => c2a (Int.ofNat_lt.1 h)
                rw [if_neg (show ¬ (mid < e ∧ e < b) from fun h => c2a h.1)] at HSY
                clear c2a
                go_wp2_with fail
                all_goals (go_end0; exact ⟨rfl, by rw [HSY.out]; exact HH.out, HB.out⟩)
          · have t1a : ¬ (a : Int) < i := fun h => c1a (Int.ofNat_lt.1 h)
            rw [if_neg (show ¬ (a < i ∧ i < mid) from fun h => c1a h.1)] at HSY
            clear c1a
            by_cases c2a : mid < e
            · by_cases c2b : e < b
              · have t2a := lt_int c2a
                have t2b := lt_int c2b
                rw [if_pos (show mid < e ∧ e < b from ⟨c2a, c2b⟩)] at HSY
                have HCL := Lib.hid (HIH.out l mid e b HRB.out.2 c2a c2b HI.out.2.2 HL.out wr HH.out HB.out)
                obtain ⟨l3, hl3⟩ : ∃ x, x = sym k f mid e b l := ⟨_, rfl⟩
                rw [← hl3] at HSY HCL
                unfold cmpV at HCL
                clear hl3 c2a c2b
                go_wp2_with fail
                refine HCL.out.mono ?_
                rintro _ w3 ⟨rfl, hh, hbb⟩
                have HH3 := Lib.hid hh; have HB3 := Lib.hid hbb
                clear hh hbb HCL t2a t2b
                go_wp2_with fail
                all_goals (go_end0; exact ⟨rfl, by rw [HSY.out]; exact HH3.out, HB3.out⟩)
              · have t2a := lt_int c2a
                have t2b : ¬ (e : Int) < b := fun h => c2b (Int.ofNat_lt.1 h)
                rw [if_neg (show ¬ (mid < e ∧ e < b) from fun h => c2b h.2)] at HSY
                clear c2a c2b
                go_wp2_with fail
                all_goals (go_end0; exact ⟨rfl, by rw [HSY.out]; exact HH.out, HB.out⟩)
            · have t2a : ¬ (mid : Int) < e := fun h => c2a (Int.ofNat_lt.1 h)
              rw [if_neg (show ¬ (mid < e ∧ e < b) from fun h => c2a h.1)] at HSY
              clear c2a
              go_wp2_with fail
              all_goals (go_end0; exact ⟨rfl, by rw [HSY.out]; exact HH.out, HB.out⟩)
      · have t0a : ¬ (i : Int) < m := fun h => c0a (Int.ofNat_lt.1 h)
        rw [if_neg (show ¬ (i < m ∧ m < e) from fun h => c0a h.1)] at HSY
        clear c0a
        by_cases c1a : a < i
        · by_cases c1b : i < mid
          · have t1a := lt_int c1a
            have t1b := lt_int c1b
            rw [if_pos (show a < i ∧ i < mid from ⟨c1a, c1b⟩)] at HSY
            have HCL := Lib.hid (HIH.out l a i mid HRB.out.1 c1a c1b HMN.out HL.out wr HH.out HB.out)
            have HL2 := Lib.hid (HL.out.sym (k := k) (f := f) HRB.out.1 c1a c1b HMN.out)
            obtain ⟨l2, hl2⟩ : ∃ x, x = sym k f a i mid l := ⟨_, rfl⟩
            rw [← hl2] at HSY HCL HL2
            unfold cmpV at HCL
            clear hl2 c1a c1b
            go_wp2_with fail
            refine HCL.out.mono ?_
            rintro _ w2 ⟨rfl, hh, hbb⟩
            have HH2 := Lib.hid hh; have HB2 := Lib.hid hbb
            clear hh hbb HCL t1a t1b
            by_cases c2a : mid < e
            · by_cases c2b : e < b
              · have t2a := lt_int c2a
                have t2b := lt_int c2b
                rw [if_pos (show mid < e ∧ e < b from ⟨c2a, c2b⟩)] at HSY
                have HCL := Lib.hid (HIH.out l2 mid e b HRB.out.2 c2a c2b HI.out.2.2 HL2.out w2 HH2.out HB2.out)
                obtain ⟨l3, hl3⟩ : ∃ x, x = sym k f mid e b l2 := ⟨_, rfl⟩
                rw [← hl3] at HSY HCL
                unfold cmpV at HCL
                clear hl3 c2a c2b
                go_wp2_with fail
                refine HCL.out.mono ?_
                rintro _ w3 ⟨rfl, hh, hbb⟩
                have HH3 := Lib.hid hh; have HB3 := Lib.hid hbb
                clear hh hbb HCL t2a t2b
                go_wp2_with fail
                all_goals (go_end0; exact ⟨rfl, by rw [HSY.out]; exact HH3.out, HB3.out⟩)
              · have t2a := lt_int c2a
                have t2b : ¬ (e : Int) < b := fun h => c2b (Int.ofNat_lt.1 h)
                rw [if_neg (show ¬ (mid < e ∧ e < b) from fun h => c2b h.2)] at HSY
                clear c2a c2b
                go_wp2_with fail
                all_goals (go_end0; exact ⟨rfl, by rw [HSY.out]; exact HH2.out, HB2.out⟩)
            · have t2a : ¬ (mid : Int) < e := fun h => c2a (Int.ofNat_lt.1 h)
              rw [if_neg (show ¬ (mid < e ∧ e < b) from fun h => c2a h.1)] at HSY
              clear c2a
              go_wp2_with fail
              all_goals (go_end0; exact ⟨rfl, by rw [HSY.out]; exact HH2.out, HB2.out⟩)
          · have t1a := lt_int c1a
            have t1b : ¬ (i : Int) < mid := fun h => c1b (Int.ofNat_lt.1 h)
            rw [if_neg (show ¬ (a < i ∧ i < mid) from fun h => c1b h.2)] at HSY
            clear c1a c1b
            by_cases c2a : mid < e
            · by_cases c2b : e < b
              · have t2a := lt_int c2a
                have t2b := lt_int c2b
                rw [if_pos (show mid < e ∧ e < b from ⟨c2a, c2b⟩)] at HSY
                have HCL := Lib.hid (HIH.out l mid e b HRB.out.2 c2a c2b HI.out.2.2 HL.out wr HH.out HB.out)
                obtain ⟨l3, hl3⟩ : ∃ x, x = sym k f mid e b l := ⟨_, rfl⟩
                rw [← hl3] at HSY HCL
                unfold cmpV at HCL
                clear hl3 c2a c2b
                go_wp2_with fail
                refine HCL.out.mono ?_
                rintro _ w3 ⟨rfl, hh, hbb⟩
                have HH3 := Lib.hid hh; have HB3 := Lib.hid hbb
                clear hh hbb HCL t2a t2b
                go_wp2_with fail
                all_goals (go_end0; exact ⟨rfl, by rw [HSY.out]; exact HH3.out, HB3.out⟩)
              · have t2a := lt_int c2a
                have t2b : ¬ (e : Int) < b := fun h => c2b (Int.ofNat_lt.1 h)
                rw [if_neg (show ¬ (mid < e ∧ e < b) from fun h => c2b h.2)] at HSY
                clear c2a c2b
                go_wp2_with fail
                all_goals (go_end0; exact ⟨rfl, by rw [HSY.out]; exact HH.out, HB.out⟩)
            · have t2a : ¬ (mid : Int) < e := fun h => c2a (Int.ofNat_lt.1 h)
              rw [if_neg (show ¬ (mid < e ∧ e < b) from fun h => c2a h.1)] at HSY
              clear c2a
              go_wp2_with fail
              all_goals (go_end0; exact ⟨rfl, by rw [HSY.out]; exact HH.out, HB.out⟩)
        · have t1a : ¬ (a : Int) < i := fun h => c1a (Int.ofNat_lt.1 h)
          rw [if_neg (show ¬ (a < i ∧ i < mid) from fun h => c1a h.1)] at HSY
          clear c1a
          by_cases c2a : mid < e
          · by_cases c2b : e < b
            · have t2a := lt_int c2a
              have t2b := lt_int c2b
              rw [if_pos (show mid < e ∧ e < b from ⟨c2a, c2b⟩)] at HSY
              have HCL := Lib.hid (HIH.out l mid e b HRB.out.2 c2a c2b HI.out.2.2 HL.out wr HH.out HB.out)
              obtain ⟨l3, hl3⟩ : ∃ x, x = sym k f mid e b l := ⟨_, rfl⟩
              rw [← hl3] at HSY HCL
              unfold cmpV at HCL
              clear hl3 c2a c2b
              go_wp2_with fail
              refine HCL.out.mono ?_
              rintro _ w3 ⟨rfl, hh, hbb⟩
              have HH3 := Lib.hid hh; have HB3 := Lib.hid hbb
              clear hh hbb HCL t2a t2b
              go_wp2_with fail
              all_goals (go_end0; exact ⟨rfl, by rw [HSY.out]; exact HH3.out, HB3.out⟩)
            · have t2a := lt_int c2a
              have t2b : ¬ (e : Int) < b := fun h => c2b (Int.ofNat_lt.1 h)
              rw [if_neg (show ¬ (mid < e ∧ e < b) from fun h => c2b h.2)] at HSY
              clear c2a c2b
              go_wp2_with fail
              all_goals (go_end0; exact ⟨rfl, by rw [HSY.out]; exact HH.out, HB.out⟩)
          · have t2a : ¬ (mid : Int) < e := fun h => c2a (Int.ofNat_lt.1 h)
            rw [if_neg (show ¬ (mid < e ∧ e < b) from fun h => c2a h.1)] at HSY
            clear c2a
            go_wp2_with fail
            all_goals (go_end0; exact ⟨rfl, by rw [HSY.out]; exact HH.out, HB.out⟩)
set_option maxRecDepth 100000 in
set_option maxHeartbeats 6400000 in
theorem sym_rest_two (w0 : World) (g b0 n : Nat) (k : Nat → Int) (HC : CmpOk w0 g b0 n k) (hn : n ≤ 64) (f : Nat) (l : List Nat) (a m b : Nat) (h0 : b - a ≤ f + 1) (h1 : a < m) (h2 : m < b) (h3 : b ≤ n) (hl : Lo n l) (W : World) (hH : Hd g l W) (hB : Below g w0 W) (c1 : ¬ m - a = 1) (c2 : ¬ b - m = 1) (IH : ∀ (l : List Nat) (a m b : Nat), b - a ≤ f → a < m → m < b → b ≤ n → Lo n l → ∀ W, Hd g l W → Below g w0 W → Calls Try.prog 29 #[.slice (some ⟨g, 0, none⟩) n n, .int .i64 (a : Int), .int .i64 (m : Int), .int .i64 (b : Int), cmpV b0] W fun e w' => e = .returned (.tuple #[]) ∧ Hd g (sym k f a m b l) w' ∧ Below g w0 w') (cm : ∀ mid, mid = (a + b) / 2 → ¬ mid < m) :
    Calls Try.prog 29 #[.slice (some ⟨g, 0, none⟩) n n, .int .i64 (a : Int), .int .i64 (m : Int), .int .i64 (b : Int), cmpV b0] W fun e w' => e = .returned (.tuple #[]) ∧ Hd g (sym k (f + 1) a m b l) w' ∧ Below g w0 w' := by
  have HCM := Lib.hid HC
  have HL := Lib.hid hl; have HN := Lib.hid hn; have HH := Lib.hid hH; have HB := Lib.hid hB
  have HI := Lib.hid (And.intro h1 (And.intro h2 h3))
  unfold cmpV
  have HIH := Lib.hid IH
  clear IH
  obtain ⟨d, hd⟩ : ∃ d, d = m - a := ⟨_, rfl⟩
  obtain ⟨v1, _⟩ := sub_facts (a := m) (i := a) (p := d) (by omega) (by omega)
  have v2 : ((d : Int) == 1) = false := by rw [beq_eq_false_iff_ne]; omega
  obtain ⟨d2, hd2⟩ : ∃ d, d = b - m := ⟨_, rfl⟩
  obtain ⟨v3, _⟩ := sub_facts (a := b) (i := m) (p := d2) (by omega) (by omega)
  have v4 : ((d2 : Int) == 1) = false := by rw [beq_eq_false_iff_ne]; omega
  obtain ⟨mid, hmid⟩ : ∃ mid, mid = (a + b) / 2 := ⟨_, rfl⟩
  replace cm := cm mid hmid
  obtain ⟨z1, z2, z3, z4, z5⟩ := sym_bd hmid ⟨h1, h2, h3⟩ hn
  have w1 := mid_fact hmid z1
  obtain ⟨nn, hnn⟩ : ∃ nn, nn = mid + m := ⟨_, rfl⟩
  obtain ⟨pp, hpp⟩ : ∃ pp, pp = mid + m - 1 := ⟨_, rfl⟩
  obtain ⟨w2, _⟩ := add_facts hnn (by rw [hnn]; exact z2)
  obtain ⟨w7, _⟩ := sub1_facts (i := nn) (u := pp) (by rw [hpp, hnn]; exact z3) (by rw [hnn]; exact z2)
  have hlh : LoHi a m b n mid a m := by have := loHi hmid (⟨h1, h2, h3⟩ : a < m ∧ m < b ∧ b ≤ n); rw [if_neg cm, if_neg cm] at this; exact this
  have cm2 : ¬ (mid : Int) < m := fun h => cm (Int.ofNat_lt.1 h)
  have hloe : a = if mid < m then mid + m - b else a := by rw [if_neg cm]
  have hhie : m = if mid < m then mid else m := by rw [if_neg cm]
  have HLH := Lib.hid hlh
  have HPP := Lib.hid hpp; have HNN := Lib.hid hnn
  have HP2 : Hid (pp ≤ 200) := Lib.hid (by rw [hpp]; exact Nat.le_trans (Nat.sub_le _ _) z2)
  have HN2 : Hid (nn ≤ 200) := Lib.hid (by rw [hnn]; exact z2)
  have HSE := Lib.hid (fun s e l1 l2 l3 (hs : bs (P3 k l (mid + m - 1)) (m - a) a m = s) he h1 h2 h3 => sym_eq k (f := f) c1 c2 hmid hloe hhie (s := s) (e := e) (l1 := l1) (l2 := l2) (l3 := l3) hs he h1 h2 h3)
  rw [← hpp] at HSE
  rw [← hnn] at HSE
  have HMN : Hid (mid ≤ n) := Lib.hid (mid_le hmid ⟨h1, h2, h3⟩)
  have HRB := Lib.hid (rd_bd h0 ⟨h1, h2⟩ hmid)
  clear HC h0 h1 h2 h3 hl hH hB c1 c2 hd hd2 hmid hnn hpp hlh z1 z2 z3 z4 z5 cm hloe hhie
  go_enter Try.func29, Try.ntmps29
  go_upto_if 140 with (fail)
  try rw [w1]
  try rw [w2]
  clear w1 w2 v1 v2 v3 v4
  go_wp2_with fail
  go_loopw [20, 21] (fun vi vj wr => ∃ (i j ff : Nat), a ≤ i ∧ i ≤ j ∧ j ≤ m ∧ j - i ≤ ff ∧ vi = .int .i64 i ∧ vj = .int .i64 j ∧ Hid (Hd g l wr) ∧ Hid (Below g w0 wr) ∧ Hid (bs (P3 k l pp) ff i j = bs (P3 k l pp) (m - a) a m)) (fun vi vj _ => (intOf vj).toNat - (intOf vi).toNat)
  case atStart => exact ⟨a, m, m - a, Nat.le_refl _, HLH.out.le, Nat.le_refl _, Nat.le_refl _, rfl, rfl, HH, HB, Lib.hid rfl⟩
  case round =>
    clear HH HB w7
    obtain ⟨i, j, ff, hmi, hij, hjb, hff, rfl, rfl, HH, HB, HE⟩ := hrel
    by_cases hlt : i < j
    · have hlt2 := lt_int hlt
      obtain ⟨h, hh⟩ : ∃ h, h = (i + j) / 2 := ⟨_, rfl⟩
      obtain ⟨s1, s2, s3, s4, s5, s6, s7⟩ := mid_bd hh hlt hmi hjb HLH.out.hn HN.out
      have hmid := mid_fact hh s1
      have HMID := Lib.hid hmid
      obtain ⟨hmn, hpe, _⟩ := HLH.out.ix h (Nat.le_trans hmi s2) (Nat.lt_of_lt_of_le s3 hjb)
      rw [← HPP.out] at hmn hpe
      obtain ⟨eh, heh⟩ : ∃ eh, eh = pp - h := ⟨_, rfl⟩
      rw [← heh] at hmn hpe
      obtain ⟨w8, w9⟩ := sub_facts hpe HP2.out
      have HX : Hid (at' l eh < n) := Lib.hid (HL.out.at _ hmn)
      have HY : Hid (at' l h < n) := Lib.hid (HL.out.at _ s4)
      have d1 := HH.out.cell eh (by rw [HL.out.1]; exact hmn)
      have d2 := HH.out.cell h (by rw [HL.out.1]; exact s4)
      have HCC := Lib.hid (fun q => HCM.out.2 (wr.drewN q) (bdrewN HB.out q) (at' l eh) (at' l h) HX.out HY.out)
      have HPY : Hid (¬ k (at' l eh) < k (at' l h) → bs (P3 k l pp) (ff - 1) (h + 1) j = bs (P3 k l pp) (m - a) a m) := Lib.hid (fun q => (bs_yes hff hlt hh (by unfold P3; rw [← heh, decide_eq_false q]; rfl)).symm.trans HE.out)
      have HPN : Hid (k (at' l eh) < k (at' l h) → bs (P3 k l pp) (ff - 1) i h = bs (P3 k l pp) (m - a) a m) := Lib.hid (fun q => (bs_no hff hlt hh (by unfold P3; rw [← heh, decide_eq_true q]; rfl)).symm.trans HE.out)
      have hk1 := HCM.out.1 _ HX.out
      have hk2 := HCM.out.1 _ HY.out
      obtain ⟨x, hx⟩ : ∃ x, x = at' l eh := ⟨_, rfl⟩
      obtain ⟨y, hy⟩ : ∃ y, y = at' l h := ⟨_, rfl⟩
      rw [← hx] at d1 HCC HPY HPN hk1
      rw [← hy] at d2 HCC HPY HPN hk2
      obtain ⟨kx, hkx⟩ : ∃ z, z = k x := ⟨_, rfl⟩
      obtain ⟨ky, hky⟩ : ∃ z, z = k y := ⟨_, rfl⟩
      rw [← hkx] at HCC HPY HPN hk1
      rw [← hky] at HCC HPY HPN hk2
      have b1 := lt_int s4
      have b2 := lt_int hmn
      have hz := i_next s4 HN.out
      have HZ := Lib.hid hz
      have HS5 := Lib.hid s5; have HS6 := Lib.hid s6; have HS2 := Lib.hid s2; have HS3 := Lib.hid s3; have HS7 := Lib.hid s7; have HFF := Lib.hid hff; have HLT := Lib.hid hlt
      clear hh s1 s2 s3 s4 s5 s6 s7 hmn hpe heh hx hy hkx hky hk1 hk2 hff HX HY
      go_upto_region 35 with (fail)
      rw [hmid]
      clear hmid
      go_quiet (exact Calls.quiet_of (HCC.out _))
      have HH2 := Lib.hid (HH.out.drew nq)
      have HB2 := Lib.hid (bdrewN HB.out nq)
      clear d1 d2
      generalize wr.drewN nq = ws at *
      clear w8 w9 b1 b2 hlt2 hz
      generalize hbb : decide (kx - ky < 0) = bb
      cases bb with
      | true =>
        have hc : kx < ky := Int.lt_of_sub_neg (of_decide_eq_true hbb)
        have HE2 := Lib.hid (HPN.out hc)
        clear hc hbb
        go_wp2_with fail
        go_roundw
        case rel => exact ⟨i, h, ff - 1, hmi, HS2.out, HS7.out, le_pred2 HFF.out HLT.out HS2.out HS3.out, rfl, rfl, HH2, HB2, HE2⟩
        case measure => exact sub_lt2 HS2.out HS3.out
      | false =>
        have hc : ¬ kx < ky := fun h => of_decide_eq_false hbb (Int.sub_neg_of_lt h)
        have HE2 := Lib.hid (HPY.out hc)
        clear hc hbb
        go_wp2_with fail
        go_roundw
        case rel => exact ⟨h + 1, j, ff - 1, HS5.out, HS6.out, hjb, le_pred HFF.out HLT.out HS2.out HS3.out, congrArg _ (by first | rfl | exact HZ.out), rfl, HH2, HB2, HE2⟩
        case measure => (try rw [HZ.out]); exact sub_lt1 HS2.out HS3.out
    · obtain rfl : i = j := Nat.le_antisymm hij (Nat.not_lt.1 hlt)
      have HR := Lib.hid (bs_end.symm.trans HE.out)
      obtain ⟨e, he⟩ : ∃ e, e = nn - i := ⟨_, rfl⟩
      have HSY := Lib.hid (HSE.out i e _ _ _ HR.out.symm he rfl rfl rfl)
      obtain ⟨_, q2, q3, q4, q5, q6⟩ := HLH.out.s i hmi hjb
      rw [← HNN.out] at q2 q5 q6
      rw [← he] at q2 q5 q6
      obtain ⟨w8, w9⟩ := sub_facts q2 HN2.out
      clear HE hff hij hlt hmi hjb HSE HLH he
      by_cases c0a : i < m
      · by_cases c0b : m < e
        · have t0a := lt_int c0a
          have t0b := lt_int c0b
          rw [if_pos (show i < m ∧ m < e from ⟨c0a, c0b⟩)] at HSY
          have HCL := Lib.hid (rot_calls w0 g n (cmpV b0) l i m e HL.out HN.out c0a c0b (Nat.le_trans q5 HI.out.2.2) wr HH.out HB.out)
          have HL1 := Lib.hid (HL.out.rot c0a c0b (Nat.le_trans q5 HI.out.2.2))
          obtain ⟨l1, hl1⟩ : ∃ x, x = rot m (e - i) (m - i) (e - m) l := ⟨_, rfl⟩
          rw [← hl1] at HSY HCL HL1
          unfold cmpV at HCL
          clear hl1 c0a c0b
          go_wp2_with fail
          refine HCL.out.mono ?_
          rintro _ w1 ⟨rfl, hh, hbb⟩
          have HH1 := Lib.hid hh; have HB1 := Lib.hid hbb
          clear hh hbb HCL t0a t0b
          by_cases c1a : a < i
          · by_cases c1b : i < mid
            · have t1a := lt_int c1a
              have t1b := lt_int c1b
              rw [if_pos (show a < i ∧ i < mid from ⟨c1a, c1b⟩)] at HSY
              have HCL := Lib.hid (HIH.out l1 a i mid HRB.out.1 c1a c1b HMN.out HL1.out w1 HH1.out HB1.out)
              have HL2 := Lib.hid (HL1.out.sym (k := k) (f := f) HRB.out.1 c1a c1b HMN.out)
              obtain ⟨l2, hl2⟩ : ∃ x, x = sym k f a i mid l1 := ⟨_, rfl⟩
              rw [← hl2] at HSY HCL HL2
              unfold cmpV at HCL
              clear hl2 c1a c1b
              go_wp2_with fail
              refine HCL.out.mono ?_
              rintro _ w2 ⟨rfl, hh, hbb⟩
              have HH2 := Lib.hid hh; have HB2 := Lib.hid hbb
              clear hh hbb HCL t1a t1b
              by_cases c2a : mid < e
              · by_cases c2b : e < b
                · have t2a := lt_int c2a
                  have t2b := lt_int c2b
                  rw [if_pos (show mid < e ∧ e < b from ⟨c2a, c2b⟩)] at HSY
                  have HCL := Lib.hid (HIH.out l2 mid e b HRB.out.2 c2a c2b HI.out.2.2 HL2.out w2 HH2.out HB2.out)
                  obtain ⟨l3, hl3⟩ : ∃ x, x = sym k f mid e b l2 := ⟨_, rfl⟩
                  rw [← hl3] at HSY HCL
                  unfold cmpV at HCL
                  clear hl3 c2a c2b
                  go_wp2_with fail
                  refine HCL.out.mono ?_
                  rintro _ w3 ⟨rfl, hh, hbb⟩
                  have HH3 := Lib.hid hh; have HB3 := Lib.hid hbb
                  clear hh hbb HCL t2a t2b
                  go_wp2_with fail
                  all_goals (go_end0; exact ⟨rfl, by rw [HSY.out]; exact HH3.out, HB3.out⟩)
                · have t2a := lt_int c2a
                  have t2b : ¬ (e : Int) < b := fun h => c2b (Int.ofNat_lt.1 h)
                  rw [if_neg (show ¬ (mid < e ∧ e < b) from fun h => c2b h.2)] at HSY
                  clear c2a c2b
                  go_wp2_with fail
                  all_goals (go_end0; exact ⟨rfl, by rw [HSY.out]; exact HH2.out, HB2.out⟩)
              · have t2a : ¬ (mid : Int) < e := fun h => c2a (Int.ofNat_lt.1 h)
                rw [if_neg (show ¬ (mid < e ∧ e < b) from fun h => c2a h.1)] at HSY
                clear c2a
                go_wp2_with fail
                all_goals (go_end0; exact ⟨rfl, by rw [HSY.out]; exact HH2.out, HB2.out⟩)
            · have t1a := lt_int c1a
              have t1b : ¬ (i : Int) < mid := fun h => c1b (Int.ofNat_lt.1 h)
              rw [if_neg (show ¬ (a < i ∧ i < mid) from fun h => c1b h.2)] at HSY
              clear c1a c1b
              by_cases c2a : mid < e
              · by_cases c2b : e < b
                · have t2a := lt_int c2a
                  have t2b := lt_int c2b
                  rw [if_pos (show mid < e ∧ e < b from ⟨c2a, c2b⟩)] at HSY
                  have HCL := Lib.hid (HIH.out l1 mid e b HRB.out.2 c2a c2b HI.out.2.2 HL1.out w1 HH1.out HB1.out)
                  obtain ⟨l3, hl3⟩ : ∃ x, x = sym k f mid e b l1 := ⟨_, rfl⟩
                  rw [← hl3] at HSY HCL
                  unfold cmpV at HCL
                  clear hl3 c2a c2b
                  go_wp2_with fail
                  refine HCL.out.mono ?_
                  rintro _ w3 ⟨rfl, hh, hbb⟩
                  have HH3 := Lib.hid hh; have HB3 := Lib.hid hbb
                  clear hh hbb HCL t2a t2b
                  go_wp2_with fail
                  all_goals (go_end0; exact ⟨rfl, by rw [HSY.out]; exact HH3.out, HB3.out⟩)
                · have t2a := lt_int c2a
                  have t2b : ¬ (e : Int) < b := fun h => c2b (Int.ofNat_lt.1 h)
                  rw [if_neg (show ¬ (mid < e ∧ e < b) from fun h => c2b h.2)] at HSY
                  clear c2a c2b
                  go_wp2_with fail
                  all_goals (go_end0; exact ⟨rfl, by rw [HSY.out]; exact HH1.out, HB1.out⟩)
              · have t2a : ¬ (mid : Int) < e := fun h => c2a (Int.ofNat_lt.1 h)
                rw [if_neg (show ¬ (mid < e ∧ e < b) from fun h => c2a h.1)] at HSY
                clear c2a
                go_wp2_with fail
                all_goals (go_end0; exact ⟨rfl, by rw [HSY.out]; exact HH1.out, HB1.out⟩)
          · have t1a : ¬ (a : Int) < i := fun h => c1a (Int.ofNat_lt.1 h)
            rw [if_neg (show ¬ (a < i ∧ i < mid) from fun h => c1a h.1)] at HSY
            clear c1a
            by_cases c2a : mid < e
            · by_cases c2b : e < b
              · have t2a := lt_int c2a
                have t2b := lt_int c2b
                rw [if_pos (show mid < e ∧ e < b from ⟨c2a, c2b⟩)] at HSY
                have HCL := Lib.hid (HIH.out l1 mid e b HRB.out.2 c2a c2b HI.out.2.2 HL1.out w1 HH1.out HB1.out)
                obtain ⟨l3, hl3⟩ : ∃ x, x = sym k f mid e b l1 := ⟨_, rfl⟩
                rw [← hl3] at HSY HCL
                unfold cmpV at HCL
                clear hl3 c2a c2b
                go_wp2_with fail
                refine HCL.out.mono ?_
                rintro _ w3 ⟨rfl, hh, hbb⟩
                have HH3 := Lib.hid hh; have HB3 := Lib.hid hbb
                clear hh hbb HCL t2a t2b
                go_wp2_with fail
                all_goals (go_end0; exact ⟨rfl, by rw [HSY.out]; exact HH3.out, HB3.out⟩)
              · have t2a := lt_int c2a
                have t2b : ¬ (e : Int) < b := fun h => c2b (Int.ofNat_lt.1 h)
                rw [if_neg (show ¬ (mid < e ∧ e < b) from fun h => c2b h.2)] at HSY
                clear c2a c2b
                go_wp2_with fail
                all_goals (go_end0; exact ⟨rfl, by rw [HSY.out]; exact HH1.out, HB1.out⟩)
            · have t2a : ¬ (mid : Int) < e := fun h => c2a (Int.ofNat_lt.1 h)
              rw [if_neg (show ¬ (mid < e ∧ e < b) from fun h => c2a h.1)] at HSY
              clear c2a
              go_wp2_with fail
              all_goals (go_end0; exact ⟨rfl, by rw [HSY.out]; exact HH1.out, HB1.out⟩)
        · have t0a := lt_int c0a
          have t0b : ¬ (m : Int) < e := fun h => c0b (Int.ofNat_lt.1 h)
          rw [if_neg (show ¬ (i < m ∧ m < e) from fun h => c0b h.2)] at HSY
          clear c0a c0b
          by_cases c1a : a < i
          · by_cases c1b : i < mid
            · have t1a := lt_int c1a
              have t1b := lt_int c1b
              rw [if_pos (show a < i ∧ i < mid from ⟨c1a, c1b⟩)] at HSY
              have HCL := Lib.hid (HIH.out l a i mid HRB.out.1 c1a c1b HMN.out HL.out wr HH.out HB.out)
              have HL2 := Lib.hid (HL.out.sym (k := k) (f := f) HRB.out.1 c1a c1b HMN.out)
              obtain ⟨l2, hl2⟩ : ∃ x, x = sym k f a i mid l := ⟨_, rfl⟩
              rw [← hl2] at HSY HCL HL2
              unfold cmpV at HCL
              clear hl2 c1a c1b
              go_wp2_with fail
              refine HCL.out.mono ?_
              rintro _ w2 ⟨rfl, hh, hbb⟩
              have HH2 := Lib.hid hh; have HB2 := Lib.hid hbb
              clear hh hbb HCL t1a t1b
              by_cases c2a : mid < e
              · by_cases c2b : e < b
                · have t2a := lt_int c2a
                  have t2b := lt_int c2b
                  rw [if_pos (show mid < e ∧ e < b from ⟨c2a, c2b⟩)] at HSY
                  have HCL := Lib.hid (HIH.out l2 mid e b HRB.out.2 c2a c2b HI.out.2.2 HL2.out w2 HH2.out HB2.out)
                  obtain ⟨l3, hl3⟩ : ∃ x, x = sym k f mid e b l2 := ⟨_, rfl⟩
                  rw [← hl3] at HSY HCL
                  unfold cmpV at HCL
                  clear hl3 c2a c2b
                  go_wp2_with fail
                  refine HCL.out.mono ?_
                  rintro _ w3 ⟨rfl, hh, hbb⟩
                  have HH3 := Lib.hid hh; have HB3 := Lib.hid hbb
                  clear hh hbb HCL t2a t2b
                  go_wp2_with fail
                  all_goals (go_end0; exact ⟨rfl, by rw [HSY.out]; exact HH3.out, HB3.out⟩)
                · have t2a := lt_int c2a
                  have t2b : ¬ (e : Int) < b := fun h => c2b (Int.ofNat_lt.1 h)
                  rw [if_neg (show ¬ (mid < e ∧ e < b) from fun h => c2b h.2)] at HSY
                  clear c2a c2b
                  go_wp2_with fail
                  all_goals (go_end0; exact ⟨rfl, by rw [HSY.out]; exact HH2.out, HB2.out⟩)
              · have t2a : ¬ (mid : Int) < e := fun h => c2a (Int.ofNat_lt.1 h)
                rw [if_neg (show ¬ (mid < e ∧ e < b) from fun h => c2a h.1)] at HSY
                clear c2a
                go_wp2_with fail
                all_goals (go_end0; exact ⟨rfl, by rw [HSY.out]; exact HH2.out, HB2.out⟩)
            · have t1a := lt_int c1a
              have t1b : ¬ (i : Int) < mid := fun h => c1b (Int.ofNat_lt.1 h)
              rw [if_neg (show ¬ (a < i ∧ i < mid) from fun h => c1b h.2)] at HSY
              clear c1a c1b
              by_cases c2a : mid < e
              · by_cases c2b : e < b
                · have t2a := lt_int c2a
                  have t2b := lt_int c2b
                  rw [if_pos (show mid < e ∧ e < b from ⟨c2a, c2b⟩)] at HSY
                  have HCL := Lib.hid (HIH.out l mid e b HRB.out.2 c2a c2b HI.out.2.2 HL.out wr HH.out HB.out)
                  obtain ⟨l3, hl3⟩ : ∃ x, x = sym k f mid e b l := ⟨_, rfl⟩
                  rw [← hl3] at HSY HCL
                  unfold cmpV at HCL
                  clear hl3 c2a c2b
                  go_wp2_with fail
                  refine HCL.out.mono ?_
                  rintro _ w3 ⟨rfl, hh, hbb⟩
                  have HH3 := Lib.hid hh; have HB3 := Lib.hid hbb
                  clear hh hbb HCL t2a t2b
                  go_wp2_with fail
                  all_goals (go_end0; exact ⟨rfl, by rw [HSY.out]; exact HH3.out, HB3.out⟩)
                · have t2a := lt_int c2a
                  have t2b : ¬ (e : Int) < b := fun h => c2b (Int.ofNat_lt.1 h)
                  rw [if_neg (show ¬ (mid < e ∧ e < b) from fun h => c2b h.2)] at HSY
                  clear c2a c2b
                  go_wp2_with fail
                  all_goals (go_end0; exact ⟨rfl, by rw [HSY.out]; exact HH.out, HB.out⟩)
              · have t2a : ¬ (mid : Int) < e := fun h => c2a (Int.ofNat_lt.1 h)
                rw [if_neg (show ¬ (mid < e ∧ e < b) from fun h => c2a h.1)] at HSY
                clear c2a
                go_wp2_with fail
                all_goals (go_end0; exact ⟨rfl, by rw [HSY.out]; exact HH.out, HB.out⟩)
          · have t1a : ¬ (a : Int) < i := fun h => c1a (Int.ofNat_lt.1 h)
            rw [if_neg (show ¬ (a < i ∧ i < mid) from fun h => c1a h.1)] at HSY
            clear c1a
            by_cases c2a : mid < e
            · by_cases c2b : e < b
              · have t2a := lt_int c2a
                have t2b := lt_int c2b
                rw [if_pos (show mid < e ∧ e < b from ⟨c2a, c2b⟩)] at HSY
                have HCL := Lib.hid (HIH.out l mid e b HRB.out.2 c2a c2b HI.out.2.2 HL.out wr HH.out HB.out)
                obtain ⟨l3, hl3⟩ : ∃ x, x = sym k f mid e b l := ⟨_, rfl⟩
                rw [← hl3] at HSY HCL
                unfold cmpV at HCL
                clear hl3 c2a c2b
                go_wp2_with fail
                refine HCL.out.mono ?_
                rintro _ w3 ⟨rfl, hh, hbb⟩
                have HH3 := Lib.hid hh; have HB3 := Lib.hid hbb
                clear hh hbb HCL t2a t2b
                go_wp2_with fail
                all_goals (go_end0; exact ⟨rfl, by rw [HSY.out]; exact HH3.out, HB3.out⟩)
              · have t2a := lt_int c2a
                have t2b : ¬ (e : Int) < b := fun h => c2b (Int.ofNat_lt.1 h)
                rw [if_neg (show ¬ (mid < e ∧ e < b) from fun h => c2b h.2)] at HSY
                clear c2a c2b
                go_wp2_with fail
                all_goals (go_end0; exact ⟨rfl, by rw [HSY.out]; exact HH.out, HB.out⟩)
            · have t2a : ¬ (mid : Int) < e := fun h => c2a (Int.ofNat_lt.1 h)
              rw [if_neg (show ¬ (mid < e ∧ e < b) from fun h => c2a h.1)] at HSY
              clear c2a
              go_wp2_with fail
              all_goals (go_end0; exact ⟨rfl, by rw [HSY.out]; exact HH.out, HB.out⟩)
      · have t0a : ¬ (i : Int) < m := fun h => c0a (Int.ofNat_lt.1 h)
        rw [if_neg (show ¬ (i < m ∧ m < e) from fun h => c0a h.1)] at HSY
        clear c0a
        by_cases c1a : a < i
        · by_cases c1b : i < mid
          · have t1a := lt_int c1a
            have t1b := lt_int c1b
            rw [if_pos (show a < i ∧ i < mid from ⟨c1a, c1b⟩)] at HSY
            have HCL := Lib.hid (HIH.out l a i mid HRB.out.1 c1a c1b HMN.out HL.out wr HH.out HB.out)
            have HL2 := Lib.hid (HL.out.sym (k := k) (f := f) HRB.out.1 c1a c1b HMN.out)
            obtain ⟨l2, hl2⟩ : ∃ x, x = sym k f a i mid l := ⟨_, rfl⟩
            rw [← hl2] at HSY HCL HL2
            unfold cmpV at HCL
            clear hl2 c1a c1b
            go_wp2_with fail
            refine HCL.out.mono ?_
            rintro _ w2 ⟨rfl, hh, hbb⟩
            have HH2 := Lib.hid hh; have HB2 := Lib.hid hbb
            clear hh hbb HCL t1a t1b
            by_cases c2a : mid < e
            · by_cases c2b : e < b
              · have t2a := lt_int c2a
                have t2b := lt_int c2b
                rw [if_pos (show mid < e ∧ e < b from ⟨c2a, c2b⟩)] at HSY
                have HCL := Lib.hid (HIH.out l2 mid e b HRB.out.2 c2a c2b HI.out.2.2 HL2.out w2 HH2.out HB2.out)
                obtain ⟨l3, hl3⟩ : ∃ x, x = sym k f mid e b l2 := ⟨_, rfl⟩
                rw [← hl3] at HSY HCL
                unfold cmpV at HCL
                clear hl3 c2a c2b
                go_wp2_with fail
                refine HCL.out.mono ?_
                rintro _ w3 ⟨rfl, hh, hbb⟩
                have HH3 := Lib.hid hh; have HB3 := Lib.hid hbb
                clear hh hbb HCL t2a t2b
                go_wp2_with fail
                all_goals (go_end0; exact ⟨rfl, by rw [HSY.out]; exact HH3.out, HB3.out⟩)
              · have t2a := lt_int c2a
                have t2b : ¬ (e : Int) < b := fun h => c2b (Int.ofNat_lt.1 h)
                rw [if_neg (show ¬ (mid < e ∧ e < b) from fun h => c2b h.2)] at HSY
                clear c2a c2b
                go_wp2_with fail
                all_goals (go_end0; exact ⟨rfl, by rw [HSY.out]; exact HH2.out, HB2.out⟩)
            · have t2a : ¬ (mid : Int) < e := fun h => c2a (Int.ofNat_lt.1 h)
              rw [if_neg (show ¬ (mid < e ∧ e < b) from fun h => c2a h.1)] at HSY
              clear c2a
              go_wp2_with fail
              all_goals (go_end0; exact ⟨rfl, by rw [HSY.out]; exact HH2.out, HB2.out⟩)
          · have t1a := lt_int c1a
            have t1b : ¬ (i : Int) < mid := fun h => c1b (Int.ofNat_lt.1 h)
            rw [if_neg (show ¬ (a < i ∧ i < mid) from fun h => c1b h.2)] at HSY
            clear c1a c1b
            by_cases c2a : mid < e
            · by_cases c2b : e < b
              · have t2a := lt_int c2a
                have t2b := lt_int c2b
                rw [if_pos (show mid < e ∧ e < b from ⟨c2a, c2b⟩)] at HSY
                have HCL := Lib.hid (HIH.out l mid e b HRB.out.2 c2a c2b HI.out.2.2 HL.out wr HH.out HB.out)
                obtain ⟨l3, hl3⟩ : ∃ x, x = sym k f mid e b l := ⟨_, rfl⟩
                rw [← hl3] at HSY HCL
                unfold cmpV at HCL
                clear hl3 c2a c2b
                go_wp2_with fail
                refine HCL.out.mono ?_
                rintro _ w3 ⟨rfl, hh, hbb⟩
                have HH3 := Lib.hid hh; have HB3 := Lib.hid hbb
                clear hh hbb HCL t2a t2b
                go_wp2_with fail
                all_goals (go_end0; exact ⟨rfl, by rw [HSY.out]; exact HH3.out, HB3.out⟩)
              · have t2a := lt_int c2a
                have t2b : ¬ (e : Int) < b := fun h => c2b (Int.ofNat_lt.1 h)
                rw [if_neg (show ¬ (mid < e ∧ e < b) from fun h => c2b h.2)] at HSY
                clear c2a c2b
                go_wp2_with fail
                all_goals (go_end0; exact ⟨rfl, by rw [HSY.out]; exact HH.out, HB.out⟩)
            · have t2a : ¬ (mid : Int) < e := fun h => c2a (Int.ofNat_lt.1 h)
              rw [if_neg (show ¬ (mid < e ∧ e < b) from fun h => c2a h.1)] at HSY
              clear c2a
              go_wp2_with fail
              all_goals (go_end0; exact ⟨rfl, by rw [HSY.out]; exact HH.out, HB.out⟩)
        · have t1a : ¬ (a : Int) < i := fun h => c1a (Int.ofNat_lt.1 h)
          rw [if_neg (show ¬ (a < i ∧ i < mid) from fun h => c1a h.1)] at HSY
          clear c1a
          by_cases c2a : mid < e
          · by_cases c2b : e < b
            · have t2a := lt_int c2a
              have t2b := lt_int c2b
              rw [if_pos (show mid < e ∧ e < b from ⟨c2a, c2b⟩)] at HSY
              have HCL := Lib.hid (HIH.out l mid e b HRB.out.2 c2a c2b HI.out.2.2 HL.out wr HH.out HB.out)
              obtain ⟨l3, hl3⟩ : ∃ x, x = sym k f mid e b l := ⟨_, rfl⟩
              rw [← hl3] at HSY HCL
              unfold cmpV at HCL
              clear hl3 c2a c2b
              go_wp2_with fail
              refine HCL.out.mono ?_
              rintro _ w3 ⟨rfl, hh, hbb⟩
              have HH3 := Lib.hid hh; have HB3 := Lib.hid hbb
              clear hh hbb HCL t2a t2b
              go_wp2_with fail
              all_goals (go_end0; exact ⟨rfl, by rw [HSY.out]; exact HH3.out, HB3.out⟩)
            · have t2a := lt_int c2a
              have t2b : ¬ (e : Int) < b := fun h => c2b (Int.ofNat_lt.1 h)
              rw [if_neg (show ¬ (mid < e ∧ e < b) from fun h => c2b h.2)] at HSY
              clear c2a c2b
              go_wp2_with fail
              all_goals (go_end0; exact ⟨rfl, by rw [HSY.out]; exact HH.out, HB.out⟩)
          · have t2a : ¬ (mid : Int) < e := fun h => c2a (Int.ofNat_lt.1 h)
            rw [if_neg (show ¬ (mid < e ∧ e < b) from fun h => c2a h.1)] at HSY
            clear c2a
            go_wp2_with fail
            all_goals (go_end0; exact ⟨rfl, by rw [HSY.out]; exact HH.out, HB.out⟩)
theorem sym_calls (w0 : World) (g b0 n : Nat) (k : Nat → Int) (HC : CmpOk w0 g b0 n k) (hn : n ≤ 64) : ∀ (f : Nat) (l : List Nat) (a m b : Nat), b - a ≤ f → a < m → m < b → b ≤ n → Lo n l → ∀ W, Hd g l W → Below g w0 W →
    Calls Try.prog 29 #[.slice (some ⟨g, 0, none⟩) n n, .int .i64 (a : Int), .int .i64 (m : Int), .int .i64 (b : Int), cmpV b0] W fun e w' => e = .returned (.tuple #[]) ∧ Hd g (sym k f a m b l) w' ∧ Below g w0 w'
  | 0, l, a, m, b, h0, h1, h2, _, _, _, _, _ => absurd h0 (by omega)
  | f + 1, l, a, m, b, h0, h1, h2, h3, hl, W, hH, hB =>
    if c1 : m - a = 1 then sym_one w0 g b0 n k HC hn f l a m b h0 h1 h2 h3 hl W hH hB c1
    else if c2 : b - m = 1 then sym_two w0 g b0 n k HC hn f l a m b h0 h1 h2 h3 hl W hH hB c1 c2
    else if c3 : (a + b) / 2 < m then sym_rest_one w0 g b0 n k HC hn f l a m b h0 h1 h2 h3 hl W hH hB c1 c2 (fun l a m b h0 h1 h2 h3 hl W hH hB => sym_calls w0 g b0 n k HC hn f l a m b h0 h1 h2 h3 hl W hH hB) (fun _ h => h ▸ c3)
    else sym_rest_two w0 g b0 n k HC hn f l a m b h0 h1 h2 h3 hl W hH hB c1 c2 (fun l a m b h0 h1 h2 h3 hl W hH hB => sym_calls w0 g b0 n k HC hn f l a m b h0 h1 h2 h3 hl W hH hB) (fun _ h => h ▸ c3)
end Go.Proofs.Ythmcnopogahffaa
