/- Sorting in place, walked: blocks of twenty, passes of merging. -/
import Derived.Test.YthmcnopogahffaaBudZ
namespace Go.Proofs.Ythmcnopogahffaa
open Go.RowKit Go.Proofs.Ythmcnopogahffaa.Bud
/-- all blocks of so many are sorted -/
def SB (k : Nat → Int) (z n : Nat) (l : List Nat) : Prop := ∀ c, Srt k l (z * c) (min (z * c + z) n)
/-- c pairs of blocks are merged -/
def MB (k : Nat → Int) (z n c : Nat) (l : List Nat) : Prop := (∀ d, d < c → Srt k l (2 * z * d) (2 * z * d + 2 * z)) ∧ ∀ d, 2 * c ≤ d → Srt k l (z * d) (min (z * d + z) n)
def IB (k : Nat → Int) (c : Nat) (l : List Nat) : Prop := ∀ d, d < c → Srt k l (20 * d) (20 * d + 20)
theorem Bud.Srt.out {k : Nat → Int} {l l' : List Nat} {a b c d : Nat} (h : Srt k l c d) (hl : Bud.Loc l l' a b) (ho : d ≤ a ∨ b ≤ c) : Srt k l' c d := h.same k (fun t h1 h2 => hl.out t (by omega))
theorem ib_step {k : Nat → Int} {c a : Nat} {l : List Nat} (h : IB k c l) (ha : a = 20 * c) (hn : a + 20 ≤ l.length) : IB k (c + 1) (insl k a (a + 1) (a + 20 - (a + 1)) l) ∧ (insl k a (a + 1) (a + 20 - (a + 1)) l).Perm l := by
  have hl := insl_loc k a (a + 20 - (a + 1)) (a + 1) l (by omega) (by omega)
  have hs := insl_srt k a (a + 20 - (a + 1)) (a + 1) l (by omega) (by omega) (srt_one k l a)
  refine ⟨fun d hd => ?_, hl.perm⟩
  by_cases e : d = c
  · subst e ha; exact hs.sub k (Nat.le_refl _) (by omega)
  · exact (h d (by omega)).out hl (.inl (by omega))
theorem ib_end {k : Nat → Int} {c a n : Nat} {l : List Nat} (h : IB k c l) (ha : a = 20 * c) (h1 : a ≤ n) (h2 : n < a + 20) (hn : l.length = n) : SB k 20 n (insl k a (a + 1) (n - (a + 1)) l) ∧ (insl k a (a + 1) (n - (a + 1)) l).Perm l := by
  by_cases e : a = n
  · rw [show n - (a + 1) = 0 by omega]
    refine ⟨fun d => ?_, List.Perm.refl _⟩
    show Srt k l _ _
    by_cases hd : d < c
    · rw [show min (20 * d + 20) n = 20 * d + 20 by omega]; exact h d hd
    · intro i j h3 h4 h5; omega
  · have hl := insl_loc k a (n - (a + 1)) (a + 1) l (by omega) (by omega)
    have hs := insl_srt k a (n - (a + 1)) (a + 1) l (by omega) (by omega) (srt_one k l a)
    refine ⟨fun d => ?_, hl.perm⟩
    by_cases hd : d < c
    · rw [show min (20 * d + 20) n = 20 * d + 20 by omega]; exact (h d hd).out hl (.inl (by omega))
    · by_cases e : d = c
      · subst e ha; exact hs.sub k (Nat.le_refl _) (by omega)
      · intro i j h3 h4 h5; omega
theorem mb_zero {k : Nat → Int} {z n : Nat} {l : List Nat} (h : SB k z n l) : MB k z n 0 l := ⟨fun _ hd => absurd hd (Nat.not_lt_zero _), fun d _ => h d⟩
theorem mb_step {k : Nat → Int} {z n c a f : Nat} {l : List Nat} (hz : z = 20 ∨ z = 40) (h : MB k z n c l) (ha : a = 2 * z * c) (hn : l.length = n) (hb : a + 2 * z ≤ n) (hf : 2 * z ≤ f) : MB k z n (c + 1) (sym k f a (a + z) (a + 2 * z) l) ∧ (sym k f a (a + z) (a + 2 * z) l).Perm l := by
  have e1 : Srt k l a (a + z) := by
    have := h.2 (2 * c) (Nat.le_refl _)
    rcases hz with rfl | rfl <;> exact this.sub k (by omega) (by omega)
  have e2 : Srt k l (a + z) (a + 2 * z) := by
    have := h.2 (2 * c + 1) (by omega)
    rcases hz with rfl | rfl <;> exact this.sub k (by omega) (by omega)
  obtain ⟨hl, hs⟩ := sym_spec k f a (a + z) (a + 2 * z) l (by omega) (by omega) (by omega) (by omega) e1 e2
  refine ⟨⟨fun d hd => ?_, fun d hd => ?_⟩, hl.perm⟩
  · by_cases e : d = c
    · subst e ha; exact hs
    · have := h.1 d (by omega)
      rcases hz with rfl | rfl <;> exact this.out hl (.inl (by omega))
  · have := h.2 d (by omega)
    rcases hz with rfl | rfl <;> exact this.out hl (.inr (by omega))
theorem mb_end1 {k : Nat → Int} {z n c a f : Nat} {l : List Nat} (hz : z = 20 ∨ z = 40) (h : MB k z n c l) (ha : a = 2 * z * c) (hn : l.length = n) (hb : a + z < n) (h2 : n < a + 2 * z) (hf : 2 * z ≤ f) : SB k (2 * z) n (sym k f a (a + z) n l) ∧ (sym k f a (a + z) n l).Perm l := by
  have e1 : Srt k l a (a + z) := by
    have := h.2 (2 * c) (Nat.le_refl _)
    rcases hz with rfl | rfl <;> exact this.sub k (by omega) (by omega)
  have e2 : Srt k l (a + z) n := by
    have := h.2 (2 * c + 1) (by omega)
    rcases hz with rfl | rfl <;> exact this.sub k (by omega) (by omega)
  obtain ⟨hl, hs⟩ := sym_spec k f a (a + z) n l (by omega) (by omega) (by omega) (by omega) e1 e2
  refine ⟨fun d => ?_, hl.perm⟩
  by_cases hd : d < c
  · have := h.1 d hd
    rcases hz with rfl | rfl
    · exact (this.out hl (.inl (by omega))).sub k (Nat.le_refl _) (by omega)
    · exact (this.out hl (.inl (by omega))).sub k (Nat.le_refl _) (by omega)
  · by_cases e : d = c
    · subst e ha; exact hs.sub k (Nat.le_refl _) (by omega)
    · intro i j h3 h4 h5
      rcases hz with rfl | rfl <;> omega
theorem mb_end2 {k : Nat → Int} {z n c a : Nat} {l : List Nat} (hz : z = 20 ∨ z = 40) (h : MB k z n c l) (ha : a = 2 * z * c) (ha2 : a ≤ n) (hb : n ≤ a + z) : SB k (2 * z) n l := by
  intro d
  by_cases hd : d < c
  · have := h.1 d hd
    rcases hz with rfl | rfl <;> exact this.sub k (by omega) (by omega)
  · by_cases e : d = c
    · have := h.2 (2 * c) (Nat.le_refl _)
      subst e
      rcases hz with rfl | rfl <;> exact this.sub k (by omega) (by omega)
    · intro i j h3 h4 h5
      rcases hz with rfl | rfl <;> omega
theorem sb_end {k : Nat → Int} {z n : Nat} {l : List Nat} (h : SB k z n l) (hz : n ≤ z) : Srt k l 0 n := (h 0).sub k (by omega) (by omega)
theorem le_int {p n : Nat} (h : p ≤ n) : (p : Int) ≤ n := by omega
theorem nle_int {p n : Nat} (h : ¬ p ≤ n) : ¬ (p : Int) ≤ n := by omega
theorem b_bd {a b n : Nat} (h : b = a + 20) (h1 : b ≤ n) (hn : n ≤ 64) : b + 20 ≤ 200 ∧ b < 200 := by omega
theorem meas_b {b b2 c : Nat} (h : b2 = b + c) (hc : 0 < c) (h1 : b < 200) : 200 - (intOf (.int .i64 (b2 : Int))).toNat < 200 - (intOf (.int .i64 (b : Int))).toNat := by simp [intOf]; omega
theorem z_bd {z n : Nat} (hz : z = 20 ∨ z = 40 ∨ z = 80) (h : z < n) (hn : n ≤ 64) : (z = 20 ∨ z = 40) ∧ (2 * z = 20 ∨ 2 * z = 40 ∨ 2 * z = 80) ∧ 2 * z ≤ 200 ∧ ¬ n < 20 ∧ z < 200 ∧ 0 < z := by omega
theorem z2_bd {z zz a b n : Nat} (hz : z = 20 ∨ z = 40) (hzz : zz = 2 * z) (hb : b = a + zz) (hbn : b ≤ n) (hn : n ≤ 64) : a + z ≤ 200 ∧ b + zz ≤ 200 ∧ b - a ≤ 200 ∧ a < a + z ∧ a + z < b ∧ b < 200 ∧ 0 < zz := by omega
theorem z3_bd {z zz a b n : Nat} (hz : z = 20 ∨ z = 40) (hzz : zz = 2 * z) (hb : b = a + zz) (han : a ≤ n) (hbn : ¬ b ≤ n) (hn : n ≤ 64) : a + z ≤ 200 ∧ n - a ≤ 200 ∧ a < a + z ∧ n < a + 2 * z := by omega
theorem mul2_fact {z zz : Nat} (h : zz = 2 * z) (hz : zz ≤ 200) : wrap64 (2 * (z : Int)) = (zz : Int) ∧ IntKind.i64.wrap (2 * (z : Int)) = (zz : Int) ∧ wrap64 ((z : Int) * 2) = (zz : Int) ∧ IntKind.i64.wrap ((z : Int) * 2) = (zz : Int) := by
  have e : 2 * (z : Int) = zz := by omega
  have e2 : (z : Int) * 2 = zz := by omega
  rw [e, e2]
  exact ⟨wrap_i (by omega), wrap_k (by omega), wrap_i (by omega), wrap_k (by omega)⟩
theorem add20 {b b2 : Nat} (h : b2 = b + 20) (hb : b2 ≤ 200) : wrap64 ((b : Int) + 20) = (b2 : Int) ∧ IntKind.i64.wrap ((b : Int) + 20) = (b2 : Int) := add_facts (a := b) (i := 20) (by omega) hb
set_option maxRecDepth 100000 in
set_option maxHeartbeats 6400000 in
theorem stab_calls (w0 : World) (g b0 n : Nat) (k : Nat → Int) (HC : CmpOk w0 g b0 n k) (hn : n ≤ 64) (l : List Nat) (hl : Lo n l) (W : World) (hH : Hd g l W) (hB : Below g w0 W) :
    Calls Try.prog 25 #[.slice (some ⟨g, 0, none⟩) n n, .int .i64 (n : Int), cmpV b0] W fun e w' => e = .returned (.tuple #[]) ∧ Below g w0 w' ∧ ∃ l', Hd g l' w' ∧ l'.Perm l ∧ Srt k l' 0 n ∧ (n < 20 → l' = insl k 0 1 (n - 1) l) := by
  have HCM := Lib.hid HC
  have HL := Lib.hid hl; have HN := Lib.hid hn; have HH := Lib.hid hH; have HB := Lib.hid hB
  have HINS := Lib.hid (fun l (hl : Lo n l) a bb (ha : a ≤ n) (hb : bb ≤ n) W hH hB => ins_calls w0 g b0 n k HC l a bb hl hn ha hb W hH hB)
  have HSYM := Lib.hid (fun l a m b h0 h1 h2 h3 hl W hH hB => sym_calls w0 g b0 n k HC hn 200 l a m b h0 h1 h2 h3 hl W hH hB)
  clear HC hn hl hH hB HCM
  unfold cmpV at *
  go_enter Try.func25, Try.ntmps25
  go_wp2_with fail
  go_loopw [7, 8] (fun va vb wr => ∃ (c a b : Nat) (l' : List Nat), Hid (a = 20 * c) ∧ Hid (b = a + 20) ∧ Hid (a ≤ n) ∧ va = .int .i64 a ∧ vb = .int .i64 b ∧ Hid (Hd g l' wr) ∧ Hid (Below g w0 wr) ∧ Hid (Lo n l') ∧ Hid (l'.Perm l) ∧ Hid (IB k c l') ∧ Hid (n < 20 → l' = l)) (fun _ vb _ => 200 - (intOf vb).toNat)
  case atStart => exact ⟨0, 0, 20, l, Lib.hid rfl, Lib.hid rfl, Lib.hid (Nat.zero_le _), rfl, rfl, HH, HB, HL, Lib.hid (List.Perm.refl _), Lib.hid (fun d hd => absurd hd (Nat.not_lt_zero _)), Lib.hid (fun _ => rfl)⟩
  case round =>
    clear HH HB HL
    obtain ⟨c, a, b, l', HA, HBA, HAN, rfl, rfl, HH, HB, HL, HP, HI, HE⟩ := hrel
    by_cases hbn : b ≤ n
    · have t1 := le_int hbn
      have HC1 := Lib.hid (HINS.out l' HL.out a b HAN.out hbn wr HH.out HB.out)
      have HST := Lib.hid (ib_step HI.out HA.out (by rw [HL.out.1, ← HBA.out]; exact hbn))
      rw [← HBA.out] at HST
      obtain ⟨l2, hl2⟩ : ∃ x, x = insl k a (a + 1) (b - (a + 1)) l' := ⟨_, rfl⟩
      rw [← hl2] at HC1 HST
      obtain ⟨b2, hb2⟩ : ∃ q, q = b + 20 := ⟨_, rfl⟩
      obtain ⟨u1, u2⟩ := b_bd HBA.out hbn HN.out
      obtain ⟨w1, _⟩ := add20 hb2 (by rw [hb2]; exact u1)
      have HU2 := Lib.hid u2; have HBB := Lib.hid hb2; have HBN := Lib.hid hbn
      have HE2 : Hid (n < 20 → l2 = l) := Lib.hid (fun h => absurd hbn (by have := HBA.out; omega))
      have HA2 : Hid (b = 20 * (c + 1)) := Lib.hid (by rw [HBA.out, HA.out, Nat.mul_add])
      have HW1 := Lib.hid w1
      clear hl2 u1 u2 hb2 hbn HE
      go_wp2_with fail
      refine HC1.out.mono ?_
      rintro _ w1 ⟨rfl, hh, hbb⟩
      have HH1 := Lib.hid hh; have HB1 := Lib.hid hbb
      clear hh hbb HC1
      go_wp2_with fail
      go_roundw
      case rel => exact ⟨c + 1, b, b2, l2, HA2, HBB, HBN, rfl, congrArg _ (by first | rfl | exact HW1.out), HH1, HB1, Lib.hid (HL.out.perm HST.out.2), Lib.hid (HST.out.2.trans HP.out), Lib.hid HST.out.1, HE2⟩
      case measure => (try rw [HW1.out]); exact meas_b HBB.out (by decide) HU2.out
    · have t1 := nle_int hbn
      have HC1 := Lib.hid (HINS.out l' HL.out a n HAN.out (Nat.le_refl _) wr HH.out HB.out)
      have HST := Lib.hid (ib_end HI.out HA.out HAN.out (by have := HBA.out; omega) HL.out.1)
      have HE2 : Hid (n < 20 → insl k a (a + 1) (n - (a + 1)) l' = insl k 0 1 (n - 1) l) := Lib.hid (fun h => by
        have h1 := HA.out
        have h2 := HAN.out
        obtain rfl : a = 0 := by omega
        rw [HE.out h])
      obtain ⟨l2, hl2⟩ : ∃ x, x = insl k a (a + 1) (n - (a + 1)) l' := ⟨_, rfl⟩
      rw [← hl2] at HC1 HST HE2
      have HLN := Lib.hid (HL.out.perm HST.out.2)
      have HPN := Lib.hid (HST.out.2.trans HP.out)
      have HSB := Lib.hid HST.out.1
      clear hl2 hbn HE HST HP HI HL HA HBA HAN
      go_wp2_with fail
      refine HC1.out.mono ?_
      rintro _ w1 ⟨rfl, hh, hbb⟩
      have HH1 := Lib.hid hh; have HB1 := Lib.hid hbb
      clear hh hbb HC1 HH HB t1
      go_wp2_with fail
      go_loopw [6, 7, 8, 9] (fun vz _ _ _ wq => ∃ (z : Nat) (l3 : List Nat), Hid (z = 20 ∨ z = 40 ∨ z = 80) ∧ vz = .int .i64 z ∧ Hid (Hd g l3 wq) ∧ Hid (Below g w0 wq) ∧ Hid (Lo n l3) ∧ Hid (l3.Perm l) ∧ Hid (SB k z n l3) ∧ Hid (n < 20 → l3 = insl k 0 1 (n - 1) l)) (fun vz _ _ _ _ => 200 - (intOf vz).toNat)
      case atStart => exact ⟨20, l2, Lib.hid (.inl rfl), rfl, HH1, HB1, HLN, HPN, HSB, HE2⟩
      case round =>
        clear HH1 HB1 HLN HPN HSB HE2
        obtain ⟨z, l3, HZ, rfl, HH, HB, HL, HP, HS, HE⟩ := hrel
        by_cases hzn : z < n
        · have t1 := lt_int hzn
          obtain ⟨hz, hz2, hz3, hn20, hz4, hz5⟩ := z_bd HZ.out hzn HN.out
          obtain ⟨zz, hzz⟩ : ∃ q, q = 2 * z := ⟨_, rfl⟩
          rw [← hzz] at hz2 hz3
          obtain ⟨m1, m2, m3, m4⟩ := mul2_fact hzz hz3
          have HZQ := Lib.hid hz; have HZ2 := Lib.hid hz2; have HZZ := Lib.hid hzz; have HN20 := Lib.hid hn20; have HZ4 := Lib.hid hz4; have HZ5 := Lib.hid hz5
          have HM1 := Lib.hid m1
          have HMB := Lib.hid (mb_zero HS.out)
          clear hz hz2 hz3 hn20 hz4 hz5 hzz hzn HE HS HZ
          go_wp2_with fail
          go_loopw [7, 8] (fun va vb wr => ∃ (c a b : Nat) (l' : List Nat), Hid (a = 2 * z * c) ∧ Hid (b = a + zz) ∧ Hid (a ≤ n) ∧ va = .int .i64 a ∧ vb = .int .i64 b ∧ Hid (Hd g l' wr) ∧ Hid (Below g w0 wr) ∧ Hid (Lo n l') ∧ Hid (l'.Perm l) ∧ Hid (MB k z n c l')) (fun _ vb _ => 200 - (intOf vb).toNat)
          case atStart => exact ⟨0, 0, zz, l3, Lib.hid rfl, Lib.hid (Nat.zero_add _).symm, Lib.hid (Nat.zero_le _), rfl, congrArg _ (by first | rfl | exact HM1.out), HH, HB, HL, HP, HMB⟩
          case round =>
            clear HH HB HL HP HMB
            obtain ⟨c, a, b, l', HA, HBA, HAN, rfl, rfl, HH, HB, HL, HP, HMB⟩ := hrel
            by_cases hbn : b ≤ n
            · have t2 := le_int hbn
              obtain ⟨v1, v2, v3, v4, v5, v6, v7⟩ := z2_bd HZQ.out HZZ.out HBA.out hbn HN.out
              obtain ⟨m, hm⟩ : ∃ q, q = a + z := ⟨_, rfl⟩
              obtain ⟨b2, hb2⟩ : ∃ q, q = b + zz := ⟨_, rfl⟩
              rw [← hm] at v1 v4 v5
              rw [← hb2] at v2
              obtain ⟨w1, w2⟩ := add_facts hm v1
              obtain ⟨w3, w4⟩ := add_facts hb2 v2
              have HC1 := Lib.hid (HSYM.out l' a m b v3 v4 v5 hbn HL.out wr HH.out HB.out)
              have HST := Lib.hid (mb_step (f := 200) HZQ.out HMB.out HA.out HL.out.1 (by rw [← HZZ.out, ← HBA.out]; exact hbn) (by rw [← HZZ.out]; exact Nat.le_trans (Nat.le_add_left _ _) (hb2 ▸ v2)))
              rw [← hm, ← HZZ.out, ← HBA.out] at HST
              obtain ⟨l2, hl2⟩ : ∃ x, x = sym k 200 a m b l' := ⟨_, rfl⟩
              rw [← hl2] at HC1 HST
              have HV6 := Lib.hid v6; have HV7 := Lib.hid v7; have HB2 := Lib.hid hb2; have HBN := Lib.hid hbn; have HW3 := Lib.hid w3
              have HA2 : Hid (b = 2 * z * (c + 1)) := Lib.hid (by rw [HBA.out, HA.out, HZZ.out, Nat.mul_add, Nat.mul_one])
              clear hm hb2 hl2 v1 v2 v3 v4 v5 v6 v7 hbn
              go_wp2_with fail
              refine HC1.out.mono ?_
              rintro _ wc ⟨rfl, hh, hbb⟩
              have HH1 := Lib.hid hh; have HB1 := Lib.hid hbb
              clear hh hbb HC1
              go_wp2_with fail
              go_roundw
              case rel => exact ⟨c + 1, b, b2, l2, HA2, HB2, HBN, rfl, congrArg _ (by first | rfl | exact HW3.out), HH1, HB1, Lib.hid (HL.out.perm HST.out.2), Lib.hid (HST.out.2.trans HP.out), Lib.hid HST.out.1⟩
              case measure => (try rw [HW3.out]); exact meas_b HB2.out HV7.out HV6.out
            · have t2 := nle_int hbn
              obtain ⟨v1, v2, v3, v4⟩ := z3_bd HZQ.out HZZ.out HBA.out HAN.out hbn HN.out
              obtain ⟨m, hm⟩ : ∃ q, q = a + z := ⟨_, rfl⟩
              by_cases hmn : m < n
              · have HST := Lib.hid (mb_end1 (f := 200) HZQ.out HMB.out HA.out HL.out.1 (hm ▸ hmn) v4 (by rcases HZQ.out with e | e <;> rw [e] <;> decide))
                rw [← hm] at v1 v3 HST
                obtain ⟨w1, w2⟩ := add_facts hm v1
                have t3 := lt_int hmn
                have HC1 := Lib.hid (HSYM.out l' a m n v2 v3 hmn (Nat.le_refl _) HL.out wr HH.out HB.out)
                obtain ⟨l2, hl2⟩ : ∃ x, x = sym k 200 a m n l' := ⟨_, rfl⟩
                rw [← hl2] at HC1 HST
                rw [← HZZ.out] at HST
                clear hm hl2 v1 v2 v3 v4 hbn hmn
                go_wp2_with fail
                refine HC1.out.mono ?_
                rintro _ wc ⟨rfl, hh, hbb⟩
                have HH1 := Lib.hid hh; have HB1 := Lib.hid hbb
                clear hh hbb HC1
                go_wp2_with fail
                go_roundw
                case rel => exact ⟨zz, l2, HZ2, congrArg _ (by first | rfl | exact HM1.out), HH1, HB1, Lib.hid (HL.out.perm HST.out.2), Lib.hid (HST.out.2.trans HP.out), Lib.hid HST.out.1, Lib.hid (fun h => absurd h HN20.out)⟩
                case measure => (try rw [HM1.out]); exact meas_b (HZZ.out.trans (Nat.two_mul z)) HZ5.out HZ4.out
              · have HST := Lib.hid (mb_end2 HZQ.out HMB.out HA.out HAN.out (hm ▸ Nat.not_lt.1 hmn))
                rw [← hm] at v1
                obtain ⟨w1, w2⟩ := add_facts hm v1
                have t3 : ¬ (m : Int) < n := fun h => hmn (Int.ofNat_lt.1 h)
                rw [← HZZ.out] at HST
                clear hm v1 v2 v3 v4 hbn hmn
                go_wp2_with fail
                go_roundw
                case rel => exact ⟨zz, l', HZ2, congrArg _ (by first | rfl | exact HM1.out), HH, HB, HL, HP, HST, Lib.hid (fun h => absurd h HN20.out)⟩
                case measure => (try rw [HM1.out]); exact meas_b (HZZ.out.trans (Nat.two_mul z)) HZ5.out HZ4.out
        · have t1 : ¬ (z : Int) < n := fun h => hzn (Int.ofNat_lt.1 h)
          have HR := Lib.hid (sb_end HS.out (Nat.not_lt.1 hzn))
          clear hzn
          go_wp2_with fail
          go_end0
          exact ⟨rfl, HB.out, l3, HH.out, HP.out, HR.out, HE.out⟩
end Go.Proofs.Ythmcnopogahffaa
