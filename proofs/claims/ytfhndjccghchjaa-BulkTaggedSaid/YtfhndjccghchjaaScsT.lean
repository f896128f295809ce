/- The law ScsiBack, walked. -/
import Derived.Test.YtfhndjccghchjaaScsM
import Derived.Test.YtfhndjccghchjaaScsS
namespace Go.Proofs.Ytfhndjccghchjaa
open Go.RowKit Go.Proofs.Ytfhndjccghchjaa.Scs
open Classical in
noncomputable def mkE (a n : Int) : Int := if OkMk a n then 0 else 1
open Classical in
noncomputable def mkC (z a n : Int) : ByteArray := if OkMk a n then mk z.toNat a.toNat n.toNat else ByteArray.empty
theorem make_any (z a n : Int) (hz : z = 40 ∨ z = 42) (w : World) :
    Calls Try.prog 21 #[.int .i64 z, .int .i64 a, .int .i64 n] w fun e w' => e = .returned (.tuple #[.string (mkC z a n), .int .i64 (mkE a n)]) ∧ Below w.heap.size w w' := by
  by_cases h : OkMk a n
  · have e0 : mkE a n = 0 := if_pos h
    have e1 : mkC z a n = mk z.toNat a.toNat n.toNat := if_pos h
    rw [e0, e1]
    rcases hz with rfl | rfl
    · exact make_calls40 a n h w
    · exact make_calls42 a n h w
  · have e0 : mkE a n = 1 := if_neg h
    have e1 : mkC z a n = ByteArray.empty := if_neg h
    rw [e0, e1]
    exact (make_bad z a n hz h w).mono fun e w' q => ⟨q.1, q.2 ▸ Below.refl _ _⟩
theorem w1_in {k L : Nat} (h : k < L) (hL : L ≤ 8796093022208) : wrap64 ((k : Int) + 1) = ((k + 1 : Nat) : Int) := by unfold wrap64; omega
theorem next_j {k L : Nat} (h : k < L) : L - (intOf (.int .i64 ((k + 1 : Nat) : Int))).toNat < L - (intOf (.int .i64 (k : Int))).toNat := by
  simp only [intOf]
  omega
theorem bk_case {a n : Int} {ka kn k : Nat} {X bs : List ByteArray} {p : ByteArray} (h1 : OkMk a n) (h2 : a.toNat = ka ∧ n.toNat = kn) (h3 : X[k]? = if ka ≤ k ∧ k < ka + kn then some p else bs[k]?) :
    ∃ ba, IntKind.i64.wrap (a + n) = ba ∧ ((¬ (k : Int) < a ∧ ¬ ba ≤ k) ∨ ((k : Int) < a ∨ (¬ (k : Int) < a ∧ ba ≤ k)) ∧ X[k]? = bs[k]?) := by
  unfold OkMk at h1
  refine ⟨a + n, by rw [show a + n = ((ka + kn : Nat) : Int) by omega, wr_in _ (by omega)], ?_⟩
  by_cases hin : ka ≤ k ∧ k < ka + kn
  · left; omega
  · right; rw [if_neg hin] at h3; exact ⟨by omega, h3⟩
theorem did_zero {bs : List ByteArray} {s : Int} {c d : ByteArray} (h : (did bs s c d).2.2.2 = 0) : OkD bs s := by
  by_cases ok : OkD bs s
  · exact ok
  · obtain ⟨e, h0, _⟩ := did_bad ok c d
    rw [e] at h
    exact absurd h h0
set_option maxRecDepth 100000 in
set_option maxHeartbeats 3200000 in
theorem back_calls (bs : List ByteArray) (s a n : Int) (d : ByteArray) (A : Option Addr) (cap : Nat) (w : World) (h : DkA w A cap bs) (hn : bs.length ≤ 8796093022208) :
    Calls Try.prog 7 #[dkV A cap bs s, .int .i64 a, .int .i64 n, .string d] w fun e w' => e = .returned (.bool true) ∧ Below w.heap.size w w' := by
  have HA := Lib.hid h
  have HN := Lib.hid hn
  clear h hn
  unfold dkV
  go_enter Try.func7, Try.ntmps7
  go_wp2_with fail
  refine (make_any 42 a n (.inr rfl) _).mono ?_
  rintro e w1 ⟨rfl, hb1⟩
  have HR1 := Lib.hid (Kt.box1 hb1)
  have HB1 := Lib.hid (Kt.bthen (Kt.balloc (Below.refl _ w) _) hb1)
  clear hb1
  go_wp2_with fail
  refine (make_any 40 a n (.inl rfl) _).mono ?_
  rintro e w2 ⟨rfl, hb⟩
  have HR2 := Lib.hid (Kt.row_on hb HR1.out)
  have HB2 := Lib.hid (Kt.bthen HB1.out hb)
  clear hb HR1 HB1
  by_cases hok : OkMk a n
  · have e0 : mkE a n = 0 := if_pos hok
    have e1 : mkC 42 a n = mk 42 a.toNat n.toNat := if_pos hok
    have e2 : mkC 40 a n = mk 40 a.toNat n.toNat := if_pos hok
    rw [e0, e1, e2]
    clear e0 e1 e2
    have HO := Lib.hid hok
    clear hok
    obtain ⟨ka, hka⟩ : ∃ k : Nat, a.toNat = k := ⟨_, rfl⟩
    obtain ⟨kn, hkn⟩ : ∃ k : Nat, n.toNat = k := ⟨_, rfl⟩
    have HK := Lib.hid (And.intro hka hkn)
    rw [hka, hkn]
    clear hka hkn
    go_wp2_with fail
    refine (slives_calls _).mono ?_
    rintro e w3 ⟨rfl, hb⟩
    have HB3 := Lib.hid (Kt.bthen HB2.out hb)
    have HR3 := Lib.hid (Kt.row_on hb HR2.out)
    have q := fun i => cell_of_row _ _ i _ _ _ HR3.out
    clear hb HB2 HR2
    go_wp2_with fail
    refine (Do_calls bs s (mk 42 ka kn) d A cap _ (HA.out.on HB3.out) HN.out).mono ?_
    rintro e w4 hdo
    obtain ⟨A4, cap4, rfl, hda, hb⟩ := hdo.open
    have HB4 := Lib.hid (Kt.bthen HB3.out hb)
    have HR4 := Lib.hid (Kt.row_on hb HR3.out)
    have HA4 := Lib.hid hda
    clear hdo hda hb q HR3 HB3
    have hkeep := did_keeps bs s (mk 42 ka kn) d
    by_cases hc0 : (did bs s (mk 42 ka kn) d).2.2.2 = 0
    · have hgo := did_zero hc0
      have hak : ka < 4294967296 := by have h1 := HO.out; have h2 := HK.out; unfold OkMk at h1; omega
      have hnk : kn < 65536 := by have h1 := HO.out; have h2 := HK.out; unfold OkMk at h1; omega
      obtain ⟨hle, hds, hd⟩ := did_write hgo hak hnk hc0
      have hop := putB_ok hgo ka d kn hle hds
      have hpl := putB_len bs ka d kn hle
      have hrd := did_read hop ka kn ByteArray.empty hak hnk (by omega)
      rw [joinS_back bs ka d kn hle hds] at hrd
      have HG := Lib.hid (fun i => putB_get bs ka d kn hle i)
      obtain ⟨X, hX⟩ : ∃ X, putB bs ka d kn = X := ⟨_, rfl⟩
      rw [hX] at hop hpl hrd HG hd
      rw [hd] at HA4 ⊢
      clear hkeep hc0 hd
      have HS := Lib.hid (And.intro hak (And.intro hnk (And.intro hle (And.intro hds hpl))))
      have HD := Lib.hid hrd
      have HL := Lib.hid hgo.n2
      clear hX hop hrd hgo hak hnk hle hds hpl
      unfold dkV
      have qr := HR4.out
      go_wp2_with fail
      have hal := Kt.balloc (Below.refl _ w4) (.cells #[.slice A4 X.length cap4, .int .i64 0] 38)
      refine (Do_calls X 0 (mk 40 ka kn) ByteArray.empty A4 cap4 _ (HA4.out.on hal) (by have := HS.out.2.2.2.2; have := HL.out; omega)).mono ?_
      rintro e w5 hdo
      obtain ⟨A5, cap5, rfl, hda, hb⟩ := hdo.open
      rw [HD.out] at hda ⊢
      have HB5 := Lib.hid (Kt.bthen HB4.out (Kt.bthen hal hb))
      have HR5 := Lib.hid (Kt.row_on (Kt.bthen hal hb) HR4.out)
      have HRA := Lib.hid (Kt.box1 hb)
      have HX5 := Lib.hid (HA4.out.on (Kt.bthen hal hb))
      have HA5 := Lib.hid hda
      clear hdo hda hb hal HD HR4 HB4 HA4 qr
      unfold dkV
      have q := fun i => cell_of_row _ _ i _ _ _ HR5.out
      have q1 := fun i => cell_of_row _ _ i _ _ _ HRA.out
      have lt1 := lt_of_row HR5.out
      have lt2 := lt_of_row HRA.out
      go_wp2_with fail
      have hal := Kt.balloc (Below.refl _ w5) (.cells #[.slice A5 X.length cap5, .int .i64 0] 38)
      refine (sdisk_true A4 A5 cap4 cap5 X 0 _ (HX5.out.on hal) (HA5.out.on hal) (by have := HS.out.2.2.2.2; have := HL.out; omega)).mono ?_
      rintro e w6 ⟨rfl, hb⟩
      have hb := Kt.bthen hal hb
      have HB6 := Lib.hid (Kt.bthen HB5.out hb)
      have HR6 := Lib.hid (Kt.row_on hb HR5.out)
      have HRA6 := Lib.hid (Kt.row_on hb HRA.out)
      have HX6 := Lib.hid (HX5.out.on hb)
      have HA6 := Lib.hid (HA.out.on HB6.out)
      clear hb hal HA5 HB5 HR5 HRA HX5 q q1 lt1 lt2
      have q := fun i => cell_of_row _ _ i _ _ _ HR6.out
      have q1 := fun i => cell_of_row _ _ i _ _ _ HRA6.out
      have fxl : ((X.length : Int) != (bs.length : Int)) = false := by rw [HS.out.2.2.2.2]; simp
      go_wp2_with fail
      go_loopw [105] (fun ii wr => ∃ k : Nat, ii = .int .i64 k ∧ Hid (k ≤ bs.length) ∧ Hid (Below w6.heap.size w6 wr)) (fun ii _ => bs.length - (intOf ii).toNat)
      case atStart => exact ⟨0, rfl, Lib.hid (Nat.zero_le _), Lib.hid (Below.refl _ _)⟩
      case round =>
        clear q q1 fxl
        obtain ⟨k, rfl, HKK, HW⟩ := hrel
        by_cases hk : k < bs.length
        · have hk' : (k : Int) < bs.length := by omega
          obtain ⟨ba, hwr, hcase⟩ := bk_case HO.out HK.out (HG.out k)
          have q := fun i => cell_of_row _ _ i _ _ _ (Kt.row_on HW.out HR6.out)
          have q1 := fun i => cell_of_row _ _ i _ _ _ (Kt.row_on HW.out HRA6.out)
          rcases hcase with ⟨h1, h2⟩ | ⟨h12, he⟩
          · have d1 : decide ((k : Int) < a) = false := decide_eq_false h1
            have d2 : decide (ba ≤ (k : Int)) = false := decide_eq_false h2
            go_wp2_with fail
            go_quiet (fail)
            go_wp2_with fail
            have hw1 := w1_in hk HN.out
            exact ⟨⟨k + 1, by rw [hw1], Lib.hid (Nat.succ_le_of_lt hk), Lib.hid (bdrewN HW.out _)⟩, by rw [hw1]; exact next_j hk⟩
          · have hkX : k < X.length := by rw [HS.out.2.2.2.2]; exact hk
            have hkX' : (k : Int) < X.length := Int.ofNat_lt.2 hkX
            rw [List.getElem?_eq_getElem hkX, List.getElem?_eq_getElem hk, Option.some.injEq] at he
            obtain ⟨_, _, e1, _, hx1⟩ := (HX6.out.on HW.out).form
            obtain ⟨_, _, e2, _, hx2⟩ := (HA6.out.on (HW.out)).form
            cases e1; cases e2
            obtain ⟨g1, o1, rfl, _, hc1⟩ := hx1 (Nat.lt_of_le_of_lt (Nat.zero_le _) hkX)
            obtain ⟨g2, o2, rfl, _, hc2⟩ := hx2 (Nat.lt_of_le_of_lt (Nat.zero_le _) hk)
            have c1 : wr.cell? ⟨g1, o1 + k, none⟩ = some (.string X[k]) := by
              rw [hc1 k (by rw [sts_len]; exact hkX)]; simp [sts, hkX]
            have c2 : wr.cell? ⟨g2, o2 + k, none⟩ = some (.string X[k]) := by
              rw [hc2 k (by rw [sts_len]; exact hk), he]; simp [sts, hk]
            clear hx1 hx2 hc1 hc2 he
            generalize X[k] = xk at *
            rcases h12 with h1 | ⟨h1, h2⟩
            · have d1 : decide ((k : Int) < a) = true := decide_eq_true h1
              go_wp2_with fail
              go_quiet (fail)
              go_wp2_with fail
              have hw1 := w1_in hk HN.out
              exact ⟨⟨k + 1, by rw [hw1], Lib.hid (Nat.succ_le_of_lt hk), Lib.hid (bdrewN HW.out _)⟩, by rw [hw1]; exact next_j hk⟩
            · have d1 : decide ((k : Int) < a) = false := decide_eq_false h1
              have d2 : decide (ba ≤ (k : Int)) = true := decide_eq_true h2
              go_wp2_with fail
              go_quiet (fail)
              go_wp2_with fail
              have hw1 := w1_in hk HN.out
              exact ⟨⟨k + 1, by rw [hw1], Lib.hid (Nat.succ_le_of_lt hk), Lib.hid (bdrewN HW.out _)⟩, by rw [hw1]; exact next_j hk⟩
        · have hk' : ¬ (k : Int) < bs.length := by omega
          go_wp2_with fail
          go_ret
          exact ⟨rfl, Kt.bthen HB6.out HW.out⟩
    · obtain ⟨b, s1, o, code, hd⟩ : ∃ b t o code, did bs s (mk 42 ka kn) d = (b, t, o, code) := ⟨_, _, _, _, rfl⟩
      rw [hd] at HA4 hkeep hc0 ⊢
      have ho := hkeep.2.1 hc0
      have hbs : b = bs := hkeep.2.2.resolve_left (fun q => hc0 q.1)
      have hc1 : (code != 0) = true := by rw [bne_iff_ne]; exact hc0
      change b = bs at hbs
      change o = ByteArray.empty at ho
      subst hbs ho
      clear hkeep hd hc0
      unfold dkV
      by_cases h14 : code = 14
      · subst h14
        have q := fun i => cell_of_row _ _ i _ _ _ HR4.out
        have hlt := lt_of_row HR4.out
        go_wp2_with fail
        have hal := Kt.balloc (Below.refl _ w4) (.cells #[.slice A4 b.length cap4, .int .i64 s1] 38)
        refine (eqs_true A4 A cap4 cap b _ (HA4.out.on hal) (HA.out.on (Kt.bthen HB4.out hal)) (by have := HN.out; omega)).mono ?_
        rintro e w5 ⟨rfl, hb⟩
        have HB5 := Lib.hid (Kt.bthen (Kt.bthen HB4.out hal) hb)
        clear hb hal
        go_wp2_with fail
        go_ret
        exact ⟨rfl, HB5.out⟩
      · have h14' : (code != 14) = true := by rw [bne_iff_ne]; exact h14
        have q := fun i => cell_of_row _ _ i _ _ _ HR4.out
        have hlt := lt_of_row HR4.out
        clear h14
        go_wp2_with fail
        go_ret
        exact ⟨rfl, Kt.bthen HB4.out (Kt.balloc (Below.refl _ _) _)⟩
  · have e0 : mkE a n = 1 := if_neg hok
    rw [e0]
    clear e0
    go_wp2_with fail
    refine (slives_calls _).mono ?_
    rintro e w3 ⟨rfl, hb⟩
    have HB3 := Lib.hid (Kt.bthen HB2.out hb)
    clear hb
    go_wp2_with fail
    refine (slives_calls _).mono ?_
    rintro e w4 ⟨rfl, hb⟩
    have HB4 := Lib.hid (Kt.bthen HB3.out hb)
    clear hb
    go_wp2_with fail
    go_ret
    exact ⟨rfl, HB4.out⟩
theorem back_walk (v0 v1 v2 v3 : Value) (w : World) (r0 : Fr.RdV w reachBytes (.cat 1 (.slice 1 .string) (.cat 1 (.int .i64) .nil)) v0) (r1 : Fr.RdV w reachBytes (.int .i64) v1) (r2 : Fr.RdV w reachBytes (.int .i64) v2) (r3 : Fr.RdV w reachBytes .string v3)
    (m1 : ∀ (cs : Array Value) a l c, v0 = .agg cs → (cs.toList.drop 0).take 1 = [.slice a l c] → l * Try.prog.bytesOf 9 ≤ reachBytes) :
    Calls Try.prog 7 #[v0, v1, v2, v3] w fun e w' => e = .returned (.bool true) ∧ Below w.heap.size w w' := by
  obtain ⟨A, cap, bs, s, rfl, hd⟩ := dk_of r0
  obtain ⟨a, e1, _⟩ := r1; cases e1
  obtain ⟨n, e2, _⟩ := r2; cases e2
  obtain ⟨d, e3, _⟩ := r3; cases e3
  have hby : Try.prog.bytesOf 9 = 16 := by kernel_rfl
  have hR : reachBytes ≤ 140737488355328 := by unfold reachBytes; omega
  have b1 := m1 _ A bs.length cap rfl rfl
  rw [hby] at b1
  exact back_calls bs s a n d A cap w hd (by omega)
end Go.Proofs.Ytfhndjccghchjaa
