/- KeysTurns walked. -/
import Derived.Test.YtfcmmeapinppaaaKeyH
import Derived.Test.YtfcmmeapinppaaaKeyQ
namespace Go.Proofs.Ytfcmmeapinppaaa
open Go.RowKit
theorem mods_has (b : UInt8) (d : Nat) (hd : d < 224) : ∀ k, k ≤ 8 → (mods b k).has d = false
  | 0, _ => by
    rw [Hd.has_bit]
    have : (Hd.zero.at (d / 64)).toNat = 0 := by
      match d / 64 with
      | 0 => rfl
      | 1 => rfl
      | 2 => rfl
      | _ + 3 => rfl
    show (Hd.zero.at (d / 64)).toNat.testBit _ = false
    rw [this, Nat.zero_testBit]
  | k + 1, hk => by
    have ih := mods_has b d hd k (by omega)
    unfold mods
    split
    · rw [Hd.add_has _ _ _ (by omega) (by omega), ih, decide_eq_false (by omega)]; rfl
    · exact ih
theorem readR_ok (l : List UInt8) (g : Hd) (h : readR l = (g, 0)) : g.ok := by
  match l, h with
  | [a, b, c2, c3, c4, c5, c6, c7], h =>
    have h : (Rs.run ⟨mods a 8, false, b != 0⟩ [c2, c3, c4, c5, c6, c7]).out = (g, 0) := h
    unfold Rs.out at h
    split at h
    · cases h
    · split at h
      · cases h
      · injection h with h _
        intro c hc
        rw [← h, Rs.run_has c (by omega), mods_has a c (by omega) 8 (by omega), decide_eq_false (by omega)]; rfl
  | [], h | [_], h | [_, _], h | [_, _, _], h | [_, _, _, _], h | [_, _, _, _, _], h | [_, _, _, _, _, _], h | [_, _, _, _, _, _, _], h => simp [readR] at h
  | _ :: _ :: _ :: _ :: _ :: _ :: _ :: _ :: _ :: t, h =>
    rw [read_size _ (by simp)] at h
    injection h with _ h
    split at h <;> cases h
theorem appR_app (l m : List (Fin 256 × Bool)) : ∀ (h g : Hd), appR h l = (g, 0) → appR h (l ++ m) = appR g m := by
  induction l with
  | nil => intro h g e; cases e; rfl
  | cons x l ih =>
    intro h g e
    have e : (if x.1.val < 4 then (Hd.zero, 1) else if h.has x.1.val = x.2 then (Hd.zero, 13) else appR (h.flip x.1.val) l) = (g, 0) := e
    show (if x.1.val < 4 then (Hd.zero, 1) else if h.has x.1.val = x.2 then (Hd.zero, 13) else appR (h.flip x.1.val) (l ++ m)) = _
    split at e
    · cases e
    · split at e
      · cases e
      · rw [if_neg (by assumption), if_neg (by assumption)]
        exact ih _ _ e
theorem feed_app (ss : List ByteArray) : ∀ h : Hd, h.ok → appR h (feedR h ss).2.1 = ((feedR h ss).1, 0) := by
  induction ss with
  | nil => intro h _; rfl
  | cons s ss ih =>
    intro h hok
    by_cases e : (readR s.data.toList).2 = 0
    · have hr : readR s.data.toList = ((readR s.data.toList).1, 0) := by rw [← e]
      have hok2 := readR_ok _ _ hr
      have : feedR h (s :: ss) = ((feedR (readR s.data.toList).1 ss).1, diffR h (readR s.data.toList).1 ++ (feedR (readR s.data.toList).1 ss).2.1, (feedR (readR s.data.toList).1 ss).2.2) := if_pos e
      rw [this]
      rw [appR_app _ _ _ _ (appR_diff h _ hok hok2)]
      exact ih _ hok2
    · have : feedR h (s :: ss) = ((feedR h ss).1, (feedR h ss).2.1, (feedR h ss).2.2 + 1) := if_neg e
      rw [this]
      exact ih _ hok
theorem appR_step (g G : Hd) (x : Fin 256 × Bool) (l : List (Fin 256 × Bool)) (h : appR g (x :: l) = (G, 0)) : g.has x.1.val ≠ x.2 ∧ appR (g.flip x.1.val) l = (G, 0) := by
  have e : (if x.1.val < 4 then (Hd.zero, 1) else if g.has x.1.val = x.2 then (Hd.zero, 13) else appR (g.flip x.1.val) l) = (G, 0) := h
  split at e
  · cases e
  · split at e
    · cases e
    · exact ⟨by assumption, e⟩
theorem turn_same (g : Hd) (x : Fin 256 × Bool) (c : Nat) (hc : c < 256) (hx : g.has x.1.val ≠ x.2) (e : x.1.val = c) : g.has c ≠ x.2 ∧ (g.flip x.1.val).has c = x.2 := by
  subst e
  refine ⟨hx, ?_⟩
  rw [Hd.flip_has _ _ _ hc hc, decide_eq_true rfl]
  cases h1 : g.has x.1.val <;> cases h2 : x.2 <;> simp_all
theorem turn_other (g : Hd) (x : Fin 256 × Bool) (c : Nat) (hc : c < 256) (e : x.1.val ≠ c) : (g.flip x.1.val).has c = g.has c := by
  rw [Hd.flip_has _ _ _ x.1.isLt hc, decide_eq_false e]
  cases g.has c <;> rfl
set_option maxRecDepth 100000 in
set_option maxHeartbeats 1600000 in
theorem turns_calls (x : Hd) (ss : List ByteArray) (V : Value) (w : World) (hv : Kt.Ar w V 1 ss.length (sts ss)) (hm : ss.length ≤ 4194304) : Calls Try.prog 6 #[x.v, V] w fun e w' => e = .returned (.bool true) ∧ Below w.heap.size w w' := by
  obtain ⟨A0, c0, rfl, _, _⟩ := hv.form
  have HV := Lib.hid hv
  have HM := Lib.hid hm
  clear hv hm
  unfold Hd.v
  go_enter Try.func6, Try.ntmps6
  unfold Hd.vs
  go_upto_region 2 with (fail)
  have HA0 : Hid ((w.alloc (.cells #[.int .u64 (bits BinOp.andNot IntKind.u64 (x.a.toNat : Int) 15), .int .u64 (x.b.toNat : Int), .int .u64 (x.c.toNat : Int), .int .u64 (x.d.toNat : Int)] 27)).heap[w.heap.size]? = some (.cells x.clr.vs 27 (0, 0))) := Lib.hid (by
    rw [clr_bits]
    exact heap_alloc_new w _)
  have HB0 := Lib.hid (Kt.balloc (Below.refl _ w) (.cells #[.int .u64 (bits BinOp.andNot IntKind.u64 (x.a.toNat : Int) 15), .int .u64 (x.b.toNat : Int), .int .u64 (x.c.toNat : Int), .int .u64 (x.d.toNat : Int)] 27))
  generalize w.alloc (.cells #[.int .u64 (bits BinOp.andNot IntKind.u64 (x.a.toNat : Int) 15), .int .u64 (x.b.toNat : Int), .int .u64 (x.c.toNat : Int), .int .u64 (x.d.toNat : Int)] 27) = w0 at *
  obtain ⟨X, hX⟩ : ∃ X, x.clr = X := ⟨_, rfl⟩
  have HOX : Hid X.ok := Lib.hid (by rw [← hX]; exact clr_ok x)
  rw [hX] at HA0
  clear hX
  obtain ⟨⟨Y, l, n⟩, hF⟩ : ∃ r, feedR X ss = r := ⟨_, rfl⟩
  have HF := Lib.hid (feed_calls X ss (.slice A0 ss.length c0) w0 (HV.out.on HB0.out) HM.out)
  have happ := feed_app ss X HOX.out
  rw [hF] at HF happ
  have HAPP := Lib.hid happ
  have HA := Lib.hid (fun V W => apply_calls X l V W)
  rw [happ] at HA
  clear hF happ
  have hh := HA0.out
  unfold Hd.vs at hh
  have p1 := fun i => cell_of_row _ _ i _ _ _ hh
  clear hh
  simp only [Hd.v, Hd.vs] at HF HA
  go_wp2_with fail
  refine HF.out.mono ?_
  rintro e w1 ⟨U, rfl, hsl, hlen, hn, hb⟩
  obtain ⟨AU, cU, rfl, _⟩ := hsl.form
  have HSL := Lib.hid hsl
  have HLEN := Lib.hid hlen
  have HN := Lib.hid hn
  have HA1 := Lib.hid (Kt.row_on hb HA0.out)
  have HB1 := Lib.hid (Kt.bthen HB0.out hb)
  clear hsl hlen hn hb HF HA0 HB0 p1
  have HA2 := Lib.hid (Kt.row_on (Kt.balloc (Below.refl _ w1) (.cells #[.int .u64 (Y.a.toNat : Int), .int .u64 (Y.b.toNat : Int), .int .u64 (Y.c.toNat : Int), .int .u64 (Y.d.toNat : Int)] 27)) HA1.out)
  have HY2 := Lib.hid (heap_alloc_new w1 (.cells #[.int .u64 (Y.a.toNat : Int), .int .u64 (Y.b.toNat : Int), .int .u64 (Y.c.toNat : Int), .int .u64 (Y.d.toNat : Int)] 27))
  have HB2 := Lib.hid (Kt.balloc HB1.out (.cells #[.int .u64 (Y.a.toNat : Int), .int .u64 (Y.b.toNat : Int), .int .u64 (Y.c.toNat : Int), .int .u64 (Y.d.toNat : Int)] 27))
  have HS2 := Lib.hid (HSL.out.alloc (.cells #[.int .u64 (Y.a.toNat : Int), .int .u64 (Y.b.toNat : Int), .int .u64 (Y.c.toNat : Int), .int .u64 (Y.d.toNat : Int)] 27))
  have HAP := Lib.hid (HA.out _ _ (Kt.Ar.of_sl HS2.out) (by have := HM.out; have := HLEN.out; omega))
  clear HA HA1 HB1 HSL
  have hh := HA2.out
  unfold Hd.vs at hh
  have p1 := fun i => cell_of_row _ _ i _ _ _ hh
  clear hh
  go_upto_region 3 with (fail)
  generalize w1.heap.size = B at *
  generalize w1.alloc (.cells #[.int .u64 (Y.a.toNat : Int), .int .u64 (Y.b.toNat : Int), .int .u64 (Y.c.toNat : Int), .int .u64 (Y.d.toNat : Int)] 27) = w2 at *
  go_wp2_with fail
  refine HAP.out.mono ?_
  rintro e w3 ⟨rfl, hb⟩
  have HA3 := Lib.hid (Kt.row_on hb HA2.out)
  have HY3 := Lib.hid (Kt.row_on hb HY2.out)
  have HS3 := Lib.hid (HS2.out.on hb)
  have HB3 := Lib.hid (Kt.bthen HB2.out hb)
  clear hb HAP HA2 HY2 HB2 HS2 p1
  go_upto_region 4 with (fail)
  have HA4 := Lib.hid (Kt.row_on (Kt.balloc (Below.refl _ w3) (.cells #[.int .u64 (Y.a.toNat : Int), .int .u64 (Y.b.toNat : Int), .int .u64 (Y.c.toNat : Int), .int .u64 (Y.d.toNat : Int)] 27)) HA3.out)
  have HY4 := Lib.hid (Kt.row_on (Kt.balloc (Below.refl _ w3) (.cells #[.int .u64 (Y.a.toNat : Int), .int .u64 (Y.b.toNat : Int), .int .u64 (Y.c.toNat : Int), .int .u64 (Y.d.toNat : Int)] 27)) HY3.out)
  have HX4 := Lib.hid (heap_alloc_new w3 (.cells #[.int .u64 (Y.a.toNat : Int), .int .u64 (Y.b.toNat : Int), .int .u64 (Y.c.toNat : Int), .int .u64 (Y.d.toNat : Int)] 27))
  have HB4 := Lib.hid (Kt.balloc HB3.out (.cells #[.int .u64 (Y.a.toNat : Int), .int .u64 (Y.b.toNat : Int), .int .u64 (Y.c.toNat : Int), .int .u64 (Y.d.toNat : Int)] 27))
  have HS4 := Lib.hid (HS3.out.alloc (.cells #[.int .u64 (Y.a.toNat : Int), .int .u64 (Y.b.toNat : Int), .int .u64 (Y.c.toNat : Int), .int .u64 (Y.d.toNat : Int)] 27))
  clear HA3 HY3 HB3 HS3
  generalize w3.heap.size = C at *
  generalize w3.alloc (.cells #[.int .u64 (Y.a.toNat : Int), .int .u64 (Y.b.toNat : Int), .int .u64 (Y.c.toNat : Int), .int .u64 (Y.d.toNat : Int)] 27) = w4 at *
  have EN := neq_hd Y Y
  rw [decide_eq_true rfl] at EN
  have GN := fun x y => guard_hd_n x y Y Y
  simp only [Hd.v, Hd.vs] at EN GN
  have n0 : (0 : Int) ≤ n := by omega
  have n1 : (n : Int) ≤ ss.length := by have := HN.out; omega
  go_wp2_with fail
  refine (lives_calls _).mono ?_
  rintro e w5 ⟨rfl, hb⟩
  have HA5 := Lib.hid (Kt.row_on hb HA4.out)
  have HY5 := Lib.hid (Kt.row_on hb HY4.out)
  have HX5 := Lib.hid (Kt.row_on hb HX4.out)
  have HS5 := Lib.hid (HS4.out.on hb)
  have HB5 := Lib.hid (Kt.bthen HB4.out hb)
  clear hb HA4 HY4 HX4 HB4 HS4
  have q1 := fun i => cell_of_row _ _ i _ _ _ HY5.out
  have q2 := fun i => cell_of_row _ _ i _ _ _ HX5.out
  go_wp2_with fail
  clear q1 q2 EN GN HY5 HX5 n0 n1 HN
  have HR5 := Lib.hid (Kt.Ar.of_sl HS5.out)
  have HL5 : Hid (l.length ≤ 4294967296) := Lib.hid (by have := HM.out; have := HLEN.out; omega)
  clear HS5 HLEN HV HM
  generalize w0.heap.size = z0 at *
  generalize decide (ss.length < n) = bq1
  generalize decide ((n : Int) < 0) = bq2
  go_loopw [10] (fun i wr => ∃ (c : Nat), 4 ≤ c ∧ c ≤ 256 ∧ i = .int .i64 c ∧ Hid (Below w5.heap.size w5 wr)) (fun i _ => 256 - (intOf i).toNat)
  case atStart => exact ⟨4, Nat.le_refl _, by omega, rfl, Lib.hid (Below.refl _ _)⟩
  case round =>
    obtain ⟨c, hc4, hc, rfl, HB⟩ := hrel
    by_cases hlt : c < 256
    · have HHK := Lib.hid (fun W => haskey_calls X c hlt W)
      have hh := Kt.row_on HB.out HA5.out
      unfold Hd.vs at hh
      have p1 := fun i => cell_of_row _ _ i _ _ _ hh
      clear hh
      unfold Hd.v Hd.vs at HHK
      have HC := Lib.hid (And.intro hlt hc4)
      have k1 : (c : Int) < 256 := by omega
      clear hlt hc hc4
      go_wp2_with fail
      refine (HHK.out _).mono ?_
      rintro e w6 ⟨rfl, hb⟩
      have HB6 := Lib.hid (Kt.bthen HB.out hb)
      clear hb HHK p1 HB
      go_wp2_with fail
      go_loopw [63, 11] (fun i d wr => ∃ (j : Nat) (g : Hd), j ≤ l.length ∧ i = .int .i64 j ∧ d = .bool (g.has c) ∧ Hid (appR g (l.drop j) = (Y, 0)) ∧ Hid (Below w5.heap.size w5 wr)) (fun i _ _ => l.length - (intOf i).toNat)
      case atStart => exact ⟨0, X, Nat.zero_le _, rfl, rfl, HAPP, HB6⟩
      case round =>
        clear HB6
        obtain ⟨j, g, hj, rfl, rfl, HAP, HB⟩ := hrel
        by_cases hjl : j < l.length
        · have har := HR5.out.on HB.out
          obtain ⟨A1, c1, hVe, _, hcx⟩ := har.form
          cases hVe
          obtain ⟨b, o, rfl, hbz, hcell⟩ := hcx (by omega)
          obtain ⟨i1, i2⟩ := kv_at l j hjl
          have hcx : ∀ t u, (kv l)[t]? = some u → wr.cell? ⟨b, o + t, none⟩ = some u := fun t u ht => by
            obtain ⟨hj1, rfl⟩ := List.getElem?_eq_some_iff.1 ht
            exact hcell t hj1
          have x0 := hcx _ _ i1
          have x1 := hcx _ _ i2
          rw [← Nat.add_assoc] at x1
          have hap := HAP.out
          rw [List.drop_eq_getElem_cons hjl] at hap
          obtain ⟨hne, hnx⟩ := appR_step _ _ _ _ hap
          have HT : Hid (l[j].1.val = c → g.has c ≠ l[j].2 ∧ (g.flip l[j].1.val).has c = l[j].2) := Lib.hid (turn_same g l[j] c HC.out.1 hne)
          have HO : Hid (l[j].1.val ≠ c → (g.flip l[j].1.val).has c = g.has c) := Lib.hid (turn_other g l[j] c HC.out.1)
          have HNX := Lib.hid hnx
          have hx6 := l[j].1.isLt
          generalize l[j].1.val = cc at *
          generalize l[j].2 = dd at *
          have HB7 := Lib.hid (Kt.balloc HB.out (.cells #[.int .i64 (cc : Int), .bool dd] 47))
          have ek : (j : Int) < l.length := by omega
          have ek0 : (0 : Int) ≤ j := by omega
          clear hcell hcx i1 i2 hap hne hnx har HAP HB
          by_cases hcc : cc = c
          · obtain ⟨t1, t2⟩ := HT.out hcc
            subst hcc
            have HT2 := Lib.hid t2
            have e1 : ((cc : Int) == cc) = true := by simp
            obtain ⟨hg, hgq⟩ : ∃ q, g.has cc = q := ⟨_, rfl⟩
            rw [hgq] at t1
            have e2 : (dd == hg) = false := by
              rw [beq_eq_false_iff_ne]; exact fun e => t1 e.symm
            rw [hgq]
            clear t1 t2 HT HO hgq
            go_wp2_with fail
            have hl5 := HL5.out
            go_roundw
            case rel => exact ⟨j + 1, g.flip cc, by omega, by rw [show wrap64 ((j : Int) + 1) = ((j + 1 : Nat) : Int) by unfold wrap64; omega], by rw [HT2.out], HNX, HB7⟩
            case measure =>
              rw [show wrap64 ((j : Int) + 1) = ((j + 1 : Nat) : Int) by unfold wrap64; omega]
              simp [intOf] <;> omega
          · have HO2 := Lib.hid (HO.out hcc)
            have e1 : ((cc : Int) == c) = false := by
              rw [beq_eq_false_iff_ne]; omega
            clear HT HO hcc
            go_wp2_with fail
            have hl5 := HL5.out
            go_roundw
            case rel => exact ⟨j + 1, g.flip cc, by omega, by rw [show wrap64 ((j : Int) + 1) = ((j + 1 : Nat) : Int) by unfold wrap64; omega], by rw [HO2.out], HNX, HB7⟩
            case measure =>
              rw [show wrap64 ((j : Int) + 1) = ((j + 1 : Nat) : Int) by unfold wrap64; omega]
              simp [intOf] <;> omega
        · obtain rfl : j = l.length := by omega
          have hl5 := HC.out
          go_wp2_with fail
          go_roundw
          case rel => exact ⟨c + 1, by omega, by omega, by go_num, HB⟩
          case measure => (simp [intOf] <;> omega)
    · obtain rfl : c = 256 := by omega
      go_wp2_with fail
      go_ret
      exact ⟨rfl, Kt.bthen HB5.out HB.out⟩
theorem turns_walk (v0 v1 : Value) (w : World) (r0 : Fr.RdV w 1048576 hdTy v0) (r1 : Fr.RdV w 1048576 (.slice 1 .string) v1) :
    Calls Try.prog 6 #[v0, v1] w fun e w' => e = .returned (.bool true) ∧ Below w.heap.size w w' := by
  obtain ⟨x, rfl⟩ := hd_of r0
  obtain ⟨ss, h1, _, h3⟩ := Kt.ar_strs r1
  exact turns_calls x ss v1 w h3 (by omega)
end Go.Proofs.Ytfcmmeapinppaaa
