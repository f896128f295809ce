/- The law ScsiTwo, walked. -/
import Derived.Test.YtfhndjccghchjaaScsT
namespace Go.Proofs.Ytfhndjccghchjaa
open Go.RowKit Go.Proofs.Ytfhndjccghchjaa.Scs
/-- blocks that lie from B on -/
def DkS (w : World) (B : Nat) (A : Option Addr) (cap : Nat) (bs : List ByteArray) : Prop := Kt.Sl w B 9 1 (.slice A bs.length cap) bs.length (sts bs)
theorem DkS.toA {w : World} {B : Nat} {A : Option Addr} {cap : Nat} {bs : List ByteArray} (h : DkS w B A cap bs) : DkA w A cap bs := Kt.Ar.of_sl h
theorem DkS.on {w w' : World} {B : Nat} {A : Option Addr} {cap : Nat} {bs : List ByteArray} (h : DkS w B A cap bs) (hb : Below w.heap.size w w') : DkS w' B A cap bs := Kt.Sl.on h hb
theorem DkS.low {w : World} {B g : Nat} {A : Option Addr} {cap : Nat} {bs : List ByteArray} (h : DkS w B A cap bs) (hg : g < B) (news : List Value) : DkS (w.setCells g 0 news) B A cap bs :=
  Kt.Sl.sets h news g 0 fun k hk => by have := (h.lt k hk).1; omega
theorem DoIs.open2 {bs : List ByteArray} {s : Int} {c d : ByteArray} {w : World} {e : Ending} {w' : World} {b : List ByteArray} {t : Int} {o : ByteArray} {g : Int} (h : DoIs bs s c d w e w') (hd : did bs s c d = (b, t, o, g)) :
    ∃ A cap, e = .returned (.tuple #[dkV A cap b t, .string o, .int .i64 g]) ∧ DkS w' w.heap.size A cap b ∧ Below w.heap.size w w' := by
  obtain ⟨A, cap, e1, hl, hs, hb⟩ := h
  rw [hd] at e1 hl hs
  refine ⟨A, cap, e1, ?_, hb⟩
  have hl' : b.length = bs.length := hl
  unfold DkS
  rw [hl']; exact hs
theorem did_writes {bs : List ByteArray} {s : Int} (h : OkD bs s) {a n : Nat} {d : ByteArray} (ha : a < 4294967296) (hn : n < 65536) (hl : a + n ≤ bs.length) (hd : d.size = n * 16) :
    did bs s (mk 42 a n) d = (putB bs a d n, 0, ByteArray.empty, 0) := by
  have e := mk_ans bs s 42 a n d (.inr (.inl rfl)) ha hn
  rw [if_neg (by omega), if_neg (by decide), if_pos rfl, if_pos hd] at e
  exact did_fine h e
theorem put2 (w : World) (b : Nat) (x y : Value) : (w.setCell ⟨b, 0, none⟩ x).setCell ⟨b, 1, none⟩ y = w.setCells b 0 [x, y] := rfl
theorem mkE_zero {a n : Int} (h : mkE a n = 0) : OkMk a n := by
  unfold mkE at h
  split at h
  · assumption
  · cases h
/-- what two writes do, one behind the other, and the other way round -/
theorem two_plain {bs : List ByteArray} {s i j n m : Int} {x y : ByteArray} (h1 : OkMk i n) (h2 : OkMk j m)
    (g : (did bs s (mkC 42 i n) x).2.2.2 = 0) (h : (did bs s (mkC 42 j m) y).2.2.2 = 0) :
    ∃ P Q PP QQ, did bs s (mkC 42 i n) x = (P, 0, ByteArray.empty, 0) ∧ did bs s (mkC 42 j m) y = (Q, 0, ByteArray.empty, 0) ∧ did P 0 (mkC 42 j m) y = (PP, 0, ByteArray.empty, 0) ∧
      did Q 0 (mkC 42 i n) x = (QQ, 0, ByteArray.empty, 0) ∧ did PP 0 (mkC 40 j m) ByteArray.empty = (PP, 0, y, 0) ∧ P.length ≤ 64 ∧ Q.length ≤ 64 ∧ PP.length ≤ 64 ∧ QQ.length ≤ 64 ∧
      ((i < j + m ∧ j < i + n) ∨ PP = QQ) := by
  have c1 : mkC 42 i n = mk 42 i.toNat n.toNat := if_pos h1
  have c2 : mkC 42 j m = mk 42 j.toNat m.toNat := if_pos h2
  have c3 : mkC 40 j m = mk 40 j.toNat m.toNat := if_pos h2
  unfold OkMk at h1 h2
  rw [c1] at g
  rw [c2] at h
  rw [c1, c2, c3]
  have ho := did_zero g
  obtain ⟨a1, a2, a3⟩ := did_write ho (by omega) (by omega) g
  obtain ⟨b1, b2, b3⟩ := did_write ho (by omega) (by omega) h
  have hP := putB_ok ho _ _ _ a1 a2
  have hQ := putB_ok ho _ _ _ b1 b2
  have lP := putB_len bs i.toNat x n.toNat a1
  have lQ := putB_len bs j.toNat y m.toNat b1
  have hPP := putB_ok hP j.toNat y m.toNat (by omega) b2
  have lPP := putB_len (putB bs i.toNat x n.toNat) j.toNat y m.toNat (by omega)
  have hQQ := putB_ok hQ i.toNat x n.toNat (by omega) a2
  refine ⟨_, _, _, _, a3, b3, did_writes hP (by omega) (by omega) (by omega) b2, did_writes hQ (by omega) (by omega) (by omega) a2, ?_, hP.n2, hQ.n2, hPP.n2, hQQ.n2, ?_⟩
  · have := did_read hPP j.toNat m.toNat ByteArray.empty (by omega) (by omega) (by omega)
    rw [joinS_back _ _ _ _ (by omega) b2] at this
    exact this
  · by_cases hov : i < j + m ∧ j < i + n
    · exact .inl hov
    · refine .inr (putB_swap bs _ _ x y _ _ a1 b1 ?_)
      omega
theorem two_over {i j n m : Int} (h1 : OkMk i n) (h2 : OkMk j m) : ∃ a b, IntKind.i64.wrap (j + m) = a ∧ IntKind.i64.wrap (i + n) = b ∧ ((i < a ∧ j < b) ∨ (i < a ∧ ¬ j < b) ∨ ¬ i < a) ∧ ((i < j + m ∧ j < i + n) ↔ (i < a ∧ j < b)) := by
  unfold OkMk at h1 h2
  refine ⟨j + m, i + n, by rw [show j + m = ((j.toNat + m.toNat : Nat) : Int) by omega, wr_in _ (by omega)], by rw [show i + n = ((i.toNat + n.toNat : Nat) : Int) by omega, wr_in _ (by omega)], by omega, Iff.rfl⟩
set_option maxRecDepth 100000 in
set_option maxHeartbeats 3200000 in
theorem two_calls (bs : List ByteArray) (s i j n m : Int) (x y : ByteArray) (A : Option Addr) (cap : Nat) (w : World) (h : DkA w A cap bs) (hn : bs.length ≤ 8796093022208) :
    Calls Try.prog 8 #[dkV A cap bs s, .int .i64 i, .int .i64 j, .int .i64 n, .int .i64 m, .string x, .string y] w fun e w' => e = .returned (.bool true) ∧ Below w.heap.size w w' := by
  have HA := Lib.hid h
  have HN := Lib.hid hn
  clear h hn
  unfold dkV
  go_enter Try.func8, Try.ntmps8
  go_wp2_with fail
  refine (make_any 42 i n (.inr rfl) _).mono ?_
  rintro e wa ⟨rfl, hb1⟩
  have HRa := Lib.hid (Kt.box1 hb1)
  have HBa := Lib.hid (Kt.bthen (Kt.balloc (Below.refl _ w) _) hb1)
  clear hb1
  go_wp2_with fail
  refine (make_any 42 j m (.inr rfl) _).mono ?_
  rintro e wb ⟨rfl, hb⟩
  have HRb := Lib.hid (Kt.row_on hb HRa.out)
  have HBb := Lib.hid (Kt.bthen HBa.out hb)
  clear hb HRa HBa
  have q := fun i => cell_of_row _ _ i _ _ _ HRb.out
  obtain ⟨C1, hC1⟩ : ∃ C, mkC 42 i n = C := ⟨_, rfl⟩
  obtain ⟨C2, hC2⟩ : ∃ C, mkC 42 j m = C := ⟨_, rfl⟩
  obtain ⟨E1, hE1⟩ : ∃ C, mkE i n = C := ⟨_, rfl⟩
  obtain ⟨E2, hE2⟩ : ∃ C, mkE j m = C := ⟨_, rfl⟩
  rw [hC1, hC2, hE1, hE2]
  have HC := Lib.hid (And.intro hC1 (And.intro hC2 (And.intro hE1 hE2)))
  clear hC1 hC2 hE1 hE2
  go_wp2_with fail
  refine (Do_calls bs s C1 x A cap _ (HA.out.on HBb.out) HN.out).mono ?_
  rintro e w4 hdo
  obtain ⟨P, sP, oP, g, hd1⟩ : ∃ b t o c, did bs s C1 x = (b, t, o, c) := ⟨_, _, _, _, rfl⟩
  obtain ⟨A4, cap4, rfl, hda, hb⟩ := hdo.open2 hd1
  have HD1 := Lib.hid hd1
  have HB4 := Lib.hid (Kt.bthen HBb.out hb)
  have HR4 := Lib.hid (Kt.row_on hb HRb.out)
  have HS4 := Lib.hid hda
  clear hdo hda hb hd1 q HRb HBb
  unfold dkV
  have q := fun i => cell_of_row _ _ i _ _ _ HR4.out
  have lt1 := lt_of_row HR4.out
  go_wp2_with fail
  have hal := Kt.balloc (Below.refl _ w4) (.cells #[.slice A4 P.length cap4, .int .i64 sP] 38)
  refine (Do_calls bs s C2 y A cap _ (HA.out.on (Kt.bthen HB4.out hal)) HN.out).mono ?_
  rintro e w5 hdo
  obtain ⟨Q, sQ, oQ, h, hd2⟩ : ∃ b t o c, did bs s C2 y = (b, t, o, c) := ⟨_, _, _, _, rfl⟩
  obtain ⟨A5, cap5, rfl, hda, hb⟩ := hdo.open2 hd2
  have HD2 := Lib.hid hd2
  have HB5 := Lib.hid (Kt.bthen HB4.out (Kt.bthen hal hb))
  have HP5 := Lib.hid (Kt.box1 hb)
  have HS5 := Lib.hid (HS4.out.on (Kt.bthen hal hb))
  have HT5 : Hid (DkS w5 (w4.heap.size + 1) A5 cap5 Q) := Lib.hid (by simpa using hda)
  have HZ0 : Hid (w.heap.size ≤ w4.heap.size) := Lib.hid HB4.out.size
  clear hdo hda hb hd2 q HR4 HB4 HS4 hal lt1
  unfold dkV
  go_wp2_with fail
  refine (slives_calls _).mono ?_
  rintro e w6 ⟨rfl, hb⟩
  have HQ6 := Lib.hid (Kt.box1 hb)
  have hal := Kt.balloc (Below.refl _ w5) (.cells #[.slice A5 Q.length cap5, .int .i64 sQ] 38)
  have hb := Kt.bthen hal hb
  have HB6 := Lib.hid (Kt.bthen HB5.out hb)
  have HP6 := Lib.hid (Kt.row_on hb HP5.out)
  have HS6 := Lib.hid (HS5.out.on hb)
  have HT6 := Lib.hid (HT5.out.on hb)
  have hsz : w5.heap.size < w6.heap.size := lt_of_row HQ6.out
  have hsz0 : w4.heap.size < w5.heap.size := lt_of_row HP5.out
  clear hb hal HB5 HP5 HS5 HT5
  by_cases hz : E1 = 0 ∧ E2 = 0 ∧ g = 0 ∧ h = 0
  · obtain ⟨rfl, rfl, rfl, rfl⟩ := hz
    obtain ⟨e1, e2, e3, e4⟩ := HC.out
    have ho1 := mkE_zero e3
    have ho2 := mkE_zero e4
    obtain ⟨P', Q', PP, QQ, p1, p2, p3, p4, p5, lP, lQ, lPP, lQQ, hfin⟩ := two_plain (s := s) (bs := bs) (x := x) (y := y) ho1 ho2 (by rw [e1, HD1.out]) (by rw [e2, HD2.out])
    rw [e1] at p1 p4
    rw [e2] at p2 p3
    rw [HD1.out] at p1
    rw [HD2.out] at p2
    cases p1
    cases p2
    have HD3 := Lib.hid p3
    have HD4 := Lib.hid p4
    have HD5 := Lib.hid p5
    have HL := Lib.hid (And.intro lP (And.intro lQ (And.intro lPP lQQ)))
    have HO := Lib.hid (And.intro ho1 ho2)
    have HF := Lib.hid hfin
    clear e1 e2 e3 e4 ho1 ho2 p3 p4 p5 lP lQ lPP lQQ hfin HC HD1 HD2
    have q1 := fun i => cell_of_row _ _ i _ _ _ HP6.out
    go_wp2_with fail
    refine (Do_calls P 0 C2 y A4 cap4 _ HS6.out.toA (by have := HL.out.1; omega)).mono ?_
    rintro e w7 hdo
    obtain ⟨A7, cap7, rfl, hda, hb⟩ := hdo.open2 HD3.out
    have HB7 := Lib.hid (Kt.bthen HB6.out hb)
    have HP7 := Lib.hid (Kt.row_on hb HP6.out)
    have HQ7 := Lib.hid (Kt.row_on hb HQ6.out)
    have HS7 := Lib.hid hda
    have HT7 := Lib.hid (HT6.out.on hb)
    have f7 := fun i => frozen_of_row _ _ i _ _ HP7.out
    have HZ := Lib.hid (And.intro hsz0 (And.intro hsz HZ0.out))
    clear hdo hda hb q1 HP6 HQ6 HS6 HT6 HB6 hsz hsz0 HD3
    unfold dkV
    have q7 := fun i => cell_of_row _ _ i _ _ _ HP7.out
    have q8 := fun i => cell_of_row _ _ i _ _ _ HQ7.out
    have hne : w5.heap.size ≠ w4.heap.size := by have := HZ.out.1; omega
    go_wp2_with fail
    refine Kt.foldC (fun W => (W.heap[w4.heap.size]? = some (.cells #[.slice A7 PP.length cap7, .int .i64 0] 38 (0, 0)) ∧ W.heap[w5.heap.size]? = some (.cells #[.slice A5 Q.length cap5, .int .i64 0] 38 (0, 0))) ∧ DkS W w6.heap.size A7 cap7 PP ∧ DkS W (w4.heap.size + 1) A5 cap5 Q ∧ Below w.heap.size w W)
      ⟨⟨Kt.fill [.slice A7 PP.length cap7, .int .i64 0] HP7.out rfl, (Kt.setCells_other [.slice A7 PP.length cap7, .int .i64 0] _ 0 _ _ hne).trans HQ7.out⟩, HS7.out.low (by have := HZ.out; omega) [.slice A7 PP.length cap7, .int .i64 0], HT7.out.low (by omega) [.slice A7 PP.length cap7, .int .i64 0], Kt.below_setCells [.slice A7 PP.length cap7, .int .i64 0] _ 0 _ _ HZ.out.2.2 HB7.out⟩ ?_
    clear q7 q8 f7 HP7 HQ7 HS7 HT7 HB7
    rintro W ⟨⟨hp8, hq8⟩, hs8, ht8, hb8⟩
    have HP8 := Lib.hid hp8
    have HQ8 := Lib.hid hq8
    have HS8 := Lib.hid hs8
    have HB8 := Lib.hid hb8
    refine (Do_calls Q 0 C1 x A5 cap5 _ ht8.toA (by have := HL.out.2.1; omega)).mono ?_
    rintro e w9 hdo
    obtain ⟨A9, cap9, rfl, hda, hb⟩ := hdo.open2 HD4.out
    have HB9 := Lib.hid (Kt.bthen HB8.out hb)
    have HP9 := Lib.hid (Kt.row_on hb HP8.out)
    have HQ9 := Lib.hid (Kt.row_on hb HQ8.out)
    have HS9 := Lib.hid (HS8.out.on hb)
    have HT9 : Hid (DkS w9 (w5.heap.size + 1) A9 cap9 QQ) := Lib.hid (Kt.Sl.mono hda (Nat.succ_le_of_lt (lt_of_row hq8)))
    clear hdo hda hb hp8 hq8 hs8 ht8 hb8 HP8 HQ8 HS8 HB8 HD4
    unfold dkV
    have q7 := fun i => cell_of_row _ _ i _ _ _ HP9.out
    have q8 := fun i => cell_of_row _ _ i _ _ _ HQ9.out
    have f8 := fun i => frozen_of_row _ _ i _ _ HQ9.out
    go_wp2_with fail
    refine Kt.foldC (fun W => (W.heap[w4.heap.size]? = some (.cells #[.slice A7 PP.length cap7, .int .i64 0] 38 (0, 0)) ∧ W.heap[w5.heap.size]? = some (.cells #[.slice A9 QQ.length cap9, .int .i64 0] 38 (0, 0))) ∧ DkS W w6.heap.size A7 cap7 PP ∧ DkS W (w5.heap.size + 1) A9 cap9 QQ ∧ Below w.heap.size w W)
      ⟨⟨(Kt.setCells_other [.slice A9 QQ.length cap9, .int .i64 0] _ 0 _ _ hne.symm).trans HP9.out, Kt.fill [.slice A9 QQ.length cap9, .int .i64 0] HQ9.out rfl⟩, HS9.out.low (by have := HZ.out; omega) [.slice A9 QQ.length cap9, .int .i64 0], HT9.out.low (by omega) [.slice A9 QQ.length cap9, .int .i64 0], Kt.below_setCells [.slice A9 QQ.length cap9, .int .i64 0] _ 0 _ _ (by have := HZ.out; omega) HB9.out⟩ ?_
    clear q7 q8 f8 HP9 HQ9 HS9 HT9 HB9
    rintro W2 ⟨⟨hp8, hq8⟩, hs8, ht8, hb8⟩
    refine (make_any 40 j m (.inl rfl) _).mono ?_
    rintro e w10 ⟨rfl, hb⟩
    have HB10 := Lib.hid (Kt.bthen hb8 hb)
    have HP10 := Lib.hid (Kt.row_on hb hp8)
    have HQ10 := Lib.hid (Kt.row_on hb hq8)
    have HS10 := Lib.hid (hs8.on hb)
    have HT10 := Lib.hid (ht8.on hb)
    obtain ⟨C3, hC3⟩ : ∃ C, mkC 40 j m = C := ⟨_, rfl⟩
    rw [hC3] at HD5 ⊢
    clear hp8 hq8 hs8 ht8 hb8 hb hC3
    have q7 := fun i => cell_of_row _ _ i _ _ _ HP10.out
    go_wp2_with fail
    refine (Do_calls PP 0 C3 ByteArray.empty A7 cap7 _ HS10.out.toA (by have := HL.out; omega)).mono ?_
    rintro e w11 hdo
    obtain ⟨A11, cap11, rfl, hda, hb⟩ := hdo.open2 HD5.out
    have HB11 := Lib.hid (Kt.bthen HB10.out hb)
    have HP11 := Lib.hid (Kt.row_on hb HP10.out)
    have HQ11 := Lib.hid (Kt.row_on hb HQ10.out)
    have HS11 := Lib.hid (HS10.out.on hb)
    have HT11 := Lib.hid (HT10.out.on hb)
    clear hdo hda hb q7 HP10 HQ10 HS10 HT10 HB10 HD5
    unfold dkV
    have q7 := fun i => cell_of_row _ _ i _ _ _ HP11.out
    have q8 := fun i => cell_of_row _ _ i _ _ _ HQ11.out
    have l7 := lt_of_row HP11.out
    have l8 := lt_of_row HQ11.out
    obtain ⟨ja, ib, hw1, hw2, hcase, hiff⟩ := two_over HO.out.1 HO.out.2
    have HI := Lib.hid hiff
    clear hiff
    rcases hcase with ⟨h1, h2⟩ | ⟨h1, h2⟩ | h1
    · go_wp2_with fail
      go_ret
      exact ⟨rfl, Kt.bthen HB11.out (Kt.balloc (Below.refl _ _) _)⟩
    · have hPQ : PP = QQ := HF.out.resolve_left fun q => by have := HI.out.1 q; omega
      subst hPQ
      have hal := Kt.balloc (Below.refl _ w11) (.cells #[.slice A11 PP.length cap11, .int .i64 0] 38)
      go_wp2_with fail
      refine (sdisk_true A7 A9 cap7 cap9 PP 0 _ (HS11.out.toA.on hal) (HT11.out.toA.on hal) (by have := HL.out; omega)).mono ?_
      rintro e w12 ⟨rfl, hb⟩
      have HB12 := Lib.hid (Kt.bthen HB11.out (Kt.bthen hal hb))
      clear hb hal
      go_wp2_with fail
      go_ret
      exact ⟨rfl, HB12.out⟩
    · have hPQ : PP = QQ := HF.out.resolve_left fun q => by have := HI.out.1 q; omega
      subst hPQ
      have hal := Kt.balloc (Below.refl _ w11) (.cells #[.slice A11 PP.length cap11, .int .i64 0] 38)
      go_wp2_with fail
      refine (sdisk_true A7 A9 cap7 cap9 PP 0 _ (HS11.out.toA.on hal) (HT11.out.toA.on hal) (by have := HL.out; omega)).mono ?_
      rintro e w12 ⟨rfl, hb⟩
      have HB12 := Lib.hid (Kt.bthen HB11.out (Kt.bthen hal hb))
      clear hb hal
      go_wp2_with fail
      go_ret
      exact ⟨rfl, HB12.out⟩
  · have h4 : (E1 != 0) = true ∨ ((E1 != 0) = false ∧ (E2 != 0) = true) ∨ ((E1 != 0) = false ∧ (E2 != 0) = false ∧ (g != 0) = true) ∨ ((E1 != 0) = false ∧ (E2 != 0) = false ∧ (g != 0) = false ∧ (h != 0) = true) := by
      simp only [bne_iff_ne, bne_eq_false_iff_eq, ne_eq]
      omega
    clear hz
    rcases h4 with h1 | ⟨h1, h2⟩ | ⟨h1, h2, h3⟩ | ⟨h1, h2, h3, h4⟩
    all_goals
      go_wp2_with fail
      refine (slives_calls _).mono ?_
      rintro e w7 ⟨rfl, hb⟩
      have HB7 := Lib.hid (Kt.bthen HB6.out hb)
      clear hb
      go_wp2_with fail
      go_ret
      exact ⟨rfl, HB7.out⟩
theorem two_walk (v0 v1 v2 v3 v4 v5 v6 : Value) (w : World) (r0 : Fr.RdV w reachBytes (.cat 1 (.slice 1 .string) (.cat 1 (.int .i64) .nil)) v0) (r1 : Fr.RdV w reachBytes (.int .i64) v1) (r2 : Fr.RdV w reachBytes (.int .i64) v2) (r3 : Fr.RdV w reachBytes (.int .i64) v3) (r4 : Fr.RdV w reachBytes (.int .i64) v4) (r5 : Fr.RdV w reachBytes .string v5) (r6 : Fr.RdV w reachBytes .string v6)
    (m1 : ∀ (cs : Array Value) a l c, v0 = .agg cs → (cs.toList.drop 0).take 1 = [.slice a l c] → l * Try.prog.bytesOf 9 ≤ reachBytes) :
    Calls Try.prog 8 #[v0, v1, v2, v3, v4, v5, v6] w fun e w' => e = .returned (.bool true) ∧ Below w.heap.size w w' := by
  obtain ⟨A, cap, bs, s, rfl, hd⟩ := dk_of r0
  obtain ⟨i, e1, _⟩ := r1; cases e1
  obtain ⟨j, e2, _⟩ := r2; cases e2
  obtain ⟨n, e3, _⟩ := r3; cases e3
  obtain ⟨m, e4, _⟩ := r4; cases e4
  obtain ⟨x, e5, _⟩ := r5; cases e5
  obtain ⟨y, e6, _⟩ := r6; cases e6
  have hby : Try.prog.bytesOf 9 = 16 := by kernel_rfl
  have hR : reachBytes ≤ 140737488355328 := by unfold reachBytes; omega
  have b1 := m1 _ A bs.length cap rfl rfl
  rw [hby] at b1
  exact two_calls bs s i j n m x y A cap w hd (by omega)
end Go.Proofs.Ytfhndjccghchjaa
