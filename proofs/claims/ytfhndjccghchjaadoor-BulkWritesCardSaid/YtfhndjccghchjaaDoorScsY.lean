/- The law ScsiParts, walked. -/
import Derived.Test.YtfhndjccghchjaaDoorBlkX
import Derived.Test.YtfhndjccghchjaaDoorScsX
import Derived.Shelf.Vars
import Derived.Lib.SplitLaws
namespace Go.Proofs.YtfhndjccghchjaaDoor
open Go.RowKit Go.Proofs.YtfhndjccghchjaaDoor.Scs
/-- what reading and writing in parts does -/
theorem parts_plain {bs : List ByteArray} {s : Int} {a n m : Nat} (hn : n ≤ 100) (hm : m ≤ 100) (ha : a < 4294967296) (h : (did bs s (mk 40 a (n + m)) ByteArray.empty).2.2.2 = 0) :
    a + n + m ≤ 64 ∧ bs.length ≤ 64 ∧ ∃ S T, S.size = n * 16 ∧ T.size = m * 16 ∧ did bs s (mk 40 a n) ByteArray.empty = (bs, 0, S, 0) ∧ did bs s (mk 40 (a + n) m) ByteArray.empty = (bs, 0, T, 0) ∧ did bs s (mk 40 a (n + m)) ByteArray.empty = (bs, 0, S ++ T, 0) ∧
      ∀ d : ByteArray, d.size = (n + m) * 16 → ∃ P Q, did bs s (mk 42 a n) (d.extract 0 (n * 16)) = (P, 0, ByteArray.empty, 0) ∧ did P 0 (mk 42 (a + n) m) (d.extract (n * 16) d.size) = (Q, 0, ByteArray.empty, 0) ∧ did bs s (mk 42 a (n + m)) d = (Q, 0, ByteArray.empty, 0) ∧ P.length ≤ 64 ∧ Q.length ≤ 64 := by
  have ok := did_zero h
  have hl : a + (n + m) ≤ bs.length := by
    rcases Nat.lt_or_ge bs.length (a + (n + m)) with q | q
    · rw [did_unread ok a (n + m) _ ha (by omega) q] at h
      exact absurd (show (14 : Int) = 0 from h) (by decide)
    · exact q
  have h64 := ok.n2
  refine ⟨by omega, h64, _, _, read_size ok (by omega), read_size ok (by omega), did_read ok a n _ ha (by omega) (by omega), did_read ok (a + n) m _ (by omega) (by omega) (by omega), ?_, fun d hd => ?_⟩
  · rw [did_read ok a (n + m) _ ha (by omega) hl, read_parts]
  · have h1 : (d.extract 0 (n * 16)).size = n * 16 := by rw [ByteArray.size_extract]; omega
    have h2 : (d.extract (n * 16) d.size).size = m * 16 := by rw [ByteArray.size_extract]; omega
    have hP := putB_ok ok a _ n (by omega) h1
    have lP := putB_len bs a (d.extract 0 (n * 16)) n (by omega)
    have hQ := putB_ok ok a d (n + m) hl hd
    refine ⟨_, _, did_writes ok ha (by omega) (by omega) h1, ?_, did_writes ok ha (by omega) hl hd, hP.n2, hQ.n2⟩
    rw [did_writes hP (by omega) (by omega) (by omega) h2, putB_parts bs a d n m (by omega) hd]
theorem parts_args {a n m : Int} (h : OkMk a n) (h0 : 0 ≤ m) (h1 : m ≤ 100) (h2 : n ≤ 100) : IntKind.i64.wrap (a + n) = a + n ∧ IntKind.i64.wrap (n + m) = n + m ∧ OkMk (min (a + n) 4294967295) m ∧ OkMk a (n + m) := by
  unfold OkMk at h ⊢
  refine ⟨by rw [show a + n = ((a.toNat + n.toNat : Nat) : Int) by omega, wr_in _ (by omega)], by rw [show n + m = ((n.toNat + m.toNat : Nat) : Int) by omega, wr_in _ (by omega)], ?_, ?_⟩ <;> omega
theorem max_len {w : World} (h : w.ShapedOpen Tryd.prog) : ∃ m, w.cell? ⟨0, 0, none⟩ = some (.int .i64 m) :=
  cell_of_shapedOpen_int (t := 3) (zero := #[.int .i64 0]) h (by decide +kernel) (by kernel_rfl) rfl (by kernel_rfl) (by kernel_rfl) Tryd.underlying3
theorem kept_cell {w w' : World} {a : Addr} {u : Value} (hb : Below w.heap.size w w') (h : w.cell? a = some u) : w'.cell? a = some u := by
  have hlt : a.block < w.heap.size := by
    unfold World.cell? at h
    cases hq : w.heap[a.block]? with
    | none => rw [hq] at h; cases h
    | some o => exact (Array.getElem?_eq_some_iff.1 hq).1
  have := hb.block a.block hlt
  unfold World.cell? at h ⊢
  rw [this]; exact h
/-- a letter replaced by another, once -/
theorem rep_any (s : ByteArray) (x y : UInt8) (m : Int) (hs : s.size ≤ 1024) (w : World) (hm : w.cell? ⟨0, 0, none⟩ = some (.int .i64 m)) :
    Calls Tryd.prog 8 #[.string s, .string ⟨#[x]⟩, .string ⟨#[y]⟩, .int .i64 1] w fun e w' => e = .returned (.string ⟨(Lib.replace s.data.toList (⟨#[x]⟩ : ByteArray).data.toList (⟨#[y]⟩ : ByteArray).data.toList 1).toArray⟩) ∧ Below w.heap.size w w' := by
  have h1 := Lib.countB_le ⟨#[x]⟩ (Nat.le_refl 1) s.size s (Nat.le_refl _)
  have h2 : (⟨#[y]⟩ : ByteArray).size = 1 := rfl
  refine Tryd.strings_Replace s ⟨#[x]⟩ ⟨#[y]⟩ 1 m w (by omega) hm (Nat.le_refl 1) ?_
  rw [h2]; omega
theorem rep_up (a n : Nat) (m : Int) (w : World) (hm : w.cell? ⟨0, 0, none⟩ = some (.int .i64 m)) :
    Calls Tryd.prog 8 #[.string (mk 40 a n), .string ⟨#[40]⟩, .string ⟨#[42]⟩, .int .i64 1] w fun e w' => e = .returned (.string (mk 42 a n)) ∧ Below w.heap.size w w' := by
  have h := rep_any (mk 40 a n) 40 42 m (by rw [mk_size]; decide) w hm
  rw [rep_mk] at h
  exact h
/-- the disk's box, and a part's -/
structure PtD (w0 : World) (A : Option Addr) (cap : Nat) (bs : List ByteArray) (s : Int) (X : World) : Prop where
  bel : Below w0.heap.size w0 X
  rd : X.heap[w0.heap.size]? = some (.cells #[.slice A bs.length cap, .int .i64 s] 24 (0, 0))
structure PtW (w0 : World) (A : Option Addr) (cap : Nat) (bs : List ByteArray) (s : Int) (kP : Nat) (A8 : Option Addr) (cap8 : Nat) (P : List ByteArray) (X : World) : Prop extends PtD w0 A cap bs s X where
  rp : X.heap[kP]? = some (.cells #[.slice A8 P.length cap8, .int .i64 0] 24 (0, 0))
  lt : w0.heap.size < kP
  dk : DkS X (w0.heap.size + 1) A8 cap8 P
theorem PtD.put {w0 : World} {A A8 : Option Addr} {cap cap8 : Nat} {bs P : List ByteArray} {s : Int} {X Y : World} (h : PtD w0 A cap bs s X) (hb : Below X.heap.size X Y) (k : Nat) (hk : X.heap.size ≤ k) (rk : Y.heap[k]? = some (.cells #[.slice none 0 0, .int .i64 0] 24 (0, 0)))
    (hd : DkS (Y.setCells k 0 [.slice A8 P.length cap8, .int .i64 0]) X.heap.size A8 cap8 P) : PtW w0 A cap bs s k A8 cap8 P (Y.setCells k 0 [.slice A8 P.length cap8, .int .i64 0]) := by
  have hlt := lt_of_row h.rd
  have hY := Kt.row_on hb h.rd
  have hbY := Kt.bthen h.bel hb
  refine ⟨⟨?_, ?_⟩, Kt.fill _ rk rfl, by omega, ?_⟩
  · exact Kt.bset (Kt.bset hbY (show w0.heap.size ≤ k by omega) _) (show w0.heap.size ≤ k by omega) _
  · exact (Kt.setCells_other _ _ _ _ _ (by omega)).trans hY
  · exact Kt.Sl.mono hd (by omega)
theorem PtW.upd {w0 : World} {A A8 A9 : Option Addr} {cap cap8 cap9 kP : Nat} {bs P Q : List ByteArray} {s : Int} {X Y : World} (h : PtW w0 A cap bs s kP A8 cap8 P X) (hb : Below X.heap.size X Y)
    (hd : DkS Y X.heap.size A9 cap9 Q) : PtW w0 A cap bs s kP A9 cap9 Q (Y.setCells kP 0 [.slice A9 Q.length cap9, .int .i64 0]) := by
  have hlt := lt_of_row h.rd
  have hltp := lt_of_row h.rp
  have hl := h.lt
  have hY := Kt.row_on hb h.rp
  have hD := Kt.row_on hb h.rd
  have hbY := Kt.bthen h.bel hb
  refine ⟨⟨?_, ?_⟩, Kt.fill _ hY rfl, h.lt, ?_⟩
  · exact Kt.bset (Kt.bset hbY (show w0.heap.size ≤ kP by omega) _) (show w0.heap.size ≤ kP by omega) _
  · exact (Kt.setCells_other _ _ _ _ _ (by omega)).trans hD
  · exact Kt.Sl.mono (DkS.low hd hltp _) (by omega)
/-- both parts' boxes -/
structure PtQ (w0 : World) (kP : Nat) (A8 : Option Addr) (cap8 : Nat) (P : List ByteArray) (kQ : Nat) (A9 : Option Addr) (cap9 : Nat) (Q : List ByteArray) (X : World) : Prop where
  bel : Below w0.heap.size w0 X
  rp : X.heap[kP]? = some (.cells #[.slice A8 P.length cap8, .int .i64 0] 24 (0, 0))
  rq : X.heap[kQ]? = some (.cells #[.slice A9 Q.length cap9, .int .i64 0] 24 (0, 0))
  dp : DkA X A8 cap8 P
  dq : DkA X A9 cap9 Q
theorem PtW.more {w0 : World} {A A8 A9 : Option Addr} {cap cap8 cap9 kP : Nat} {bs P Q : List ByteArray} {s : Int} {X Y : World} (h : PtW w0 A cap bs s kP A8 cap8 P X) (hb : Below X.heap.size X Y) (k : Nat) (hk : X.heap.size ≤ k) (rk : Y.heap[k]? = some (.cells #[.slice none 0 0, .int .i64 0] 24 (0, 0)))
    (hd : DkS (Y.setCells k 0 [.slice A9 Q.length cap9, .int .i64 0]) X.heap.size A9 cap9 Q) : PtQ w0 kP A8 cap8 P k A9 cap9 Q (Y.setCells k 0 [.slice A9 Q.length cap9, .int .i64 0]) := by
  have hlt := lt_of_row h.rd
  have hltp := lt_of_row h.rp
  have hY := Kt.row_on hb h.rp
  have hbY := Kt.bthen h.bel hb
  refine ⟨?_, ?_, Kt.fill _ rk rfl, ?_, hd.toA⟩
  · exact Kt.bset (Kt.bset hbY (show w0.heap.size ≤ k by omega) _) (show w0.heap.size ≤ k by omega) _
  · exact (Kt.setCells_other _ _ _ _ _ (by omega)).trans hY
  · exact DkS.toA (Kt.Sl.sets (DkS.on h.dk hb) _ k 0 fun j hj => by have := (Kt.Sl.lt h.dk j hj).2; omega)
set_option maxRecDepth 100000 in
set_option maxHeartbeats 3200000 in
theorem parts_calls (bs : List ByteArray) (s a n m : Int) (d : ByteArray) (A : Option Addr) (cap : Nat) (mx : Int) (w0 : World) (h : DkA w0 A cap bs) (hn : bs.length ≤ 8796093022208) (hmx : w0.cell? ⟨0, 0, none⟩ = some (.int .i64 mx)) :
    Calls Tryd.prog 3 #[dkV A cap bs s, .int .i64 a, .int .i64 n, .int .i64 m, .string d] w0 fun e w' => e = .returned (.bool true) ∧ Below w0.heap.size w0 w' := by
  have HA := Lib.hid h
  have HN := Lib.hid hn
  have HM := Lib.hid hmx
  clear h hn hmx
  unfold dkV
  go_enter Tryd.func3, Tryd.ntmps3
  go_wp2_with fail
  refine (make_any 40 a n (.inl rfl) _).mono ?_
  rintro e w1 ⟨rfl, hb1⟩
  have HR1 := Lib.hid (Kt.box1 hb1)
  have HB1 := Lib.hid (Kt.bthen (Kt.balloc (Below.refl _ w0) _) hb1)
  clear hb1
  obtain ⟨C1, hC1⟩ : ∃ C, mkC 40 a n = C := ⟨_, rfl⟩
  obtain ⟨E1, hE1⟩ : ∃ C, mkE a n = C := ⟨_, rfl⟩
  rw [hC1, hE1]
  have HC := Lib.hid (And.intro hC1 hE1)
  clear hC1 hE1
  go_wp2_with fail
  refine (slives_calls _).mono ?_
  rintro e w2 ⟨rfl, hb⟩
  have HB2 := Lib.hid (Kt.bthen HB1.out hb)
  have HR2 := Lib.hid (Kt.row_on hb HR1.out)
  clear hb HR1 HB1
  by_cases hz : E1 = 0 ∧ 0 ≤ m ∧ m ≤ 100 ∧ n ≤ 100
  · obtain ⟨rfl, h0, h1, h2⟩ := hz
    have hok := mkE_zero HC.out.2
    obtain ⟨e1, e2, o2, o3⟩ := parts_args hok h0 h1 h2
    have p1 : mkC 40 a n = mk 40 a.toNat n.toNat := if_pos hok
    have p2 : mkC 40 (min (a + n) 4294967295) m = mk 40 (min (a + n) 4294967295).toNat m.toNat := if_pos o2
    have p3 : mkC 40 a (n + m) = mk 40 a.toNat (n + m).toNat := if_pos o3
    have q2 : mkE (min (a + n) 4294967295) m = 0 := if_pos o2
    have q3 : mkE a (n + m) = 0 := if_pos o3
    have hc1 : C1 = mk 40 a.toNat n.toNat := by rw [← p1, HC.out.1]
    subst hc1
    have HP := Lib.hid (And.intro p2 (And.intro p3 (And.intro q2 q3)))
    have HO := Lib.hid (And.intro hok (And.intro h0 h2))
    have e1' : IntKind.i64.wrap (a + n) = a + n := e1
    have e2' : IntKind.i64.wrap (n + m) = n + m := e2
    have h0' : ¬ m < 0 := by omega
    have h1' : ¬ 100 < m := by omega
    have h2' : ¬ 100 < n := by omega
    clear p1 p2 p3 q2 q3 o2 o3 hok HC h0 h1 h2 e1 e2
    go_wp2_with fail
    refine (make_any 40 _ m (.inl rfl) _).mono ?_
    rintro e w3 ⟨rfl, hb⟩
    rw [HP.out.1, HP.out.2.2.1]
    have HB3 := Lib.hid (Kt.bthen HB2.out hb)
    have HR3 := Lib.hid (Kt.row_on hb HR2.out)
    clear hb HR2 HB2 e1'
    go_wp2_with fail
    refine (make_any 40 a (n + m) (.inl rfl) _).mono ?_
    rintro e w4 ⟨rfl, hb⟩
    rw [HP.out.2.1, HP.out.2.2.2]
    have HB4 := Lib.hid (Kt.bthen HB3.out hb)
    have HR4 := Lib.hid (Kt.row_on hb HR3.out)
    clear hb HR3 HB3 HP h0' h1' h2'
    obtain ⟨ka, hka⟩ : ∃ k : Nat, a.toNat = k := ⟨_, rfl⟩
    obtain ⟨kn, hkn⟩ : ∃ k : Nat, n.toNat = k := ⟨_, rfl⟩
    obtain ⟨km, hkm⟩ : ∃ k : Nat, m.toNat = k := ⟨_, rfl⟩
    obtain ⟨kb, hkb⟩ : ∃ k : Nat, (min (a + n) 4294967295).toNat = k := ⟨_, rfl⟩
    have hks : (n + m).toNat = kn + km := by have := HO.out.1; unfold OkMk at this; have := HO.out.2.1; omega
    have HK : Hid (ka + kn + km ≤ 64 → kb = ka + kn) := Lib.hid (by have := HO.out.1; unfold OkMk at this; have := HO.out.2.1; omega)
    have HI : Hid ((n : Int) = kn ∧ (m : Int) = km ∧ ka < 4294967296 ∧ kn ≤ 100) := Lib.hid (by have := HO.out.1; unfold OkMk at this; have := HO.out.2.1; have := HO.out.2.2; omega)
    rw [hka, hkn, hkm, hkb, hks]
    clear hka hkn hkm hkb hks HO
    have q := fun i => cell_of_row _ _ i _ _ _ HR4.out
    go_wp2_with fail
    refine (Do_calls bs s (mk 40 ka kn) ByteArray.empty A cap _ (HA.out.on HB4.out) HN.out).mono ?_
    rintro e w5 hdo
    obtain ⟨P1, s1, S, g1, hd1⟩ : ∃ b t o c, did bs s (mk 40 ka kn) ByteArray.empty = (b, t, o, c) := ⟨_, _, _, _, rfl⟩
    obtain ⟨A5, cap5, rfl, hda, hb⟩ := hdo.open2 hd1
    have HD1 := Lib.hid hd1
    have HB5 := Lib.hid (Kt.bthen HB4.out hb)
    have HR5 := Lib.hid (Kt.row_on hb HR4.out)
    clear hdo hda hb hd1 q HB4 HR4
    unfold dkV
    have q := fun i => cell_of_row _ _ i _ _ _ HR5.out
    have lt1 := lt_of_row HR5.out
    go_wp2_with fail
    have hal := Kt.balloc (Below.refl _ w5) (.cells #[.slice A5 P1.length cap5, .int .i64 s1] 24)
    refine (Do_calls bs s (mk 40 kb km) ByteArray.empty A cap _ (HA.out.on (Kt.bthen HB5.out hal)) HN.out).mono ?_
    rintro e w6 hdo
    obtain ⟨P2, s2, T, g2, hd2⟩ : ∃ b t o c, did bs s (mk 40 kb km) ByteArray.empty = (b, t, o, c) := ⟨_, _, _, _, rfl⟩
    obtain ⟨A6, cap6, rfl, hda, hb⟩ := hdo.open2 hd2
    have HD2 := Lib.hid hd2
    have hb := Kt.bthen hal hb
    have HB6 := Lib.hid (Kt.bthen HB5.out hb)
    have HR6 := Lib.hid (Kt.row_on hb HR5.out)
    clear hal lt1 hdo hda hb hd2 q HB5 HR5
    unfold dkV
    have q := fun i => cell_of_row _ _ i _ _ _ HR6.out
    have lt1 := lt_of_row HR6.out
    go_wp2_with fail
    have hal := Kt.balloc (Below.refl _ w6) (.cells #[.slice A6 P2.length cap6, .int .i64 s2] 24)
    refine (Do_calls bs s (mk 40 ka (kn + km)) ByteArray.empty A cap _ (HA.out.on (Kt.bthen HB6.out hal)) HN.out).mono ?_
    rintro e w7 hdo
    obtain ⟨P3, s3, U, g3, hd3⟩ : ∃ b t o c, did bs s (mk 40 ka (kn + km)) ByteArray.empty = (b, t, o, c) := ⟨_, _, _, _, rfl⟩
    obtain ⟨A7, cap7, rfl, hda, hb⟩ := hdo.open2 hd3
    have HD3 := Lib.hid hd3
    have hb := Kt.bthen hal hb
    have HB7 := Lib.hid (Kt.bthen HB6.out hb)
    have HR7 := Lib.hid (Kt.row_on hb HR6.out)
    clear hal lt1 hdo hda hb hd3 q HB6 HR6
    unfold dkV
    have q := fun i => cell_of_row _ _ i _ _ _ HR7.out
    have lt1 := lt_of_row HR7.out
    by_cases hg : g3 = 0
    · subst hg
      obtain ⟨l1, l2, S', T', z1, z2, d1, d2, d3, hwr⟩ := parts_plain (bs := bs) (s := s) (a := ka) (n := kn) (m := km) HI.out.2.2.2 (by have := HI.out; omega) HI.out.2.2.1 (by rw [HD3.out])
      rw [← HK.out l1, HD2.out] at d2
      rw [HD1.out] at d1
      rw [HD3.out] at d3
      cases d1; cases d2; cases d3
      have HW := Lib.hid hwr
      have HZ := Lib.hid (And.intro z1 z2)
      have hsz : ¬ 9223372036854775807 < S.size + T.size := by have := HI.out; omega
      clear hwr HD1 HD2 HD3 z1 z2
      obtain ⟨k1, hk1⟩ : ∃ k : Nat, kn * 16 = k := ⟨_, rfl⟩
      obtain ⟨k2, hk2⟩ : ∃ k : Nat, (kn + km) * 16 = k := ⟨_, rfl⟩
      have hw1 : IntKind.i64.wrap (16 * n) = (k1 : Int) := by have := HI.out; rw [show 16 * n = ((k1 : Nat) : Int) by omega, wr_in _ (by omega)]
      have hw2 : IntKind.i64.wrap (16 * (n + m)) = (k2 : Int) := by have := HI.out; rw [show 16 * (n + m) = ((k2 : Nat) : Int) by omega, wr_in _ (by omega)]
      have HK1 : Hid (kn * 16 = k1 ∧ (kn + km) * 16 = k2) := Lib.hid ⟨hk1, hk2⟩
      clear hk1 hk2
      by_cases hds : d.size = k2
      · have hlt1 : (k1 : Int) ≤ d.size := by have := HK1.out; omega
        have hds' : ((d.size : Int) != (k2 : Int)) = false := by rw [hds]; simp
        obtain ⟨P, Q, hx1, hx2, hx3, hP, hQ⟩ := HW.out d (by rw [hds, HK1.out.2])
        rw [HK1.out.1] at hx1 hx2
        rw [← HK.out l1] at hx2
        have HX1 := Lib.hid hx1
        have HX2 := Lib.hid (And.intro hx2 (show P.length ≤ 8796093022208 by omega))
        have HX3 := Lib.hid hx3
        have HX4 := Lib.hid hQ
        clear hx1 hx2 hx3 HW hds l1 l2 HK HI HZ hP hQ
        go_wp2_with fail
        go_upto_region 13 with (fail)
        refine Kt.fold (fun X => Hid (PtD w0 A cap bs s X)) (Lib.hid ⟨Kt.balloc HB7.out _, Kt.row_on (Kt.balloc (Below.refl _ _) _) HR7.out⟩) (fun W8 HW8 => ?_)
        clear q lt1 hb HB7 HR7 hsz hw2 hds'
        go_cut [12, 26, 27] from 128 to 139 (fun e p _ wx => e = .int .i64 0 ∧ ∃ kP A8 cap8, p = .pointer (some ⟨kP, 0, none⟩) ∧ PtW w0 A cap bs s kP A8 cap8 P wx)
        case first =>
          -- REGION 13
          have HF := (Kt.Fb.nil W8 (Below.refl _ _)).add HW8.out.rd
          refine Kt.G.start 13 (Kt.Fb W8 [(w0.heap.size, #[.slice A bs.length cap, .int .i64 s], 24)]) (by kernel_rfl) HF.drew (fun hHeld => ?_)
          clear HF
          generalize W8.drew = x0 at *
          refine Kt.G.take 0 { dst := some 129, op := Op.load 24 (Operand.tmp 5), type := 24, pos := "scsi.go:101", after := #[], guard := none } ?_ hHeld rfl (by kernel_rfl) (fun _ _ _ h => h) (by rfl) ?_ ?_
          rotate_left
          · intro w hSw; have r0 := hSw.row (w0.heap.size, #[.slice A bs.length cap, .int .i64 s], 24) (by simp); have c0 := fun i => cell_of_row _ _ i _ _ _ r0; dsimp only at *; go_simp; try with_reducible rfl
          try simp only [Act.put, List.setIfInBounds_toArray, List.set_cons_zero, List.set_cons_succ]
          refine Kt.G.takeP 1 { dst := some 130, op := Op.move (Operand.tmp 11), type := 9, pos := "scsi.go:101", after := #[], guard := none } ?_ (fun _ => hHeld) rfl (by kernel_rfl) (fun _ _ _ h => h) (by rfl) ?_ ?_
          rotate_left
          · intro w; go_simp; try with_reducible rfl
          try simp only [Act.put, List.setIfInBounds_toArray, List.set_cons_zero, List.set_cons_succ]
          refine Kt.G.takeP 3 { dst := some 132, op := Op.move (Operand.tmp 4), type := 9, pos := "scsi.go:101", after := #[], guard := none } ?_ (fun _ => hHeld) rfl (by kernel_rfl) (fun _ _ _ h => h) (by rfl) ?_ ?_
          rotate_left
          · intro w; go_simp; try with_reducible rfl
          try simp only [Act.put, List.setIfInBounds_toArray, List.set_cons_zero, List.set_cons_succ]
          refine Kt.G.takeP 4 { dst := some 133, op := Op.move (Operand.tmp 2), type := 3, pos := "scsi.go:101", after := #[], guard := none } ?_ (fun _ => hHeld) rfl (by kernel_rfl) (fun _ _ _ h => h) (by rfl) ?_ ?_
          rotate_left
          · intro w; go_simp; try with_reducible rfl
          try simp only [Act.put, List.setIfInBounds_toArray, List.set_cons_zero, List.set_cons_succ]
          refine Kt.G.takeP 5 { dst := some 134, op := Op.binOp BinOp.mul 3 (Operand.const (Value.int IntKind.i64 16)) (Operand.tmp 133) 3, type := 3, pos := "scsi.go:101", after := #[{ on := 4, ground := Ground.data }], guard := none } ?_ (fun _ => hHeld) rfl (by kernel_rfl) (fun _ _ _ h => h) (by rfl) ?_ ?_
          rotate_left
          · intro w; go_simp; try with_reducible rfl
          try simp only [Act.put, List.setIfInBounds_toArray, List.set_cons_zero, List.set_cons_succ]
          refine Kt.G.takeP 6 { dst := some 135, op := Op.slice 9 (Operand.tmp 132) none (some (Operand.tmp 134)) none, type := 9, pos := "scsi.go:101", after := #[{ on := 3, ground := Ground.data }, { on := 5, ground := Ground.data }], guard := none } ?_ (fun _ => hHeld) rfl (by kernel_rfl) (fun _ _ _ h => h) (by rfl) ?_ ?_
          rotate_left
          · intro w; go_simp; try with_reducible rfl
          try simp only [Act.put, List.setIfInBounds_toArray, List.set_cons_zero, List.set_cons_succ]
          refine Kt.G.two 2 12 { dst := some 131, op := Op.call { callee := Callee.value (Operand.func 8), args := #[Operand.tmp 130, Operand.const (Value.string { data := #[40] }), Operand.const (Value.string { data := #[42] }), Operand.const (Value.int IntKind.i64 1)], argTypes := #[9, 9, 9, 3] }, type := 9, pos := "scsi.go:101", after := #[{ on := 1, ground := Ground.data }], guard := none } { dst := some 26, op := Op.alloc 24, type := 0, pos := "scsi.go:101", after := #[], guard := none } rfl rfl (by kernel_rfl) (by rfl) (by rfl) (fun K hK => ?_) (fun K hK => ?_)
          · go_simp
            refine (rep_up ka kn mx _ (kept_cell (Kt.bthen HW8.out.bel hHeld.bel) HM.out)).mono ?_; rintro en x2 ⟨rfl, hb2⟩
            refine hK.out _ _ (fun _ => hHeld.on hb2) (fun hHeld => ?_)
            have hHeld := hHeld rfl
            clear hK K
            try simp only [Act.put, List.setIfInBounds_toArray, List.set_cons_zero, List.set_cons_succ]
            try (replace rK := Kt.row_on hb2 rK)
            clear hb2
            refine Kt.G.two 7 12 { dst := some 136, op := Op.call { callee := Callee.value (Operand.func 7), args := #[Operand.tmp 129, Operand.tmp 131, Operand.tmp 135], argTypes := #[24, 9, 9] }, type := 29, pos := "scsi.go:101", after := #[{ on := 0, ground := Ground.data }, { on := 2, ground := Ground.data }, { on := 6, ground := Ground.data }, { on := 2, ground := Ground.chain }], guard := none } { dst := some 26, op := Op.alloc 24, type := 0, pos := "scsi.go:101", after := #[], guard := none } rfl rfl (by kernel_rfl) (by rfl) (by rfl) (fun K hK => ?_) (fun K hK => ?_)
            · try (have hkk := lt_of_row rK)
              have hkx := hHeld.bel.size
              go_simp
              refine (Do_calls bs s (mk 42 ka kn) (d.extract 0 k1) A cap _ (HA.out.on (Kt.bthen HW8.out.bel hHeld.bel)) HN.out).mono ?_; rintro en x7 hdo
              obtain ⟨A8, cap8, rfl, hda, hb7⟩ := hdo.open2 HX1.out
              refine hK.out _ _ (fun _ => hHeld.on hb7) (fun hHeld => ?_)
              have hHeld := hHeld rfl
              clear hK K
              try simp only [Act.put, List.setIfInBounds_toArray, List.set_cons_zero, List.set_cons_succ]
              try (replace rK := Kt.row_on hb7 rK)
              try (have hne : ∀ k, (Value.slice A8 P.length cap8).ownBlock = some k → k ≠ kP := fun k hk => by have := (hda.lt k hk).1; omega)
              have HDA := Lib.hid (Kt.Sl.mono hda hkx)
              try clear hkk
              clear hdo hda hkx hb7
              unfold dkV at *
              refine Kt.G.takeP 8 { dst := some 128, op := Op.move (Operand.tmp 136), type := 29, pos := "scsi.go:101", after := #[{ on := 7, ground := Ground.data }], guard := none } ?_ (fun _ => hHeld) rfl (by kernel_rfl) (fun _ _ _ h => h) (by rfl) ?_ ?_
              rotate_left
              · intro w; go_simp; try with_reducible rfl
              try simp only [Act.put, List.setIfInBounds_toArray, List.set_cons_zero, List.set_cons_succ]
              refine Kt.G.takeP 9 { dst := some 137, op := Op.extract (Operand.tmp 128) 0, type := 24, pos := "scsi.go:101", after := #[{ on := 8, ground := Ground.data }], guard := none } ?_ (fun _ => hHeld) rfl (by kernel_rfl) (fun _ _ _ h => h) (by rfl) ?_ ?_
              rotate_left
              · intro w; go_simp; try with_reducible rfl
              try simp only [Act.put, List.setIfInBounds_toArray, List.set_cons_zero, List.set_cons_succ]
              refine Kt.G.takeP 10 { dst := some 138, op := Op.extract (Operand.tmp 128) 1, type := 9, pos := "scsi.go:101", after := #[{ on := 8, ground := Ground.data }, { on := 13, ground := Ground.gcOnly Departure.lateStores }], guard := none } ?_ (fun _ => hHeld) rfl (by kernel_rfl) (fun _ _ _ h => h) (by rfl) ?_ ?_
              rotate_left
              · intro w; go_simp; try with_reducible rfl
              try simp only [Act.put, List.setIfInBounds_toArray, List.set_cons_zero, List.set_cons_succ]
              refine Kt.G.takeP 11 { dst := some 139, op := Op.extract (Operand.tmp 128) 2, type := 25, pos := "scsi.go:101", after := #[{ on := 8, ground := Ground.data }, { on := 14, ground := Ground.gcOnly Departure.lateStores }], guard := none } ?_ (fun _ => hHeld) rfl (by kernel_rfl) (fun _ _ _ h => h) (by rfl) ?_ ?_
              rotate_left
              · intro w; go_simp; try with_reducible rfl
              try simp only [Act.put, List.setIfInBounds_toArray, List.set_cons_zero, List.set_cons_succ]
              refine Kt.G.one 12 { dst := some 26, op := Op.alloc 24, type := 0, pos := "scsi.go:101", after := #[], guard := none } rfl (by kernel_rfl) (by rfl) (fun K hK => ?_)
              have hk0 : W8.heap.size ≤ x7.heap.size := hHeld.bel.size
              try (have hne : ∀ k, (Value.slice A8 P.length cap8).ownBlock = some k → k ≠ x7.heap.size := fun k hk => by have := (HDA.out.lt k hk).2; omega)
              try (replace HDA := Lib.hid (DkS.on HDA.out (Kt.balloc (Below.refl _ _) (.cells #[.slice none 0 0, .int .i64 0] 24))))
              go_simp
              refine hK.out _ _ (fun _ => hHeld.alloc _) (fun hHeld => ?_)
              have hHeld := hHeld rfl
              clear hK K
              try simp only [Act.put, List.setIfInBounds_toArray, List.set_cons_zero, List.set_cons_succ]
              have rK := heap_alloc_new x7 (.cells #[.slice none 0 0, .int .i64 0] 24)
              generalize hkkP : x7.heap.size = kP at *
              clear hkkP
              generalize x7.alloc (.cells #[.slice none 0 0, .int .i64 0] 24) = xk at *
              refine Kt.G.one 13 { dst := none, op := Op.store 24 (Operand.tmp 26) (Operand.tmp 137), type := 0, pos := "scsi.go:101", after := #[{ on := 12, ground := Ground.data }, { on := 9, ground := Ground.data }, { on := 7, ground := Ground.chain }, { on := 0, ground := Ground.phase }, { on := 1, ground := Ground.phase }, { on := 2, ground := Ground.phase }, { on := 3, ground := Ground.phase }, { on := 4, ground := Ground.phase }, { on := 5, ground := Ground.phase }, { on := 6, ground := Ground.phase }, { on := 7, ground := Ground.phase }, { on := 8, ground := Ground.phase }, { on := 9, ground := Ground.phase }, { on := 10, ground := Ground.textOnly Departure.lateStores }, { on := 11, ground := Ground.textOnly Departure.lateStores }, { on := 12, ground := Ground.phase }], guard := none } rfl (by kernel_rfl) (by rfl) (fun K hK => ?_)
              have cK := fun i => cell_of_row _ _ i _ _ _ rK; have fK := fun i => frozen_of_row _ _ i _ _ rK
              go_simp
              refine hK.out _ _ (Kt.G.late (by kernel_rfl)) (fun _ => ?_)
              clear hK K
              try simp only [Act.put, List.setIfInBounds_toArray, List.set_cons_zero, List.set_cons_succ]
              refine Kt.G.takeP 14 { dst := some 27, op := Op.assign (Operand.tmp 138), type := 9, pos := "scsi.go:101", after := #[{ on := 10, ground := Ground.data }, { on := 13, ground := Ground.chain }, { on := 0, ground := Ground.phase }, { on := 1, ground := Ground.phase }, { on := 2, ground := Ground.phase }, { on := 3, ground := Ground.phase }, { on := 4, ground := Ground.phase }, { on := 5, ground := Ground.phase }, { on := 6, ground := Ground.phase }, { on := 7, ground := Ground.phase }, { on := 8, ground := Ground.phase }, { on := 9, ground := Ground.phase }, { on := 10, ground := Ground.phase }, { on := 11, ground := Ground.textOnly Departure.lateStores }, { on := 12, ground := Ground.phase }, { on := 13, ground := Ground.phase }], guard := none } ?_ (Kt.G.late (by kernel_rfl)) rfl (by kernel_rfl) (fun _ _ _ h => h) (by rfl) ?_ ?_
              rotate_left
              · intro w; go_simp; try with_reducible rfl
              try simp only [Act.put, List.setIfInBounds_toArray, List.set_cons_zero, List.set_cons_succ]
              refine Kt.G.takeP 15 { dst := some 12, op := Op.assign (Operand.tmp 139), type := 25, pos := "scsi.go:101", after := #[{ on := 11, ground := Ground.data }, { on := 14, ground := Ground.chain }, { on := 0, ground := Ground.phase }, { on := 1, ground := Ground.phase }, { on := 2, ground := Ground.phase }, { on := 3, ground := Ground.phase }, { on := 4, ground := Ground.phase }, { on := 5, ground := Ground.phase }, { on := 6, ground := Ground.phase }, { on := 7, ground := Ground.phase }, { on := 8, ground := Ground.phase }, { on := 9, ground := Ground.phase }, { on := 10, ground := Ground.phase }, { on := 11, ground := Ground.phase }, { on := 12, ground := Ground.phase }, { on := 13, ground := Ground.phase }, { on := 14, ground := Ground.phase }], guard := none } ?_ (Kt.G.late (by kernel_rfl)) rfl (by kernel_rfl) (fun _ _ _ h => h) (by rfl) ?_ ?_
              rotate_left
              · intro w; go_simp; try with_reducible rfl
              try simp only [Act.put, List.setIfInBounds_toArray, List.set_cons_zero, List.set_cons_succ]
              refine Kt.G.done (by kernel_rfl) (NoPanic.normal ?_) _
              go_wp2_with fail
              go_meet
              case rel =>
                exact ⟨rfl, kP, A8, cap8, rfl, HW8.out.put hHeld.bel kP hk0 rK (Kt.Sl.sets HDA.out [.slice A8 P.length cap8, .int .i64 0] kP 0 hne)⟩
            · have hk0 : W8.heap.size ≤ x2.heap.size := hHeld.bel.size
              try (have hne : ∀ k, (Value.slice A8 P.length cap8).ownBlock = some k → k ≠ x2.heap.size := fun k hk => by have := (HDA.out.lt k hk).2; omega)
              try (replace HDA := Lib.hid (DkS.on HDA.out (Kt.balloc (Below.refl _ _) (.cells #[.slice none 0 0, .int .i64 0] 24))))
              go_simp
              refine hK.out _ _ (fun _ => hHeld.alloc _) (fun hHeld => ?_)
              have hHeld := hHeld rfl
              clear hK K
              try simp only [Act.put, List.setIfInBounds_toArray, List.set_cons_zero, List.set_cons_succ]
              have rK := heap_alloc_new x2 (.cells #[.slice none 0 0, .int .i64 0] 24)
              generalize hkkP : x2.heap.size = kP at *
              clear hkkP
              generalize x2.alloc (.cells #[.slice none 0 0, .int .i64 0] 24) = xk at *
              refine Kt.G.one 7 { dst := some 136, op := Op.call { callee := Callee.value (Operand.func 7), args := #[Operand.tmp 129, Operand.tmp 131, Operand.tmp 135], argTypes := #[24, 9, 9] }, type := 29, pos := "scsi.go:101", after := #[{ on := 0, ground := Ground.data }, { on := 2, ground := Ground.data }, { on := 6, ground := Ground.data }, { on := 2, ground := Ground.chain }], guard := none } rfl (by kernel_rfl) (by rfl) (fun K hK => ?_)
              try (have hkk := lt_of_row rK)
              have hkx := hHeld.bel.size
              go_simp
              refine (Do_calls bs s (mk 42 ka kn) (d.extract 0 k1) A cap _ (HA.out.on (Kt.bthen HW8.out.bel hHeld.bel)) HN.out).mono ?_; rintro en x7 hdo
              obtain ⟨A8, cap8, rfl, hda, hb7⟩ := hdo.open2 HX1.out
              refine hK.out _ _ (fun _ => hHeld.on hb7) (fun hHeld => ?_)
              have hHeld := hHeld rfl
              clear hK K
              try simp only [Act.put, List.setIfInBounds_toArray, List.set_cons_zero, List.set_cons_succ]
              try (replace rK := Kt.row_on hb7 rK)
              try (have hne : ∀ k, (Value.slice A8 P.length cap8).ownBlock = some k → k ≠ kP := fun k hk => by have := (hda.lt k hk).1; omega)
              have HDA := Lib.hid (Kt.Sl.mono hda hkx)
              try clear hkk
              clear hdo hda hkx hb7
              unfold dkV at *
              refine Kt.G.takeP 8 { dst := some 128, op := Op.move (Operand.tmp 136), type := 29, pos := "scsi.go:101", after := #[{ on := 7, ground := Ground.data }], guard := none } ?_ (fun _ => hHeld) rfl (by kernel_rfl) (fun _ _ _ h => h) (by rfl) ?_ ?_
              rotate_left
              · intro w; go_simp; try with_reducible rfl
              try simp only [Act.put, List.setIfInBounds_toArray, List.set_cons_zero, List.set_cons_succ]
              refine Kt.G.takeP 9 { dst := some 137, op := Op.extract (Operand.tmp 128) 0, type := 24, pos := "scsi.go:101", after := #[{ on := 8, ground := Ground.data }], guard := none } ?_ (fun _ => hHeld) rfl (by kernel_rfl) (fun _ _ _ h => h) (by rfl) ?_ ?_
              rotate_left
              · intro w; go_simp; try with_reducible rfl
              try simp only [Act.put, List.setIfInBounds_toArray, List.set_cons_zero, List.set_cons_succ]
              refine Kt.G.takeP 10 { dst := some 138, op := Op.extract (Operand.tmp 128) 1, type := 9, pos := "scsi.go:101", after := #[{ on := 8, ground := Ground.data }, { on := 13, ground := Ground.gcOnly Departure.lateStores }], guard := none } ?_ (fun _ => hHeld) rfl (by kernel_rfl) (fun _ _ _ h => h) (by rfl) ?_ ?_
              rotate_left
              · intro w; go_simp; try with_reducible rfl
              try simp only [Act.put, List.setIfInBounds_toArray, List.set_cons_zero, List.set_cons_succ]
              refine Kt.G.takeP 11 { dst := some 139, op := Op.extract (Operand.tmp 128) 2, type := 25, pos := "scsi.go:101", after := #[{ on := 8, ground := Ground.data }, { on := 14, ground := Ground.gcOnly Departure.lateStores }], guard := none } ?_ (fun _ => hHeld) rfl (by kernel_rfl) (fun _ _ _ h => h) (by rfl) ?_ ?_
              rotate_left
              · intro w; go_simp; try with_reducible rfl
              try simp only [Act.put, List.setIfInBounds_toArray, List.set_cons_zero, List.set_cons_succ]
              refine Kt.G.one 13 { dst := none, op := Op.store 24 (Operand.tmp 26) (Operand.tmp 137), type := 0, pos := "scsi.go:101", after := #[{ on := 12, ground := Ground.data }, { on := 9, ground := Ground.data }, { on := 7, ground := Ground.chain }, { on := 0, ground := Ground.phase }, { on := 1, ground := Ground.phase }, { on := 2, ground := Ground.phase }, { on := 3, ground := Ground.phase }, { on := 4, ground := Ground.phase }, { on := 5, ground := Ground.phase }, { on := 6, ground := Ground.phase }, { on := 7, ground := Ground.phase }, { on := 8, ground := Ground.phase }, { on := 9, ground := Ground.phase }, { on := 10, ground := Ground.textOnly Departure.lateStores }, { on := 11, ground := Ground.textOnly Departure.lateStores }, { on := 12, ground := Ground.phase }], guard := none } rfl (by kernel_rfl) (by rfl) (fun K hK => ?_)
              have cK := fun i => cell_of_row _ _ i _ _ _ rK; have fK := fun i => frozen_of_row _ _ i _ _ rK
              go_simp
              refine hK.out _ _ (Kt.G.late (by kernel_rfl)) (fun _ => ?_)
              clear hK K
              try simp only [Act.put, List.setIfInBounds_toArray, List.set_cons_zero, List.set_cons_succ]
              refine Kt.G.takeP 14 { dst := some 27, op := Op.assign (Operand.tmp 138), type := 9, pos := "scsi.go:101", after := #[{ on := 10, ground := Ground.data }, { on := 13, ground := Ground.chain }, { on := 0, ground := Ground.phase }, { on := 1, ground := Ground.phase }, { on := 2, ground := Ground.phase }, { on := 3, ground := Ground.phase }, { on := 4, ground := Ground.phase }, { on := 5, ground := Ground.phase }, { on := 6, ground := Ground.phase }, { on := 7, ground := Ground.phase }, { on := 8, ground := Ground.phase }, { on := 9, ground := Ground.phase }, { on := 10, ground := Ground.phase }, { on := 11, ground := Ground.textOnly Departure.lateStores }, { on := 12, ground := Ground.phase }, { on := 13, ground := Ground.phase }], guard := none } ?_ (Kt.G.late (by kernel_rfl)) rfl (by kernel_rfl) (fun _ _ _ h => h) (by rfl) ?_ ?_
              rotate_left
              · intro w; go_simp; try with_reducible rfl
              try simp only [Act.put, List.setIfInBounds_toArray, List.set_cons_zero, List.set_cons_succ]
              refine Kt.G.takeP 15 { dst := some 12, op := Op.assign (Operand.tmp 139), type := 25, pos := "scsi.go:101", after := #[{ on := 11, ground := Ground.data }, { on := 14, ground := Ground.chain }, { on := 0, ground := Ground.phase }, { on := 1, ground := Ground.phase }, { on := 2, ground := Ground.phase }, { on := 3, ground := Ground.phase }, { on := 4, ground := Ground.phase }, { on := 5, ground := Ground.phase }, { on := 6, ground := Ground.phase }, { on := 7, ground := Ground.phase }, { on := 8, ground := Ground.phase }, { on := 9, ground := Ground.phase }, { on := 10, ground := Ground.phase }, { on := 11, ground := Ground.phase }, { on := 12, ground := Ground.phase }, { on := 13, ground := Ground.phase }, { on := 14, ground := Ground.phase }], guard := none } ?_ (Kt.G.late (by kernel_rfl)) rfl (by kernel_rfl) (fun _ _ _ h => h) (by rfl) ?_ ?_
              rotate_left
              · intro w; go_simp; try with_reducible rfl
              try simp only [Act.put, List.setIfInBounds_toArray, List.set_cons_zero, List.set_cons_succ]
              refine Kt.G.done (by kernel_rfl) (NoPanic.normal ?_) _
              go_wp2_with fail
              go_meet
              case rel =>
                exact ⟨rfl, kP, A8, cap8, rfl, HW8.out.put hHeld.bel kP hk0 rK (Kt.Sl.sets HDA.out [.slice A8 P.length cap8, .int .i64 0] kP 0 hne)⟩
          · have hk0 : W8.heap.size ≤ x0.heap.size := hHeld.bel.size
            try (have hne : ∀ k, (Value.slice A8 P.length cap8).ownBlock = some k → k ≠ x0.heap.size := fun k hk => by have := (HDA.out.lt k hk).2; omega)
            try (replace HDA := Lib.hid (DkS.on HDA.out (Kt.balloc (Below.refl _ _) (.cells #[.slice none 0 0, .int .i64 0] 24))))
            go_simp
            refine hK.out _ _ (fun _ => hHeld.alloc _) (fun hHeld => ?_)
            have hHeld := hHeld rfl
            clear hK K
            try simp only [Act.put, List.setIfInBounds_toArray, List.set_cons_zero, List.set_cons_succ]
            have rK := heap_alloc_new x0 (.cells #[.slice none 0 0, .int .i64 0] 24)
            generalize hkkP : x0.heap.size = kP at *
            clear hkkP
            generalize x0.alloc (.cells #[.slice none 0 0, .int .i64 0] 24) = xk at *
            refine Kt.G.one 2 { dst := some 131, op := Op.call { callee := Callee.value (Operand.func 8), args := #[Operand.tmp 130, Operand.const (Value.string { data := #[40] }), Operand.const (Value.string { data := #[42] }), Operand.const (Value.int IntKind.i64 1)], argTypes := #[9, 9, 9, 3] }, type := 9, pos := "scsi.go:101", after := #[{ on := 1, ground := Ground.data }], guard := none } rfl (by kernel_rfl) (by rfl) (fun K hK => ?_)
            go_simp
            refine (rep_up ka kn mx _ (kept_cell (Kt.bthen HW8.out.bel hHeld.bel) HM.out)).mono ?_; rintro en x2 ⟨rfl, hb2⟩
            refine hK.out _ _ (fun _ => hHeld.on hb2) (fun hHeld => ?_)
            have hHeld := hHeld rfl
            clear hK K
            try simp only [Act.put, List.setIfInBounds_toArray, List.set_cons_zero, List.set_cons_succ]
            try (replace rK := Kt.row_on hb2 rK)
            clear hb2
            refine Kt.G.one 7 { dst := some 136, op := Op.call { callee := Callee.value (Operand.func 7), args := #[Operand.tmp 129, Operand.tmp 131, Operand.tmp 135], argTypes := #[24, 9, 9] }, type := 29, pos := "scsi.go:101", after := #[{ on := 0, ground := Ground.data }, { on := 2, ground := Ground.data }, { on := 6, ground := Ground.data }, { on := 2, ground := Ground.chain }], guard := none } rfl (by kernel_rfl) (by rfl) (fun K hK => ?_)
            try (have hkk := lt_of_row rK)
            have hkx := hHeld.bel.size
            go_simp
            refine (Do_calls bs s (mk 42 ka kn) (d.extract 0 k1) A cap _ (HA.out.on (Kt.bthen HW8.out.bel hHeld.bel)) HN.out).mono ?_; rintro en x7 hdo
            obtain ⟨A8, cap8, rfl, hda, hb7⟩ := hdo.open2 HX1.out
            refine hK.out _ _ (fun _ => hHeld.on hb7) (fun hHeld => ?_)
            have hHeld := hHeld rfl
            clear hK K
            try simp only [Act.put, List.setIfInBounds_toArray, List.set_cons_zero, List.set_cons_succ]
            try (replace rK := Kt.row_on hb7 rK)
            try (have hne : ∀ k, (Value.slice A8 P.length cap8).ownBlock = some k → k ≠ kP := fun k hk => by have := (hda.lt k hk).1; omega)
            have HDA := Lib.hid (Kt.Sl.mono hda hkx)
            try clear hkk
            clear hdo hda hkx hb7
            unfold dkV at *
            refine Kt.G.takeP 8 { dst := some 128, op := Op.move (Operand.tmp 136), type := 29, pos := "scsi.go:101", after := #[{ on := 7, ground := Ground.data }], guard := none } ?_ (fun _ => hHeld) rfl (by kernel_rfl) (fun _ _ _ h => h) (by rfl) ?_ ?_
            rotate_left
            · intro w; go_simp; try with_reducible rfl
            try simp only [Act.put, List.setIfInBounds_toArray, List.set_cons_zero, List.set_cons_succ]
            refine Kt.G.takeP 9 { dst := some 137, op := Op.extract (Operand.tmp 128) 0, type := 24, pos := "scsi.go:101", after := #[{ on := 8, ground := Ground.data }], guard := none } ?_ (fun _ => hHeld) rfl (by kernel_rfl) (fun _ _ _ h => h) (by rfl) ?_ ?_
            rotate_left
            · intro w; go_simp; try with_reducible rfl
            try simp only [Act.put, List.setIfInBounds_toArray, List.set_cons_zero, List.set_cons_succ]
            refine Kt.G.takeP 10 { dst := some 138, op := Op.extract (Operand.tmp 128) 1, type := 9, pos := "scsi.go:101", after := #[{ on := 8, ground := Ground.data }, { on := 13, ground := Ground.gcOnly Departure.lateStores }], guard := none } ?_ (fun _ => hHeld) rfl (by kernel_rfl) (fun _ _ _ h => h) (by rfl) ?_ ?_
            rotate_left
            · intro w; go_simp; try with_reducible rfl
            try simp only [Act.put, List.setIfInBounds_toArray, List.set_cons_zero, List.set_cons_succ]
            refine Kt.G.takeP 11 { dst := some 139, op := Op.extract (Operand.tmp 128) 2, type := 25, pos := "scsi.go:101", after := #[{ on := 8, ground := Ground.data }, { on := 14, ground := Ground.gcOnly Departure.lateStores }], guard := none } ?_ (fun _ => hHeld) rfl (by kernel_rfl) (fun _ _ _ h => h) (by rfl) ?_ ?_
            rotate_left
            · intro w; go_simp; try with_reducible rfl
            try simp only [Act.put, List.setIfInBounds_toArray, List.set_cons_zero, List.set_cons_succ]
            refine Kt.G.one 13 { dst := none, op := Op.store 24 (Operand.tmp 26) (Operand.tmp 137), type := 0, pos := "scsi.go:101", after := #[{ on := 12, ground := Ground.data }, { on := 9, ground := Ground.data }, { on := 7, ground := Ground.chain }, { on := 0, ground := Ground.phase }, { on := 1, ground := Ground.phase }, { on := 2, ground := Ground.phase }, { on := 3, ground := Ground.phase }, { on := 4, ground := Ground.phase }, { on := 5, ground := Ground.phase }, { on := 6, ground := Ground.phase }, { on := 7, ground := Ground.phase }, { on := 8, ground := Ground.phase }, { on := 9, ground := Ground.phase }, { on := 10, ground := Ground.textOnly Departure.lateStores }, { on := 11, ground := Ground.textOnly Departure.lateStores }, { on := 12, ground := Ground.phase }], guard := none } rfl (by kernel_rfl) (by rfl) (fun K hK => ?_)
            have cK := fun i => cell_of_row _ _ i _ _ _ rK; have fK := fun i => frozen_of_row _ _ i _ _ rK
            go_simp
            refine hK.out _ _ (Kt.G.late (by kernel_rfl)) (fun _ => ?_)
            clear hK K
            try simp only [Act.put, List.setIfInBounds_toArray, List.set_cons_zero, List.set_cons_succ]
            refine Kt.G.takeP 14 { dst := some 27, op := Op.assign (Operand.tmp 138), type := 9, pos := "scsi.go:101", after := #[{ on := 10, ground := Ground.data }, { on := 13, ground := Ground.chain }, { on := 0, ground := Ground.phase }, { on := 1, ground := Ground.phase }, { on := 2, ground := Ground.phase }, { on := 3, ground := Ground.phase }, { on := 4, ground := Ground.phase }, { on := 5, ground := Ground.phase }, { on := 6, ground := Ground.phase }, { on := 7, ground := Ground.phase }, { on := 8, ground := Ground.phase }, { on := 9, ground := Ground.phase }, { on := 10, ground := Ground.phase }, { on := 11, ground := Ground.textOnly Departure.lateStores }, { on := 12, ground := Ground.phase }, { on := 13, ground := Ground.phase }], guard := none } ?_ (Kt.G.late (by kernel_rfl)) rfl (by kernel_rfl) (fun _ _ _ h => h) (by rfl) ?_ ?_
            rotate_left
            · intro w; go_simp; try with_reducible rfl
            try simp only [Act.put, List.setIfInBounds_toArray, List.set_cons_zero, List.set_cons_succ]
            refine Kt.G.takeP 15 { dst := some 12, op := Op.assign (Operand.tmp 139), type := 25, pos := "scsi.go:101", after := #[{ on := 11, ground := Ground.data }, { on := 14, ground := Ground.chain }, { on := 0, ground := Ground.phase }, { on := 1, ground := Ground.phase }, { on := 2, ground := Ground.phase }, { on := 3, ground := Ground.phase }, { on := 4, ground := Ground.phase }, { on := 5, ground := Ground.phase }, { on := 6, ground := Ground.phase }, { on := 7, ground := Ground.phase }, { on := 8, ground := Ground.phase }, { on := 9, ground := Ground.phase }, { on := 10, ground := Ground.phase }, { on := 11, ground := Ground.phase }, { on := 12, ground := Ground.phase }, { on := 13, ground := Ground.phase }, { on := 14, ground := Ground.phase }], guard := none } ?_ (Kt.G.late (by kernel_rfl)) rfl (by kernel_rfl) (fun _ _ _ h => h) (by rfl) ?_ ?_
            rotate_left
            · intro w; go_simp; try with_reducible rfl
            try simp only [Act.put, List.setIfInBounds_toArray, List.set_cons_zero, List.set_cons_succ]
            refine Kt.G.done (by kernel_rfl) (NoPanic.normal ?_) _
            go_wp2_with fail
            go_meet
            case rel =>
              exact ⟨rfl, kP, A8, cap8, rfl, HW8.out.put hHeld.bel kP hk0 rK (Kt.Sl.sets HDA.out [.slice A8 P.length cap8, .int .i64 0] kP 0 hne)⟩
          -- END 13
        case rest =>
          obtain ⟨rfl, kP, A8, cap8, rfl, hpw⟩ := hcut
          have HW9 := Lib.hid hpw
          clear hpw HW8 HX1
          go_upto_region 14 with (fail)
          -- REGION 14
          have HF := ((Kt.Fb.nil wc (Below.refl _ _)).add HW9.out.rd).add HW9.out.rp
          refine Kt.G.start 12 (Kt.Fb wc [(kP, #[.slice A8 P.length cap8, .int .i64 0], 24), (w0.heap.size, #[.slice A bs.length cap, .int .i64 s], 24)]) (by kernel_rfl) HF.drew (fun hHeld => ?_)
          clear HF
          generalize wc.drew = x0 at *
          refine Kt.G.take 0 { dst := some 141, op := Op.load 24 (Operand.tmp 26), type := 24, pos := "scsi.go:102", after := #[], guard := none } ?_ hHeld rfl (by kernel_rfl) (fun _ _ _ h => h) (by rfl) ?_ ?_
          rotate_left
          · intro w hSw; have r0 := hSw.row (kP, #[.slice A8 P.length cap8, .int .i64 0], 24) (by simp); have c0 := fun i => cell_of_row _ _ i _ _ _ r0; have r1 := hSw.row (w0.heap.size, #[.slice A bs.length cap, .int .i64 s], 24) (by simp); have c1 := fun i => cell_of_row _ _ i _ _ _ r1; dsimp only at *; go_simp; try with_reducible rfl
          try simp only [Act.put, List.setIfInBounds_toArray, List.set_cons_zero, List.set_cons_succ]
          refine Kt.G.takeP 1 { dst := some 142, op := Op.move (Operand.tmp 13), type := 9, pos := "scsi.go:102", after := #[], guard := none } ?_ (fun _ => hHeld) rfl (by kernel_rfl) (fun _ _ _ h => h) (by rfl) ?_ ?_
          rotate_left
          · intro w; go_simp; try with_reducible rfl
          try simp only [Act.put, List.setIfInBounds_toArray, List.set_cons_zero, List.set_cons_succ]
          refine Kt.G.takeP 3 { dst := some 144, op := Op.move (Operand.tmp 4), type := 9, pos := "scsi.go:102", after := #[], guard := none } ?_ (fun _ => hHeld) rfl (by kernel_rfl) (fun _ _ _ h => h) (by rfl) ?_ ?_
          rotate_left
          · intro w; go_simp; try with_reducible rfl
          try simp only [Act.put, List.setIfInBounds_toArray, List.set_cons_zero, List.set_cons_succ]
          refine Kt.G.takeP 4 { dst := some 145, op := Op.move (Operand.tmp 2), type := 3, pos := "scsi.go:102", after := #[], guard := none } ?_ (fun _ => hHeld) rfl (by kernel_rfl) (fun _ _ _ h => h) (by rfl) ?_ ?_
          rotate_left
          · intro w; go_simp; try with_reducible rfl
          try simp only [Act.put, List.setIfInBounds_toArray, List.set_cons_zero, List.set_cons_succ]
          refine Kt.G.takeP 5 { dst := some 146, op := Op.binOp BinOp.mul 3 (Operand.const (Value.int IntKind.i64 16)) (Operand.tmp 145) 3, type := 3, pos := "scsi.go:102", after := #[{ on := 4, ground := Ground.data }], guard := none } ?_ (fun _ => hHeld) rfl (by kernel_rfl) (fun _ _ _ h => h) (by rfl) ?_ ?_
          rotate_left
          · intro w; go_simp; try with_reducible rfl
          try simp only [Act.put, List.setIfInBounds_toArray, List.set_cons_zero, List.set_cons_succ]
          refine Kt.G.takeP 6 { dst := some 147, op := Op.slice 9 (Operand.tmp 144) (some (Operand.tmp 146)) none none, type := 9, pos := "scsi.go:102", after := #[{ on := 3, ground := Ground.data }, { on := 5, ground := Ground.data }], guard := none } ?_ (fun _ => hHeld) rfl (by kernel_rfl) (fun _ _ _ h => h) (by rfl) ?_ ?_
          rotate_left
          · intro w; go_simp; try with_reducible rfl
          try simp only [Act.put, List.setIfInBounds_toArray, List.set_cons_zero, List.set_cons_succ]
          refine Kt.G.one 2 { dst := some 143, op := Op.call { callee := Callee.value (Operand.func 8), args := #[Operand.tmp 142, Operand.const (Value.string { data := #[40] }), Operand.const (Value.string { data := #[42] }), Operand.const (Value.int IntKind.i64 1)], argTypes := #[9, 9, 9, 3] }, type := 9, pos := "scsi.go:102", after := #[{ on := 1, ground := Ground.data }], guard := none } rfl (by kernel_rfl) (by rfl) (fun K hK => ?_)
          go_simp
          refine (rep_up kb km mx _ (kept_cell (Kt.bthen HW9.out.bel hHeld.bel) HM.out)).mono ?_; rintro en x2 ⟨rfl, hb2⟩
          refine hK.out _ _ (fun _ => hHeld.on hb2) (fun hHeld => ?_)
          have hHeld := hHeld rfl
          clear hK K
          try simp only [Act.put, List.setIfInBounds_toArray, List.set_cons_zero, List.set_cons_succ]
          try (replace rK := Kt.row_on hb2 rK)
          clear hb2
          refine Kt.G.one 7 { dst := some 148, op := Op.call { callee := Callee.value (Operand.func 7), args := #[Operand.tmp 141, Operand.tmp 143, Operand.tmp 147], argTypes := #[24, 9, 9] }, type := 29, pos := "scsi.go:102", after := #[{ on := 0, ground := Ground.data }, { on := 2, ground := Ground.data }, { on := 6, ground := Ground.data }, { on := 2, ground := Ground.chain }], guard := none } rfl (by kernel_rfl) (by rfl) (fun K hK => ?_)
          try (have hkk := lt_of_row rK)
          have hkx := hHeld.bel.size
          go_simp
          refine (Do_calls P 0 (mk 42 kb km) (d.extract k1 d.size) A8 cap8 _ (HW9.out.dk.on hHeld.bel).toA HX2.out.2).mono ?_; rintro en x7 hdo
          obtain ⟨A9, cap9, rfl, hda, hb7⟩ := hdo.open2 HX2.out.1
          refine hK.out _ _ (fun _ => hHeld.on hb7) (fun hHeld => ?_)
          have hHeld := hHeld rfl
          clear hK K
          try simp only [Act.put, List.setIfInBounds_toArray, List.set_cons_zero, List.set_cons_succ]
          try (replace rK := Kt.row_on hb7 rK)
          try (have hne : ∀ k, (Value.slice A9 Q.length cap9).ownBlock = some k → k ≠ kP := fun k hk => by have := (hda.lt k hk).1; omega)
          have HDA := Lib.hid (Kt.Sl.mono hda hkx)
          try clear hkk
          clear hdo hda hkx hb7
          unfold dkV at *
          refine Kt.G.takeP 8 { dst := some 140, op := Op.move (Operand.tmp 148), type := 29, pos := "scsi.go:102", after := #[{ on := 7, ground := Ground.data }], guard := none } ?_ (fun _ => hHeld) rfl (by kernel_rfl) (fun _ _ _ h => h) (by rfl) ?_ ?_
          rotate_left
          · intro w; go_simp; try with_reducible rfl
          try simp only [Act.put, List.setIfInBounds_toArray, List.set_cons_zero, List.set_cons_succ]
          refine Kt.G.takeP 9 { dst := some 149, op := Op.extract (Operand.tmp 140) 0, type := 24, pos := "scsi.go:102", after := #[{ on := 8, ground := Ground.data }], guard := none } ?_ (fun _ => hHeld) rfl (by kernel_rfl) (fun _ _ _ h => h) (by rfl) ?_ ?_
          rotate_left
          · intro w; go_simp; try with_reducible rfl
          try simp only [Act.put, List.setIfInBounds_toArray, List.set_cons_zero, List.set_cons_succ]
          refine Kt.G.takeP 10 { dst := some 150, op := Op.extract (Operand.tmp 140) 1, type := 9, pos := "scsi.go:102", after := #[{ on := 8, ground := Ground.data }, { on := 12, ground := Ground.gcOnly Departure.lateStores }], guard := none } ?_ (fun _ => hHeld) rfl (by kernel_rfl) (fun _ _ _ h => h) (by rfl) ?_ ?_
          rotate_left
          · intro w; go_simp; try with_reducible rfl
          try simp only [Act.put, List.setIfInBounds_toArray, List.set_cons_zero, List.set_cons_succ]
          refine Kt.G.takeP 11 { dst := some 151, op := Op.extract (Operand.tmp 140) 2, type := 25, pos := "scsi.go:102", after := #[{ on := 8, ground := Ground.data }, { on := 12, ground := Ground.gcOnly Departure.lateStores }], guard := none } ?_ (fun _ => hHeld) rfl (by kernel_rfl) (fun _ _ _ h => h) (by rfl) ?_ ?_
          rotate_left
          · intro w; go_simp; try with_reducible rfl
          try simp only [Act.put, List.setIfInBounds_toArray, List.set_cons_zero, List.set_cons_succ]
          refine Kt.G.one 12 { dst := none, op := Op.store 24 (Operand.tmp 26) (Operand.tmp 149), type := 0, pos := "scsi.go:102", after := #[{ on := 9, ground := Ground.data }, { on := 7, ground := Ground.chain }, { on := 0, ground := Ground.phase }, { on := 1, ground := Ground.phase }, { on := 2, ground := Ground.phase }, { on := 3, ground := Ground.phase }, { on := 4, ground := Ground.phase }, { on := 5, ground := Ground.phase }, { on := 6, ground := Ground.phase }, { on := 7, ground := Ground.phase }, { on := 8, ground := Ground.phase }, { on := 9, ground := Ground.phase }, { on := 10, ground := Ground.textOnly Departure.lateStores }, { on := 11, ground := Ground.textOnly Departure.lateStores }], guard := none } rfl (by kernel_rfl) (by rfl) (fun K hK => ?_)
          have rK := hHeld.row (kP, #[.slice A8 P.length cap8, .int .i64 0], 24) (by simp)
          have cK := fun i => cell_of_row _ _ i _ _ _ rK; have fK := fun i => frozen_of_row _ _ i _ _ rK
          go_simp
          refine hK.out _ _ (Kt.G.late (by kernel_rfl)) (fun _ => ?_)
          clear hK K
          try simp only [Act.put, List.setIfInBounds_toArray, List.set_cons_zero, List.set_cons_succ]
          refine Kt.G.takeP 13 { dst := some 14, op := Op.assign (Operand.tmp 151), type := 25, pos := "scsi.go:102", after := #[{ on := 11, ground := Ground.data }, { on := 12, ground := Ground.chain }, { on := 0, ground := Ground.phase }, { on := 1, ground := Ground.phase }, { on := 2, ground := Ground.phase }, { on := 3, ground := Ground.phase }, { on := 4, ground := Ground.phase }, { on := 5, ground := Ground.phase }, { on := 6, ground := Ground.phase }, { on := 7, ground := Ground.phase }, { on := 8, ground := Ground.phase }, { on := 9, ground := Ground.phase }, { on := 10, ground := Ground.phase }, { on := 11, ground := Ground.phase }, { on := 12, ground := Ground.phase }], guard := none } ?_ (Kt.G.late (by kernel_rfl)) rfl (by kernel_rfl) (fun _ _ _ h => h) (by rfl) ?_ ?_
          rotate_left
          · intro w; go_simp; try with_reducible rfl
          try simp only [Act.put, List.setIfInBounds_toArray, List.set_cons_zero, List.set_cons_succ]
          refine Kt.G.done (by kernel_rfl) (NoPanic.normal ?_) _
          -- END 14
          go_upto_region 15 with (fail)
          refine Kt.fold (fun X => Hid (PtW w0 A cap bs s kP A9 cap9 Q X)) (Lib.hid (HW9.out.upd hHeld.bel HDA.out)) (fun W10 HW10 => ?_)
          clear HW9 HX2 HDA hHeld rK cK fK
          go_cut [16, 28, 29] from 152 to 160 (fun e p _ wx => e = .int .i64 0 ∧ ∃ kQ A10 cap10, p = .pointer (some ⟨kQ, 0, none⟩) ∧ PtQ w0 kP A9 cap9 Q kQ A10 cap10 Q wx)
          case first =>
            -- REGION 15
            have HF := (Kt.Fb.nil W10 (Below.refl _ _)).add HW10.out.rd
            refine Kt.G.start 10 (Kt.Fb W10 [(w0.heap.size, #[.slice A bs.length cap, .int .i64 s], 24)]) (by kernel_rfl) HF.drew (fun hHeld => ?_)
            clear HF
            generalize W10.drew = x0 at *
            refine Kt.G.take 0 { dst := some 153, op := Op.load 24 (Operand.tmp 5), type := 24, pos := "scsi.go:103", after := #[], guard := none } ?_ hHeld rfl (by kernel_rfl) (fun _ _ _ h => h) (by rfl) ?_ ?_
            rotate_left
            · intro w hSw; have r0 := hSw.row (w0.heap.size, #[.slice A bs.length cap, .int .i64 s], 24) (by simp); have c0 := fun i => cell_of_row _ _ i _ _ _ r0; dsimp only at *; go_simp; try with_reducible rfl
            try simp only [Act.put, List.setIfInBounds_toArray, List.set_cons_zero, List.set_cons_succ]
            refine Kt.G.takeP 1 { dst := some 154, op := Op.move (Operand.tmp 15), type := 9, pos := "scsi.go:103", after := #[], guard := none } ?_ (fun _ => hHeld) rfl (by kernel_rfl) (fun _ _ _ h => h) (by rfl) ?_ ?_
            rotate_left
            · intro w; go_simp; try with_reducible rfl
            try simp only [Act.put, List.setIfInBounds_toArray, List.set_cons_zero, List.set_cons_succ]
            refine Kt.G.takeP 3 { dst := some 156, op := Op.move (Operand.tmp 4), type := 9, pos := "scsi.go:103", after := #[], guard := none } ?_ (fun _ => hHeld) rfl (by kernel_rfl) (fun _ _ _ h => h) (by rfl) ?_ ?_
            rotate_left
            · intro w; go_simp; try with_reducible rfl
            try simp only [Act.put, List.setIfInBounds_toArray, List.set_cons_zero, List.set_cons_succ]
            refine Kt.G.two 2 9 { dst := some 155, op := Op.call { callee := Callee.value (Operand.func 8), args := #[Operand.tmp 154, Operand.const (Value.string { data := #[40] }), Operand.const (Value.string { data := #[42] }), Operand.const (Value.int IntKind.i64 1)], argTypes := #[9, 9, 9, 3] }, type := 9, pos := "scsi.go:103", after := #[{ on := 1, ground := Ground.data }], guard := none } { dst := some 28, op := Op.alloc 24, type := 0, pos := "scsi.go:103", after := #[], guard := none } rfl rfl (by kernel_rfl) (by rfl) (by rfl) (fun K hK => ?_) (fun K hK => ?_)
            · go_simp
              refine (rep_up ka (kn + km) mx _ (kept_cell (Kt.bthen HW10.out.bel hHeld.bel) HM.out)).mono ?_; rintro en x2 ⟨rfl, hb2⟩
              refine hK.out _ _ (fun _ => hHeld.on hb2) (fun hHeld => ?_)
              have hHeld := hHeld rfl
              clear hK K
              try simp only [Act.put, List.setIfInBounds_toArray, List.set_cons_zero, List.set_cons_succ]
              try (replace rK := Kt.row_on hb2 rK)
              clear hb2
              refine Kt.G.two 4 9 { dst := some 157, op := Op.call { callee := Callee.value (Operand.func 7), args := #[Operand.tmp 153, Operand.tmp 155, Operand.tmp 156], argTypes := #[24, 9, 9] }, type := 29, pos := "scsi.go:103", after := #[{ on := 0, ground := Ground.data }, { on := 2, ground := Ground.data }, { on := 3, ground := Ground.data }, { on := 2, ground := Ground.chain }], guard := none } { dst := some 28, op := Op.alloc 24, type := 0, pos := "scsi.go:103", after := #[], guard := none } rfl rfl (by kernel_rfl) (by rfl) (by rfl) (fun K hK => ?_) (fun K hK => ?_)
              · try (have hkk := lt_of_row rK)
                have hkx := hHeld.bel.size
                go_simp
                refine (Do_calls bs s (mk 42 ka (kn + km)) d A cap _ (HA.out.on (Kt.bthen HW10.out.bel hHeld.bel)) HN.out).mono ?_; rintro en x4 hdo
                obtain ⟨A10, cap10, rfl, hda, hb4⟩ := hdo.open2 HX3.out
                refine hK.out _ _ (fun _ => hHeld.on hb4) (fun hHeld => ?_)
                have hHeld := hHeld rfl
                clear hK K
                try simp only [Act.put, List.setIfInBounds_toArray, List.set_cons_zero, List.set_cons_succ]
                try (replace rK := Kt.row_on hb4 rK)
                try (have hne : ∀ k, (Value.slice A10 Q.length cap10).ownBlock = some k → k ≠ kQ := fun k hk => by have := (hda.lt k hk).1; omega)
                have HDA := Lib.hid (Kt.Sl.mono hda hkx)
                try clear hkk
                clear hdo hda hkx hb4
                unfold dkV at *
                refine Kt.G.takeP 5 { dst := some 152, op := Op.move (Operand.tmp 157), type := 29, pos := "scsi.go:103", after := #[{ on := 4, ground := Ground.data }], guard := none } ?_ (fun _ => hHeld) rfl (by kernel_rfl) (fun _ _ _ h => h) (by rfl) ?_ ?_
                rotate_left
                · intro w; go_simp; try with_reducible rfl
                try simp only [Act.put, List.setIfInBounds_toArray, List.set_cons_zero, List.set_cons_succ]
                refine Kt.G.takeP 6 { dst := some 158, op := Op.extract (Operand.tmp 152) 0, type := 24, pos := "scsi.go:103", after := #[{ on := 5, ground := Ground.data }], guard := none } ?_ (fun _ => hHeld) rfl (by kernel_rfl) (fun _ _ _ h => h) (by rfl) ?_ ?_
                rotate_left
                · intro w; go_simp; try with_reducible rfl
                try simp only [Act.put, List.setIfInBounds_toArray, List.set_cons_zero, List.set_cons_succ]
                refine Kt.G.takeP 7 { dst := some 159, op := Op.extract (Operand.tmp 152) 1, type := 9, pos := "scsi.go:103", after := #[{ on := 5, ground := Ground.data }, { on := 10, ground := Ground.gcOnly Departure.lateStores }], guard := none } ?_ (fun _ => hHeld) rfl (by kernel_rfl) (fun _ _ _ h => h) (by rfl) ?_ ?_
                rotate_left
                · intro w; go_simp; try with_reducible rfl
                try simp only [Act.put, List.setIfInBounds_toArray, List.set_cons_zero, List.set_cons_succ]
                refine Kt.G.takeP 8 { dst := some 160, op := Op.extract (Operand.tmp 152) 2, type := 25, pos := "scsi.go:103", after := #[{ on := 5, ground := Ground.data }, { on := 11, ground := Ground.gcOnly Departure.lateStores }], guard := none } ?_ (fun _ => hHeld) rfl (by kernel_rfl) (fun _ _ _ h => h) (by rfl) ?_ ?_
                rotate_left
                · intro w; go_simp; try with_reducible rfl
                try simp only [Act.put, List.setIfInBounds_toArray, List.set_cons_zero, List.set_cons_succ]
                refine Kt.G.one 9 { dst := some 28, op := Op.alloc 24, type := 0, pos := "scsi.go:103", after := #[], guard := none } rfl (by kernel_rfl) (by rfl) (fun K hK => ?_)
                have hk0 : W10.heap.size ≤ x4.heap.size := hHeld.bel.size
                try (have hne : ∀ k, (Value.slice A10 Q.length cap10).ownBlock = some k → k ≠ x4.heap.size := fun k hk => by have := (HDA.out.lt k hk).2; omega)
                try (replace HDA := Lib.hid (DkS.on HDA.out (Kt.balloc (Below.refl _ _) (.cells #[.slice none 0 0, .int .i64 0] 24))))
                go_simp
                refine hK.out _ _ (fun _ => hHeld.alloc _) (fun hHeld => ?_)
                have hHeld := hHeld rfl
                clear hK K
                try simp only [Act.put, List.setIfInBounds_toArray, List.set_cons_zero, List.set_cons_succ]
                have rK := heap_alloc_new x4 (.cells #[.slice none 0 0, .int .i64 0] 24)
                generalize hkkQ : x4.heap.size = kQ at *
                clear hkkQ
                generalize x4.alloc (.cells #[.slice none 0 0, .int .i64 0] 24) = xk at *
                refine Kt.G.one 10 { dst := none, op := Op.store 24 (Operand.tmp 28) (Operand.tmp 158), type := 0, pos := "scsi.go:103", after := #[{ on := 9, ground := Ground.data }, { on := 6, ground := Ground.data }, { on := 4, ground := Ground.chain }, { on := 0, ground := Ground.phase }, { on := 1, ground := Ground.phase }, { on := 2, ground := Ground.phase }, { on := 3, ground := Ground.phase }, { on := 4, ground := Ground.phase }, { on := 5, ground := Ground.phase }, { on := 6, ground := Ground.phase }, { on := 7, ground := Ground.textOnly Departure.lateStores }, { on := 8, ground := Ground.textOnly Departure.lateStores }, { on := 9, ground := Ground.phase }], guard := none } rfl (by kernel_rfl) (by rfl) (fun K hK => ?_)
                have cK := fun i => cell_of_row _ _ i _ _ _ rK; have fK := fun i => frozen_of_row _ _ i _ _ rK
                go_simp
                refine hK.out _ _ (Kt.G.late (by kernel_rfl)) (fun _ => ?_)
                clear hK K
                try simp only [Act.put, List.setIfInBounds_toArray, List.set_cons_zero, List.set_cons_succ]
                refine Kt.G.takeP 11 { dst := some 29, op := Op.assign (Operand.tmp 159), type := 9, pos := "scsi.go:103", after := #[{ on := 7, ground := Ground.data }, { on := 10, ground := Ground.chain }, { on := 0, ground := Ground.phase }, { on := 1, ground := Ground.phase }, { on := 2, ground := Ground.phase }, { on := 3, ground := Ground.phase }, { on := 4, ground := Ground.phase }, { on := 5, ground := Ground.phase }, { on := 6, ground := Ground.phase }, { on := 7, ground := Ground.phase }, { on := 8, ground := Ground.textOnly Departure.lateStores }, { on := 9, ground := Ground.phase }, { on := 10, ground := Ground.phase }], guard := none } ?_ (Kt.G.late (by kernel_rfl)) rfl (by kernel_rfl) (fun _ _ _ h => h) (by rfl) ?_ ?_
                rotate_left
                · intro w; go_simp; try with_reducible rfl
                try simp only [Act.put, List.setIfInBounds_toArray, List.set_cons_zero, List.set_cons_succ]
                refine Kt.G.takeP 12 { dst := some 16, op := Op.assign (Operand.tmp 160), type := 25, pos := "scsi.go:103", after := #[{ on := 8, ground := Ground.data }, { on := 11, ground := Ground.chain }, { on := 0, ground := Ground.phase }, { on := 1, ground := Ground.phase }, { on := 2, ground := Ground.phase }, { on := 3, ground := Ground.phase }, { on := 4, ground := Ground.phase }, { on := 5, ground := Ground.phase }, { on := 6, ground := Ground.phase }, { on := 7, ground := Ground.phase }, { on := 8, ground := Ground.phase }, { on := 9, ground := Ground.phase }, { on := 10, ground := Ground.phase }, { on := 11, ground := Ground.phase }], guard := none } ?_ (Kt.G.late (by kernel_rfl)) rfl (by kernel_rfl) (fun _ _ _ h => h) (by rfl) ?_ ?_
                rotate_left
                · intro w; go_simp; try with_reducible rfl
                try simp only [Act.put, List.setIfInBounds_toArray, List.set_cons_zero, List.set_cons_succ]
                refine Kt.G.done (by kernel_rfl) (NoPanic.normal ?_) _
                go_wp2_with fail
                go_meet
                case rel =>
                  exact ⟨rfl, kQ, A10, cap10, rfl, HW10.out.more hHeld.bel kQ hk0 rK (Kt.Sl.sets HDA.out [.slice A10 Q.length cap10, .int .i64 0] kQ 0 hne)⟩
              · have hk0 : W10.heap.size ≤ x2.heap.size := hHeld.bel.size
                try (have hne : ∀ k, (Value.slice A10 Q.length cap10).ownBlock = some k → k ≠ x2.heap.size := fun k hk => by have := (HDA.out.lt k hk).2; omega)
                try (replace HDA := Lib.hid (DkS.on HDA.out (Kt.balloc (Below.refl _ _) (.cells #[.slice none 0 0, .int .i64 0] 24))))
                go_simp
                refine hK.out _ _ (fun _ => hHeld.alloc _) (fun hHeld => ?_)
                have hHeld := hHeld rfl
                clear hK K
                try simp only [Act.put, List.setIfInBounds_toArray, List.set_cons_zero, List.set_cons_succ]
                have rK := heap_alloc_new x2 (.cells #[.slice none 0 0, .int .i64 0] 24)
                generalize hkkQ : x2.heap.size = kQ at *
                clear hkkQ
                generalize x2.alloc (.cells #[.slice none 0 0, .int .i64 0] 24) = xk at *
                refine Kt.G.one 4 { dst := some 157, op := Op.call { callee := Callee.value (Operand.func 7), args := #[Operand.tmp 153, Operand.tmp 155, Operand.tmp 156], argTypes := #[24, 9, 9] }, type := 29, pos := "scsi.go:103", after := #[{ on := 0, ground := Ground.data }, { on := 2, ground := Ground.data }, { on := 3, ground := Ground.data }, { on := 2, ground := Ground.chain }], guard := none } rfl (by kernel_rfl) (by rfl) (fun K hK => ?_)
                try (have hkk := lt_of_row rK)
                have hkx := hHeld.bel.size
                go_simp
                refine (Do_calls bs s (mk 42 ka (kn + km)) d A cap _ (HA.out.on (Kt.bthen HW10.out.bel hHeld.bel)) HN.out).mono ?_; rintro en x4 hdo
                obtain ⟨A10, cap10, rfl, hda, hb4⟩ := hdo.open2 HX3.out
                refine hK.out _ _ (fun _ => hHeld.on hb4) (fun hHeld => ?_)
                have hHeld := hHeld rfl
                clear hK K
                try simp only [Act.put, List.setIfInBounds_toArray, List.set_cons_zero, List.set_cons_succ]
                try (replace rK := Kt.row_on hb4 rK)
                try (have hne : ∀ k, (Value.slice A10 Q.length cap10).ownBlock = some k → k ≠ kQ := fun k hk => by have := (hda.lt k hk).1; omega)
                have HDA := Lib.hid (Kt.Sl.mono hda hkx)
                try clear hkk
                clear hdo hda hkx hb4
                unfold dkV at *
                refine Kt.G.takeP 5 { dst := some 152, op := Op.move (Operand.tmp 157), type := 29, pos := "scsi.go:103", after := #[{ on := 4, ground := Ground.data }], guard := none } ?_ (fun _ => hHeld) rfl (by kernel_rfl) (fun _ _ _ h => h) (by rfl) ?_ ?_
                rotate_left
                · intro w; go_simp; try with_reducible rfl
                try simp only [Act.put, List.setIfInBounds_toArray, List.set_cons_zero, List.set_cons_succ]
                refine Kt.G.takeP 6 { dst := some 158, op := Op.extract (Operand.tmp 152) 0, type := 24, pos := "scsi.go:103", after := #[{ on := 5, ground := Ground.data }], guard := none } ?_ (fun _ => hHeld) rfl (by kernel_rfl) (fun _ _ _ h => h) (by rfl) ?_ ?_
                rotate_left
                · intro w; go_simp; try with_reducible rfl
                try simp only [Act.put, List.setIfInBounds_toArray, List.set_cons_zero, List.set_cons_succ]
                refine Kt.G.takeP 7 { dst := some 159, op := Op.extract (Operand.tmp 152) 1, type := 9, pos := "scsi.go:103", after := #[{ on := 5, ground := Ground.data }, { on := 10, ground := Ground.gcOnly Departure.lateStores }], guard := none } ?_ (fun _ => hHeld) rfl (by kernel_rfl) (fun _ _ _ h => h) (by rfl) ?_ ?_
                rotate_left
                · intro w; go_simp; try with_reducible rfl
                try simp only [Act.put, List.setIfInBounds_toArray, List.set_cons_zero, List.set_cons_succ]
                refine Kt.G.takeP 8 { dst := some 160, op := Op.extract (Operand.tmp 152) 2, type := 25, pos := "scsi.go:103", after := #[{ on := 5, ground := Ground.data }, { on := 11, ground := Ground.gcOnly Departure.lateStores }], guard := none } ?_ (fun _ => hHeld) rfl (by kernel_rfl) (fun _ _ _ h => h) (by rfl) ?_ ?_
                rotate_left
                · intro w; go_simp; try with_reducible rfl
                try simp only [Act.put, List.setIfInBounds_toArray, List.set_cons_zero, List.set_cons_succ]
                refine Kt.G.one 10 { dst := none, op := Op.store 24 (Operand.tmp 28) (Operand.tmp 158), type := 0, pos := "scsi.go:103", after := #[{ on := 9, ground := Ground.data }, { on := 6, ground := Ground.data }, { on := 4, ground := Ground.chain }, { on := 0, ground := Ground.phase }, { on := 1, ground := Ground.phase }, { on := 2, ground := Ground.phase }, { on := 3, ground := Ground.phase }, { on := 4, ground := Ground.phase }, { on := 5, ground := Ground.phase }, { on := 6, ground := Ground.phase }, { on := 7, ground := Ground.textOnly Departure.lateStores }, { on := 8, ground := Ground.textOnly Departure.lateStores }, { on := 9, ground := Ground.phase }], guard := none } rfl (by kernel_rfl) (by rfl) (fun K hK => ?_)
                have cK := fun i => cell_of_row _ _ i _ _ _ rK; have fK := fun i => frozen_of_row _ _ i _ _ rK
                go_simp
                refine hK.out _ _ (Kt.G.late (by kernel_rfl)) (fun _ => ?_)
                clear hK K
                try simp only [Act.put, List.setIfInBounds_toArray, List.set_cons_zero, List.set_cons_succ]
                refine Kt.G.takeP 11 { dst := some 29, op := Op.assign (Operand.tmp 159), type := 9, pos := "scsi.go:103", after := #[{ on := 7, ground := Ground.data }, { on := 10, ground := Ground.chain }, { on := 0, ground := Ground.phase }, { on := 1, ground := Ground.phase }, { on := 2, ground := Ground.phase }, { on := 3, ground := Ground.phase }, { on := 4, ground := Ground.phase }, { on := 5, ground := Ground.phase }, { on := 6, ground := Ground.phase }, { on := 7, ground := Ground.phase }, { on := 8, ground := Ground.textOnly Departure.lateStores }, { on := 9, ground := Ground.phase }, { on := 10, ground := Ground.phase }], guard := none } ?_ (Kt.G.late (by kernel_rfl)) rfl (by kernel_rfl) (fun _ _ _ h => h) (by rfl) ?_ ?_
                rotate_left
                · intro w; go_simp; try with_reducible rfl
                try simp only [Act.put, List.setIfInBounds_toArray, List.set_cons_zero, List.set_cons_succ]
                refine Kt.G.takeP 12 { dst := some 16, op := Op.assign (Operand.tmp 160), type := 25, pos := "scsi.go:103", after := #[{ on := 8, ground := Ground.data }, { on := 11, ground := Ground.chain }, { on := 0, ground := Ground.phase }, { on := 1, ground := Ground.phase }, { on := 2, ground := Ground.phase }, { on := 3, ground := Ground.phase }, { on := 4, ground := Ground.phase }, { on := 5, ground := Ground.phase }, { on := 6, ground := Ground.phase }, { on := 7, ground := Ground.phase }, { on := 8, ground := Ground.phase }, { on := 9, ground := Ground.phase }, { on := 10, ground := Ground.phase }, { on := 11, ground := Ground.phase }], guard := none } ?_ (Kt.G.late (by kernel_rfl)) rfl (by kernel_rfl) (fun _ _ _ h => h) (by rfl) ?_ ?_
                rotate_left
                · intro w; go_simp; try with_reducible rfl
                try simp only [Act.put, List.setIfInBounds_toArray, List.set_cons_zero, List.set_cons_succ]
                refine Kt.G.done (by kernel_rfl) (NoPanic.normal ?_) _
                go_wp2_with fail
                go_meet
                case rel =>
                  exact ⟨rfl, kQ, A10, cap10, rfl, HW10.out.more hHeld.bel kQ hk0 rK (Kt.Sl.sets HDA.out [.slice A10 Q.length cap10, .int .i64 0] kQ 0 hne)⟩
            · have hk0 : W10.heap.size ≤ x0.heap.size := hHeld.bel.size
              try (have hne : ∀ k, (Value.slice A10 Q.length cap10).ownBlock = some k → k ≠ x0.heap.size := fun k hk => by have := (HDA.out.lt k hk).2; omega)
              try (replace HDA := Lib.hid (DkS.on HDA.out (Kt.balloc (Below.refl _ _) (.cells #[.slice none 0 0, .int .i64 0] 24))))
              go_simp
              refine hK.out _ _ (fun _ => hHeld.alloc _) (fun hHeld => ?_)
              have hHeld := hHeld rfl
              clear hK K
              try simp only [Act.put, List.setIfInBounds_toArray, List.set_cons_zero, List.set_cons_succ]
              have rK := heap_alloc_new x0 (.cells #[.slice none 0 0, .int .i64 0] 24)
              generalize hkkQ : x0.heap.size = kQ at *
              clear hkkQ
              generalize x0.alloc (.cells #[.slice none 0 0, .int .i64 0] 24) = xk at *
              refine Kt.G.one 2 { dst := some 155, op := Op.call { callee := Callee.value (Operand.func 8), args := #[Operand.tmp 154, Operand.const (Value.string { data := #[40] }), Operand.const (Value.string { data := #[42] }), Operand.const (Value.int IntKind.i64 1)], argTypes := #[9, 9, 9, 3] }, type := 9, pos := "scsi.go:103", after := #[{ on := 1, ground := Ground.data }], guard := none } rfl (by kernel_rfl) (by rfl) (fun K hK => ?_)
              go_simp
              refine (rep_up ka (kn + km) mx _ (kept_cell (Kt.bthen HW10.out.bel hHeld.bel) HM.out)).mono ?_; rintro en x2 ⟨rfl, hb2⟩
              refine hK.out _ _ (fun _ => hHeld.on hb2) (fun hHeld => ?_)
              have hHeld := hHeld rfl
              clear hK K
              try simp only [Act.put, List.setIfInBounds_toArray, List.set_cons_zero, List.set_cons_succ]
              try (replace rK := Kt.row_on hb2 rK)
              clear hb2
              refine Kt.G.one 4 { dst := some 157, op := Op.call { callee := Callee.value (Operand.func 7), args := #[Operand.tmp 153, Operand.tmp 155, Operand.tmp 156], argTypes := #[24, 9, 9] }, type := 29, pos := "scsi.go:103", after := #[{ on := 0, ground := Ground.data }, { on := 2, ground := Ground.data }, { on := 3, ground := Ground.data }, { on := 2, ground := Ground.chain }], guard := none } rfl (by kernel_rfl) (by rfl) (fun K hK => ?_)
              try (have hkk := lt_of_row rK)
              have hkx := hHeld.bel.size
              go_simp
              refine (Do_calls bs s (mk 42 ka (kn + km)) d A cap _ (HA.out.on (Kt.bthen HW10.out.bel hHeld.bel)) HN.out).mono ?_; rintro en x4 hdo
              obtain ⟨A10, cap10, rfl, hda, hb4⟩ := hdo.open2 HX3.out
              refine hK.out _ _ (fun _ => hHeld.on hb4) (fun hHeld => ?_)
              have hHeld := hHeld rfl
              clear hK K
              try simp only [Act.put, List.setIfInBounds_toArray, List.set_cons_zero, List.set_cons_succ]
              try (replace rK := Kt.row_on hb4 rK)
              try (have hne : ∀ k, (Value.slice A10 Q.length cap10).ownBlock = some k → k ≠ kQ := fun k hk => by have := (hda.lt k hk).1; omega)
              have HDA := Lib.hid (Kt.Sl.mono hda hkx)
              try clear hkk
              clear hdo hda hkx hb4
              unfold dkV at *
              refine Kt.G.takeP 5 { dst := some 152, op := Op.move (Operand.tmp 157), type := 29, pos := "scsi.go:103", after := #[{ on := 4, ground := Ground.data }], guard := none } ?_ (fun _ => hHeld) rfl (by kernel_rfl) (fun _ _ _ h => h) (by rfl) ?_ ?_
              rotate_left
              · intro w; go_simp; try with_reducible rfl
              try simp only [Act.put, List.setIfInBounds_toArray, List.set_cons_zero, List.set_cons_succ]
              refine Kt.G.takeP 6 { dst := some 158, op := Op.extract (Operand.tmp 152) 0, type := 24, pos := "scsi.go:103", after := #[{ on := 5, ground := Ground.data }], guard := none } ?_ (fun _ => hHeld) rfl (by kernel_rfl) (fun _ _ _ h => h) (by rfl) ?_ ?_
              rotate_left
              · intro w; go_simp; try with_reducible rfl
              try simp only [Act.put, List.setIfInBounds_toArray, List.set_cons_zero, List.set_cons_succ]
              refine Kt.G.takeP 7 { dst := some 159, op := Op.extract (Operand.tmp 152) 1, type := 9, pos := "scsi.go:103", after := #[{ on := 5, ground := Ground.data }, { on := 10, ground := Ground.gcOnly Departure.lateStores }], guard := none } ?_ (fun _ => hHeld) rfl (by kernel_rfl) (fun _ _ _ h => h) (by rfl) ?_ ?_
              rotate_left
              · intro w; go_simp; try with_reducible rfl
              try simp only [Act.put, List.setIfInBounds_toArray, List.set_cons_zero, List.set_cons_succ]
              refine Kt.G.takeP 8 { dst := some 160, op := Op.extract (Operand.tmp 152) 2, type := 25, pos := "scsi.go:103", after := #[{ on := 5, ground := Ground.data }, { on := 11, ground := Ground.gcOnly Departure.lateStores }], guard := none } ?_ (fun _ => hHeld) rfl (by kernel_rfl) (fun _ _ _ h => h) (by rfl) ?_ ?_
              rotate_left
              · intro w; go_simp; try with_reducible rfl
              try simp only [Act.put, List.setIfInBounds_toArray, List.set_cons_zero, List.set_cons_succ]
              refine Kt.G.one 10 { dst := none, op := Op.store 24 (Operand.tmp 28) (Operand.tmp 158), type := 0, pos := "scsi.go:103", after := #[{ on := 9, ground := Ground.data }, { on := 6, ground := Ground.data }, { on := 4, ground := Ground.chain }, { on := 0, ground := Ground.phase }, { on := 1, ground := Ground.phase }, { on := 2, ground := Ground.phase }, { on := 3, ground := Ground.phase }, { on := 4, ground := Ground.phase }, { on := 5, ground := Ground.phase }, { on := 6, ground := Ground.phase }, { on := 7, ground := Ground.textOnly Departure.lateStores }, { on := 8, ground := Ground.textOnly Departure.lateStores }, { on := 9, ground := Ground.phase }], guard := none } rfl (by kernel_rfl) (by rfl) (fun K hK => ?_)
              have cK := fun i => cell_of_row _ _ i _ _ _ rK; have fK := fun i => frozen_of_row _ _ i _ _ rK
              go_simp
              refine hK.out _ _ (Kt.G.late (by kernel_rfl)) (fun _ => ?_)
              clear hK K
              try simp only [Act.put, List.setIfInBounds_toArray, List.set_cons_zero, List.set_cons_succ]
              refine Kt.G.takeP 11 { dst := some 29, op := Op.assign (Operand.tmp 159), type := 9, pos := "scsi.go:103", after := #[{ on := 7, ground := Ground.data }, { on := 10, ground := Ground.chain }, { on := 0, ground := Ground.phase }, { on := 1, ground := Ground.phase }, { on := 2, ground := Ground.phase }, { on := 3, ground := Ground.phase }, { on := 4, ground := Ground.phase }, { on := 5, ground := Ground.phase }, { on := 6, ground := Ground.phase }, { on := 7, ground := Ground.phase }, { on := 8, ground := Ground.textOnly Departure.lateStores }, { on := 9, ground := Ground.phase }, { on := 10, ground := Ground.phase }], guard := none } ?_ (Kt.G.late (by kernel_rfl)) rfl (by kernel_rfl) (fun _ _ _ h => h) (by rfl) ?_ ?_
              rotate_left
              · intro w; go_simp; try with_reducible rfl
              try simp only [Act.put, List.setIfInBounds_toArray, List.set_cons_zero, List.set_cons_succ]
              refine Kt.G.takeP 12 { dst := some 16, op := Op.assign (Operand.tmp 160), type := 25, pos := "scsi.go:103", after := #[{ on := 8, ground := Ground.data }, { on := 11, ground := Ground.chain }, { on := 0, ground := Ground.phase }, { on := 1, ground := Ground.phase }, { on := 2, ground := Ground.phase }, { on := 3, ground := Ground.phase }, { on := 4, ground := Ground.phase }, { on := 5, ground := Ground.phase }, { on := 6, ground := Ground.phase }, { on := 7, ground := Ground.phase }, { on := 8, ground := Ground.phase }, { on := 9, ground := Ground.phase }, { on := 10, ground := Ground.phase }, { on := 11, ground := Ground.phase }], guard := none } ?_ (Kt.G.late (by kernel_rfl)) rfl (by kernel_rfl) (fun _ _ _ h => h) (by rfl) ?_ ?_
              rotate_left
              · intro w; go_simp; try with_reducible rfl
              try simp only [Act.put, List.setIfInBounds_toArray, List.set_cons_zero, List.set_cons_succ]
              refine Kt.G.done (by kernel_rfl) (NoPanic.normal ?_) _
              go_wp2_with fail
              go_meet
              case rel =>
                exact ⟨rfl, kQ, A10, cap10, rfl, HW10.out.more hHeld.bel kQ hk0 rK (Kt.Sl.sets HDA.out [.slice A10 Q.length cap10, .int .i64 0] kQ 0 hne)⟩
            -- END 15
          case rest =>
            obtain ⟨rfl, kQ, A10, cap10, rfl, hpq⟩ := hcut
            have HQ := Lib.hid hpq
            clear hpq HW10 HX3
            have q1 := fun i => cell_of_row _ _ i _ _ _ HQ.out.rp
            have q2 := fun i => cell_of_row _ _ i _ _ _ HQ.out.rq
            go_wp2_with fail
            refine (sdisk_true A9 A10 cap9 cap10 Q 0 _ HQ.out.dp HQ.out.dq (by have := HX4.out; omega)).mono ?_
            rintro e wz ⟨rfl, hb⟩
            have HZZ := Lib.hid (Kt.bthen HQ.out.bel hb)
            clear hb q1 q2
            go_wp2_with fail
            go_ret
            exact ⟨rfl, HZZ.out⟩
      · have hds' : ((d.size : Int) != (k2 : Int)) = true := by rw [bne_iff_ne]; intro e; exact hds (by omega)
        clear hds HW HZ
        go_wp2_with fail
        go_ret
        exact ⟨rfl, Kt.balloc HB7.out _⟩
    · have hg' : (g3 != 0) = true := by rw [bne_iff_ne]; exact hg
      clear hg
      go_wp2_with fail
      go_ret
      exact ⟨rfl, Kt.balloc HB7.out _⟩
  · have h4 : ((E1 != 0) = true) ∨ ((E1 != 0) = false ∧ m < 0) ∨ ((E1 != 0) = false ∧ ¬ m < 0 ∧ 100 < m) ∨ ((E1 != 0) = false ∧ ¬ m < 0 ∧ ¬ 100 < m ∧ 100 < n) := by
      simp only [bne_iff_ne, bne_eq_false_iff_eq, ne_eq]
      omega
    clear hz HC
    rcases h4 with h1 | ⟨h1, h2⟩ | ⟨h1, h2, h3⟩ | ⟨h1, h2, h3, h4⟩
    all_goals
      go_wp2_with fail
      refine (slives_calls _).mono ?_
      rintro e w7 ⟨rfl, hb⟩
      have HB7 := Lib.hid (Kt.bthen HB2.out hb)
      clear hb
      go_wp2_with fail
      go_ret
      exact ⟨rfl, HB7.out⟩
theorem parts_walk (v0 v1 v2 v3 v4 : Value) (w : World) (hsh : w.ShapedOpen Tryd.prog) (r0 : Fr.RdV w reachBytes (.cat 1 (.slice 1 .string) (.cat 1 (.int .i64) .nil)) v0) (r1 : Fr.RdV w reachBytes (.int .i64) v1) (r2 : Fr.RdV w reachBytes (.int .i64) v2) (r3 : Fr.RdV w reachBytes (.int .i64) v3) (r4 : Fr.RdV w reachBytes .string v4)
    (m1 : ∀ (cs : Array Value) a l c, v0 = .agg cs → (cs.toList.drop 0).take 1 = [.slice a l c] → l * Tryd.prog.bytesOf 9 ≤ reachBytes) :
    Calls Tryd.prog 3 #[v0, v1, v2, v3, v4] w fun e w' => e = .returned (.bool true) ∧ Below w.heap.size w w' := by
  obtain ⟨A, cap, bs, s, rfl, hd⟩ := dk_of r0
  obtain ⟨a, e1, _⟩ := r1; cases e1
  obtain ⟨n, e2, _⟩ := r2; cases e2
  obtain ⟨m, e3, _⟩ := r3; cases e3
  obtain ⟨d, e4, _⟩ := r4; cases e4
  obtain ⟨mx, hmx⟩ := max_len hsh
  have hby : Tryd.prog.bytesOf 9 = 16 := by kernel_rfl
  have hR : reachBytes ≤ 140737488355328 := by unfold reachBytes; omega
  have b1 := m1 _ A bs.length cap rfl rfl
  rw [hby] at b1
  exact parts_calls bs s a n m d A cap mx w hd (by omega) hmx
end Go.Proofs.YtfhndjccghchjaaDoor
