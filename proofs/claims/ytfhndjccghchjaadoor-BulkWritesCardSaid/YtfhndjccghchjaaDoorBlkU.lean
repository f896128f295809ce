/- The law BulkWrites, walked. -/
import Derived.Test.YtfhndjccghchjaaDoorBlkX
import Derived.Test.YtfhndjccghchjaaDoorBlkQ
import Derived.Test.YtfhndjccghchjaaDoorScsY
namespace Go.Proofs.YtfhndjccghchjaaDoor
open Go.RowKit Go.Proofs.YtfhndjccghchjaaDoor.Scs Go.Proofs.YtfhndjccghchjaaDoor.Blk
/-- WRITE turned to READ -/
theorem rep_two (r : List UInt8) : Lib.replace (42 :: r) [42] [40] 1 = 40 :: r := by
  have hi : Lib.index (42 :: r) [42] = ((0 : Nat) : Int) := by rw [Lib.index]; simp [List.isPrefixOf]
  have hn : Lib.replaceNum (42 :: r) [42] 1 = 1 := by
    unfold Lib.replaceNum
    rw [Lib.count_cons_eq]
    rw [if_neg (by omega)]; rfl
  unfold Lib.replace
  rw [if_neg (by decide), hn, Lib.replaceK_hit _ _ _ _ 0 hi]
  rfl
theorem rep_down (a n : Nat) (m : Int) (w : World) (hm : w.cell? ⟨0, 0, none⟩ = some (.int .i64 m)) :
    Calls Tryd.prog 8 #[.string (mk 42 a n), .string ⟨#[42]⟩, .string ⟨#[40]⟩, .int .i64 1] w fun e w' => e = .returned (.string (mk 40 a n)) ∧ Below w.heap.size w w' := by
  have h := rep_any (mk 42 a n) 42 40 m (by rw [mk_size]; decide) w hm
  have e : (⟨(Lib.replace (mk 42 a n).data.toList (⟨#[42]⟩ : ByteArray).data.toList (⟨#[40]⟩ : ByteArray).data.toList 1).toArray⟩ : ByteArray) = mk 40 a n := by
    show (⟨(Lib.replace (42 :: _) [42] [40] 1).toArray⟩ : ByteArray) = _
    rw [rep_two]
    rfl
  rw [e] at h
  exact h
/-- a command made by hand -/
theorem hand_eq (z y : Int) (a n : Nat) (hz : z = a) (hy : y = n) (ha : a < 256) (hn : n < 256) :
    (⟨(List.map (fun (n : Int) => UInt8.ofNat n.toNat) [42, 0, 0, 0, 0, z, 0, 0, y, 0]).toArray⟩ : ByteArray) = mk 42 a n := by
  subst hz hy
  unfold mk
  have e1 : UInt8.ofNat (a / 16777216) = 0 := by rw [Nat.div_eq_of_lt (by omega)]; rfl
  have e2 : UInt8.ofNat (a / 65536) = 0 := by rw [Nat.div_eq_of_lt (by omega)]; rfl
  have e3 : UInt8.ofNat (a / 256) = 0 := by rw [Nat.div_eq_of_lt (by omega)]; rfl
  have e4 : UInt8.ofNat (n / 256) = 0 := by rw [Nat.div_eq_of_lt (by omega)]; rfl
  rw [e1, e2, e3, e4]
  simp
theorem putB_ext (bs : List ByteArray) (a : Nat) (d : ByteArray) (n : Nat) (h : a + n ≤ bs.length) (hd : n * 16 ≤ d.size) : putB bs a (d.extract 0 (n * 16)) n = putB bs a d n := by
  apply List.ext_getElem?
  intro i
  rw [putB_get _ _ _ _ h, putB_get _ _ _ _ h]
  by_cases c : a ≤ i ∧ i < a + n
  · rw [if_pos c, if_pos c]
    have : piece (d.extract 0 (n * 16)) (i - a) = piece d (i - a) := by
      apply ext_bytes
      unfold piece
      simp only [ByteArray.data_extract, Array.toList_extract, List.extract]
      rw [List.drop_take, List.take_take]
      simp only [Nat.sub_zero, List.drop_zero]
      congr 1
      omega
    rw [this]
  · rw [if_neg c, if_neg c]
theorem PtD.on {w0 : World} {A : Option Addr} {cap : Nat} {bs : List ByteArray} {s : Int} {X Y : World} (h : PtD w0 A cap bs s X) (hb : Below X.heap.size X Y) : PtD w0 A cap bs s Y := ⟨Kt.bthen h.bel hb, Kt.row_on hb h.rd⟩
theorem bw_cases {bs P : List ByteArray} {c L : Int} {data : ByteArray} {ka kn k16 kz : Nat} (h : (c ≠ 0 ∧ P = bs) ∨ (c = 0 ∧ kn = 0 ∧ P = bs) ∨ (c = 0 ∧ 0 < kn ∧ ka + kn ≤ bs.length ∧ ((kn * 16 : Nat) : Int) ≤ L ∧ (data.size : Int) = L ∧ P = putB bs ka (data.extract 0 (kn * 16)) kn))
    (h16 : kn * 16 = k16) (hz : ka + kn = kz) (hL : 0 ≤ L) :
    (P = bs ∧ (c ≠ 0 ∨ (c = 0 ∧ (k16 : Int) ≤ L ∧ bs.length < kz) ∨ (c = 0 ∧ (k16 : Int) ≤ L ∧ kz ≤ bs.length ∧ (data.size : Int) ≠ L))) ∨ (c = 0 ∧ (k16 : Int) ≤ L ∧ kz ≤ bs.length ∧ (data.size : Int) = L ∧ P = putB bs ka data kn) := by
  rcases h with ⟨h, e⟩ | ⟨h, h0, e⟩ | ⟨h, h0, h1, h2, h3, e⟩
  · exact .inl ⟨e, .inl h⟩
  · subst h0
    by_cases c1 : kz ≤ bs.length
    · by_cases c2 : (data.size : Int) = L
      · exact .inr ⟨h, by omega, c1, c2, by rw [putB_zero]; exact e⟩
      · exact .inl ⟨e, .inr (.inr ⟨h, by omega, c1, c2⟩)⟩
    · exact .inl ⟨e, .inr (.inl ⟨h, by omega, by omega⟩)⟩
  · exact .inr ⟨h, by omega, by omega, h3, by rw [e]; exact putB_ext bs ka data kn h1 (by omega)⟩
/-- the disk's box, that of the disk that was told, and its blocks -/
structure BwA (w0 : World) (A : Option Addr) (cap : Nat) (bs : List ByteArray) (s : Int) (kA : Nat) (A4 : Option Addr) (c4 : Nat) (P : List ByteArray) (t : Int) (X : World) : Prop extends PtD w0 A cap bs s X where
  ra : X.heap[kA]? = some (.cells #[.slice A4 P.length c4, .int .i64 t] 24 (0, 0))
  lt : w0.heap.size < kA
  dk : DkA X A4 c4 P
theorem BwA.on {w0 : World} {A A4 : Option Addr} {cap c4 kA : Nat} {bs P : List ByteArray} {s t : Int} {X Y : World} (h : BwA w0 A cap bs s kA A4 c4 P t X) (hb : Below X.heap.size X Y) : BwA w0 A cap bs s kA A4 c4 P t Y :=
  ⟨h.toPtD.on hb, Kt.row_on hb h.ra, h.lt, h.dk.on hb⟩
/-- and the status' -/
structure BwX (w0 : World) (A : Option Addr) (cap : Nat) (bs : List ByteArray) (s : Int) (kA : Nat) (A4 : Option Addr) (c4 : Nat) (P : List ByteArray) (t : Int) (kX : Nat) (y : St) (X : World) : Prop extends BwA w0 A cap bs s kA A4 c4 P t X where
  rx : X.heap[kX]? = some (.cells #[.int .i64 y.tag, .int .i64 y.res, .int .i64 y.code] 41 (0, 0))
theorem BwX.on {w0 : World} {A A4 : Option Addr} {cap c4 kA kX : Nat} {bs P : List ByteArray} {s t : Int} {y : St} {X Y : World} (h : BwX w0 A cap bs s kA A4 c4 P t kX y X) (hb : Below X.heap.size X Y) : BwX w0 A cap bs s kA A4 c4 P t kX y Y :=
  ⟨h.toBwA.on hb, Kt.row_on hb h.rx⟩
set_option maxRecDepth 100000 in
set_option maxHeartbeats 6400000 in
theorem writes_calls (bs : List ByteArray) (s z y L : Int) (data : ByteArray) (A : Option Addr) (cap : Nat) (mx : Int) (w : World) (h : DkA w A cap bs) (hn : bs.length ≤ 8796093022208) (hmx : w.cell? ⟨0, 0, none⟩ = some (.int .i64 mx)) :
    Calls Tryd.prog 4 #[dkV A cap bs s, .int .i64 z, .int .i64 y, .int .i64 L, .string data] w fun e w' => e = .returned (.bool true) ∧ Below w.heap.size w w' := by
  have HA := Lib.hid h
  have HN := Lib.hid hn
  have HM := Lib.hid hmx
  clear h hn hmx
  unfold dkV
  go_enter Tryd.func4, Tryd.ntmps4
  go_wp2_with fail
  refine (blives_calls _).mono ?_
  rintro e w1 ⟨rfl, hb1⟩
  have HR1 := Lib.hid (Kt.box1 hb1)
  have HB1 := Lib.hid (Kt.bthen (Kt.balloc (Below.refl _ w) _) hb1)
  clear hb1
  have q := fun i => cell_of_row _ _ i _ _ _ HR1.out
  by_cases hin : 0 ≤ z ∧ z ≤ 255 ∧ 0 ≤ y ∧ y ≤ 255 ∧ 0 ≤ L ∧ L ≤ 4294967295 ∧ (bs.length : Int) ≤ 64
  · obtain ⟨h1, h2, h3, h4, h5, h6, h7⟩ := hin
    have HI := Lib.hid (And.intro h1 (And.intro h2 (And.intro h3 (And.intro h4 (And.intro h5 h6)))))
    obtain ⟨ka, hka⟩ : ∃ k : Nat, z.toNat = k := ⟨_, rfl⟩
    obtain ⟨kn, hkn⟩ : ∃ k : Nat, y.toNat = k := ⟨_, rfl⟩
    have HK : Hid (z = ka ∧ y = kn ∧ ka < 256 ∧ kn < 256) := Lib.hid (by omega)
    have CV := cvV [42, 0, 0, 0, 0, z, 0, 0, y, 0] #[.int .u8 42, .int .u8 0, .int .u8 0, .int .u8 0, .int .u8 0, .int .u8 z, .int .u8 0, .int .u8 0, .int .u8 y, .int .u8 0] 10 rfl rfl w1
    rw [hand_eq z y ka kn HK.out.1 HK.out.2.1 HK.out.2.2.1 HK.out.2.2.2] at CV
    clear hka hkn
    go_wp2_with fail
    have HB2 := Lib.hid (Kt.balloc HB1.out (.cells #[.int .u8 42, .int .u8 0, .int .u8 0, .int .u8 0, .int .u8 0, .int .u8 z, .int .u8 0, .int .u8 0, .int .u8 y, .int .u8 0] 5))
    have HR2 := Lib.hid (Kt.row_on (Kt.balloc (Below.refl _ w1) (.cells #[.int .u8 42, .int .u8 0, .int .u8 0, .int .u8 0, .int .u8 0, .int .u8 z, .int .u8 0, .int .u8 0, .int .u8 y, .int .u8 0] 5)) HR1.out)
    clear CV q HR1 HB1 h1 h2 h3 h4 h5 h6 h7
    refine Kt.foldC (fun X => Hid (PtD w A cap bs s X)) (Lib.hid ⟨HB2.out, HR2.out⟩) (fun w2 HW2 => ?_)
    clear HB2 HR2
    have hx : OkW ⟨0, L, false, 0, mk 42 ka kn⟩ := by
      have := HI.out
      refine ⟨by show (0 : Int) ≤ 0; decide, by show (0 : Int) < _; decide, by show 0 ≤ L; omega, by show L < _; omega, by show (0 : Int) ≤ 0; decide, by show (0 : Int) ≤ _; decide, ?_, ?_⟩
      · show 1 ≤ (mk 42 ka kn).size; rw [mk_size]; decide
      · show (mk 42 ka kn).size ≤ 16; rw [mk_size]; decide
    have hwx : writeW ⟨0, L, false, 0, mk 42 ka kn⟩ = (wrapT ⟨0, L, false, 0, mk 42 ka kn⟩, 0) := if_pos hx
    have HX := Lib.hid hx
    have HWX := Lib.hid hwx
    clear hx hwx
    refine (writeW_calls ⟨0, L, false, 0, mk 42 ka kn⟩ _).mono ?_
    rintro e w3 ⟨rfl, hb⟩
    rw [HWX.out]
    have HW3 := Lib.hid (HW2.out.on hb)
    clear hb HW2 HWX
    have q := fun i => cell_of_row _ _ i _ _ _ HW3.out.rd
    go_wp2_with fail
    refine (serve_calls bs s ⟨0, L, false, 0, mk 42 ka kn⟩ data A cap _ (HA.out.on HW3.out.bel) HN.out HX.out).mono ?_
    rintro e w4 ⟨A4, c4, rfl, hda, hb⟩
    have HW4 := Lib.hid (HW3.out.on hb)
    have HD4 := Lib.hid hda
    have HP := Lib.hid (write_served bs s ka kn L data HK.out.2.2.1 HK.out.2.2.2 HX.out.l1 HX.out.l2)
    clear hb hda HW3 q
    obtain ⟨P, t, o, st, g, hr⟩ : ∃ P t o st g, served bs s ⟨0, L, false, 0, mk 42 ka kn⟩ data = (P, t, o, st, g) := ⟨_, _, _, _, _, rfl⟩
    rw [hr] at HP HD4 ⊢
    clear hr
    unfold dkV
    have q := fun i => cell_of_row _ _ i _ _ _ HW4.out.rd
    have l1 := ltRow HW4.out.rd
    rcases HP.out with ⟨hg, hp, ht⟩ | ⟨hg, hok, yy, hy, hs, hcase⟩
    · change g ≠ 0 at hg
      change P = bs at hp
      change t = s at ht
      subst hp ht
      have hg' : (g != 0) = true := by rw [bne_iff_ne]; exact hg
      clear hg HP
      go_wp2_with fail
      have hal := Kt.balloc (Below.refl _ w4) (.cells #[.slice A4 P.length c4, .int .i64 t] 24)
      refine (sdisk_true A4 A c4 cap P t _ (DkA.on HD4.out hal) (HA.out.on (Kt.bthen HW4.out.bel hal)) (by have := HN.out; omega)).mono ?_
      rintro e w5 ⟨rfl, hb⟩
      have HB5 := Lib.hid (Kt.bthen HW4.out.bel (Kt.bthen hal hb))
      clear hb hal
      go_wp2_with fail
      go_ret
      exact ⟨rfl, HB5.out⟩
    · change g = 0 at hg
      change st = statT yy at hs
      change OkD P t at hok
      subst hg hs
      have HRD := Lib.hid (readS_statT yy hy)
      have HOK := Lib.hid hok
      have HC : Hid ((yy.code ≠ 0 ∧ P = bs) ∨ (yy.code = 0 ∧ kn = 0 ∧ P = bs) ∨ (yy.code = 0 ∧ 0 < kn ∧ ka + kn ≤ bs.length ∧ ((kn * 16 : Nat) : Int) ≤ L ∧ (data.size : Int) = L ∧ P = putB bs ka (data.extract 0 (kn * 16)) kn)) := Lib.hid hcase
      clear hok hcase hy HP
      go_wp2_with fail
      have hal := Kt.balloc (Below.refl _ w4) (.cells #[.slice A4 P.length c4, .int .i64 t] 24)
      have hnew := heap_alloc_new w4 (.cells #[.slice A4 P.length c4, .int .i64 t] 24)
      refine (readS_calls (statT yy) _).mono ?_
      rw [HRD.out]
      rintro e w5 ⟨rfl, hb⟩
      have HB5 : Hid (BwA w A cap bs s w4.heap.size A4 c4 P t w5) := Lib.hid ⟨HW4.out.on (Kt.bthen hal hb), Kt.row_on hb hnew, l1, DkA.on HD4.out (Kt.bthen hal hb)⟩
      clear hb hal hnew q l1 HW4 HD4 HRD
      obtain ⟨kA, hkA⟩ : ∃ k, w4.heap.size = k := ⟨_, rfl⟩
      rw [hkA] at HB5 ⊢
      clear hkA
      unfold stV
      have hal := Kt.balloc (Below.refl _ w5) (.cells #[.int .i64 yy.tag, .int .i64 yy.res, .int .i64 yy.code] 41)
      have hnew := heap_alloc_new w5 (.cells #[.int .i64 yy.tag, .int .i64 yy.res, .int .i64 yy.code] 41)
      have HB6 : Hid (BwX w A cap bs s kA A4 c4 P t w5.heap.size yy (w5.alloc (.cells #[.int .i64 yy.tag, .int .i64 yy.res, .int .i64 yy.code] 41))) := Lib.hid ⟨HB5.out.on hal, hnew⟩
      have q1 := fun i => cell_of_row _ _ i _ _ _ HB6.out.rd
      clear hal hnew HB5
      go_upto_region 12 with (
        refine Kt.append_ar (by rfl) (.const (.slice none 0 0)) (.tmp 95) 22 rfl (w5.heap.size + 1) 9 (.string ByteArray.empty) 1 16 infoS Tryd.underlying22 rfl (by decide) (.slice none 0 0) 0 [] rfl (Kt.Sl.nil _ _ _ _) _ _ _ rfl (HA.out.on HB6.out.bel) (sts_one _) (by have := HN.out; unfold maxLen; omega) (by have := HN.out; omega) (by simp) ?_
        intro AW cW w6 hs1 hb1 hz1 hk1 hl1)
      have hs5 : (w5.alloc (.cells #[.int .i64 yy.tag, .int .i64 yy.res, .int .i64 yy.code] 41)).heap.size = w5.heap.size + 1 := by simp
      obtain ⟨kX, hkX⟩ : ∃ k, w5.heap.size = k := ⟨_, rfl⟩
      rw [hkX] at HB6 hs1 hb1 hs5 ⊢
      obtain ⟨W5, hW5⟩ : ∃ W, w5.alloc (.cells #[.int .i64 yy.tag, .int .i64 yy.res, .int .i64 yy.code] 41) = W := ⟨_, rfl⟩
      rw [hW5] at HB6 hb1 hs5
      have HW5 : Hid (W5.heap.size = kX + 1 ∧ BwX w A cap bs s kA A4 c4 P t kX yy W5) := Lib.hid ⟨hs5, HB6.out⟩
      have HB7 : Hid (Below W5.heap.size W5 w6) := Lib.hid (by rw [hs5]; exact hb1)
      have HS7 : Hid (Kt.Sl w6 (kX + 1) 9 1 (.slice AW bs.length cW) bs.length (sts bs)) := Lib.hid (by simpa using hs1)
      clear hs1 hb1 hz1 hk1 hl1 q1 HB6 hkX hW5 hs5
      have q2 := fun i => cell_of_row _ _ i _ _ _ (HW5.out.2.on HB7.out).rx
      obtain ⟨k16, hk16⟩ : ∃ k : Nat, kn * 16 = k := ⟨_, rfl⟩
      obtain ⟨kz, hkz⟩ : ∃ k : Nat, ka + kn = k := ⟨_, rfl⟩
      have HCS := Lib.hid (bw_cases HC.out hk16 hkz HX.out.l1)
      have HZ := Lib.hid (And.intro hk16 hkz)
      clear hk16 hkz
      go_cut [119] from 97 to 119 (fun c wx => ∃ b, c = .bool b ∧ wx = w6 ∧ Hid ((b = false ∧ P = bs) ∨ (b = true ∧ P = putB bs ka data kn ∧ kz ≤ bs.length ∧ (k16 : Int) ≤ L ∧ (data.size : Int) = L)))
      case first =>
        have hw1 : IntKind.i64.wrap (16 * y) = (k16 : Int) := by have := HK.out; have := HZ.out; rw [show 16 * y = ((k16 : Nat) : Int) by omega, wr_in _ (by omega)]
        have hw2 : IntKind.i64.wrap (z + y) = (kz : Int) := by have := HK.out; have := HZ.out; rw [show z + y = ((kz : Nat) : Int) by omega, wr_in _ (by omega)]
        rcases HCS.out with ⟨hp, hc | ⟨hc, h1, h2⟩ | ⟨hc, h1, h2, h3⟩⟩ | ⟨hc, h1, h2, h3, hp⟩
        · have hc' : (yy.code == 0) = false := by rw [beq_eq_false_iff_ne]; exact hc
          have HE := Lib.hid hp
          clear hc hp hw1 hw2
          go_wp2_with fail
          go_meet
          exact ⟨_, rfl, rfl, Lib.hid (.inl ⟨rfl, HE.out⟩)⟩
        · have hc' : (yy.code == 0) = true := by rw [beq_iff_eq]; exact hc
          have h2' : ¬ (kz : Int) ≤ bs.length := by omega
          have HE := Lib.hid hp
          clear hc hp h2
          go_wp2_with fail
          go_meet
          exact ⟨_, rfl, rfl, Lib.hid (.inl ⟨rfl, HE.out⟩)⟩
        · have hc' : (yy.code == 0) = true := by rw [beq_iff_eq]; exact hc
          have h2' : (kz : Int) ≤ bs.length := by omega
          have h3' : ((data.size : Int) == L) = false := by rw [beq_eq_false_iff_ne]; exact h3
          have HE := Lib.hid hp
          clear hc hp h2 h3
          go_wp2_with fail
          go_meet
          exact ⟨_, rfl, rfl, Lib.hid (.inl ⟨rfl, HE.out⟩)⟩
        · have hc' : (yy.code == 0) = true := by rw [beq_iff_eq]; exact hc
          have h2' : (kz : Int) ≤ bs.length := by omega
          have h3' : ((data.size : Int) == L) = true := by rw [beq_iff_eq]; exact h3
          have HE := Lib.hid (And.intro hp (And.intro h2 (And.intro h1 h3)))
          clear hc hp h2 h3
          go_wp2_with fail
          go_meet
          exact ⟨_, rfl, rfl, Lib.hid (.inr ⟨rfl, HE.out⟩)⟩
      case rest =>
      obtain ⟨b, rfl, rfl, HBB⟩ := hcut
      clear HCS q2
      go_upto_if 119 with (fail)
      go_cut [20] from 120 to 136 (fun _ wx => Hid (Below W5.heap.size W5 wx ∧ P.length = bs.length ∧ Kt.Sl wx (kX + 1) 9 1 (.slice AW bs.length cW) bs.length (sts P)))
      case first =>
        rcases HBB.out with ⟨rfl, hp⟩ | ⟨rfl, hp⟩
        · have HE : Hid (Below W5.heap.size W5 wc ∧ P.length = bs.length ∧ Kt.Sl wc (kX + 1) 9 1 (.slice AW bs.length cW) bs.length (sts P)) := Lib.hid ⟨HB7.out, by rw [hp], by rw [hp]; exact HS7.out⟩
          clear hp
          go_wp2_with fail
          go_meet
          exact HE
        · have HE := Lib.hid hp
          clear hp HBB
          go_wp2_with fail
          go_loopw [121] (fun ii wr => ∃ k : Nat, ii = .int .i64 k ∧ Hid (k ≤ kn) ∧ Hid (Below W5.heap.size W5 wr ∧ Kt.Sl wr (kX + 1) 9 1 (.slice AW bs.length cW) bs.length (sts (putB bs ka data k)))) (fun ii _ => kn - (intOf ii).toNat)
          case atStart => exact ⟨0, rfl, Lib.hid (Nat.zero_le _), Lib.hid ⟨HB7.out, by rw [putB_zero]; exact HS7.out⟩⟩
          case round =>
            obtain ⟨k, rfl, HKK, HWR⟩ := hrel
            by_cases hk : k < kn
            · have hk' : (k : Int) < y := by have := HK.out; omega
              have hpos : 0 < bs.length := by have := HE.out; have := HZ.out; omega
              obtain ⟨g, o5, cW', e5, hg1, hg2, hg3, hg4, hcell, hfree⟩ := HWR.out.2.cells hpos
              cases e5
              obtain ⟨ki, hki⟩ : ∃ k' : Nat, ka + k = k' := ⟨_, rfl⟩
              obtain ⟨k5, hk5⟩ : ∃ k' : Nat, k * 16 = k' := ⟨_, rfl⟩
              obtain ⟨k6, hk6⟩ : ∃ k' : Nat, k * 16 + 16 = k' := ⟨_, rfl⟩
              have hx1 : IntKind.i64.wrap (z + (k : Int)) = (ki : Int) := by have := HK.out; rw [show z + (k : Int) = ((ki : Nat) : Int) by omega, wr_in _ (by omega)]
              have hx2 : IntKind.i64.wrap (16 * (k : Int)) = (k5 : Int) := by have := HK.out; rw [show 16 * (k : Int) = ((k5 : Nat) : Int) by omega, wr_in _ (by omega)]
              have hx3 : IntKind.i64.wrap ((k5 : Int) + 16) = (k6 : Int) := by have := HK.out; rw [show (k5 : Int) + 16 = ((k6 : Nat) : Int) by omega, wr_in _ (by omega)]
              have hx4 : (ki : Int) < bs.length := by have := HE.out; have := HZ.out; omega
              have hx5 : (k6 : Int) ≤ data.size := by have := HE.out; have := HZ.out; omega
              have hx6 : (k5 : Int) ≤ k6 := by omega
              have hx7 : wr.cell? ⟨g, o5 + ki, none⟩ ≠ none := by rw [hcell ki (by have := HWR.out.2.1; have := HE.out; have := HZ.out; omega)]; simp
              have hfz := hfree (o5 + ki)
              have HQ := Lib.hid (And.intro hki (And.intro hk5 hk6))
              obtain ⟨cv, hcv⟩ := Option.ne_none_iff_exists'.1 hx7
              clear hx7 hcell hfree hki hk5 hk6 hg3 hg4
              go_wp2_with fail
              refine ⟨⟨k + 1, rfl, Lib.hid hk, Lib.hid ⟨?_, ?_⟩⟩, next_i hk⟩
              · rw [HW5.out.1]
                exact (show Below (kX + 1) W5 wr by rw [← HW5.out.1]; exact HWR.out.1).setCell (by exact hg1) _
              · obtain ⟨q1, q5, q6⟩ := HQ.out
                have hlen : ki < bs.length * 1 := by omega
                have hst := HWR.out.2.put ki hlen (.string (data.extract k5 k6))
                have hb := HE.out
                have hstep := putB_step bs ka data k (by have := HZ.out; omega)
                have e : sts (putB bs ka data (k + 1)) = (sts (putB bs ka data k)).set ki (.string (data.extract k5 k6)) := by
                  rw [← hstep, ← q1, ← q5, ← q6]
                  unfold sts
                  rw [List.map_set]
                rw [e]
                exact hst
            · have hk' : ¬ (k : Int) < y := by have := HK.out; omega
              have hkk : k = kn := by have := HKK.out; omega
              go_wp2_with fail
              go_meet
              rw [hkk] at HWR
              have := HE.out
              exact Lib.hid ⟨HWR.out.1, by rw [this.1, putB_len _ _ _ _ (by have := HZ.out; omega)], by rw [this.1]; exact HWR.out.2⟩
      case rest =>
        have HF := hcut
        clear hcut HB7 HS7 HBB
        go_wp2_with fail
        refine (rep_down ka kn mx _ (kept_cell (Kt.bthen HW5.out.2.bel HF.out.1) HM.out)).mono ?_
        rintro e w7 ⟨rfl, hb⟩
        have HB7 := Lib.hid (HW5.out.2.on (Kt.bthen HF.out.1 hb))
        have HS7 := Lib.hid (HF.out.2.2.on hb)
        have HLN := Lib.hid HF.out.2.1
        clear hb HF
        have hw1 : IntKind.i64.wrap (16 * y) = (k16 : Int) := by have := HK.out; have := HZ.out; rw [show 16 * y = ((k16 : Nat) : Int) by omega, wr_in _ (by omega)]
        have hx : OkW ⟨7, ((k16 : Nat) : Int), true, 0, mk 40 ka kn⟩ := by
          have := HK.out; have := HZ.out
          refine ⟨by show (0 : Int) ≤ 7; decide, by show (7 : Int) < _; decide, by show 0 ≤ ((k16 : Nat) : Int); omega, by show ((k16 : Nat) : Int) < _; omega, by show (0 : Int) ≤ 0; decide, by show (0 : Int) ≤ _; decide, ?_, ?_⟩
          · show 1 ≤ (mk 40 ka kn).size; rw [mk_size]; decide
          · show (mk 40 ka kn).size ≤ 16; rw [mk_size]; decide
        have hwx : writeW ⟨7, ((k16 : Nat) : Int), true, 0, mk 40 ka kn⟩ = (wrapT ⟨7, ((k16 : Nat) : Int), true, 0, mk 40 ka kn⟩, 0) := if_pos hx
        have HQX := Lib.hid hx
        have HWX := Lib.hid hwx
        clear hx hwx
        go_wp2_with fail
        refine (writeW_calls ⟨7, ((k16 : Nat) : Int), true, 0, mk 40 ka kn⟩ _).mono ?_
        rintro e w8 ⟨rfl, hb⟩
        rw [HWX.out]
        have HB8 := Lib.hid (HB7.out.on hb)
        have HS8 := Lib.hid (HS7.out.on hb)
        clear hb HB7 HS7 HWX
        have q := fun i => cell_of_row _ _ i _ _ _ HB8.out.ra
        have HSR := Lib.hid (read_served HOK.out ka kn HK.out.2.2.1 HK.out.2.2.2 7)
        rw [HZ.out.1] at HSR
        go_wp2_with fail
        refine (serve_calls P t ⟨7, ((k16 : Nat) : Int), true, 0, mk 40 ka kn⟩ ByteArray.empty A4 c4 _ HB8.out.dk (by have := HLN.out; have := HN.out; omega) HQX.out).mono ?_
        rintro e w9 ⟨A9, c9, rfl, hda, hb⟩
        have HB9 := Lib.hid (HB8.out.on hb)
        have HS9 := Lib.hid (HS8.out.on hb)
        have HEQ : Hid (∀ W, Below w9.heap.size w9 W → Calls Tryd.prog 14 #[.slice A4 P.length c4, .slice AW bs.length cW] W fun e w' => e = .returned (.bool true) ∧ Below W.heap.size W w') := Lib.hid fun W hW => by
          have hAr := Kt.Ar.of_sl (HS9.out.on hW)
          rw [← HLN.out] at hAr ⊢
          exact eqs_true A4 AW c4 cW P W (HB9.out.dk.on hW) hAr (by have := HLN.out; have := HN.out; omega)
        clear hb hda HB8 HS8 q
        obtain ⟨P9, t9, o9, st9, g9, hr⟩ : ∃ p1 p2 p3 p4 p5, served P t ⟨7, ((k16 : Nat) : Int), true, 0, mk 40 ka kn⟩ ByteArray.empty = (p1, p2, p3, p4, p5) := ⟨_, _, _, _, _, rfl⟩
        rw [hr] at HSR ⊢
        clear hr
        have hg9 := HSR.out.1
        change g9 = 0 at hg9
        subst hg9
        unfold dkV
        have q1 := fun i => cell_of_row _ _ i _ _ _ HB9.out.ra
        have q2 := fun i => cell_of_row _ _ i _ _ _ HB9.out.rx
        have l1 := ltRow HB9.out.ra
        have l2 := ltRow HB9.out.rx
        go_wp2_with fail
        have hal := Kt.balloc (Below.refl _ w9) (.cells #[.slice A9 P9.length c9, .int .i64 t9] 24)
        refine (HEQ.out _ hal).mono ?_
        rintro e w10 ⟨rfl, hb⟩
        have HB10 := Lib.hid (HB9.out.on (Kt.bthen hal hb))
        clear hb hal q1 q2 l1 l2 HS9 HB9 HEQ
        have q2 := fun i => cell_of_row _ _ i _ _ _ HB10.out.rx
        rcases HC.out with ⟨hc, _⟩ | ⟨hc, h0, _⟩ | ⟨hc, h0, h1, h2, h3, hp⟩
        · have hc' : (yy.code != 0) = true := by rw [bne_iff_ne]; exact hc
          clear hc HC
          go_wp2_with fail
          go_ret
          exact ⟨rfl, HB10.out.bel⟩
        · have hc' : (yy.code != 0) = false := by rw [hc]; rfl
          have hy0 : (y == 0) = true := by rw [beq_iff_eq]; have := HK.out; omega
          clear hc h0 HC
          go_wp2_with fail
          go_ret
          exact ⟨rfl, HB10.out.bel⟩
        · have hc' : (yy.code != 0) = false := by rw [hc]; rfl
          have hy0 : (y == 0) = false := by rw [beq_eq_false_iff_ne]; have := HK.out; omega
          have hL16 : ¬ L < (k16 : Int) := by have := HZ.out; omega
          have hds : (k16 : Int) ≤ data.size := by have := HZ.out; omega
          have ho : o9 = data.extract 0 k16 := by
            have hes : (data.extract 0 (kn * 16)).size = kn * 16 := by rw [ByteArray.size_extract]; omega
            rw [HSR.out.2 h0 (by rw [HLN.out]; exact h1), hp, joinS_back bs ka _ kn h1 hes, HZ.out.1]
          subst ho
          clear hc h0 h1 h2 h3 hp HC HSR
          go_wp2_with fail
          go_ret
          exact ⟨rfl, HB10.out.bel⟩
  · have h4 : z < 0 ∨ (0 ≤ z ∧ 255 < z) ∨ (0 ≤ z ∧ z ≤ 255 ∧ y < 0) ∨ (0 ≤ z ∧ z ≤ 255 ∧ 0 ≤ y ∧ 255 < y) ∨ (0 ≤ z ∧ z ≤ 255 ∧ 0 ≤ y ∧ y ≤ 255 ∧ L < 0) ∨ (0 ≤ z ∧ z ≤ 255 ∧ 0 ≤ y ∧ y ≤ 255 ∧ 0 ≤ L ∧ 4294967295 < L) ∨ (0 ≤ z ∧ z ≤ 255 ∧ 0 ≤ y ∧ y ≤ 255 ∧ 0 ≤ L ∧ L ≤ 4294967295 ∧ 64 < (bs.length : Int)) := by omega
    clear hin
    rcases h4 with h1 | ⟨h1, h2⟩ | ⟨h1, h2, h3⟩ | ⟨h1, h2, h3, h4⟩ | ⟨h1, h2, h3, h4, h5⟩ | ⟨h1, h2, h3, h4, h5, h6⟩ | ⟨h1, h2, h3, h4, h5, h6, h7⟩
    all_goals
      go_wp2_with fail
      refine (blives_calls _).mono ?_
      rintro e w7 ⟨rfl, hb⟩
      have HB7 := Lib.hid (Kt.bthen HB1.out hb)
      clear hb
      go_wp2_with fail
      go_ret
      exact ⟨rfl, HB7.out⟩
theorem writes_walk (v0 v1 v2 v3 v4 : Value) (w : World) (hsh : w.ShapedOpen Tryd.prog) (r0 : Fr.RdV w reachBytes (.cat 1 (.slice 1 .string) (.cat 1 (.int .i64) .nil)) v0) (r1 : Fr.RdV w reachBytes (.int .i64) v1) (r2 : Fr.RdV w reachBytes (.int .i64) v2) (r3 : Fr.RdV w reachBytes (.int .i64) v3) (r4 : Fr.RdV w reachBytes .string v4)
    (m1 : ∀ (cs : Array Value) a l c, v0 = .agg cs → (cs.toList.drop 0).take 1 = [.slice a l c] → l * Tryd.prog.bytesOf 9 ≤ reachBytes) :
    Calls Tryd.prog 4 #[v0, v1, v2, v3, v4] w fun e w' => e = .returned (.bool true) ∧ Below w.heap.size w w' := by
  obtain ⟨A, cap, bs, s, rfl, hd⟩ := dk_of r0
  obtain ⟨z, e1, _⟩ := r1; cases e1
  obtain ⟨y, e2, _⟩ := r2; cases e2
  obtain ⟨L, e3, _⟩ := r3; cases e3
  obtain ⟨d, e4, _⟩ := r4; cases e4
  obtain ⟨mx, hmx⟩ := max_len hsh
  have hby : Tryd.prog.bytesOf 9 = 16 := by kernel_rfl
  have hR : reachBytes ≤ 140737488355328 := by unfold reachBytes; omega
  have b1 := m1 _ A bs.length cap rfl rfl
  rw [hby] at b1
  exact writes_calls bs s z y L d A cap mx w hd (by omega) hmx
end Go.Proofs.YtfhndjccghchjaaDoor
