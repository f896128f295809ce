/- The walks of package store: the steps of a cycle. -/
import Derived.Test.YtafiedhjjnapoaaStoC
namespace Go.Proofs.Ytafiedhjjnapoaa
open Go.RowKit Go.Shelf Go.Proofs.Ytafiedhjjnapoaa.Scs Go.Proofs.Ytafiedhjjnapoaa.Blk Go.Proofs.Ytafiedhjjnapoaa.Sto
theorem served_write {l : Ln} (h : OkL l) {a n : Nat} {data : ByteArray} (h1 : 1 ≤ n) (hl : a + n ≤ l.bs.length) (hd : data.size = n * 16) :
    served l.bs l.s ⟨l.tag, ((n * 16 : Nat) : Int), false, 0, mk 42 a n⟩ data = (putB l.bs a data n, 0, ByteArray.empty, sta l.tag, 0) := by
  have ok := h.d
  have h64 := ok.n2
  unfold served
  rw [if_neg (fun q => q (chkD_ok.2 ok)), if_neg (fun q => q rfl)]
  have hm := means_write (a := a) (n := n) ok (by omega) (by omega)
  rw [if_pos ⟨by omega, hl⟩] at hm
  have hh : hostD ⟨l.tag, ((n * 16 : Nat) : Int), false, 0, mk 42 a n⟩ = 2 := by unfold hostD; rw [if_neg (show ¬ ((n * 16 : Nat) : Int) = 0 by omega)]; rfl
  dsimp only
  rw [hm, hh]
  dsimp only
  rw [if_pos (show agB _ _ _ _ from Or.inr ⟨rfl, Int.le_refl _⟩), if_neg (fun q => q.2 (by rw [hd]))]
  have e0 : ((n * 16 : Nat) : Int).toNat = n * 16 := by omega
  have ed : data.extract 0 (n * 16) = data := by rw [← hd]; apply ext_bytes; simp
  rw [if_pos rfl, e0, ed, did_writes ok (by omega) (by omega) hl hd]
  dsimp only
  rw [if_neg (fun q => absurd q.2 (by decide)), if_pos rfl, Int.sub_self]
  rfl
theorem served_read {l : Ln} (h : OkL l) {a n : Nat} (h1 : 1 ≤ n) (hl : a + n ≤ l.bs.length) :
    served l.bs l.s ⟨l.tag, ((n * 16 : Nat) : Int), true, 0, mk 40 a n⟩ ByteArray.empty = (l.bs, 0, joinS ((l.bs.drop a).take n), sta l.tag, 0) := by
  have ok := h.d
  have h64 := ok.n2
  unfold served
  rw [if_neg (fun q => q (chkD_ok.2 ok)), if_neg (fun q => q rfl)]
  have hm := means_read (a := a) (n := n) ok (by omega) (by omega)
  rw [if_pos ⟨by omega, hl⟩] at hm
  have hh : hostD ⟨l.tag, ((n * 16 : Nat) : Int), true, 0, mk 40 a n⟩ = 1 := by unfold hostD; rw [if_neg (show ¬ ((n * 16 : Nat) : Int) = 0 by omega)]; rfl
  dsimp only
  rw [hm, hh]
  dsimp only
  rw [if_pos (show agB _ _ _ _ from Or.inr ⟨rfl, Int.le_refl _⟩), if_neg (fun q => absurd q.1 (by decide))]
  rw [if_neg (by decide), did_read ok a n ByteArray.empty (by omega) (by omega) hl]
  dsimp only
  have e0 : ((n * 16 : Nat) : Int).toNat = n * 16 := by omega
  have ee : (joinS ((l.bs.drop a).take n)).extract 0 (n * 16) = joinS ((l.bs.drop a).take n) := by
    have hz := read_size ok hl
    rw [← hz]
    apply ext_bytes; simp
  rw [if_pos ⟨rfl, rfl⟩, if_pos rfl, Int.sub_self, e0, ee]
  rfl
theorem OkL.wr {l : Ln} (h : OkL l) {op a n : Nat} {b : Bool} (h4 : n ≤ 4) : OkW ⟨l.tag, ((n * 16 : Nat) : Int), b, 0, Scs.mk op a n⟩ :=
  ⟨h.t0, h.t1, Int.natCast_nonneg _, by show ((n * 16 : Nat) : Int) < 4294967296; omega, Int.le_refl 0, by show (0 : Int) ≤ 15; decide, by show 1 ≤ (Scs.mk op a n).size; rw [mk_size]; decide, by show (Scs.mk op a n).size ≤ 16; rw [mk_size]; decide⟩
theorem OkL.st {l : Ln} (h : OkL l) : OkS ⟨l.tag, 0, 0⟩ := ⟨h.t0, h.t1, Int.le_refl 0, by show (0 : Int) < 4294967296; decide, Int.le_refl 0, by show (0 : Int) ≤ 2; decide⟩
theorem OkL.next {l : Ln} (h : OkL l) : OkL l.next := ⟨h.d, by unfold Ln.next; dsimp only; omega, by unfold Ln.next; dsimp only; omega⟩
theorem bytes_eq' (t : ByteArray) : (⟨t.data.toList.toArray⟩ : ByteArray) = t := by cases t; simp
set_option maxRecDepth 100000 in
set_option maxHeartbeats 3200000 in
theorem run_write (w0 : World) (kc : Nat) (A : Option Addr) (c : Nat) (FA : Option Addr) (fc : Nat) (a n : Nat) (data : ByteArray) (l : Ln) (fs : List Int) (W : World) (h : CB w0 kc A c FA fc l.next fs 0 (0 : Nat) W) (ho : OkL l) (hf : OkF fs)
    (h1 : 1 ≤ n) (h4 : n ≤ 4) (hl : a + n ≤ l.bs.length) (hd : data.size = n * 16) :
    Calls Try.prog 55 #[.pointer (some ⟨kc, 0, none⟩), wrV ⟨l.tag, ((n * 16 : Nat) : Int), false, 0, mk 42 a n⟩, .string (wrp true a n l.tag), .string data] W fun e w' => e = .returned (.tuple #[.string (cyc true a n data l fs).t, .int .i64 (cyc true a n data l fs).c]) ∧
      (∃ A' c' FA' fc', CB w0 kc A' c' FA' fc' (cyc true a n data l fs).l fs (cyc true a n data l fs).u ((cyc true a n data l fs).u : Nat) w') ∧ Upd kc W w' := by
  have h64 := ho.d.n2
  obtain ⟨T, hT⟩ : ∃ T, T = wrp true a n l.tag := ⟨_, rfl⟩
  obtain ⟨S, hS⟩ : ∃ S, S = sta l.tag := ⟨_, rfl⟩
  have t1 : T.size ≤ 4096 := by rw [hT]; unfold wrp; rw [wrapT_size _ (ho.wr h4)]; decide
  have s1 : S.size ≤ 4096 := by rw [hS]; unfold sta; rw [statT_size]; decide
  have HRS := Lib.hid (show readS S = (⟨l.tag, 0, 0⟩, 0) by rw [hS]; exact readS_statT _ ho.st)
  have HRC := Lib.hid (readS_calls S)
  obtain ⟨r1, hr1⟩ : ∃ r, r = car T fs := ⟨_, rfl⟩
  obtain ⟨r2, hr2⟩ : ∃ r, r = car data (fs.drop r1.2.2) := ⟨_, rfl⟩
  obtain ⟨r3, hr3⟩ : ∃ r, r = car S (fs.drop (r1.2.2 + r2.2.2)) := ⟨_, rfl⟩
  have HY1 : Hid (r1.1 ≠ 0 → cyc true a n data l fs = ⟨l.next, ByteArray.empty, r1.1, r1.2.2⟩) := Lib.hid (by rw [hr1, hT]; exact cyc_1)
  have HY2 : Hid (r1.1 = 0 → r2.1 ≠ 0 → cyc true a n data l fs = ⟨aft true a n data l (r2.2.1.length == data.size), ByteArray.empty, r2.1, r1.2.2 + r2.2.2⟩) := Lib.hid (by rw [hr2, hr1, hT]; exact cyc_2)
  have HY3 : Hid (r1.1 = 0 → r2.1 = 0 → cyc true a n data l fs = ⟨aft true a n data l true, ByteArray.empty, r3.1, r1.2.2 + r2.2.2 + r3.2.2⟩) := Lib.hid (fun q1 q2 => by
    rw [hr1, hT] at q1
    rw [hr2, hr1, hT] at q2
    have := cyc_3 (wr := true) (data := data) q1 q2
    rw [if_pos rfl, ite_self] at this
    rw [this, hr3, hr2, hr1, hT, hS]
    rfl)
  have HC1 : Hid (∀ (W : World), CB w0 kc A c FA fc l.next fs 0 (0 : Nat) W → Calls Try.prog 63 #[.pointer (some ⟨kc, 0, none⟩), .string T] W fun e w' => e = .returned (.tuple #[.string ⟨r1.2.1.toArray⟩, .int .i64 r1.1]) ∧ ∃ FA' fc', CB w0 kc A c FA' fc' l.next fs r1.2.2 (r1.2.2 : Nat) w' ∧ Upd kc W w') := Lib.hid (fun W hW => by
    have := ccarry_calls w0 kc A c FA fc l.next fs 0 T W hW hf t1
    rw [List.drop_zero, Nat.zero_add, ← hr1] at this
    exact this)
  have HC2 : Hid (∀ (l' : Ln) (A : Option Addr) (c : Nat) (FA : Option Addr) (fc : Nat) (W : World), CB w0 kc A c FA fc l' fs r1.2.2 (r1.2.2 : Nat) W → Calls Try.prog 63 #[.pointer (some ⟨kc, 0, none⟩), .string data] W fun e w' => e = .returned (.tuple #[.string ⟨r2.2.1.toArray⟩, .int .i64 r2.1]) ∧ ∃ FA' fc', CB w0 kc A c FA' fc' l' fs (r1.2.2 + r2.2.2) ((r1.2.2 + r2.2.2 : Nat) : Int) w' ∧ Upd kc W w') := Lib.hid (fun l' A c FA fc W hW => by
    have := ccarry_calls w0 kc A c FA fc l' fs r1.2.2 data W hW hf (by omega)
    rw [← hr2] at this
    exact this)
  have HC3 : Hid (∀ (l' : Ln) (A : Option Addr) (c : Nat) (FA : Option Addr) (fc : Nat) (W : World), CB w0 kc A c FA fc l' fs (r1.2.2 + r2.2.2) ((r1.2.2 + r2.2.2 : Nat) : Int) W → Calls Try.prog 63 #[.pointer (some ⟨kc, 0, none⟩), .string S] W fun e w' => e = .returned (.tuple #[.string ⟨r3.2.1.toArray⟩, .int .i64 r3.1]) ∧ ∃ FA' fc', CB w0 kc A c FA' fc' l' fs (r1.2.2 + r2.2.2 + r3.2.2) ((r1.2.2 + r2.2.2 + r3.2.2 : Nat) : Int) w' ∧ Upd kc W w') := Lib.hid (fun l' A c FA fc W hW => by
    have := ccarry_calls w0 kc A c FA fc l' fs (r1.2.2 + r2.2.2) S W hW hf s1
    rw [← hr3] at this
    exact this)
  have HS : Hid (∀ (A : Option Addr) (c : Nat) (FA : Option Addr) (fc u : Nat) (W : World), CB w0 kc A c FA fc l.next fs u u W → Calls Try.prog 64 #[.pointer (some ⟨kc, 0, none⟩), .string T, .string data] W fun e w' => e = .returned (.tuple #[.string ByteArray.empty, .string S]) ∧ ∃ A' c', CB w0 kc A' c' FA fc (aft true a n data l true) fs u u w' ∧ Upd kc W w') := Lib.hid (fun A c FA fc u W hW => by
    have := cserve_calls w0 kc A c FA fc l.next fs u ⟨l.tag, ((n * 16 : Nat) : Int), false, 0, mk 42 a n⟩ data W hW (by show l.bs.length ≤ _; omega) (ho.wr h4)
    rw [show served l.next.bs l.next.s ⟨l.tag, ((n * 16 : Nat) : Int), false, 0, mk 42 a n⟩ data = _ from served_write ho h1 hl hd, ← hS] at this
    rw [hT]
    exact this)
  have hg2 : r2.1 = 0 → r2.2.1.length = data.size := fun q => by rw [hr2] at q ⊢; rw [(car_got _ _).2 q, blen]
  have HG2 := Lib.hid hg2
  obtain ⟨c1, g1, u1⟩ := r1
  obtain ⟨c2, g2, u2⟩ := r2
  obtain ⟨c3, g3, u3⟩ := r3
  dsimp only at HY1 HY2 HY3 HC1 HC2 HC3 HG2
  rw [← hT]
  obtain ⟨M, hM⟩ : ∃ M, M = mk 42 a n := ⟨_, rfl⟩
  have HH := Lib.hid h
  have hne : ¬ data.size = 0 := by omega
  obtain ⟨Z, hZ⟩ : ∃ Z : Nat, Z = n * 16 := ⟨_, rfl⟩
  have hZ0 : ¬ (Z : Int) = 0 := by omega
  rw [← hM, ← hZ]
  clear h hr1 hr2 hr3 hT hS t1 s1 hg2 hM hZ
  unfold wrV
  dsimp only
  have HB0 := Lib.hid (HH.out.al (.cells #[.int .i64 l.tag, .int .i64 (Z : Int), .bool false, .int .i64 0, .string M] 75))
  have rw0 : (W.alloc (.cells #[.int .i64 l.tag, .int .i64 (Z : Int), .bool false, .int .i64 0, .string M] 75)).heap[W.heap.size]? = some (.cells #[.int .i64 l.tag, .int .i64 (Z : Int), .bool false, .int .i64 0, .string M] 75 (0, 0)) := heap_alloc_new W _
  have HU0 := Lib.hid ((Upd.refl kc W).alloc HH.out.lt (.cells #[.int .i64 l.tag, .int .i64 (Z : Int), .bool false, .int .i64 0, .string M] 75))
  have hkw : W.heap.size ≠ kc := by have := HH.out.lt; omega
  have hlt0 : kc < (W.alloc (.cells #[.int .i64 l.tag, .int .i64 (Z : Int), .bool false, .int .i64 0, .string M] 75)).heap.size := HB0.out.lt
  go_enter Try.func55, Try.ntmps55
  go_wp2_with fail
  refine (HC1.out _ HB0.out).mono ?_
  rintro e w1 ⟨rfl, FA1, fc1, hc1, hu1⟩
  have H1 := Lib.hid hc1
  have rw1 := hu1.row rw0 hkw
  have HU1 := Lib.hid (HU0.out.trans hu1)
  clear hc1 hu1 rw0 HB0 HU0 hlt0
  by_cases k1 : c1 = 0
  · subst k1
    have q := fun i => cell_of_row _ _ i _ _ _ rw1
    have hemp := not_empty data (by omega)
    go_wp2_with fail
    refine (HC2.out _ _ _ _ _ _ H1.out).mono ?_
    rintro e w2 ⟨rfl, FA2, fc2, hc2, hu2⟩
    have H2 := Lib.hid hc2
    have HU2 := Lib.hid (HU1.out.trans hu2)
    clear q rw1 hc2 hu2 H1 HU1 hemp
    by_cases e2 : g2.length = data.size
    · have i2 : (g2.length : Int) = (data.size : Int) := by omega
      go_wp2_with fail
      refine (HS.out _ _ _ _ _ _ H2.out).mono ?_
      rintro e w3 ⟨rfl, A3, d3, hc3, hu3⟩
      have H3 := Lib.hid hc3
      have HU3 := Lib.hid (HU2.out.trans hu3)
      clear hc3 hu3 H2 HU2 i2
      by_cases k2 : c2 = 0
      · subst k2
        have HE := Lib.hid (HY3.out (by trivial) (by trivial))
        go_wp2_with fail
        refine (HC3.out _ _ _ _ _ _ H3.out).mono ?_
        rintro e w4 ⟨rfl, FA4, fc4, hc4, hu4⟩
        have H4 := Lib.hid hc4
        have HU4 := Lib.hid (HU3.out.trans hu4)
        clear hc4 hu4 H3 HU3
        by_cases k3 : c3 = 0
        · subst k3
          go_wp2_with fail
          refine (HRC.out _).mono ?_
          rintro e w5 ⟨rfl, hb⟩
          rw [HRS.out]
          unfold stV
          dsimp only
          have H5 := Lib.hid (H4.out.on hb)
          have HU5 := Lib.hid (HU4.out.trans (Upd.of_below hb H4.out.lt))
          clear hb H4 HU4
          go_wp2_with fail
          refine bodyPost_ret (v := .tuple #[.string ByteArray.empty, .int .i64 0]) (by simp [results, Try.results55]) rfl ?_
          rw [HE.out]
          exact ⟨rfl, ⟨_, _, _, _, H5.out.al _⟩, HU5.out.alloc (by have := HH.out.lt; omega) _⟩
        · go_wp2_with fail
          refine bodyPost_ret (v := .tuple #[.string ⟨#[]⟩, .int .i64 c3]) (by simp [results, Try.results55]) rfl ?_
          rw [HE.out]
          exact ⟨rfl, ⟨_, _, _, _, H4.out⟩, HU4.out⟩
      · have HE := Lib.hid (HY2.out (by trivial) k2)
        go_wp2_with fail
        refine bodyPost_ret (v := .tuple #[.string ⟨#[]⟩, .int .i64 c2]) (by simp [results, Try.results55]) rfl ?_
        rw [HE.out, e2, beq_self_eq_true]
        exact ⟨rfl, ⟨_, _, _, _, H3.out⟩, HU3.out⟩
    · have i2 : ¬ (g2.length : Int) = (data.size : Int) := by omega
      have k2 : c2 ≠ 0 := fun q => e2 (HG2.out q)
      have HE := Lib.hid (HY2.out (by trivial) k2)
      go_wp2_with fail
      refine bodyPost_ret (v := .tuple #[.string ⟨#[]⟩, .int .i64 c2]) (by simp [results, Try.results55]) rfl ?_
      rw [HE.out, beq_eq_false_iff_ne.2 e2]
      exact ⟨rfl, ⟨_, _, _, _, H2.out⟩, HU2.out⟩
  · have HE := Lib.hid (HY1.out k1)
    go_wp2_with fail
    refine bodyPost_ret (v := .tuple #[.string ⟨#[]⟩, .int .i64 c1]) (by simp [results, Try.results55]) rfl ?_
    rw [HE.out]
    exact ⟨rfl, ⟨_, _, _, _, H1.out⟩, HU1.out⟩
set_option maxRecDepth 100000 in
set_option maxHeartbeats 3200000 in
theorem run_read (w0 : World) (kc : Nat) (A : Option Addr) (c : Nat) (FA : Option Addr) (fc : Nat) (a n : Nat) (l : Ln) (fs : List Int) (W : World) (h : CB w0 kc A c FA fc l.next fs 0 (0 : Nat) W) (ho : OkL l) (hf : OkF fs)
    (h1 : 1 ≤ n) (h4 : n ≤ 4) (hl : a + n ≤ l.bs.length) :
    Calls Try.prog 55 #[.pointer (some ⟨kc, 0, none⟩), wrV ⟨l.tag, ((n * 16 : Nat) : Int), true, 0, mk 40 a n⟩, .string (wrp false a n l.tag), .string ⟨#[]⟩] W fun e w' => e = .returned (.tuple #[.string (cyc false a n ⟨#[]⟩ l fs).t, .int .i64 (cyc false a n ⟨#[]⟩ l fs).c]) ∧
      (∃ A' c' FA' fc', CB w0 kc A' c' FA' fc' (cyc false a n ⟨#[]⟩ l fs).l fs (cyc false a n ⟨#[]⟩ l fs).u ((cyc false a n ⟨#[]⟩ l fs).u : Nat) w') ∧ Upd kc W w' := by
  have h64 := ho.d.n2
  obtain ⟨T, hT⟩ : ∃ T, T = wrp false a n l.tag := ⟨_, rfl⟩
  obtain ⟨S, hS⟩ : ∃ S, S = sta l.tag := ⟨_, rfl⟩
  have t1 : T.size ≤ 4096 := by rw [hT]; unfold wrp; rw [wrapT_size _ (ho.wr h4)]; decide
  have s1 : S.size ≤ 4096 := by rw [hS]; unfold sta; rw [statT_size]; decide
  have HRS := Lib.hid (show readS S = (⟨l.tag, 0, 0⟩, 0) by rw [hS]; exact readS_statT _ ho.st)
  have HRC := Lib.hid (readS_calls S)
  obtain ⟨D, hD⟩ : ∃ D, D = joinS ((l.bs.drop a).take n) := ⟨_, rfl⟩
  have hDz : D.size = n * 16 := by rw [hD]; exact read_size ho.d hl
  obtain ⟨r1, hr1⟩ : ∃ r, r = car T fs := ⟨_, rfl⟩
  obtain ⟨r2, hr2⟩ : ∃ r, r = car D (fs.drop r1.2.2) := ⟨_, rfl⟩
  obtain ⟨r3, hr3⟩ : ∃ r, r = car S (fs.drop (r1.2.2 + r2.2.2)) := ⟨_, rfl⟩
  have HY1 : Hid (r1.1 ≠ 0 → cyc false a n ⟨#[]⟩ l fs = ⟨l.next, ByteArray.empty, r1.1, r1.2.2⟩) := Lib.hid (by rw [hr1, hT]; exact cyc_1)
  have HY2 : Hid (r1.1 = 0 → r2.1 ≠ 0 → cyc false a n ⟨#[]⟩ l fs = ⟨aft false a n ⟨#[]⟩ l (r2.2.1.length == D.size), ByteArray.empty, r2.1, r1.2.2 + r2.2.2⟩) := Lib.hid (by rw [hr2, hr1, hT, hD]; exact cyc_2)
  have HY3 : Hid (r1.1 = 0 → r2.1 = 0 → cyc false a n ⟨#[]⟩ l fs = ⟨aft false a n ⟨#[]⟩ l true, if r3.1 ≠ 0 then ByteArray.empty else D, r3.1, r1.2.2 + r2.2.2 + r3.2.2⟩) := Lib.hid (fun q1 q2 => by
    rw [hr1, hT] at q1
    rw [hr2, hr1, hT, hD] at q2
    have := cyc_3 (wr := false) (data := ⟨#[]⟩) q1 q2
    rw [if_neg (show ¬ false = true by decide)] at this
    rw [this, hr3, hr2, hr1, hT, hS, hD]
    rfl)
  have HC1 : Hid (∀ (W : World), CB w0 kc A c FA fc l.next fs 0 (0 : Nat) W → Calls Try.prog 63 #[.pointer (some ⟨kc, 0, none⟩), .string T] W fun e w' => e = .returned (.tuple #[.string ⟨r1.2.1.toArray⟩, .int .i64 r1.1]) ∧ ∃ FA' fc', CB w0 kc A c FA' fc' l.next fs r1.2.2 (r1.2.2 : Nat) w' ∧ Upd kc W w') := Lib.hid (fun W hW => by
    have := ccarry_calls w0 kc A c FA fc l.next fs 0 T W hW hf t1
    rw [List.drop_zero, Nat.zero_add, ← hr1] at this
    exact this)
  have HC2 : Hid (∀ (l' : Ln) (A : Option Addr) (c : Nat) (FA : Option Addr) (fc : Nat) (W : World), CB w0 kc A c FA fc l' fs r1.2.2 (r1.2.2 : Nat) W → Calls Try.prog 63 #[.pointer (some ⟨kc, 0, none⟩), .string D] W fun e w' => e = .returned (.tuple #[.string ⟨r2.2.1.toArray⟩, .int .i64 r2.1]) ∧ ∃ FA' fc', CB w0 kc A c FA' fc' l' fs (r1.2.2 + r2.2.2) ((r1.2.2 + r2.2.2 : Nat) : Int) w' ∧ Upd kc W w') := Lib.hid (fun l' A c FA fc W hW => by
    have := ccarry_calls w0 kc A c FA fc l' fs r1.2.2 D W hW hf (by omega)
    rw [← hr2] at this
    exact this)
  have HC3 : Hid (∀ (l' : Ln) (A : Option Addr) (c : Nat) (FA : Option Addr) (fc : Nat) (W : World), CB w0 kc A c FA fc l' fs (r1.2.2 + r2.2.2) ((r1.2.2 + r2.2.2 : Nat) : Int) W → Calls Try.prog 63 #[.pointer (some ⟨kc, 0, none⟩), .string S] W fun e w' => e = .returned (.tuple #[.string ⟨r3.2.1.toArray⟩, .int .i64 r3.1]) ∧ ∃ FA' fc', CB w0 kc A c FA' fc' l' fs (r1.2.2 + r2.2.2 + r3.2.2) ((r1.2.2 + r2.2.2 + r3.2.2 : Nat) : Int) w' ∧ Upd kc W w') := Lib.hid (fun l' A c FA fc W hW => by
    have := ccarry_calls w0 kc A c FA fc l' fs (r1.2.2 + r2.2.2) S W hW hf s1
    rw [← hr3] at this
    exact this)
  have HS : Hid (∀ (A : Option Addr) (c : Nat) (FA : Option Addr) (fc u : Nat) (W : World), CB w0 kc A c FA fc l.next fs u u W → Calls Try.prog 64 #[.pointer (some ⟨kc, 0, none⟩), .string T, .string ⟨#[]⟩] W fun e w' => e = .returned (.tuple #[.string D, .string S]) ∧ ∃ A' c', CB w0 kc A' c' FA fc (aft false a n ⟨#[]⟩ l true) fs u u w' ∧ Upd kc W w') := Lib.hid (fun A c FA fc u W hW => by
    have := cserve_calls w0 kc A c FA fc l.next fs u ⟨l.tag, ((n * 16 : Nat) : Int), true, 0, mk 40 a n⟩ ByteArray.empty W hW (by show l.bs.length ≤ _; omega) (ho.wr h4)
    rw [show served l.next.bs l.next.s ⟨l.tag, ((n * 16 : Nat) : Int), true, 0, mk 40 a n⟩ ByteArray.empty = _ from served_read ho h1 hl, ← hS, ← hD] at this
    rw [hT]
    exact this)
  obtain ⟨c1, g1, u1⟩ := r1
  obtain ⟨c2, g2, u2⟩ := r2
  obtain ⟨c3, g3, u3⟩ := r3
  dsimp only at HY1 HY2 HY3 HC1 HC2 HC3
  rw [← hT]
  obtain ⟨M, hM⟩ : ∃ M, M = mk 40 a n := ⟨_, rfl⟩
  have HH := Lib.hid h
  obtain ⟨Z, hZ⟩ : ∃ Z : Nat, Z = n * 16 := ⟨_, rfl⟩
  have hZ0 : ¬ (Z : Int) = 0 := by omega
  rw [← hM, ← hZ]
  clear h hr1 hr2 hr3 hT hS t1 s1 hM hZ hD hDz
  unfold wrV
  dsimp only
  have HB0 := Lib.hid (HH.out.al (.cells #[.int .i64 l.tag, .int .i64 (Z : Int), .bool true, .int .i64 0, .string M] 75))
  have rw0 : (W.alloc (.cells #[.int .i64 l.tag, .int .i64 (Z : Int), .bool true, .int .i64 0, .string M] 75)).heap[W.heap.size]? = some (.cells #[.int .i64 l.tag, .int .i64 (Z : Int), .bool true, .int .i64 0, .string M] 75 (0, 0)) := heap_alloc_new W _
  have HU0 := Lib.hid ((Upd.refl kc W).alloc HH.out.lt (.cells #[.int .i64 l.tag, .int .i64 (Z : Int), .bool true, .int .i64 0, .string M] 75))
  have hkw : W.heap.size ≠ kc := by have := HH.out.lt; omega
  have hlt0 : kc < (W.alloc (.cells #[.int .i64 l.tag, .int .i64 (Z : Int), .bool true, .int .i64 0, .string M] 75)).heap.size := HB0.out.lt
  go_enter Try.func55, Try.ntmps55
  go_wp2_with fail
  refine (HC1.out _ HB0.out).mono ?_
  rintro e w1 ⟨rfl, FA1, fc1, hc1, hu1⟩
  have H1 := Lib.hid hc1
  have rw1 := hu1.row rw0 hkw
  have HU1 := Lib.hid (HU0.out.trans hu1)
  clear hc1 hu1 rw0 HB0 HU0 hlt0
  by_cases k1 : c1 = 0
  · subst k1
    have q := fun i => cell_of_row _ _ i _ _ _ rw1
    go_wp2_with fail
    refine (HS.out _ _ _ _ _ _ H1.out).mono ?_
    rintro e w3 ⟨rfl, A3, d3, hc3, hu3⟩
    have H3 := Lib.hid hc3
    have HU3 := Lib.hid (HU1.out.trans hu3)
    have rw3 := hu3.row rw1 hkw
    clear hc3 hu3 H1 HU1 rw1 q
    have q := fun i => cell_of_row _ _ i _ _ _ rw3
    go_wp2_with fail
    refine (HC2.out _ _ _ _ _ _ H3.out).mono ?_
    rintro e w2 ⟨rfl, FA2, fc2, hc2, hu2⟩
    have H2 := Lib.hid hc2
    have HU2 := Lib.hid (HU3.out.trans hu2)
    clear q rw3 hc2 hu2 H3 HU3
    by_cases k2 : c2 = 0
    · subst k2
      have HE := Lib.hid (HY3.out (by trivial) (by trivial))
      go_wp2_with fail
      refine (HC3.out _ _ _ _ _ _ H2.out).mono ?_
      rintro e w4 ⟨rfl, FA4, fc4, hc4, hu4⟩
      have H4 := Lib.hid hc4
      have HU4 := Lib.hid (HU2.out.trans hu4)
      clear hc4 hu4 H2 HU2
      by_cases k3 : c3 = 0
      · subst k3
        go_wp2_with fail
        refine (HRC.out _).mono ?_
        rintro e w5 ⟨rfl, hb⟩
        rw [HRS.out]
        unfold stV
        dsimp only
        have H5 := Lib.hid (H4.out.on hb)
        have HU5 := Lib.hid (HU4.out.trans (Upd.of_below hb H4.out.lt))
        clear hb H4 HU4
        go_wp2_with fail
        refine bodyPost_ret (v := .tuple #[.string D, .int .i64 0]) (by simp [results, Try.results55]) rfl ?_
        rw [HE.out, if_neg (by decide)]
        exact ⟨rfl, ⟨_, _, _, _, H5.out.al _⟩, HU5.out.alloc (by have := HH.out.lt; omega) _⟩
      · go_wp2_with fail
        refine bodyPost_ret (v := .tuple #[.string ⟨#[]⟩, .int .i64 c3]) (by simp [results, Try.results55]) rfl ?_
        rw [HE.out, if_pos k3]
        exact ⟨rfl, ⟨_, _, _, _, H4.out⟩, HU4.out⟩
    · have HE := Lib.hid (HY2.out (by trivial) k2)
      go_wp2_with fail
      refine bodyPost_ret (v := .tuple #[.string ⟨#[]⟩, .int .i64 c2]) (by simp [results, Try.results55]) rfl ?_
      rw [HE.out]
      exact ⟨rfl, ⟨_, _, _, _, H2.out⟩, HU2.out⟩
  · have HE := Lib.hid (HY1.out k1)
    go_wp2_with fail
    refine bodyPost_ret (v := .tuple #[.string ⟨#[]⟩, .int .i64 c1]) (by simp [results, Try.results55]) rfl ?_
    rw [HE.out]
    exact ⟨rfl, ⟨_, _, _, _, H1.out⟩, HU1.out⟩
end Go.Proofs.Ytafiedhjjnapoaa
