/- The law TypistRepeats, walked. -/
import Derived.Test.YtndkaehbmdiofaaDoorTypR
import Derived.Test.YtndkaehbmdiofaaDoorTypX
import Derived.Test.YtndkaehbmdiofaaDoorTypH
import Derived.Test.YtndkaehbmdiofaaDoorFr
namespace Go.Proofs.YtndkaehbmdiofaaDoor
open Go.RowKit Go.Proofs.YtndkaehbmdiofaaDoor.Typ
theorem signs_in {c : Int} (h : signs c = true) : 4 ≤ c ∧ c ≤ 55 ∧ c ≠ 42 ∧ c ≠ 47 := by
  unfold signs at h
  rw [decide_eq_true_iff] at h
  omega
theorem chk_zero : chkP St.zero = 0 := by decide +kernel
theorem dead_same (u : St) (h : u.dead = 0) : { u with dead := 0 } = u := by
  obtain ⟨uh, uc, ud, ul, uw, ut⟩ := u
  simp only at h
  rw [h]
theorem typed_zero {u : St} {c : Int} (hc : signs c = true) (hd : u.dead = 0) : typedP u c = putP u (charP c (shiftP u != (u.caps && letB c))) := by
  obtain ⟨b, hb⟩ := charP_one hc (shiftP u != (u.caps && letB c))
  unfold typedP
  rw [if_neg (signs_in hc).2.2.1]
  dsimp only
  rw [hd, accd_zero, if_pos rfl]
  have ha : accP 0 = ByteArray.empty := rfl
  rw [ha, ByteArray.empty_append]
  exact dead_same _ (by rw [put_dead]; exact hd)
theorem put_room {u : St} {s : ByteArray} (h : u.text.size + s.size ≤ 4096) : putP u s = { u with text := u.text ++ s } := by unfold putP; rw [if_pos h]
theorem char_size {c : Int} (hc : signs c = true) (sh : Bool) : (charP c sh).size = 1 := by
  obtain ⟨b, hb⟩ := charP_one hc sh
  rw [hb]; rfl
/-- a key pressed by itself -/
theorem press_one {c : Int} (hc : signs c = true) : strokeP St.zero ⟨1, c, true, 0⟩ = (⟨Hd0.flip c.toNat, false, 0, c, 20, charP c false⟩, 0) := by
  obtain ⟨h1, h2, h3, h4⟩ := signs_in hc
  have ha : app1 Hd0 c true = (Hd0.flip c.toNat, 0) := by
    unfold app1
    rw [if_neg (by omega), if_neg (by rw [Hd0_has _ (by omega)]; decide)]
  have hp : prints c = true := by unfold prints; rw [hc]; simp
  unfold strokeP
  rw [if_pos rfl]
  have e0 : (St.zero).held = Hd0 := rfl
  rw [e0]
  dsimp only
  rw [ha, if_neg (fun q => q rfl), if_pos rfl]
  unfold downP
  rw [if_pos hp]
  have hsh : shiftP { St.zero with held := Hd0.flip c.toNat } = false := by
    show ((Hd0.flip c.toNat).has 225 || (Hd0.flip c.toNat).has 229) = false
    rw [Hd.flip_has _ _ _ (by omega) (by omega), Hd.flip_has _ _ _ (by omega) (by omega), Hd0_has _ (by omega), Hd0_has _ (by omega), decide_eq_false (by omega), decide_eq_false (by omega)]; rfl
  rw [typed_zero hc rfl, hsh, show ({ St.zero with held := Hd0.flip c.toNat } : St).caps = false from rfl, Bool.false_and, show (false != false) = false from rfl]
  rw [put_room (by rw [char_size hc]; show 0 + 1 ≤ 4096; decide)]
  show ((⟨Hd0.flip c.toNat, false, 0, c, 20, ByteArray.empty ++ charP c false⟩ : St), (0 : Int)) = _
  rw [ByteArray.empty_append]
theorem flip_own {c : Int} (h : 4 ≤ c ∧ c ≤ 255) : (Hd0.flip c.toNat).has c.toNat = true := by
  rw [Hd.flip_has _ _ _ (by omega) (by omega), Hd0_has _ (by omega), decide_eq_true rfl]; rfl
theorem repeats_plain {c : Int} (hc : signs c = true) (n : Nat) (hn : n ≤ 100) : ∃ T U : St, typeP St.zero [⟨1, c, true, 0⟩, ⟨2, 0, false, n⟩] = (T, 0) ∧ typeP St.zero [⟨1, c, true, 0⟩, ⟨2, 0, false, n⟩, ⟨1, c, false, 0⟩, ⟨2, 0, false, 100⟩] = (U, 0) ∧
    T.text = rep (times 20 n + 1) (charP c false) ∧ U.text = rep (times 20 n + 1) (charP c false) ∧ U.last = 0 := by
  obtain ⟨h1, h2, h3, h4⟩ := signs_in hc
  have hb : Bare ⟨Hd0.flip c.toNat, false, 0, c, 20, charP c false⟩ c := by
    refine ⟨?_, rfl, rfl, rfl⟩
    show ((Hd0.flip c.toNat).has 225 || (Hd0.flip c.toNat).has 229) = false
    rw [Hd.flip_has _ _ _ (by omega) (by omega), Hd.flip_has _ _ _ (by omega) (by omega), Hd0_has _ (by omega), Hd0_has _ (by omega), decide_eq_false (by omega), decide_eq_false (by omega)]; rfl
  have ht : times 20 n ≤ 100 := by unfold times; split <;> omega
  obtain ⟨z, hz⟩ := ticks_bare n _ c 20 hb hc rfl (by decide) (by decide) (by rw [show (⟨Hd0.flip c.toNat, false, 0, c, 20, charP c false⟩ : St).text = charP c false from rfl, char_size hc]; omega)
  have hs2 : strokeP ⟨Hd0.flip c.toNat, false, 0, c, 20, charP c false⟩ ⟨2, 0, false, n⟩ = (⟨Hd0.flip c.toNat, false, 0, c, z, rep (times 20 n + 1) (charP c false)⟩, 0) := by
    unfold strokeP
    rw [if_neg (show ¬ (2 : Int) = 1 by decide), if_neg (by dsimp only; omega)]
    dsimp only
    rw [show ((n : Int)).toNat = n by omega, hz, rep_front]
  have ha : app1 (Hd0.flip c.toNat) c false = ((Hd0.flip c.toNat).flip c.toNat, 0) := by
    unfold app1
    rw [if_neg (by omega), if_neg (by rw [flip_own ⟨by omega, by omega⟩]; decide)]
  have hs3 : strokeP ⟨Hd0.flip c.toNat, false, 0, c, z, rep (times 20 n + 1) (charP c false)⟩ ⟨1, c, false, 0⟩ = (⟨(Hd0.flip c.toNat).flip c.toNat, false, 0, 0, 0, rep (times 20 n + 1) (charP c false)⟩, 0) := by
    unfold strokeP
    rw [if_pos rfl]
    dsimp only
    rw [ha, if_neg (fun q => q rfl), if_neg (by decide), if_pos rfl]
  have hs4 : strokeP ⟨(Hd0.flip c.toNat).flip c.toNat, false, 0, 0, 0, rep (times 20 n + 1) (charP c false)⟩ ⟨2, 0, false, 100⟩ = (⟨(Hd0.flip c.toNat).flip c.toNat, false, 0, 0, 0, rep (times 20 n + 1) (charP c false)⟩, 0) := by
    unfold strokeP
    rw [if_neg (by decide), if_neg (by decide)]
    rw [tick_zero _ _ rfl]
  refine ⟨⟨Hd0.flip c.toNat, false, 0, c, z, rep (times 20 n + 1) (charP c false)⟩, ⟨(Hd0.flip c.toNat).flip c.toNat, false, 0, 0, 0, rep (times 20 n + 1) (charP c false)⟩, ?_, ?_, rfl, rfl, rfl⟩
  · unfold typeP
    rw [if_neg (fun q => q chk_zero), if_neg (by simp only [List.length_cons, List.length_nil]; omega)]
    rw [runP_cons, press_one hc, if_neg (fun q => q rfl), runP_cons, hs2, if_neg (fun q => q rfl)]
    rfl
  · unfold typeP
    rw [if_neg (fun q => q chk_zero), if_neg (by simp only [List.length_cons, List.length_nil]; omega)]
    rw [runP_cons, press_one hc, if_neg (fun q => q rfl), runP_cons, hs2, if_neg (fun q => q rfl), runP_cons, hs3, if_neg (fun q => q rfl), runP_cons, hs4, if_neg (fun q => q rfl)]
    rfl
theorem Kt.Sl.fresh (w : World) (cs : Array Value) (e : TypeId) (n sz : Nat) (h : cs.size = n * sz) (hm : n ≤ maxLen) : Kt.Sl (w.alloc (.cells cs e)) w.heap.size e sz (.slice (some ⟨w.heap.size, 0, none⟩) n n) n cs.toList := by
  refine ⟨by simpa using h, .inr ⟨w.heap.size, 0, n, cs, rfl, Nat.le_refl _, heap_alloc_new w _, Nat.le_refl _, hm, by omega, fun j v hj => ?_⟩⟩
  rw [Nat.zero_add, ← Array.getElem?_toList]; exact hj
structure RpW (w0 : World) (kT : Nat) (T : St) (X : World) : Prop where
  rt : X.heap[kT]? = some (.cells T.cs 37 (0, 0))
  bel : Below w0.heap.size w0 X
theorem RpW.on {w0 : World} {kT : Nat} {T : St} {X Y : World} (h : RpW w0 kT T X) (hb : Below X.heap.size X Y) : RpW w0 kT T Y := ⟨Kt.row_on hb h.rt, Kt.bthen h.bel hb⟩
set_option maxRecDepth 100000 in
set_option maxHeartbeats 6400000 in
theorem repeats_calls (c n : Int) (w0 : World) (hT : ∀ W, Below w0.heap.size w0 W → Lib.Utf8Tabs 0 1 W) : Calls Tryd.prog 5 #[.int .i64 c, .int .i64 n] w0 fun e w' => e = .returned (.bool true) ∧ Below w0.heap.size w0 w' := by
  have HT := Lib.hid hT
  have HLV := Lib.hid (fun W hW => tlives_calls W (fun X hX => HT.out X (Kt.bthen hW hX)))
  obtain ⟨S1, hS1⟩ : ∃ x, charP c false = x := ⟨_, rfl⟩
  obtain ⟨ok, hok⟩ : ∃ x, signs c = x := ⟨_, rfl⟩
  have HSG := Lib.hid (fun W => signs_calls c W)
  rw [hS1, hok] at HSG
  have HS := Lib.hid (And.intro hS1 hok)
  clear hT hS1 hok
  go_enter Tryd.func5, Tryd.ntmps5
  go_wp2_with fail
  refine (HSG.out _).mono ?_; rintro e w1 ⟨rfl, hb⟩
  have HB1 := Lib.hid hb
  clear hb HSG
  go_wp2_with fail
  refine (HLV.out _ HB1.out).mono ?_; rintro e w2 ⟨rfl, hb⟩
  have HB2 := Lib.hid (Kt.bthen HB1.out hb)
  clear hb HB1
  by_cases hin : ok = true ∧ 0 ≤ n ∧ n ≤ 100
  · obtain ⟨rfl, h0, h1⟩ := hin
    obtain ⟨N, hN⟩ : ∃ N : Nat, n = N := ⟨n.toNat, by omega⟩
    subst hN
    have hN : N ≤ 100 := by omega
    obtain ⟨T, U, hTy, hUy, hTt, hUt, hUl⟩ := repeats_plain HS.out.2 N hN
    rw [HS.out.1] at hTt hUt
    have HTY := Lib.hid hTy
    have HUY := Lib.hid hUy
    have HX := Lib.hid (And.intro hTt (And.intro hUt (And.intro hUl hN)))
    have HS2 : Hid (S1.size = 1) := Lib.hid (by rw [← HS.out.1, char_size HS.out.2])
    clear hTy hUy hTt hUt hUl hN HS
    go_wp2_with fail
    have hal := Kt.balloc (Below.refl _ w2) (.cells #[.int .i64 1, .int .i64 c, .bool true, .int .i64 0, .int .i64 2, .int .i64 0, .bool false, .int .i64 (N : Int)] 31)
    have hsl := Kt.Sl.fresh w2 #[.int .i64 1, .int .i64 c, .bool true, .int .i64 0, .int .i64 2, .int .i64 0, .bool false, .int .i64 (N : Int)] 31 2 4 rfl (by decide)
    refine (type_calls St.zero [⟨1, c, true, 0⟩, ⟨2, 0, false, N⟩] (some ⟨w2.heap.size, 0, none⟩) 2 _ (Kt.Ar.of_sl hsl) (fun W hW => HT.out W (Kt.bthen HB2.out (Kt.bthen hal hW)))).mono ?_
    rw [HTY.out]
    rintro e w3 ⟨rfl, hb⟩
    have HB3 := Lib.hid (Kt.bthen HB2.out (Kt.bthen hal hb))
    have HS3 := Lib.hid (hsl.on hb)
    have HR3 := Lib.hid (RpW.mk (w0 := w0) (kT := w3.heap.size) (T := T) (X := w3.alloc (.cells T.cs 37)) (heap_alloc_new w3 _) (Kt.balloc HB3.out _))
    have HK0 := Lib.hid HB2.out.size
    clear hal hsl hb HTY HB2 HLV
    obtain ⟨k2, hk2⟩ : ∃ k, w2.heap.size = k := ⟨_, rfl⟩
    rw [hk2] at HS3 HK0 ⊢
    clear hk2
    unfold St.v St.cs
    have HAL := Lib.hid (Kt.balloc (Below.refl _ w3) (.cells T.cs 37))
    unfold St.cs at HAL HR3
    have HKT := Lib.hid (And.intro (show w0.heap.size ≤ k2 from HK0.out) (HS3.out.lt _ rfl).2)
    go_upto_region 6 with (fail)
    refine Kt.fold (fun X => Hid (RpW w0 w3.heap.size T X ∧ Kt.Sl X k2 31 4 (.slice (some ⟨k2, 0, none⟩) 2 2) 2 #[.int .i64 1, .int .i64 c, .bool true, .int .i64 0, .int .i64 2, .int .i64 0, .bool false, .int .i64 (N : Int)].toList ∧ k2 ≤ X.heap.size)) (Lib.hid ⟨HR3.out, HS3.out.on HAL.out, Nat.le_of_lt ((HS3.out.on HAL.out).lt _ rfl).2⟩) (fun W4 H4 => ?_)
    obtain ⟨kT, hkT⟩ : ∃ k, w3.heap.size = k := ⟨_, rfl⟩
    rw [hkT] at H4 HKT ⊢
    clear hkT HR3 HS3 HAL HB3
    have hal := Kt.balloc (Below.refl _ W4) (.cells #[.int .i64 1, .int .i64 c, .bool false, .int .i64 0, .int .i64 2, .int .i64 0, .bool false, .int .i64 100] 31)
    have HAR := Lib.hid (Kt.Ar.new W4 #[.int .i64 1, .int .i64 c, .bool false, .int .i64 0, .int .i64 2, .int .i64 0, .bool false, .int .i64 100] 31 2 4 rfl)
    have HS5 := Lib.hid (H4.out.2.1.on hal)
    have HR5 := Lib.hid (H4.out.1.on hal)
    have HK5 := Lib.hid (Nat.le_trans H4.out.2.2 hal.size)
    clear hal
    go_wp2_with (
      refine Kt.append_ar (by rfl) (.tmp 50) (.tmp 55) 26 rfl k2 31 (.agg #[.int .i64 0, .int .i64 0, .bool false, .int .i64 0]) 4 32 infoK Tryd.underlying26 rfl (by decide) _ _ _ rfl HS5.out _ _ _ rfl HAR.out (by intro u hu; simp only [List.mem_cons, List.not_mem_nil, or_false] at hu; rcases hu with rfl | rfl | rfl | rfl | rfl | rfl | rfl | rfl <;> rfl) (by decide) (by decide) HK5.out ?_
      intro A5 c5 w5 hs5 hb5 hz5 hk5 hl5)
    have HR6 : Hid (RpW w0 kT T w5) := Lib.hid ⟨(hk5 kT (lt_of_row0 HR5.out.rt) (by intro e; have h1 := HKT.out.2; have h2 : some k2 = some kT := e; injection h2; omega)).trans HR5.out.rt, HR5.out.bel.trans (hb5.mono HKT.out.1)⟩
    have HS6 : Hid (Kt.Sl w5 k2 31 4 (.slice A5 4 c5) 4 (sks [⟨1, c, true, 0⟩, ⟨2, 0, false, N⟩, ⟨1, c, false, 0⟩, ⟨2, 0, false, 100⟩])) := Lib.hid hs5
    clear hs5 hb5 hz5 hk5 hl5 HAR HS5 HR5 HK5 H4
    refine (type_calls St.zero [⟨1, c, true, 0⟩, ⟨2, 0, false, N⟩, ⟨1, c, false, 0⟩, ⟨2, 0, false, 100⟩] A5 c5 _ (Kt.Ar.of_sl HS6.out) (fun W hW => HT.out W (Kt.bthen HR6.out.bel hW))).mono ?_
    rw [HUY.out]
    rintro e w6 ⟨rfl, hb⟩
    have HR7 := Lib.hid (HR6.out.on hb)
    clear hb HR6 HS6 HUY HT
    have HRU := Lib.hid (heap_alloc_new w6 (.cells U.cs 37))
    have HR8 := Lib.hid (HR7.out.on (Kt.balloc (Below.refl _ w6) (.cells U.cs 37)))
    unfold St.v St.cs
    unfold St.cs at HRU HR8
    obtain ⟨KK, hKK⟩ : ∃ k, times 20 N + 1 = k := ⟨_, rfl⟩
    rw [hKK] at HX
    have HKK := Lib.hid hKK
    clear hKK HR7
    go_upto_region 7 with (fail)
    refine Kt.fold (fun X => Hid (X.heap[w6.heap.size]? = some (.cells U.cs 37 (0, 0)) ∧ RpW w0 kT T X)) (Lib.hid ⟨HRU.out, HR8.out⟩) (fun W9 H9 => ?_)
    obtain ⟨kU, hkU⟩ : ∃ k, w6.heap.size = k := ⟨_, rfl⟩
    rw [hkU] at H9 ⊢
    clear hkU HRU HR8
    have HN := Lib.hid HX.out.2.2.2
    rcases Nat.lt_or_ge N 20 with hN | hN
    · have hk1 : KK = 1 := by rw [← HKK.out]; unfold times; rw [if_pos hN]
      subst hk1
      have hN' : ¬ (20 : Int) ≤ N := by omega
      have HKL : Hid ((1 : Nat) ≤ 101) := Lib.hid (by omega)
      clear hN HKK
      go_wp2_with fail
      go_loopw [14, 69] (fun V ii wr => ∃ k : Nat, V = .string (rep k S1) ∧ ii = .int .i64 k ∧ Hid (k ≤ 1) ∧ wr = W9) (fun _ ii _ => 1 - (intOf ii).toNat)
      case atStart => exact ⟨0, rfl, rfl, Lib.hid (Nat.zero_le _), rfl⟩
      case round =>
        obtain ⟨k, rfl, rfl, HK, rfl⟩ := hrel
        by_cases hk : k < 1
        · have hk' : (k : Int) < 1 := by omega
          have hsz : ¬ 9223372036854775807 < (rep k S1).size + S1.size := by have := HKL.out; rw [rep_size, HS2.out]; omega
          have HH := Lib.hid hk
          have hw1 : wrap64 ((k : Int) + 1) = ((k + 1 : Nat) : Int) := by have := HKL.out; unfold wrap64; omega
          clear hk HK
          go_wp2_with fail
          refine ⟨⟨k + 1, rfl, by first | rfl | rw [hw1], Lib.hid HH.out, trivial⟩, ?_⟩
          first | exact nxm HH.out | (rw [hw1]; exact nxm HH.out)
        · have hk' : ¬ (k : Int) < 1 := by omega
          obtain rfl : k = 1 := by have := HK.out; omega
          have q1 := H9.out.1
          have q2 := H9.out.2.rt
          unfold St.cs at q1 q2
          rw [HX.out.2.1, HX.out.2.2.1] at q1
          rw [HX.out.1] at q2
          have c1 := fun i => cell_of_row _ _ i _ _ _ q1
          have c2 := fun i => cell_of_row _ _ i _ _ _ q2
          clear q1 q2 hk HK
          go_wp2_with fail
          go_ret
          exact ⟨rfl, H9.out.2.bel⟩
    · have hk1 : (1 : Int) + (((N : Int) - 20) / 4 + 1) = KK := by rw [← HKK.out]; unfold times; rw [if_neg (by omega)]; omega
      have hN' : (20 : Int) ≤ N := by omega
      have HKL : Hid (KK ≤ 101) := Lib.hid (by have := HN.out; rw [← HKK.out]; unfold times; split <;> omega)
      have HK1 := Lib.hid hk1
      clear hN HKK hk1
      go_wp2_with fail
      rw [HK1.out]
      clear HK1
      go_loopw [14, 69] (fun V ii wr => ∃ k : Nat, V = .string (rep k S1) ∧ ii = .int .i64 k ∧ Hid (k ≤ KK) ∧ wr = W9) (fun _ ii _ => KK - (intOf ii).toNat)
      case atStart => exact ⟨0, rfl, rfl, Lib.hid (Nat.zero_le _), rfl⟩
      case round =>
        obtain ⟨k, rfl, rfl, HK, rfl⟩ := hrel
        by_cases hk : k < KK
        · have hk' : (k : Int) < KK := by omega
          have hsz : ¬ 9223372036854775807 < (rep k S1).size + S1.size := by have := HKL.out; rw [rep_size, HS2.out]; omega
          have HH := Lib.hid hk
          have hw1 : wrap64 ((k : Int) + 1) = ((k + 1 : Nat) : Int) := by have := HKL.out; unfold wrap64; omega
          clear hk HK
          go_wp2_with fail
          refine ⟨⟨k + 1, rfl, by first | rfl | rw [hw1], Lib.hid HH.out, trivial⟩, ?_⟩
          first | exact nxm HH.out | (rw [hw1]; exact nxm HH.out)
        · have hk' : ¬ (k : Int) < KK := by omega
          obtain rfl : k = KK := by have := HK.out; omega
          have q1 := H9.out.1
          have q2 := H9.out.2.rt
          unfold St.cs at q1 q2
          rw [HX.out.2.1, HX.out.2.2.1] at q1
          rw [HX.out.1] at q2
          have c1 := fun i => cell_of_row _ _ i _ _ _ q1
          have c2 := fun i => cell_of_row _ _ i _ _ _ q2
          clear q1 q2 hk HK
          go_wp2_with fail
          go_ret
          exact ⟨rfl, H9.out.2.bel⟩
  · have h4 : ok = false ∨ (ok = true ∧ n < 0) ∨ (ok = true ∧ ¬ n < 0 ∧ 100 < n) := by
      cases ok
      · exact .inl rfl
      · refine .inr ?_
        rcases Int.lt_or_le n 0 with h | h
        · exact .inl ⟨rfl, h⟩
        · exact .inr ⟨rfl, by omega, by
            rcases Int.lt_or_le 100 n with h2 | h2
            · exact h2
            · exact absurd ⟨rfl, h, h2⟩ hin⟩
    clear hin HS
    rcases h4 with rfl | ⟨rfl, h1⟩ | ⟨rfl, h1, h2⟩
    all_goals
      go_wp2_with fail
      refine (HLV.out _ HB2.out).mono ?_; rintro e w3 ⟨rfl, hb⟩
      have HB3 := Lib.hid (Kt.bthen HB2.out hb)
      clear hb
      go_wp2_with fail
      go_ret
      exact ⟨rfl, HB3.out⟩
theorem repeats_walk (v0 v1 : Value) (w : World) (hT : Lib.Utf8Tabs 0 1 w) (r0 : Fr.RdV w reachBytes (.int .i64) v0) (r1 : Fr.RdV w reachBytes (.int .i64) v1) :
    Calls Tryd.prog 5 #[v0, v1] w fun e w' => e = .returned (.bool true) ∧ Below w.heap.size w w' := by
  obtain ⟨c, e0, _⟩ := r0; cases e0
  obtain ⟨n, e1, _⟩ := r1; cases e1
  exact repeats_calls c n w (fun W hW => Utf8Tabs_below hT hW)
end Go.Proofs.YtndkaehbmdiofaaDoor
