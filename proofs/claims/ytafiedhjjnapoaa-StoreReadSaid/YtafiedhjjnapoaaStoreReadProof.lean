/-
  StoreRead: for every input that the statement speaks of, the law StoreRead returns true, and each argument reads behind the call as before. Conditions: none beyond the form's own.
-/
import Derived.Test.YtafiedhjjnapoaaFr
import Derived.Test.YtafiedhjjnapoaaStoTop
namespace Go.Proofs.Ytafiedhjjnapoaa
open Go.RowKit Go.Shelf Go.Proofs.Ytafiedhjjnapoaa.Scs Go.Proofs.Ytafiedhjjnapoaa.Blk Go.Proofs.Ytafiedhjjnapoaa.Sto
theorem rd_bs (l : Ln) (x y : Int) (fs : List Int) : (rdL l x y fs).l.bs = l.bs := by
  unfold rdL
  split
  · rfl
  · split
    · rfl
    · exact (por_read x.toNat y.toNat ⟨#[]⟩ fs l.bs y.toNat l ByteArray.empty 0 0 rfl (by simp [joinS]) (Nat.zero_le _) (by omega)).1
theorem rd_bad {l : Ln} {x y : Int} {fs : List Int} (h : ¬ (0 ≤ x ∧ 0 ≤ y ∧ x + y ≤ l.bs.length)) : (rdL l x y fs).t = ByteArray.empty ∧ (rdL l x y fs).c ≠ 0 ∧ (rdL l x y fs).d = 0 := by
  have hb : blkC l.bs.length x y ≠ 0 := fun q => h (blkC_ok.1 q)
  unfold rdL
  by_cases h1 : chkL l fs = 0
  · rw [if_neg (by rw [h1]; decide), if_pos hb]
    exact ⟨rfl, hb, rfl⟩
  · rw [if_pos h1]
    exact ⟨rfl, h1, rfl⟩
theorem rd_fine {l : Ln} {fs : List Int} {a n : Nat} (h : a + n ≤ l.bs.length) : (rdL l a n fs).d ≤ n ∧ (rdL l a n fs).t = joinS ((l.bs.drop a).take (rdL l a n fs).d) ∧ ((rdL l a n fs).c = 0 → (rdL l a n fs).d = n) ∧ ((rdL l a n fs).d = 0 ∨ OkL l) := by
  have hb : blkC l.bs.length a n = 0 := blkC_ok.2 ⟨by omega, by omega, by omega⟩
  unfold rdL
  by_cases h1 : chkL l fs = 0
  · rw [if_neg (by rw [h1]; decide), if_neg (by rw [hb]; decide), Int.toNat_natCast, Int.toNat_natCast]
    have hp := por_read a n ⟨#[]⟩ fs l.bs n l ByteArray.empty 0 0 rfl (by simp [joinS]) (Nat.zero_le _) (by omega)
    exact ⟨hp.2.2.1, hp.2.1, hp.2.2.2, .inr (chkL_ok.1 h1).1⟩
  · rw [if_pos h1]
    exact ⟨Nat.zero_le _, by simp [joinS], fun q => absurd q h1, .inl rfl⟩
theorem blk_sub {w : World} {A : Option Addr} {c : Nat} {bs : List ByteArray} (h : DkA w A c bs) (a d : Nat) (hd : a + d ≤ bs.length) :
    Kt.Ar w (.slice (if c = a then A else Option.map (fun x => x.add a) A) d (c - a)) 1 d (sts ((bs.drop a).take d)) := by
  obtain ⟨A', c', e, hnc, hx⟩ := h.form
  injection e with e1 e2 e3
  subst e1 e3
  refine ⟨by simp [sts]; omega, _, _, rfl, by omega, fun h0 => ?_⟩
  obtain ⟨b, o, rfl, hb, hc⟩ := hx (by omega)
  rw [if_neg (by omega)]
  refine ⟨b, o + a, ?_, hb, fun j hj => ?_⟩
  · simp only [Option.map_some, Addr.add]
    by_cases h1 : a = 0
    · simp [h1]
    · simp [h1]
  · have hj' : j < d := by simp [sts] at hj; omega
    rw [Nat.add_assoc, hc (a + j) (by rw [sts_len]; omega)]
    simp [sts]
set_option maxRecDepth 100000 in
set_option maxHeartbeats 3200000 in
theorem sread_calls (l : Ln) (A : Option Addr) (c : Nat) (x y : Int) (f : List Int) (FA : Option Addr) (fc : Nat) (w : World) (hA : DkA w A c l.bs) (hn : l.bs.length ≤ 8796093022208) (hF : Kt.Ar w (.slice FA f.length fc) 1 f.length (ics f)) (hx : (Lit.int .i64 x).wf = true) :
    Calls Try.prog 3 #[lkV A c l, .int .i64 x, .int .i64 y, .slice FA f.length fc] w fun e w' => e = .returned (.bool true) ∧ Below w.heap.size w w' := by
  obtain ⟨O, hO⟩ : ∃ O, O = rdL l x y f := ⟨_, rfl⟩
  have hbs : O.l.bs = l.bs := by rw [hO]; exact rd_bs _ _ _ _
  have HO := Lib.hid hO
  have HB0 := Lib.hid (Kt.balloc (Below.refl _ w) (.cells #[.slice A l.bs.length c, .int .i64 l.s, .int .i64 l.tag] 26))
  have HA0 := Lib.hid (hA.on HB0.out)
  have HRD := Lib.hid (read_calls l A c FA fc f x y _ HA0.out hn (hF.on HB0.out))
  have r4 : (w.alloc (.cells #[.slice A l.bs.length c, .int .i64 l.s, .int .i64 l.tag] 26)).heap[w.heap.size]? = some (.cells #[.slice A l.bs.length c, .int .i64 l.s, .int .i64 l.tag] 26 (0, 0)) := heap_alloc_new w _
  rw [← hO] at HRD
  have HBS := Lib.hid hbs
  have HN := Lib.hid hn
  clear hA hF hO hbs
  unfold lkV at *
  go_enter Try.func3, Try.ntmps3
  go_wp2_with fail
  refine HRD.out.mono ?_
  rintro e w1 ⟨A1, c1, rfl, hs, hb⟩
  have hle : O.l.bs.length = l.bs.length := by rw [HBS.out]
  rw [HBS.out] at hs
  rw [hle]
  have hal := Kt.balloc (Kt.balloc (Below.refl _ w1) (.cells #[.slice A1 l.bs.length c1, .int .i64 O.l.s, .int .i64 O.l.tag] 26)) (.cells #[.int .i64 O.c, .int .i64 (O.d : Int), .int .i64 (O.u : Int)] 30)
  have r9 : ((w1.alloc (.cells #[.slice A1 l.bs.length c1, .int .i64 O.l.s, .int .i64 O.l.tag] 26)).alloc (.cells #[.int .i64 O.c, .int .i64 (O.d : Int), .int .i64 (O.u : Int)] 30)).heap[w1.heap.size]? = some (.cells #[.slice A1 l.bs.length c1, .int .i64 O.l.s, .int .i64 O.l.tag] 26 (0, 0)) := heap_alloc2_old w1 _ _
  have r11 : ((w1.alloc (.cells #[.slice A1 l.bs.length c1, .int .i64 O.l.s, .int .i64 O.l.tag] 26)).alloc (.cells #[.int .i64 O.c, .int .i64 (O.d : Int), .int .i64 (O.u : Int)] 30)).heap[w1.heap.size + 1]? = some (.cells #[.int .i64 O.c, .int .i64 (O.d : Int), .int .i64 (O.u : Int)] 30 (0, 0)) := heap_alloc2_new w1 _ _
  have hbb := Kt.bthen hb (Kt.balloc (Kt.balloc (Below.refl _ w1) (.cells #[.slice A1 l.bs.length c1, .int .i64 O.l.s, .int .i64 O.l.tag] 26)) (.cells #[.int .i64 O.c, .int .i64 (O.d : Int), .int .i64 (O.u : Int)] 30))
  replace r4 := Kt.row_on hbb r4
  replace HA0 := Lib.hid (HA0.out.on hbb)
  have HS2 := Lib.hid (DkS.on hs hal)
  have HB2 := Lib.hid (Kt.bthen HB0.out hbb)
  clear hs hb hal hbb HRD HB0 hle
  go_upto_region 2 with (fail)
  obtain ⟨n1, hn1⟩ : ∃ n, n = w1.heap.size := ⟨_, rfl⟩
  rw [← hn1] at r9 r11 ⊢
  clear hn1
  generalize (w1.alloc (.cells #[.slice A1 l.bs.length c1, .int .i64 O.l.s, .int .i64 O.l.tag] 26)).alloc (.cells #[.int .i64 O.c, .int .i64 (O.d : Int), .int .i64 (O.u : Int)] 30) = W2 at *
  go_wp2_with fail
  refine (stoLives_calls _).mono ?_
  rintro e w5 ⟨rfl, hb⟩
  replace HS2 := Lib.hid (DkS.on HS2.out hb)
  replace HA0 := Lib.hid (HA0.out.on hb)
  have HB5 := Lib.hid (Kt.bthen HB2.out hb)
  replace r4 := Kt.row_on hb r4
  replace r9 := Kt.row_on hb r9
  replace r11 := Kt.row_on hb r11
  clear hb HB2
  have q4 := fun i => cell_of_row _ _ i _ _ _ r4
  have q9 := fun i => cell_of_row _ _ i _ _ _ r9
  have HEQ := Lib.hid (eqs_true A1 A c1 c l.bs w5 HS2.out.toA HA0.out (by have := HN.out; omega))
  go_wp2_with fail
  refine HEQ.out.mono ?_
  rintro e w6 ⟨rfl, hb⟩
  have HA6 := Lib.hid (HA0.out.on hb)
  have HB6 := Lib.hid (Kt.bthen HB5.out hb)
  clear q4 q9 HEQ HS2 HA0 HB5 r9
  have q4 := fun i => cell_of_row _ _ i _ _ _ (Kt.row_on hb r4)
  have q11 := fun i => cell_of_row _ _ i _ _ _ (Kt.row_on hb r11)
  clear hb r4 r11
  by_cases hgood : 0 ≤ x ∧ 0 ≤ y ∧ x + y ≤ l.bs.length
  · obtain ⟨x0, y0, hxy⟩ := hgood
    obtain ⟨a, rfl⟩ : ∃ n : Nat, x = n := ⟨x.toNat, by omega⟩
    obtain ⟨n, rfl⟩ : ∃ n : Nat, y = n := ⟨y.toNat, by omega⟩
    obtain ⟨d1, d2, d3, d4⟩ := rd_fine (fs := f) (show a + n ≤ l.bs.length by omega)
    rw [← HO.out] at d1 d2 d3 d4
    obtain ⟨d, hd⟩ : ∃ d, d = O.d := ⟨_, rfl⟩
    obtain ⟨k, hk⟩ : ∃ k, k = O.c := ⟨_, rfl⟩
    rw [← hd] at d1 d2 d3 d4
    rw [← hk] at d3
    rw [← hd, ← hk] at q11
    rw [← hd, ← hk, d2]
    have HSB := Lib.hid (fun W (h : DkA W A c l.bs) => blk_sub h a d (by omega))
    have HJ : Hid (∀ V W, Kt.Ar W V 1 d (sts ((l.bs.drop a).take d)) → Calls Try.prog 13 #[V, .string ⟨#[]⟩] W fun e w' => e = .returned (.string (joinS ((l.bs.drop a).take d))) ∧ Below W.heap.size W w') := Lib.hid (fun V W h => by
      have hlen : ((l.bs.drop a).take d).length = d := by simp; omega
      rcases d4 with z | z
      · have e0 : (l.bs.drop a).take d = [] := by rw [z]; rfl
        rw [e0]
        have h0 : Kt.Ar W V 1 ([] : List ByteArray).length (sts []) := by rw [e0, z] at h; exact h
        exact joins_calls V [] W h0 (by decide) (fun x hx => by cases hx)
      · exact joins_calls V _ W (by rw [hlen]; exact h) (by rw [hlen]; have := z.d.n2; omega) (fun x hx => z.d.sz x (List.mem_of_mem_drop (List.mem_of_mem_take hx))))
    obtain ⟨T, hT⟩ : ∃ T, T = joinS ((l.bs.drop a).take d) := ⟨_, rfl⟩
    rw [← hT] at HJ ⊢
    have g1 : ¬ (l.bs.length : Int) < (a : Int) := by omega
    have g2 : ¬ (l.bs.length : Int) - (a : Int) < (n : Int) := by omega
    have g3 : (d : Int) ≤ (n : Int) := by omega
    have g4 : (a : Int) ≤ (a : Int) + (d : Int) := by omega
    have g5 : (a : Int) + (d : Int) ≤ (l.bs.length : Int) := by omega
    have g6 : a + d ≤ c := by
      obtain ⟨A', c', e, hnc, _⟩ := HA6.out.form
      injection e with e1 e2 e3
      subst e3
      omega
    have g7 : (a : Int) + (d : Int) ≤ (c : Int) := by omega
    clear hd hk hT d2 d4 hx HO HBS
    by_cases hk0 : k = 0
    · have e1 := d3 hk0
      subst hk0 e1
      go_wp2_with fail
      · refine (HJ.out _ _ (by have q := HSB.out _ HA6.out; simpa [h] using q)).mono ?_
        rintro e w7 ⟨rfl, hb⟩
        have HB7 := Lib.hid (Kt.bthen HB6.out hb)
        clear hb q4 q11
        go_wp2_with fail
        go_ret
        exact ⟨rfl, HB7.out⟩
      · refine (HJ.out _ _ (by have q := HSB.out _ HA6.out; rwa [if_neg h] at q)).mono ?_
        rintro e w7 ⟨rfl, hb⟩
        have HB7 := Lib.hid (Kt.bthen HB6.out hb)
        clear hb q4 q11
        go_wp2_with fail
        go_ret
        exact ⟨rfl, HB7.out⟩
    · clear d3
      go_wp2_with fail
      · refine (HJ.out _ _ (by have q := HSB.out _ HA6.out; simpa [h] using q)).mono ?_
        rintro e w7 ⟨rfl, hb⟩
        have HB7 := Lib.hid (Kt.bthen HB6.out hb)
        clear hb q4 q11
        go_wp2_with fail
        go_ret
        exact ⟨rfl, HB7.out⟩
      · refine (HJ.out _ _ (by have q := HSB.out _ HA6.out; rwa [if_neg h] at q)).mono ?_
        rintro e w7 ⟨rfl, hb⟩
        have HB7 := Lib.hid (Kt.bthen HB6.out hb)
        clear hb q4 q11
        go_wp2_with fail
        go_ret
        exact ⟨rfl, HB7.out⟩
  · obtain ⟨e1, e2, e3⟩ := rd_bad (fs := f) hgood
    rw [← HO.out] at e1 e2 e3
    obtain ⟨k, hk⟩ : ∃ k, k = O.c := ⟨_, rfl⟩
    rw [← hk] at e2 q11
    rw [e3] at q11
    have e1' : O.t = ⟨#[]⟩ := e1
    rw [e1']
    clear hk e1 e1' e3 HO HBS
    by_cases x0 : x < 0
    · clear hgood
      go_wp2_with fail
      go_ret
      exact ⟨by simp [e2], HB6.out⟩
    · by_cases y0 : y < 0
      · clear hgood
        go_wp2_with fail
        go_ret
        exact ⟨by simp [e2], HB6.out⟩
      · by_cases x1 : (l.bs.length : Int) < x
        · clear hgood
          go_wp2_with fail
          go_ret
          exact ⟨by simp [e2], HB6.out⟩
        · have x2 : (l.bs.length : Int) - x < y := by omega
          clear hgood
          go_wp2_with fail
          go_ret
          exact ⟨by simp [e2], HB6.out⟩
theorem sread_walk (v0 v1 v2 v3 : Value) (w : World) (r0 : Fr.RdV w reachBytes lkTy v0) (r1 : Fr.RdV w reachBytes (.int .i64) v1) (r2 : Fr.RdV w reachBytes (.int .i64) v2) (r3 : Fr.RdV w reachBytes (.slice 1 (.int .i64)) v3)
    (n0 : ∀ (cs : Array Value) a l c, v0 = .agg cs → (((cs.toList.drop 0).take 2).drop 0).take 1 = [.slice a l c] → l * Try.prog.bytesOf 9 ≤ reachBytes) :
    Calls Try.prog 3 #[v0, v1, v2, v3] w fun e w' => e = .returned (.bool true) ∧ Below w.heap.size w w' := by
  obtain ⟨A, c, l, rfl, hA⟩ := lk_of r0
  have hn := lk_len n0
  obtain ⟨x, h, hx⟩ := r1
  simp only [List.cons.injEq, and_true] at h
  subst h
  obtain ⟨y, h, _⟩ := r2
  simp only [List.cons.injEq, and_true] at h
  subst h
  obtain ⟨f, _, _, hF⟩ := Kt.ar_ints r3
  obtain ⟨FA, fc, rfl, _, _⟩ := hF.form
  exact sread_calls l A c x y f FA fc w hA hn hF hx
end Go.Proofs.Ytafiedhjjnapoaa
namespace Go.Proofs.Ytafiedhjjnapoaa.storeReadP
open Go.ChangeShapes Go.WideShapes Go.ChangeAt Go.RowKit

theorem own : ownKnob Try.prog.godebug = none := by kernel_rfl
theorem laidOut : laidOutB Try.prog = true := by kernel_rfl
theorem fit3 : Fr.fits Try.prog 12 3 (.int .i64) = true := by kernel_rfl
theorem fit26 : Fr.fits Try.prog 12 26 (.cat 2 (.cat 1 (.slice 1 .string) (.cat 1 (.int .i64) .nil)) (.cat 1 (.int .i64) .nil)) = true := by kernel_rfl
theorem fit27 : Fr.fits Try.prog 12 27 (.slice 1 (.int .i64)) = true := by kernel_rfl
set_option maxRecDepth 100000 in
theorem lifted (os : Os) (started : os.Started) (H : Type) (enc : TypeId × Value → H) :
    ReturnsInHanded {} Try.checked os 3 .any (Rows.storeReadSpec.pre6 enc Try.prog Try.f3 Rows.storeReadRow.domain false) (Rows.storeReadSpec.post enc Try.prog Try.f3 false true false false) := by
  refine returnsInHanded_of_change_sized (C := Try.checked) own started (by kernel_rfl) Try.func3
    (ChangeSpec.witness6 (enc := enc) (C := Try.checked) false ⟨#[], #[.agg #[.slice none 0 0, .int .i64 0, .int .i64 0], .int .i64 0, .int .i64 0, .slice none 0 0], []⟩ 12 (by kernel_rfl) (by kernel_rfl) (by kernel_rfl) (by kernel_rfl)) ?_
  intro W base args ds gs before hval0 hW hcnd hsz0 _
  have hval : ∀ (j : Nat) t v, Try.f3.params[j]? = some t → args[j]? = some v → Value.okWide Try.prog W .any base t v := hval0
  have hW' := hW
  obtain ⟨p, q, hA0, hV, rfl, hfz, hnd⟩ := hW
  have hA : DataW.TrodAll enc Try.prog W 0 (fun _ => true) true Try.f3.params.toList args.toList ds p := hA0
  have hsz : (DataW.weightsEach Try.prog (Try.f3.params.toList ++ Rows.storeReadSpec.plain.varTypes Try.prog) (ds ++ gs)).all (· ≤ reachBytes) = true := hsz0
  rw [Try.params3] at hA hval hsz
  obtain ⟨v0, vs0, d0, ds0, p0, q0, hargs, rfl, rfl, h0, r0⟩ := trodAll_cons hA
  obtain ⟨v1, vs1, d1, ds1, p1, q1, rfl, rfl, rfl, h1, r1⟩ := trodAll_cons r0
  obtain ⟨v2, vs2, d2, ds2, p2, q2, rfl, rfl, rfl, h2, r2⟩ := trodAll_cons r1
  obtain ⟨v3, vs3, d3, ds3, p3, q3, rfl, rfl, rfl, h3, r3⟩ := trodAll_cons r2
  obtain ⟨rfl, rfl, rfl⟩ := trodAll_nil r3
  obtain rfl : args = #[v0, v1, v2, v3] := by cases args; simp_all
  obtain ⟨rfl, rfl⟩ := trodVars_none hV
  have k0 := Fr.rdv_of (Fr.said_bound reachBytes) fit26 (hval 0 26 v0 rfl rfl) h0 (fun x hx => of_decide_eq_true (List.all_eq_true.1 hsz _ (DataW.weights_mem_each (j := 0) rfl rfl x hx)))
  have k1 := Fr.rdv_of (Fr.said_bound reachBytes) fit3 (hval 1 3 v1 rfl rfl) h1 (fun x hx => of_decide_eq_true (List.all_eq_true.1 hsz _ (DataW.weights_mem_each (j := 1) rfl rfl x hx)))
  have k2 := Fr.rdv_of (Fr.said_bound reachBytes) fit3 (hval 2 3 v2 rfl rfl) h2 (fun x hx => of_decide_eq_true (List.all_eq_true.1 hsz _ (DataW.weights_mem_each (j := 2) rfl rfl x hx)))
  have k3 := Fr.rdv_of (Fr.said_bound reachBytes) fit27 (hval 3 27 v3 rfl rfl) h3 (fun x hx => of_decide_eq_true (List.all_eq_true.1 hsz _ (DataW.weights_mem_each (j := 3) rfl rfl x hx)))
  have f0_0 : ∀ (cs : Array Value) a l c, v0 = .agg cs → (((cs.toList.drop 0).take 2).drop 0).take 1 = [.slice a l c] → l * Try.prog.bytesOf 9 ≤ reachBytes := fun cs a l c e hc => by
    subst e
    exact Fr.fldb_len (i0 := 0) (i := 0) Try.underlying26 rfl Try.underlying24 rfl Try.underlying22 hc h0 (fun x hx => of_decide_eq_true (List.all_eq_true.1 hsz _ (DataW.weights_mem_each (j := 0) rfl rfl x hx)))
  clear hA0 hval0
  refine (sread_walk v0 v1 v2 v3 W k0 k1 k2 k3 f0_0).mono fun e W' ⟨he, bel⟩ => ?_
  subst he
  exact ⟨_, rfl, _, _, _, [], _, [], hW', trodAll_mk1 (shut_bool Try.underlying4 _), (trodAll_cons_mk (Below.trod laidOut (by kernel_rfl) (of_decide_eq_true (by kernel_rfl)) h0 bel (Fr.trod_lt h0)) (trodAll_cons_mk (Below.trod laidOut (by kernel_rfl) (of_decide_eq_true (by kernel_rfl)) h1 bel (Fr.trod_lt h1)) (trodAll_cons_mk (Below.trod laidOut (by kernel_rfl) (of_decide_eq_true (by kernel_rfl)) h2 bel (Fr.trod_lt h2)) (trodAll_cons_mk (Below.trod laidOut (by kernel_rfl) (of_decide_eq_true (by kernel_rfl)) h3 bel (Fr.trod_lt h3)) trodAll_mk0)))), rfl, bel.frame _, fun h => by cases h⟩

theorem proved : Rows.StoreReadSaid :=
  OpenClaim.holds_of_wide 3 Try.f3 rfl rfl rfl rfl rfl rfl rfl ⟨rfl, rfl, rfl, rfl, rfl⟩ rfl rfl rfl rfl rfl (by kernel_rfl) Try.func3 (by kernel_rfl)
    (of_decide_eq_true (by kernel_rfl)) (by unfold Func.isWrapper; first | (rw [if_pos (by decide +kernel)]; kernel_rfl) | (rw [if_neg (by decide +kernel)]; exact ⟨rfl, rfl⟩))
    (fun os started H enc _ => lifted os started H enc)
end Go.Proofs.Ytafiedhjjnapoaa.storeReadP
