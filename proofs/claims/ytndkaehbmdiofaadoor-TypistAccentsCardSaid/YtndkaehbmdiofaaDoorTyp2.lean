/- The law TypistAccents, walked. -/
import Derived.Test.YtndkaehbmdiofaaDoorTyp1
import Derived.Test.YtndkaehbmdiofaaDoorTypJ
import Derived.Test.YtndkaehbmdiofaaDoorTypX
import Derived.Test.YtndkaehbmdiofaaDoorTri
namespace Go.Proofs.YtndkaehbmdiofaaDoor
open Go.RowKit Go.Proofs.YtndkaehbmdiofaaDoor.Typ
theorem press1_calls (c : Int) (A : Option Addr) (cap : Nat) (w0 : World) (hv : Kt.Ar w0 (.slice A 1 cap) 1 1 [.int .i64 c]) :
    Calls Tryd.prog 11 #[.slice A 1 cap] w0 fun e w' => ∃ A' c', e = .returned (.slice A' 2 c') ∧ Kt.Sl w' w0.heap.size 31 4 (.slice A' 2 c') 2 (sks [⟨1, c, true, 0⟩, ⟨1, c, false, 0⟩]) ∧ Below w0.heap.size w0 w' := press_calls [c] A cap w0 hv (by simp)
set_option maxRecDepth 100000 in
set_option maxHeartbeats 6400000 in
theorem accents_calls (c : Int) (two : Bool) (w0 : World) (hT : ∀ W, Below w0.heap.size w0 W → Lib.Utf8Tabs 0 1 W) :
    Calls Tryd.prog 7 #[.int .i64 c, .bool two] w0 fun e w' => e = .returned (.bool true) ∧ Below w0.heap.size w0 w' := by
  have HT := Lib.hid hT
  have HLV := Lib.hid (fun W hW => tlives_calls W (fun X hX => HT.out X (Kt.bthen hW hX)))
  obtain ⟨S1, hS1⟩ : ∃ x, charP c false = x := ⟨_, rfl⟩
  obtain ⟨S2, hS2⟩ : ∃ x, charP c true = x := ⟨_, rfl⟩
  obtain ⟨ok, hok⟩ : ∃ x, signs c = x := ⟨_, rfl⟩
  have HSG := Lib.hid (fun W => signs_calls c W)
  rw [hS1, hS2, hok] at HSG
  have HS := Lib.hid (And.intro hS1 hok)
  clear hT hS1 hS2 hok
  go_enter Tryd.func7, Tryd.ntmps7
  go_wp2_with fail
  refine (HSG.out _).mono ?_; rintro e w1 ⟨rfl, hb⟩
  have HB1 := Lib.hid hb
  clear hb HSG
  go_wp2_with fail
  refine (HLV.out _ HB1.out).mono ?_; rintro e w2 ⟨rfl, hb⟩
  have HB2 := Lib.hid (Kt.bthen HB1.out hb)
  clear hb HB1
  cases ok
  · go_wp2_with fail
    refine (HLV.out _ HB2.out).mono ?_; rintro e w3 ⟨rfl, hb⟩
    have HB3 := Lib.hid (Kt.bthen HB2.out hb)
    clear hb
    go_wp2_with fail
    go_ret
    exact ⟨rfl, HB3.out⟩
  · obtain ⟨T, U, V, hT1, hU1, hV1, t1, t2, t3, t4, t5, t6⟩ := acc_plain HS.out.2 two
    obtain ⟨b0, hb0⟩ := charP_one HS.out.2 false
    rw [HS.out.1] at t1 t3 t4 t5 t6 hb0
    subst hb0
    have HRES := Lib.hid (And.intro hT1 (And.intro hU1 hV1))
    have HTX := Lib.hid (And.intro t1 (And.intro t2 (And.intro t3 (And.intro t4 (And.intro t5 t6)))))
    have HAC := Lib.hid (fun d hd W => acc_one d hd b0 W)
    obtain ⟨S1, hS1⟩ : ∃ S, one b0 = S := ⟨_, rfl⟩
    rw [hS1] at HTX HAC
    rw [hS1]
    clear hT1 hU1 hV1 t1 t2 t3 t4 t5 t6 HS hS1
    have HAR := Lib.hid (Kt.Ar.new w2 #[.int .i64 47] 3 1 1 rfl)
    have HB3 := Lib.hid (Kt.bthen HB2.out (Kt.balloc (Below.refl _ w2) (.cells #[.int .i64 47] 3)))
    go_wp2_with fail
    refine (press1_calls _ _ _ _ HAR.out).mono ?_; rintro e w4 ⟨A4, c4, rfl, hs4, hb⟩
    have HS4 := Lib.hid (hs4.mono (Nat.le_trans HB2.out.size (Kt.balloc (Below.refl _ w2) (.cells #[.int .i64 47] 3)).size))
    have HB4 := Lib.hid (Kt.bthen HB3.out hb)
    clear hs4 hb HB3 HAR HB2
    go_wp2_with fail
    refine (HAC.out 1 (.inl rfl) _).mono ?_; rintro e w5 ⟨rfl, hb⟩
    have HS5 := Lib.hid (HS4.out.on hb)
    have HB5 := Lib.hid (Kt.bthen HB4.out hb)
    clear hb HB4 HS4
    go_upto_if 34 with (fail)
    go_cut [8, 9] from 35 to 47 (fun dv wv wx => ∃ A c, dv = .slice A (deadL two).length c ∧ wv = .string (wantP (accN two) S1) ∧ Kt.Sl wx w0.heap.size 31 4 (.slice A (deadL two).length c) (deadL two).length (sks (deadL two)) ∧ Below w0.heap.size w0 wx)
    case first =>
      cases two
      · go_wp2_with fail
        go_meet
        case rel =>
          exact ⟨A4, c4, rfl, rfl, HS5.out, HB5.out⟩
      · obtain ⟨g, o, cap, hv, hg1, hg2, _, _, hcell, _⟩ := HS5.out.cells (by decide)
        cases hv
        have y0 : w5.cell? ⟨g, o, none⟩ = some (.int .i64 1) := hcell 0 (by decide)
        have y1 : w5.cell? ⟨g, o + 1, none⟩ = some (.int .i64 47) := hcell 1 (by decide)
        have y2 : w5.cell? ⟨g, o + 2, none⟩ = some (.bool true) := hcell 2 (by decide)
        have y3 : w5.cell? ⟨g, o + 3, none⟩ = some (.int .i64 0) := hcell 3 (by decide)
        have y4 : w5.cell? ⟨g, o + 4, none⟩ = some (.int .i64 1) := hcell 4 (by decide)
        have y5 : w5.cell? ⟨g, o + 5, none⟩ = some (.int .i64 47) := hcell 5 (by decide)
        have y6 : w5.cell? ⟨g, o + 6, none⟩ = some (.bool false) := hcell 6 (by decide)
        have y7 : w5.cell? ⟨g, o + 7, none⟩ = some (.int .i64 0) := hcell 7 (by decide)
        have HG := Lib.hid hg2
        clear hcell hg1 hg2
        go_upto_region 7 with (fail)
        -- REGION7
        have HF := ((((((((Kt.Fc.nil w5 (Below.refl _ _)).add HG.out y7).add HG.out y6).add HG.out y5).add HG.out y4).add HG.out y3).add HG.out y2).add HG.out y1).add HG.out y0
        refine Kt.G.start 10 (Kt.Fc w5 [(g, o, .int .i64 1), (g, o + 1, .int .i64 47), (g, o + 2, .bool true), (g, o + 3, .int .i64 0), (g, o + 4, .int .i64 1), (g, o + 5, .int .i64 47), (g, o + 6, .bool false), (g, o + 7, .int .i64 0)]) (by kernel_rfl) HF.drew (fun hHeld => ?_)
        clear HF y0 y1 y2 y3 y4 y5 y6 y7
        generalize w5.drew = x0 at *
        refine Kt.G.takeP 0 { dst := some 35, op := Op.build 29 #[(0, Operand.const (Value.int IntKind.i64 225)), (1, Operand.const (Value.bool true))], type := 29, pos := "typist.go:110", after := #[], guard := none } ?_ (fun _ => hHeld) rfl (by kernel_rfl) (fun _ _ _ h => h) (by rfl) ?_ ?_
        rotate_left
        · intro w; go_simp; try with_reducible rfl
        try simp only [Act.put, List.setIfInBounds_toArray, List.set_cons_zero, List.set_cons_succ]
        refine Kt.G.takeP 1 { dst := some 36, op := Op.build 31 #[(0, Operand.const (Value.int IntKind.i64 1)), (1, Operand.tmp 35)], type := 31, pos := "typist.go:110", after := #[{ on := 0, ground := Ground.data }], guard := none } ?_ (fun _ => hHeld) rfl (by kernel_rfl) (fun _ _ _ h => h) (by rfl) ?_ ?_
        rotate_left
        · intro w; go_simp; try with_reducible rfl
        try simp only [Act.put, List.setIfInBounds_toArray, List.set_cons_zero, List.set_cons_succ]
        refine Kt.G.takeP 2 { dst := some 37, op := Op.move (Operand.tmp 8), type := 26, pos := "typist.go:110", after := #[], guard := none } ?_ (fun _ => hHeld) rfl (by kernel_rfl) (fun _ _ _ h => h) (by rfl) ?_ ?_
        rotate_left
        · intro w; go_simp; try with_reducible rfl
        try simp only [Act.put, List.setIfInBounds_toArray, List.set_cons_zero, List.set_cons_succ]
        refine Kt.G.takeP 3 { dst := some 38, op := Op.indexAddr 26 (Operand.tmp 37) (Operand.const (Value.int IntKind.i64 0)), type := 0, pos := "typist.go:110", after := #[{ on := 2, ground := Ground.data }], guard := none } ?_ (fun _ => hHeld) rfl (by kernel_rfl) (fun _ _ _ h => h) (by rfl) ?_ ?_
        rotate_left
        · intro w; go_simp; try with_reducible rfl
        try simp only [Act.put, List.setIfInBounds_toArray, List.set_cons_zero, List.set_cons_succ]
        refine Kt.G.take 4 { dst := some 39, op := Op.load 31 (Operand.tmp 38), type := 31, pos := "typist.go:110", after := #[{ on := 3, ground := Ground.data }], guard := none } ?_ hHeld rfl (by kernel_rfl) (fun _ _ _ h => h) (by rfl) ?_ ?_
        rotate_left
        · intro w hSw; have c0 := (hSw.cell _ (List.Mem.head _)).2; have c1 := (hSw.cell _ (List.Mem.tail _ (List.Mem.head _))).2; have c2 := (hSw.cell _ (List.Mem.tail _ (List.Mem.tail _ (List.Mem.head _)))).2; have c3 := (hSw.cell _ (List.Mem.tail _ (List.Mem.tail _ (List.Mem.tail _ (List.Mem.head _))))).2; have c4 := (hSw.cell _ (List.Mem.tail _ (List.Mem.tail _ (List.Mem.tail _ (List.Mem.tail _ (List.Mem.head _)))))).2; have c5 := (hSw.cell _ (List.Mem.tail _ (List.Mem.tail _ (List.Mem.tail _ (List.Mem.tail _ (List.Mem.tail _ (List.Mem.head _))))))).2; have c6 := (hSw.cell _ (List.Mem.tail _ (List.Mem.tail _ (List.Mem.tail _ (List.Mem.tail _ (List.Mem.tail _ (List.Mem.tail _ (List.Mem.head _)))))))).2; have c7 := (hSw.cell _ (List.Mem.tail _ (List.Mem.tail _ (List.Mem.tail _ (List.Mem.tail _ (List.Mem.tail _ (List.Mem.tail _ (List.Mem.tail _ (List.Mem.head _))))))))).2; dsimp only at *; go_simp; try with_reducible rfl
        try simp only [Act.put, List.setIfInBounds_toArray, List.set_cons_zero, List.set_cons_succ]
        refine Kt.G.takeP 5 { dst := some 40, op := Op.move (Operand.tmp 8), type := 26, pos := "typist.go:110", after := #[], guard := none } ?_ (fun _ => hHeld) rfl (by kernel_rfl) (fun _ _ _ h => h) (by rfl) ?_ ?_
        rotate_left
        · intro w; go_simp; try with_reducible rfl
        try simp only [Act.put, List.setIfInBounds_toArray, List.set_cons_zero, List.set_cons_succ]
        refine Kt.G.takeP 6 { dst := some 41, op := Op.indexAddr 26 (Operand.tmp 40) (Operand.const (Value.int IntKind.i64 1)), type := 0, pos := "typist.go:110", after := #[{ on := 5, ground := Ground.data }], guard := none } ?_ (fun _ => hHeld) rfl (by kernel_rfl) (fun _ _ _ h => h) (by rfl) ?_ ?_
        rotate_left
        · intro w; go_simp; try with_reducible rfl
        try simp only [Act.put, List.setIfInBounds_toArray, List.set_cons_zero, List.set_cons_succ]
        refine Kt.G.take 7 { dst := some 42, op := Op.load 31 (Operand.tmp 41), type := 31, pos := "typist.go:110", after := #[{ on := 6, ground := Ground.data }], guard := none } ?_ hHeld rfl (by kernel_rfl) (fun _ _ _ h => h) (by rfl) ?_ ?_
        rotate_left
        · intro w hSw; have c0 := (hSw.cell _ (List.Mem.head _)).2; have c1 := (hSw.cell _ (List.Mem.tail _ (List.Mem.head _))).2; have c2 := (hSw.cell _ (List.Mem.tail _ (List.Mem.tail _ (List.Mem.head _)))).2; have c3 := (hSw.cell _ (List.Mem.tail _ (List.Mem.tail _ (List.Mem.tail _ (List.Mem.head _))))).2; have c4 := (hSw.cell _ (List.Mem.tail _ (List.Mem.tail _ (List.Mem.tail _ (List.Mem.tail _ (List.Mem.head _)))))).2; have c5 := (hSw.cell _ (List.Mem.tail _ (List.Mem.tail _ (List.Mem.tail _ (List.Mem.tail _ (List.Mem.tail _ (List.Mem.head _))))))).2; have c6 := (hSw.cell _ (List.Mem.tail _ (List.Mem.tail _ (List.Mem.tail _ (List.Mem.tail _ (List.Mem.tail _ (List.Mem.tail _ (List.Mem.head _)))))))).2; have c7 := (hSw.cell _ (List.Mem.tail _ (List.Mem.tail _ (List.Mem.tail _ (List.Mem.tail _ (List.Mem.tail _ (List.Mem.tail _ (List.Mem.tail _ (List.Mem.head _))))))))).2; dsimp only at *; go_simp; try with_reducible rfl
        try simp only [Act.put, List.setIfInBounds_toArray, List.set_cons_zero, List.set_cons_succ]
        refine Kt.G.takeP 8 { dst := some 43, op := Op.build 29 #[(0, Operand.const (Value.int IntKind.i64 225))], type := 29, pos := "typist.go:110", after := #[], guard := none } ?_ (fun _ => hHeld) rfl (by kernel_rfl) (fun _ _ _ h => h) (by rfl) ?_ ?_
        rotate_left
        · intro w; go_simp; try with_reducible rfl
        try simp only [Act.put, List.setIfInBounds_toArray, List.set_cons_zero, List.set_cons_succ]
        refine Kt.G.takeP 9 { dst := some 44, op := Op.build 31 #[(0, Operand.const (Value.int IntKind.i64 1)), (1, Operand.tmp 43)], type := 31, pos := "typist.go:110", after := #[{ on := 8, ground := Ground.data }], guard := none } ?_ (fun _ => hHeld) rfl (by kernel_rfl) (fun _ _ _ h => h) (by rfl) ?_ ?_
        rotate_left
        · intro w; go_simp; try with_reducible rfl
        try simp only [Act.put, List.setIfInBounds_toArray, List.set_cons_zero, List.set_cons_succ]
        refine Kt.G.one 10 { dst := some 45, op := Op.buildSlice 26 4 #[(0, Operand.tmp 36), (1, Operand.tmp 39), (2, Operand.tmp 42), (3, Operand.tmp 44)], type := 26, pos := "typist.go:110", after := #[{ on := 1, ground := Ground.data }, { on := 4, ground := Ground.data }, { on := 7, ground := Ground.data }, { on := 9, ground := Ground.data }], guard := none } rfl (by kernel_rfl) (by rfl) (fun K hK => ?_)
        go_simp
        refine hK.out _ _ (Kt.G.late (by kernel_rfl)) (fun _ => ?_)
        clear hK K
        try simp only [Act.put, List.setIfInBounds_toArray, List.set_cons_zero, List.set_cons_succ]
        refine Kt.G.takeP 11 { dst := some 8, op := Op.assign (Operand.tmp 45), type := 26, pos := "typist.go:110", after := #[{ on := 10, ground := Ground.data }, { on := 0, ground := Ground.phase }, { on := 1, ground := Ground.phase }, { on := 2, ground := Ground.phase }, { on := 3, ground := Ground.phase }, { on := 4, ground := Ground.phase }, { on := 5, ground := Ground.phase }, { on := 6, ground := Ground.phase }, { on := 7, ground := Ground.phase }, { on := 8, ground := Ground.phase }, { on := 9, ground := Ground.phase }, { on := 10, ground := Ground.phase }], guard := none } ?_ (Kt.G.late (by kernel_rfl)) rfl (by kernel_rfl) (fun _ _ _ h => h) (by rfl) ?_ ?_
        rotate_left
        · intro w; go_simp; try with_reducible rfl
        try simp only [Act.put, List.setIfInBounds_toArray, List.set_cons_zero, List.set_cons_succ]
        refine Kt.G.done (by kernel_rfl) (NoPanic.normal ?_) _
        go_wp2_with fail
        refine (HAC.out 2 (.inr rfl) _).mono ?_; rintro e w6 ⟨rfl, hb⟩
        have HSF := Lib.hid ((Kt.Sl.fresh x0 #[.int .i64 1, .int .i64 225, .bool true, .int .i64 0, .int .i64 1, .int .i64 47, .bool true, .int .i64 0, .int .i64 1, .int .i64 47, .bool false, .int .i64 0, .int .i64 1, .int .i64 225, .bool false, .int .i64 0] 31 4 4 rfl (by decide)).on hb)
        have HBF := Lib.hid (Kt.bthen (Kt.bthen HB5.out hHeld.bel) (Kt.bthen (Kt.balloc (Below.refl _ x0) (.cells #[.int .i64 1, .int .i64 225, .bool true, .int .i64 0, .int .i64 1, .int .i64 47, .bool true, .int .i64 0, .int .i64 1, .int .i64 47, .bool false, .int .i64 0, .int .i64 1, .int .i64 225, .bool false, .int .i64 0] 31)) hb))
        have HZF := Lib.hid (Nat.le_trans HB5.out.size hHeld.bel.size)
        clear hb
        go_wp2_with fail
        go_meet
        case rel =>
          exact ⟨_, _, rfl, rfl, HSF.out.mono HZF.out, HBF.out⟩
        -- END7
    case rest =>
      obtain ⟨A8, c8, rfl, rfl, hs8, hb8⟩ := hcut
      have HB8 := Lib.hid hb8
      obtain ⟨DL, hDL⟩ : ∃ l, deadL two = l := ⟨_, rfl⟩
      have HDL : Hid (DL.length ≤ 4) := Lib.hid (by rw [← hDL]; cases two <;> decide)
      rw [hDL] at hs8 HRES ⊢
      obtain ⟨WN, hWN⟩ : ∃ x, wantP (accN two) S1 = x := ⟨_, rfl⟩
      rw [hWN] at HTX ⊢
      have HS8 := Lib.hid hs8
      clear hs8 hb8 hDL hWN HS5 HB5 HAC
      have HTY : Hid (∀ (t : St) (X : World), Below w0.heap.size w0 X → ∀ (l : List Sk) (R : St), typeP t l = (R, 0) → ∀ W, Below X.heap.size X W → ∀ A cap K, Kt.Sl W K 31 4 (.slice A l.length cap) l.length (sks l) → Calls Tryd.prog 12 #[t.v, .slice A l.length cap] W fun e w' => e = .returned (.tuple #[R.v, .int .i64 0]) ∧ Below W.heap.size W w') := Lib.hid (by
        intro t X hX l R hR W hW A cap K hs
        have h := type_calls t l A cap W (Kt.Ar.of_sl hs) (fun Y hY => HT.out Y (Kt.bthen hX (Kt.bthen hW hY)))
        rw [hR] at h
        exact h)
      have HTZ : Hid (∀ (t R : St) (c : Int), typeP t (DL ++ pressL [c]) = (R, 0) → ∀ X, Below w0.heap.size w0 X → ∀ W, Below X.heap.size X W → ∀ A cap K, Kt.Sl W K 31 4 (.slice A (DL.length + 2) cap) (DL.length + 2) (sks DL ++ sks [⟨1, c, true, 0⟩, ⟨1, c, false, 0⟩]) → Calls Tryd.prog 12 #[t.v, .slice A (DL.length + 2) cap] W fun e w' => e = .returned (.tuple #[R.v, .int .i64 0]) ∧ Below W.heap.size W w') := Lib.hid (by
        intro t R c hR X hX W hW A cap K hs
        have hl : (DL ++ pressL [c]).length = DL.length + 2 := by rw [List.length_append, pressL_len]; rfl
        have hk : sks (DL ++ pressL [c]) = sks DL ++ sks [⟨1, c, true, 0⟩, ⟨1, c, false, 0⟩] := by rw [sks_app]; rfl
        have h := HTY.out t X hX (DL ++ pressL [c]) R hR W hW A cap K (by rw [hl, hk]; exact hs)
        rw [hl] at h
        exact h)
      go_wp2_with fail
      refine (sclone_calls _ _ _ _ (Kt.Ar.of_sl HS8.out) (sks_one DL) (by have := HDL.out; omega)).mono ?_; rintro e w6 ⟨A6, c6, rfl, hs6, hb6⟩
      have HS6 := Lib.hid hs6
      have HB6 := Lib.hid hb6
      clear hs6 hb6
      have HAR := Lib.hid (Kt.Ar.new w6 #[.int .i64 c] 3 1 1 rfl)
      have hal := Kt.balloc (Below.refl _ w6) (.cells #[.int .i64 c] 3)
      have HS6' := Lib.hid (HS6.out.on hal)
      have HB6' := Lib.hid (Kt.bthen HB6.out hal)
      clear hal HS6 HB6
      go_wp2_with fail
      refine (press1_calls _ _ _ _ HAR.out).mono ?_; rintro e w7 ⟨A7, c7, rfl, hs7, hb7⟩
      have HS7 := Lib.hid hs7
      have HS6 := Lib.hid (HS6'.out.on hb7)
      have HB7 := Lib.hid (Kt.bthen HB6'.out hb7)
      clear hs7 hb7 HAR HS6' HB6'
      go_wp2_with (
        refine Kt.append_ar (by rfl) (.tmp 51) (.tmp 54) 26 rfl wc.heap.size 31 (.agg #[.int .i64 0, .int .i64 0, .bool false, .int .i64 0]) 4 32 infoK Tryd.underlying26 rfl (by decide) _ _ _ rfl HS6.out _ _ _ rfl (Kt.Ar.of_sl HS7.out) (sks_one _) (by have := HDL.out; unfold maxLen; omega) (by have := HDL.out; omega) HB7.out.size ?_
        intro A9 c9 w9 hs9 hb9 hz9 hk9 hl9)
      have HB9 := Lib.hid (HB7.out.trans hb9)
      clear hb9 hz9 hk9 hl9
      refine (HTZ.out St.zero T c HRES.out.1 wc HB8.out w9 HB9.out _ _ _ hs9).mono ?_; rintro e w10 ⟨rfl, hb10⟩
      have HBX := Lib.hid (Kt.bthen HB9.out hb10)
      clear hs9 hb10 HS6 HS7 HB7 HB9
      have HRT := Lib.hid (heap_alloc_new w10 (.cells T.cs 37))
      have HBA := Lib.hid (Kt.balloc (Below.refl _ w10) (.cells T.cs 37))
      unfold St.v St.cs
      unfold St.cs at HRT HBA
      go_upto_region 10 with (fail)
      refine Kt.fold (fun X => Hid (X.heap[w10.heap.size]? = some (.cells T.cs 37 (0, 0)) ∧ Kt.Sl X w0.heap.size 31 4 (.slice A8 DL.length c8) DL.length (sks DL) ∧ Below w0.heap.size w0 X)) (Lib.hid ⟨HRT.out, HS8.out.on (Kt.bthen HBX.out HBA.out), Kt.bthen HB8.out (Kt.bthen HBX.out HBA.out)⟩) (fun w11 HW10 => ?_)
      obtain ⟨kT, hkT⟩ : ∃ k, w10.heap.size = k := ⟨_, rfl⟩
      rw [hkT] at HW10 ⊢
      clear hkT HRT HBA HBX HS8 HB8
      obtain ⟨w10, hw10⟩ : ∃ W, w11 = W := ⟨_, rfl⟩
      rw [hw10] at HW10 ⊢
      clear hw10 w11
      have HT10 : Hid (∀ W, Below w10.heap.size w10 W → ∀ A cap K, Kt.Sl W K 31 4 (.slice A 2 cap) 2 (sks [⟨1, 42, true, 0⟩, ⟨1, 42, false, 0⟩]) → Calls Tryd.prog 12 #[T.v, .slice A 2 cap] W fun e w' => e = .returned (.tuple #[U.v, .int .i64 0]) ∧ Below W.heap.size W w') := Lib.hid (HTY.out T w10 HW10.out.2.2 (pressL [42]) U HRES.out.2.1)
      unfold St.v at HT10
      unfold St.cs at HT10
      go_cut [12, 13] from 59 to 65 (fun p e wx => ∃ kZ, p = .pointer (some ⟨kZ, 0, none⟩) ∧ e = .int .i64 0 ∧ wx.heap[kZ]? = some (.cells U.cs 37 (0, 0)) ∧ Below w10.heap.size w10 wx)
      case first =>
        -- REGION10
        have HF := (Kt.Fb.nil w10 (Below.refl _ _)).add HW10.out.1
        refine Kt.G.start 8 (Kt.Fb w10 [(kT, #[.int .u64 (T.held.a.toNat : Int), .int .u64 (T.held.b.toNat : Int), .int .u64 (T.held.c.toNat : Int), .int .u64 (T.held.d.toNat : Int), .bool T.caps, .int .i64 T.dead, .int .i64 T.last, .int .i64 T.wait, .string T.text], 37)]) (by kernel_rfl) HF.drew (fun hHeld => ?_)
        clear HF
        generalize w10.drew = x0 at *
        refine Kt.G.take 0 { dst := some 60, op := Op.load 37 (Operand.tmp 10), type := 37, pos := "typist.go:114", after := #[], guard := none } ?_ hHeld rfl (by kernel_rfl) (fun _ _ _ h => h) (by rfl) ?_ ?_
        rotate_left
        · intro w hSw; have r0 := hSw.row (kT, #[.int .u64 (T.held.a.toNat : Int), .int .u64 (T.held.b.toNat : Int), .int .u64 (T.held.c.toNat : Int), .int .u64 (T.held.d.toNat : Int), .bool T.caps, .int .i64 T.dead, .int .i64 T.last, .int .i64 T.wait, .string T.text], 37) (by simp); have c0 := fun i => cell_of_row _ _ i _ _ _ r0; dsimp only at *; go_simp; try with_reducible rfl
        try simp only [Act.put, List.setIfInBounds_toArray, List.set_cons_zero, List.set_cons_succ]
        refine Kt.G.two 1 7 { dst := some 61, op := Op.buildSlice 22 1 #[(0, Operand.const (Value.int IntKind.i64 42))], type := 22, pos := "typist.go:114", after := #[], guard := none } { dst := some 12, op := Op.alloc 37, type := 0, pos := "typist.go:114", after := #[], guard := none } rfl rfl (by kernel_rfl) (by rfl) (by rfl) (fun K hK => ?g1) (fun K hK => ?g2)
        case' g1 =>
          go_simp
          refine hK.out _ _ (fun _ => hHeld.alloc _) (fun hHeld => ?_)
          have hHeld := hHeld rfl
          clear hK K
          try simp only [Act.put, List.setIfInBounds_toArray, List.set_cons_zero, List.set_cons_succ]
          have HA1 := Lib.hid (Kt.Ar.new x0 #[.int .i64 42] 3 1 1 rfl)
          generalize x0.alloc (.cells #[.int .i64 42] 3) = y1 at *
          refine Kt.G.two 2 7 { dst := some 62, op := Op.call { callee := Callee.value (Operand.func 11), args := #[Operand.tmp 61], argTypes := #[22] }, type := 26, pos := "typist.go:114", after := #[{ on := 1, ground := Ground.data }], guard := none } { dst := some 12, op := Op.alloc 37, type := 0, pos := "typist.go:114", after := #[], guard := none } rfl rfl (by kernel_rfl) (by rfl) (by rfl) (fun K hK => ?g3) (fun K hK => ?g4)
          case' g3 =>
            try (have hkk := lt_of_row0 rK)
            have hszz := hHeld.bel.size
            go_simp
            refine (press1_calls _ _ _ _ HA1.out).mono ?_; rintro en x2 ⟨A2, c2, rfl, hs2, hb2⟩
            refine hK.out _ _ (fun _ => hHeld.on hb2) (fun hHeld => ?_)
            have hHeld := hHeld rfl
            clear hK K
            try simp only [Act.put, List.setIfInBounds_toArray, List.set_cons_zero, List.set_cons_succ]
            have HS2 := Lib.hid (hs2.mono hszz)
            try clear hkk
            clear hs2 hb2 hszz HA1
            refine Kt.G.two 3 7 { dst := some 63, op := Op.call { callee := Callee.value (Operand.func 12), args := #[Operand.tmp 60, Operand.tmp 62], argTypes := #[37, 26] }, type := 39, pos := "typist.go:114", after := #[{ on := 0, ground := Ground.data }, { on := 2, ground := Ground.data }, { on := 2, ground := Ground.chain }], guard := none } { dst := some 12, op := Op.alloc 37, type := 0, pos := "typist.go:114", after := #[], guard := none } rfl rfl (by kernel_rfl) (by rfl) (by rfl) (fun K hK => ?g5) (fun K hK => ?g6)
            case' g5 =>
              go_simp
              refine (HT10.out _ hHeld.bel _ _ _ HS2.out).mono ?_; rintro en x3 ⟨rfl, hb3⟩
              refine hK.out _ _ (fun _ => hHeld.on hb3) (fun hHeld => ?_)
              have hHeld := hHeld rfl
              clear hK K
              try simp only [Act.put, List.setIfInBounds_toArray, List.set_cons_zero, List.set_cons_succ]
              clear hb3 HS2
              refine Kt.G.takeP 4 { dst := some 59, op := Op.move (Operand.tmp 63), type := 39, pos := "typist.go:114", after := #[{ on := 3, ground := Ground.data }], guard := none } ?_ (fun _ => hHeld) rfl (by kernel_rfl) (fun _ _ _ h => h) (by rfl) ?_ ?_
              rotate_left
              · intro w; go_simp; try with_reducible rfl
              try simp only [Act.put, List.setIfInBounds_toArray, List.set_cons_zero, List.set_cons_succ]
              refine Kt.G.takeP 5 { dst := some 64, op := Op.extract (Operand.tmp 59) 0, type := 37, pos := "typist.go:114", after := #[{ on := 4, ground := Ground.data }], guard := none } ?_ (fun _ => hHeld) rfl (by kernel_rfl) (fun _ _ _ h => h) (by rfl) ?_ ?_
              rotate_left
              · intro w; go_simp; try with_reducible rfl
              try simp only [Act.put, List.setIfInBounds_toArray, List.set_cons_zero, List.set_cons_succ]
              refine Kt.G.takeP 6 { dst := some 65, op := Op.extract (Operand.tmp 59) 1, type := 38, pos := "typist.go:114", after := #[{ on := 4, ground := Ground.data }, { on := 8, ground := Ground.gcOnly Departure.lateStores }], guard := none } ?_ (fun _ => hHeld) rfl (by kernel_rfl) (fun _ _ _ h => h) (by rfl) ?_ ?_
              rotate_left
              · intro w; go_simp; try with_reducible rfl
              try simp only [Act.put, List.setIfInBounds_toArray, List.set_cons_zero, List.set_cons_succ]
              refine Kt.G.one 7 { dst := some 12, op := Op.alloc 37, type := 0, pos := "typist.go:114", after := #[], guard := none } rfl (by kernel_rfl) (by rfl) (fun K hK => ?_)
              have hk0 : w10.heap.size ≤ x3.heap.size := hHeld.bel.size
              go_simp
              refine hK.out _ _ (fun _ => hHeld.alloc _) (fun hHeld => ?_)
              have hHeld := hHeld rfl
              clear hK K
              try simp only [Act.put, List.setIfInBounds_toArray, List.set_cons_zero, List.set_cons_succ]
              have rK := heap_alloc_new x3 (.cells #[.int .u64 0, .int .u64 0, .int .u64 0, .int .u64 0, .bool false, .int .i64 0, .int .i64 0, .int .i64 0, .string ⟨#[]⟩] 37)
              generalize hkZ : x3.heap.size = kZ at *
              clear hkZ
              generalize x3.alloc (.cells #[.int .u64 0, .int .u64 0, .int .u64 0, .int .u64 0, .bool false, .int .i64 0, .int .i64 0, .int .i64 0, .string ⟨#[]⟩] 37) = xk at *
            case' g6 =>
              have hk0 : w10.heap.size ≤ x2.heap.size := hHeld.bel.size
              replace HS2 := Lib.hid (HS2.out.on (Kt.balloc (Below.refl _ x2) (.cells #[.int .u64 0, .int .u64 0, .int .u64 0, .int .u64 0, .bool false, .int .i64 0, .int .i64 0, .int .i64 0, .string ⟨#[]⟩] 37)))
              go_simp
              refine hK.out _ _ (fun _ => hHeld.alloc _) (fun hHeld => ?_)
              have hHeld := hHeld rfl
              clear hK K
              try simp only [Act.put, List.setIfInBounds_toArray, List.set_cons_zero, List.set_cons_succ]
              have rK := heap_alloc_new x2 (.cells #[.int .u64 0, .int .u64 0, .int .u64 0, .int .u64 0, .bool false, .int .i64 0, .int .i64 0, .int .i64 0, .string ⟨#[]⟩] 37)
              generalize hkZ : x2.heap.size = kZ at *
              clear hkZ
              generalize x2.alloc (.cells #[.int .u64 0, .int .u64 0, .int .u64 0, .int .u64 0, .bool false, .int .i64 0, .int .i64 0, .int .i64 0, .string ⟨#[]⟩] 37) = xk at *
              refine Kt.G.one 3 { dst := some 63, op := Op.call { callee := Callee.value (Operand.func 12), args := #[Operand.tmp 60, Operand.tmp 62], argTypes := #[37, 26] }, type := 39, pos := "typist.go:114", after := #[{ on := 0, ground := Ground.data }, { on := 2, ground := Ground.data }, { on := 2, ground := Ground.chain }], guard := none } rfl (by kernel_rfl) (by rfl) (fun K hK => ?_)
              go_simp
              refine (HT10.out _ hHeld.bel _ _ _ HS2.out).mono ?_; rintro en x3 ⟨rfl, hb3⟩
              refine hK.out _ _ (fun _ => hHeld.on hb3) (fun hHeld => ?_)
              have hHeld := hHeld rfl
              clear hK K
              try simp only [Act.put, List.setIfInBounds_toArray, List.set_cons_zero, List.set_cons_succ]
              replace rK := Kt.row_on hb3 rK
              clear hb3 HS2
              refine Kt.G.takeP 4 { dst := some 59, op := Op.move (Operand.tmp 63), type := 39, pos := "typist.go:114", after := #[{ on := 3, ground := Ground.data }], guard := none } ?_ (fun _ => hHeld) rfl (by kernel_rfl) (fun _ _ _ h => h) (by rfl) ?_ ?_
              rotate_left
              · intro w; go_simp; try with_reducible rfl
              try simp only [Act.put, List.setIfInBounds_toArray, List.set_cons_zero, List.set_cons_succ]
              refine Kt.G.takeP 5 { dst := some 64, op := Op.extract (Operand.tmp 59) 0, type := 37, pos := "typist.go:114", after := #[{ on := 4, ground := Ground.data }], guard := none } ?_ (fun _ => hHeld) rfl (by kernel_rfl) (fun _ _ _ h => h) (by rfl) ?_ ?_
              rotate_left
              · intro w; go_simp; try with_reducible rfl
              try simp only [Act.put, List.setIfInBounds_toArray, List.set_cons_zero, List.set_cons_succ]
              refine Kt.G.takeP 6 { dst := some 65, op := Op.extract (Operand.tmp 59) 1, type := 38, pos := "typist.go:114", after := #[{ on := 4, ground := Ground.data }, { on := 8, ground := Ground.gcOnly Departure.lateStores }], guard := none } ?_ (fun _ => hHeld) rfl (by kernel_rfl) (fun _ _ _ h => h) (by rfl) ?_ ?_
              rotate_left
              · intro w; go_simp; try with_reducible rfl
              try simp only [Act.put, List.setIfInBounds_toArray, List.set_cons_zero, List.set_cons_succ]
          case' g4 =>
            have hk0 : w10.heap.size ≤ y1.heap.size := hHeld.bel.size
            replace HA1 := Lib.hid (HA1.out.on (Kt.balloc (Below.refl _ y1) (.cells #[.int .u64 0, .int .u64 0, .int .u64 0, .int .u64 0, .bool false, .int .i64 0, .int .i64 0, .int .i64 0, .string ⟨#[]⟩] 37)))
            go_simp
            refine hK.out _ _ (fun _ => hHeld.alloc _) (fun hHeld => ?_)
            have hHeld := hHeld rfl
            clear hK K
            try simp only [Act.put, List.setIfInBounds_toArray, List.set_cons_zero, List.set_cons_succ]
            have rK := heap_alloc_new y1 (.cells #[.int .u64 0, .int .u64 0, .int .u64 0, .int .u64 0, .bool false, .int .i64 0, .int .i64 0, .int .i64 0, .string ⟨#[]⟩] 37)
            generalize hkZ : y1.heap.size = kZ at *
            clear hkZ
            generalize y1.alloc (.cells #[.int .u64 0, .int .u64 0, .int .u64 0, .int .u64 0, .bool false, .int .i64 0, .int .i64 0, .int .i64 0, .string ⟨#[]⟩] 37) = xk at *
            refine Kt.G.one 2 { dst := some 62, op := Op.call { callee := Callee.value (Operand.func 11), args := #[Operand.tmp 61], argTypes := #[22] }, type := 26, pos := "typist.go:114", after := #[{ on := 1, ground := Ground.data }], guard := none } rfl (by kernel_rfl) (by rfl) (fun K hK => ?_)
            try (have hkk := lt_of_row0 rK)
            have hszz := hHeld.bel.size
            go_simp
            refine (press1_calls _ _ _ _ HA1.out).mono ?_; rintro en x2 ⟨A2, c2, rfl, hs2, hb2⟩
            refine hK.out _ _ (fun _ => hHeld.on hb2) (fun hHeld => ?_)
            have hHeld := hHeld rfl
            clear hK K
            try simp only [Act.put, List.setIfInBounds_toArray, List.set_cons_zero, List.set_cons_succ]
            replace rK := Kt.row_on (hb2) rK
            have HS2 := Lib.hid (hs2.mono hszz)
            try clear hkk
            clear hs2 hb2 hszz HA1
            refine Kt.G.one 3 { dst := some 63, op := Op.call { callee := Callee.value (Operand.func 12), args := #[Operand.tmp 60, Operand.tmp 62], argTypes := #[37, 26] }, type := 39, pos := "typist.go:114", after := #[{ on := 0, ground := Ground.data }, { on := 2, ground := Ground.data }, { on := 2, ground := Ground.chain }], guard := none } rfl (by kernel_rfl) (by rfl) (fun K hK => ?_)
            go_simp
            refine (HT10.out _ hHeld.bel _ _ _ HS2.out).mono ?_; rintro en x3 ⟨rfl, hb3⟩
            refine hK.out _ _ (fun _ => hHeld.on hb3) (fun hHeld => ?_)
            have hHeld := hHeld rfl
            clear hK K
            try simp only [Act.put, List.setIfInBounds_toArray, List.set_cons_zero, List.set_cons_succ]
            replace rK := Kt.row_on hb3 rK
            clear hb3 HS2
            refine Kt.G.takeP 4 { dst := some 59, op := Op.move (Operand.tmp 63), type := 39, pos := "typist.go:114", after := #[{ on := 3, ground := Ground.data }], guard := none } ?_ (fun _ => hHeld) rfl (by kernel_rfl) (fun _ _ _ h => h) (by rfl) ?_ ?_
            rotate_left
            · intro w; go_simp; try with_reducible rfl
            try simp only [Act.put, List.setIfInBounds_toArray, List.set_cons_zero, List.set_cons_succ]
            refine Kt.G.takeP 5 { dst := some 64, op := Op.extract (Operand.tmp 59) 0, type := 37, pos := "typist.go:114", after := #[{ on := 4, ground := Ground.data }], guard := none } ?_ (fun _ => hHeld) rfl (by kernel_rfl) (fun _ _ _ h => h) (by rfl) ?_ ?_
            rotate_left
            · intro w; go_simp; try with_reducible rfl
            try simp only [Act.put, List.setIfInBounds_toArray, List.set_cons_zero, List.set_cons_succ]
            refine Kt.G.takeP 6 { dst := some 65, op := Op.extract (Operand.tmp 59) 1, type := 38, pos := "typist.go:114", after := #[{ on := 4, ground := Ground.data }, { on := 8, ground := Ground.gcOnly Departure.lateStores }], guard := none } ?_ (fun _ => hHeld) rfl (by kernel_rfl) (fun _ _ _ h => h) (by rfl) ?_ ?_
            rotate_left
            · intro w; go_simp; try with_reducible rfl
            try simp only [Act.put, List.setIfInBounds_toArray, List.set_cons_zero, List.set_cons_succ]
        case' g2 =>
          have hk0 : w10.heap.size ≤ x0.heap.size := hHeld.bel.size
          go_simp
          refine hK.out _ _ (fun _ => hHeld.alloc _) (fun hHeld => ?_)
          have hHeld := hHeld rfl
          clear hK K
          try simp only [Act.put, List.setIfInBounds_toArray, List.set_cons_zero, List.set_cons_succ]
          have rK := heap_alloc_new x0 (.cells #[.int .u64 0, .int .u64 0, .int .u64 0, .int .u64 0, .bool false, .int .i64 0, .int .i64 0, .int .i64 0, .string ⟨#[]⟩] 37)
          generalize hkZ : x0.heap.size = kZ at *
          clear hkZ
          generalize x0.alloc (.cells #[.int .u64 0, .int .u64 0, .int .u64 0, .int .u64 0, .bool false, .int .i64 0, .int .i64 0, .int .i64 0, .string ⟨#[]⟩] 37) = xk at *
          refine Kt.G.one 1 { dst := some 61, op := Op.buildSlice 22 1 #[(0, Operand.const (Value.int IntKind.i64 42))], type := 22, pos := "typist.go:114", after := #[], guard := none } rfl (by kernel_rfl) (by rfl) (fun K hK => ?_)
          go_simp
          refine hK.out _ _ (fun _ => hHeld.alloc _) (fun hHeld => ?_)
          have hHeld := hHeld rfl
          clear hK K
          try simp only [Act.put, List.setIfInBounds_toArray, List.set_cons_zero, List.set_cons_succ]
          have HA1 := Lib.hid (Kt.Ar.new xk #[.int .i64 42] 3 1 1 rfl)
          replace rK := Kt.row_on (Kt.balloc (Below.refl _ xk) (.cells #[.int .i64 42] 3)) rK
          generalize xk.alloc (.cells #[.int .i64 42] 3) = y1 at *
          refine Kt.G.one 2 { dst := some 62, op := Op.call { callee := Callee.value (Operand.func 11), args := #[Operand.tmp 61], argTypes := #[22] }, type := 26, pos := "typist.go:114", after := #[{ on := 1, ground := Ground.data }], guard := none } rfl (by kernel_rfl) (by rfl) (fun K hK => ?_)
          try (have hkk := lt_of_row0 rK)
          have hszz := hHeld.bel.size
          go_simp
          refine (press1_calls _ _ _ _ HA1.out).mono ?_; rintro en x2 ⟨A2, c2, rfl, hs2, hb2⟩
          refine hK.out _ _ (fun _ => hHeld.on hb2) (fun hHeld => ?_)
          have hHeld := hHeld rfl
          clear hK K
          try simp only [Act.put, List.setIfInBounds_toArray, List.set_cons_zero, List.set_cons_succ]
          replace rK := Kt.row_on (hb2) rK
          have HS2 := Lib.hid (hs2.mono hszz)
          try clear hkk
          clear hs2 hb2 hszz HA1
          refine Kt.G.one 3 { dst := some 63, op := Op.call { callee := Callee.value (Operand.func 12), args := #[Operand.tmp 60, Operand.tmp 62], argTypes := #[37, 26] }, type := 39, pos := "typist.go:114", after := #[{ on := 0, ground := Ground.data }, { on := 2, ground := Ground.data }, { on := 2, ground := Ground.chain }], guard := none } rfl (by kernel_rfl) (by rfl) (fun K hK => ?_)
          go_simp
          refine (HT10.out _ hHeld.bel _ _ _ HS2.out).mono ?_; rintro en x3 ⟨rfl, hb3⟩
          refine hK.out _ _ (fun _ => hHeld.on hb3) (fun hHeld => ?_)
          have hHeld := hHeld rfl
          clear hK K
          try simp only [Act.put, List.setIfInBounds_toArray, List.set_cons_zero, List.set_cons_succ]
          replace rK := Kt.row_on hb3 rK
          clear hb3 HS2
          refine Kt.G.takeP 4 { dst := some 59, op := Op.move (Operand.tmp 63), type := 39, pos := "typist.go:114", after := #[{ on := 3, ground := Ground.data }], guard := none } ?_ (fun _ => hHeld) rfl (by kernel_rfl) (fun _ _ _ h => h) (by rfl) ?_ ?_
          rotate_left
          · intro w; go_simp; try with_reducible rfl
          try simp only [Act.put, List.setIfInBounds_toArray, List.set_cons_zero, List.set_cons_succ]
          refine Kt.G.takeP 5 { dst := some 64, op := Op.extract (Operand.tmp 59) 0, type := 37, pos := "typist.go:114", after := #[{ on := 4, ground := Ground.data }], guard := none } ?_ (fun _ => hHeld) rfl (by kernel_rfl) (fun _ _ _ h => h) (by rfl) ?_ ?_
          rotate_left
          · intro w; go_simp; try with_reducible rfl
          try simp only [Act.put, List.setIfInBounds_toArray, List.set_cons_zero, List.set_cons_succ]
          refine Kt.G.takeP 6 { dst := some 65, op := Op.extract (Operand.tmp 59) 1, type := 38, pos := "typist.go:114", after := #[{ on := 4, ground := Ground.data }, { on := 8, ground := Ground.gcOnly Departure.lateStores }], guard := none } ?_ (fun _ => hHeld) rfl (by kernel_rfl) (fun _ _ _ h => h) (by rfl) ?_ ?_
          rotate_left
          · intro w; go_simp; try with_reducible rfl
          try simp only [Act.put, List.setIfInBounds_toArray, List.set_cons_zero, List.set_cons_succ]
        all_goals
          refine Kt.G.one 8 { dst := none, op := Op.store 37 (Operand.tmp 12) (Operand.tmp 64), type := 0, pos := "typist.go:114", after := #[{ on := 7, ground := Ground.data }, { on := 5, ground := Ground.data }, { on := 3, ground := Ground.chain }, { on := 0, ground := Ground.phase }, { on := 1, ground := Ground.phase }, { on := 2, ground := Ground.phase }, { on := 3, ground := Ground.phase }, { on := 4, ground := Ground.phase }, { on := 5, ground := Ground.phase }, { on := 6, ground := Ground.textOnly Departure.lateStores }, { on := 7, ground := Ground.phase }], guard := none } rfl (by kernel_rfl) (by rfl) (fun K hK => ?_)
          have cK := fun i => cell_of_row _ _ i _ _ _ rK; have fK := fun i => frozen_of_row _ _ i _ _ rK
          go_simp
          refine hK.out _ _ (Kt.G.late (by kernel_rfl)) (fun _ => ?_)
          clear hK K
          try simp only [Act.put, List.setIfInBounds_toArray, List.set_cons_zero, List.set_cons_succ]
          refine Kt.G.takeP 9 { dst := some 13, op := Op.assign (Operand.tmp 65), type := 38, pos := "typist.go:114", after := #[{ on := 6, ground := Ground.data }, { on := 8, ground := Ground.chain }, { on := 0, ground := Ground.phase }, { on := 1, ground := Ground.phase }, { on := 2, ground := Ground.phase }, { on := 3, ground := Ground.phase }, { on := 4, ground := Ground.phase }, { on := 5, ground := Ground.phase }, { on := 6, ground := Ground.phase }, { on := 7, ground := Ground.phase }, { on := 8, ground := Ground.phase }], guard := none } ?_ (Kt.G.late (by kernel_rfl)) rfl (by kernel_rfl) (fun _ _ _ h => h) (by rfl) ?_ ?_
          rotate_left
          · intro w; go_simp; try with_reducible rfl
          try simp only [Act.put, List.setIfInBounds_toArray, List.set_cons_zero, List.set_cons_succ]
          refine Kt.G.done (by kernel_rfl) (NoPanic.normal ?_) _
          go_wp2_with fail
          go_meet
          case rel =>
            exact ⟨kZ, rfl, rfl, Kt.fill [.int .u64 (U.held.a.toNat : Int), .int .u64 (U.held.b.toNat : Int), .int .u64 (U.held.c.toNat : Int), .int .u64 (U.held.d.toNat : Int), .bool U.caps, .int .i64 U.dead, .int .i64 U.last, .int .i64 U.wait, .string U.text] rK rfl, set9 hHeld.bel hk0 [.int .u64 (U.held.a.toNat : Int), .int .u64 (U.held.b.toNat : Int), .int .u64 (U.held.c.toNat : Int), .int .u64 (U.held.d.toNat : Int), .bool U.caps, .int .i64 U.dead, .int .i64 U.last, .int .i64 U.wait, .string U.text]⟩
        -- END10
      case rest =>
        obtain ⟨kU, rfl, rfl, hru, hbu⟩ := hcut
        have HW11 := Lib.hid (show wc.heap[kT]? = some (.cells T.cs 37 (0, 0)) ∧ wc.heap[kU]? = some (.cells U.cs 37 (0, 0)) ∧ Kt.Sl wc w0.heap.size 31 4 (.slice A8 DL.length c8) DL.length (sks DL) ∧ Below w0.heap.size w0 wc from ⟨Kt.row_on hbu HW10.out.1, hru, HW10.out.2.1.on hbu, Kt.bthen HW10.out.2.2 hbu⟩)
        clear hru hbu HW10 HT10
        have HT11 : Hid (∀ W, Below wc.heap.size wc W → ∀ A cap K, Kt.Sl W K 31 4 (.slice A (DL.length + 2) cap) (DL.length + 2) (sks DL ++ sks [⟨1, 42, true, 0⟩, ⟨1, 42, false, 0⟩]) → Calls Tryd.prog 12 #[T.v, .slice A (DL.length + 2) cap] W fun e w' => e = .returned (.tuple #[V.v, .int .i64 0]) ∧ Below W.heap.size W w') := Lib.hid (HTZ.out T V 42 HRES.out.2.2 wc HW11.out.2.2.2)
        have HCL := Lib.hid (fun W (hW : Below wc.heap.size wc W) => sclone_calls (.slice A8 DL.length c8) DL.length (sks DL) W (Kt.Ar.of_sl (HW11.out.2.2.1.on hW)) (sks_one DL) (by have := HDL.out; omega))
        have HRB : Hid (∀ r ∈ [(kT, #[.int .u64 (T.held.a.toNat : Int), .int .u64 (T.held.b.toNat : Int), .int .u64 (T.held.c.toNat : Int), .int .u64 (T.held.d.toNat : Int), .bool T.caps, .int .i64 T.dead, .int .i64 T.last, .int .i64 T.wait, .string T.text], 37)], (r : Nat × Array Value × TypeId).1 < wc.heap.size) := Lib.hid (by
          intro r hr
          rw [List.mem_singleton] at hr
          subst hr
          exact lt_of_row0 HW11.out.1)
        unfold St.v at HT11
        unfold St.cs at HT11
        go_upto_region 11 with (fail)
        go_cut [14, 15] from 66 to 75 (fun p e wx => ∃ kZ, p = .pointer (some ⟨kZ, 0, none⟩) ∧ e = .int .i64 0 ∧ wx.heap[kZ]? = some (.cells V.cs 37 (0, 0)) ∧ Below wc.heap.size wc wx)
        case first =>
          -- REGION11
          have HF := (Kt.Fb.nil wc (Below.refl _ _)).add HW11.out.1
          refine Kt.G.start 11 (Kt.Fb wc [(kT, #[.int .u64 (T.held.a.toNat : Int), .int .u64 (T.held.b.toNat : Int), .int .u64 (T.held.c.toNat : Int), .int .u64 (T.held.d.toNat : Int), .bool T.caps, .int .i64 T.dead, .int .i64 T.last, .int .i64 T.wait, .string T.text], 37)]) (by kernel_rfl) HF.drew (fun hHeld => ?_)
          clear HF
          generalize wc.drew = x0 at *
          refine Kt.G.take 0 { dst := some 67, op := Op.load 37 (Operand.tmp 10), type := 37, pos := "typist.go:115", after := #[], guard := none } ?_ hHeld rfl (by kernel_rfl) (fun _ _ _ h => h) (by rfl) ?_ ?_
          rotate_left
          · intro w hSw; have r0 := hSw.row (kT, #[.int .u64 (T.held.a.toNat : Int), .int .u64 (T.held.b.toNat : Int), .int .u64 (T.held.c.toNat : Int), .int .u64 (T.held.d.toNat : Int), .bool T.caps, .int .i64 T.dead, .int .i64 T.last, .int .i64 T.wait, .string T.text], 37) (by simp); have c0 := fun i => cell_of_row _ _ i _ _ _ r0; dsimp only at *; go_simp; try with_reducible rfl
          try simp only [Act.put, List.setIfInBounds_toArray, List.set_cons_zero, List.set_cons_succ]
          refine Kt.G.takeP 1 { dst := some 68, op := Op.move (Operand.tmp 8), type := 26, pos := "typist.go:115", after := #[], guard := none } ?_ (fun _ => hHeld) rfl (by kernel_rfl) (fun _ _ _ h => h) (by rfl) ?_ ?_
          rotate_left
          · intro w; go_simp; try with_reducible rfl
          try simp only [Act.put, List.setIfInBounds_toArray, List.set_cons_zero, List.set_cons_succ]
          refine Kt.G.three 2 3 10 { dst := some 69, op := Op.call { callee := Callee.value (Operand.func 15), args := #[Operand.tmp 68], argTypes := #[26] }, type := 26, pos := "typist.go:115", after := #[{ on := 1, ground := Ground.data }], guard := none } { dst := some 70, op := Op.buildSlice 22 1 #[(0, Operand.const (Value.int IntKind.i64 42))], type := 22, pos := "typist.go:115", after := #[], guard := none } { dst := some 14, op := Op.alloc 37, type := 0, pos := "typist.go:115", after := #[], guard := none } rfl rfl rfl (by kernel_rfl) (by rfl) (by rfl) (by rfl) (fun K hK => ?g7) (fun K hK => ?g8) (fun K hK => ?g9)
          case' g7 =>
            try (have hkk := lt_of_row0 rK)
            have hszz := hHeld.bel.size
            go_simp
            refine (HCL.out _ hHeld.bel).mono ?_; rintro en x2 ⟨A2, c2, rfl, hs2, hb2⟩
            refine hK.out _ _ (fun _ => hHeld.on hb2) (fun hHeld => ?_)
            have hHeld := hHeld rfl
            clear hK K
            try simp only [Act.put, List.setIfInBounds_toArray, List.set_cons_zero, List.set_cons_succ]
            have HS2 := Lib.hid (hs2.mono hszz)
            try clear hkk
            clear hs2 hb2 hszz
            refine Kt.G.two 3 10 { dst := some 70, op := Op.buildSlice 22 1 #[(0, Operand.const (Value.int IntKind.i64 42))], type := 22, pos := "typist.go:115", after := #[], guard := none } { dst := some 14, op := Op.alloc 37, type := 0, pos := "typist.go:115", after := #[], guard := none } rfl rfl (by kernel_rfl) (by rfl) (by rfl) (fun K hK => ?g10) (fun K hK => ?g11)
            case' g10 =>
              go_simp
              refine hK.out _ _ (fun _ => hHeld.alloc _) (fun hHeld => ?_)
              have hHeld := hHeld rfl
              clear hK K
              try simp only [Act.put, List.setIfInBounds_toArray, List.set_cons_zero, List.set_cons_succ]
              have HA3 := Lib.hid (Kt.Ar.new x2 #[.int .i64 42] 3 1 1 rfl)
              replace HS2 := Lib.hid (HS2.out.on (Kt.balloc (Below.refl _ x2) (.cells #[.int .i64 42] 3)))
              generalize x2.alloc (.cells #[.int .i64 42] 3) = y3 at *
              refine Kt.G.two 4 10 { dst := some 71, op := Op.call { callee := Callee.value (Operand.func 11), args := #[Operand.tmp 70], argTypes := #[22] }, type := 26, pos := "typist.go:115", after := #[{ on := 3, ground := Ground.data }, { on := 2, ground := Ground.chain }], guard := none } { dst := some 14, op := Op.alloc 37, type := 0, pos := "typist.go:115", after := #[], guard := none } rfl rfl (by kernel_rfl) (by rfl) (by rfl) (fun K hK => ?g12) (fun K hK => ?g13)
              case' g12 =>
                try (have hkk := lt_of_row0 rK)
                have hszz := hHeld.bel.size
                go_simp
                refine (press1_calls _ _ _ _ HA3.out).mono ?_; rintro en x4 ⟨A4, c4, rfl, hs4, hb4⟩
                refine hK.out _ _ (fun _ => hHeld.on hb4) (fun hHeld => ?_)
                have hHeld := hHeld rfl
                clear hK K
                try simp only [Act.put, List.setIfInBounds_toArray, List.set_cons_zero, List.set_cons_succ]
                replace HS2 := Lib.hid (HS2.out.on (hb4))
                have HS4 := Lib.hid (hs4.mono hszz)
                try clear hkk
                clear hs4 hb4 hszz HA3
                refine Kt.G.two 5 10 { dst := some 72, op := Op.call { callee := Callee.builtin Builtin.append, args := #[Operand.tmp 69, Operand.tmp 71], argTypes := #[26, 26] }, type := 26, pos := "typist.go:115", after := #[{ on := 2, ground := Ground.data }, { on := 4, ground := Ground.data }, { on := 4, ground := Ground.chain }], guard := none } { dst := some 14, op := Op.alloc 37, type := 0, pos := "typist.go:115", after := #[], guard := none } rfl rfl (by kernel_rfl) (by rfl) (by rfl) (fun K hK => ?g14) (fun K hK => ?g15)
                case' g14 =>
                  refine Kt.wp_append_ar (.tmp 69) (.tmp 71) 26 rfl wc.heap.size 31 (.agg #[.int .i64 0, .int .i64 0, .bool false, .int .i64 0]) 4 32 infoK Tryd.underlying26 rfl (by decide) _ _ _ rfl HS2.out _ _ _ rfl (Kt.Ar.of_sl HS4.out) (by first | exact sks_one _ | (intro u hu; simp only [List.mem_cons, List.not_mem_nil, or_false] at hu; rcases hu with rfl | rfl | rfl | rfl | rfl | rfl | rfl | rfl <;> rfl)) (by have := HDL.out; unfold maxLen; omega) (by have := HDL.out; omega) hHeld.bel.size ?_
                  intro A5 c5 x5 hs5 hb5 hz5 hk5 hl5
                  have hF5 := hHeld.onB hb5 (Nat.le_refl _) HRB.out
                  try clear hne
                  have HS5 : Hid (Kt.Sl x5 wc.heap.size 31 4 (.slice A5 (DL.length + 2) c5) (DL.length + 2) (sks DL ++ sks [⟨1, 42, true, 0⟩, ⟨1, 42, false, 0⟩])) := Lib.hid hs5
                  refine hK.out _ _ (fun _ => hF5) (fun hHeld => ?_)
                  have hHeld := hHeld rfl
                  clear hK K
                  try simp only [Act.put, List.setIfInBounds_toArray, List.set_cons_zero, List.set_cons_succ]
                  clear hs5 hb5 hz5 hk5 hl5 hF5
                  clear HS2 HS4
                  refine Kt.G.two 6 10 { dst := some 73, op := Op.call { callee := Callee.value (Operand.func 12), args := #[Operand.tmp 67, Operand.tmp 72], argTypes := #[37, 26] }, type := 39, pos := "typist.go:115", after := #[{ on := 0, ground := Ground.data }, { on := 5, ground := Ground.data }, { on := 5, ground := Ground.chain }], guard := none } { dst := some 14, op := Op.alloc 37, type := 0, pos := "typist.go:115", after := #[], guard := none } rfl rfl (by kernel_rfl) (by rfl) (by rfl) (fun K hK => ?g16) (fun K hK => ?g17)
                  case' g16 =>
                    go_simp
                    refine (HT11.out _ hHeld.bel _ _ _ HS5.out).mono ?_; rintro en x6 ⟨rfl, hb6⟩
                    refine hK.out _ _ (fun _ => hHeld.on hb6) (fun hHeld => ?_)
                    have hHeld := hHeld rfl
                    clear hK K
                    try simp only [Act.put, List.setIfInBounds_toArray, List.set_cons_zero, List.set_cons_succ]
                    clear hb6 HS5
                    refine Kt.G.takeP 7 { dst := some 66, op := Op.move (Operand.tmp 73), type := 39, pos := "typist.go:115", after := #[{ on := 6, ground := Ground.data }], guard := none } ?_ (fun _ => hHeld) rfl (by kernel_rfl) (fun _ _ _ h => h) (by rfl) ?_ ?_
                    rotate_left
                    · intro w; go_simp; try with_reducible rfl
                    try simp only [Act.put, List.setIfInBounds_toArray, List.set_cons_zero, List.set_cons_succ]
                    refine Kt.G.takeP 8 { dst := some 74, op := Op.extract (Operand.tmp 66) 0, type := 37, pos := "typist.go:115", after := #[{ on := 7, ground := Ground.data }], guard := none } ?_ (fun _ => hHeld) rfl (by kernel_rfl) (fun _ _ _ h => h) (by rfl) ?_ ?_
                    rotate_left
                    · intro w; go_simp; try with_reducible rfl
                    try simp only [Act.put, List.setIfInBounds_toArray, List.set_cons_zero, List.set_cons_succ]
                    refine Kt.G.takeP 9 { dst := some 75, op := Op.extract (Operand.tmp 66) 1, type := 38, pos := "typist.go:115", after := #[{ on := 7, ground := Ground.data }, { on := 11, ground := Ground.gcOnly Departure.lateStores }], guard := none } ?_ (fun _ => hHeld) rfl (by kernel_rfl) (fun _ _ _ h => h) (by rfl) ?_ ?_
                    rotate_left
                    · intro w; go_simp; try with_reducible rfl
                    try simp only [Act.put, List.setIfInBounds_toArray, List.set_cons_zero, List.set_cons_succ]
                    refine Kt.G.one 10 { dst := some 14, op := Op.alloc 37, type := 0, pos := "typist.go:115", after := #[], guard := none } rfl (by kernel_rfl) (by rfl) (fun K hK => ?_)
                    have hk0 : wc.heap.size ≤ x6.heap.size := hHeld.bel.size
                    try (have hne : ∀ k, (Value.slice A2 DL.length c2).ownBlock = some k → k ≠ x6.heap.size := fun k hk => by have := (HS2.out.lt k hk).2; omega)
                    go_simp
                    refine hK.out _ _ (fun _ => hHeld.alloc _) (fun hHeld => ?_)
                    have hHeld := hHeld rfl
                    clear hK K
                    try simp only [Act.put, List.setIfInBounds_toArray, List.set_cons_zero, List.set_cons_succ]
                    have rK := heap_alloc_new x6 (.cells #[.int .u64 0, .int .u64 0, .int .u64 0, .int .u64 0, .bool false, .int .i64 0, .int .i64 0, .int .i64 0, .string ⟨#[]⟩] 37)
                    generalize hkZ : x6.heap.size = kZ at *
                    clear hkZ
                    generalize x6.alloc (.cells #[.int .u64 0, .int .u64 0, .int .u64 0, .int .u64 0, .bool false, .int .i64 0, .int .i64 0, .int .i64 0, .string ⟨#[]⟩] 37) = xk at *
                  case' g17 =>
                    have hk0 : wc.heap.size ≤ x5.heap.size := hHeld.bel.size
                    try (have hne : ∀ k, (Value.slice A2 DL.length c2).ownBlock = some k → k ≠ x5.heap.size := fun k hk => by have := (HS2.out.lt k hk).2; omega)
                    replace HS5 := Lib.hid (HS5.out.on (Kt.balloc (Below.refl _ x5) (.cells #[.int .u64 0, .int .u64 0, .int .u64 0, .int .u64 0, .bool false, .int .i64 0, .int .i64 0, .int .i64 0, .string ⟨#[]⟩] 37)))
                    go_simp
                    refine hK.out _ _ (fun _ => hHeld.alloc _) (fun hHeld => ?_)
                    have hHeld := hHeld rfl
                    clear hK K
                    try simp only [Act.put, List.setIfInBounds_toArray, List.set_cons_zero, List.set_cons_succ]
                    have rK := heap_alloc_new x5 (.cells #[.int .u64 0, .int .u64 0, .int .u64 0, .int .u64 0, .bool false, .int .i64 0, .int .i64 0, .int .i64 0, .string ⟨#[]⟩] 37)
                    generalize hkZ : x5.heap.size = kZ at *
                    clear hkZ
                    generalize x5.alloc (.cells #[.int .u64 0, .int .u64 0, .int .u64 0, .int .u64 0, .bool false, .int .i64 0, .int .i64 0, .int .i64 0, .string ⟨#[]⟩] 37) = xk at *
                    refine Kt.G.one 6 { dst := some 73, op := Op.call { callee := Callee.value (Operand.func 12), args := #[Operand.tmp 67, Operand.tmp 72], argTypes := #[37, 26] }, type := 39, pos := "typist.go:115", after := #[{ on := 0, ground := Ground.data }, { on := 5, ground := Ground.data }, { on := 5, ground := Ground.chain }], guard := none } rfl (by kernel_rfl) (by rfl) (fun K hK => ?_)
                    go_simp
                    refine (HT11.out _ hHeld.bel _ _ _ HS5.out).mono ?_; rintro en x6 ⟨rfl, hb6⟩
                    refine hK.out _ _ (fun _ => hHeld.on hb6) (fun hHeld => ?_)
                    have hHeld := hHeld rfl
                    clear hK K
                    try simp only [Act.put, List.setIfInBounds_toArray, List.set_cons_zero, List.set_cons_succ]
                    replace rK := Kt.row_on hb6 rK
                    clear hb6 HS5
                    refine Kt.G.takeP 7 { dst := some 66, op := Op.move (Operand.tmp 73), type := 39, pos := "typist.go:115", after := #[{ on := 6, ground := Ground.data }], guard := none } ?_ (fun _ => hHeld) rfl (by kernel_rfl) (fun _ _ _ h => h) (by rfl) ?_ ?_
                    rotate_left
                    · intro w; go_simp; try with_reducible rfl
                    try simp only [Act.put, List.setIfInBounds_toArray, List.set_cons_zero, List.set_cons_succ]
                    refine Kt.G.takeP 8 { dst := some 74, op := Op.extract (Operand.tmp 66) 0, type := 37, pos := "typist.go:115", after := #[{ on := 7, ground := Ground.data }], guard := none } ?_ (fun _ => hHeld) rfl (by kernel_rfl) (fun _ _ _ h => h) (by rfl) ?_ ?_
                    rotate_left
                    · intro w; go_simp; try with_reducible rfl
                    try simp only [Act.put, List.setIfInBounds_toArray, List.set_cons_zero, List.set_cons_succ]
                    refine Kt.G.takeP 9 { dst := some 75, op := Op.extract (Operand.tmp 66) 1, type := 38, pos := "typist.go:115", after := #[{ on := 7, ground := Ground.data }, { on := 11, ground := Ground.gcOnly Departure.lateStores }], guard := none } ?_ (fun _ => hHeld) rfl (by kernel_rfl) (fun _ _ _ h => h) (by rfl) ?_ ?_
                    rotate_left
                    · intro w; go_simp; try with_reducible rfl
                    try simp only [Act.put, List.setIfInBounds_toArray, List.set_cons_zero, List.set_cons_succ]
                case' g15 =>
                  have hk0 : wc.heap.size ≤ x4.heap.size := hHeld.bel.size
                  try (have hne : ∀ k, (Value.slice A2 DL.length c2).ownBlock = some k → k ≠ x4.heap.size := fun k hk => by have := (HS2.out.lt k hk).2; omega)
                  replace HS2 := Lib.hid (HS2.out.on (Kt.balloc (Below.refl _ x4) (.cells #[.int .u64 0, .int .u64 0, .int .u64 0, .int .u64 0, .bool false, .int .i64 0, .int .i64 0, .int .i64 0, .string ⟨#[]⟩] 37)))
                  replace HS4 := Lib.hid (HS4.out.on (Kt.balloc (Below.refl _ x4) (.cells #[.int .u64 0, .int .u64 0, .int .u64 0, .int .u64 0, .bool false, .int .i64 0, .int .i64 0, .int .i64 0, .string ⟨#[]⟩] 37)))
                  go_simp
                  refine hK.out _ _ (fun _ => hHeld.alloc _) (fun hHeld => ?_)
                  have hHeld := hHeld rfl
                  clear hK K
                  try simp only [Act.put, List.setIfInBounds_toArray, List.set_cons_zero, List.set_cons_succ]
                  have rK := heap_alloc_new x4 (.cells #[.int .u64 0, .int .u64 0, .int .u64 0, .int .u64 0, .bool false, .int .i64 0, .int .i64 0, .int .i64 0, .string ⟨#[]⟩] 37)
                  generalize hkZ : x4.heap.size = kZ at *
                  clear hkZ
                  generalize x4.alloc (.cells #[.int .u64 0, .int .u64 0, .int .u64 0, .int .u64 0, .bool false, .int .i64 0, .int .i64 0, .int .i64 0, .string ⟨#[]⟩] 37) = xk at *
                  refine Kt.G.one 5 { dst := some 72, op := Op.call { callee := Callee.builtin Builtin.append, args := #[Operand.tmp 69, Operand.tmp 71], argTypes := #[26, 26] }, type := 26, pos := "typist.go:115", after := #[{ on := 2, ground := Ground.data }, { on := 4, ground := Ground.data }, { on := 4, ground := Ground.chain }], guard := none } rfl (by kernel_rfl) (by rfl) (fun K hK => ?_)
                  refine Kt.wp_append_ar (.tmp 69) (.tmp 71) 26 rfl wc.heap.size 31 (.agg #[.int .i64 0, .int .i64 0, .bool false, .int .i64 0]) 4 32 infoK Tryd.underlying26 rfl (by decide) _ _ _ rfl HS2.out _ _ _ rfl (Kt.Ar.of_sl HS4.out) (by first | exact sks_one _ | (intro u hu; simp only [List.mem_cons, List.not_mem_nil, or_false] at hu; rcases hu with rfl | rfl | rfl | rfl | rfl | rfl | rfl | rfl <;> rfl)) (by have := HDL.out; unfold maxLen; omega) (by have := HDL.out; omega) hHeld.bel.size ?_
                  intro A5 c5 x5 hs5 hb5 hz5 hk5 hl5
                  replace rK := (hk5 kZ (lt_of_row0 rK) (fun e => hne _ e rfl)).trans rK
                  have hF5 := hHeld.onB hb5 (Nat.le_refl _) HRB.out
                  try clear hne
                  have HS5 : Hid (Kt.Sl x5 wc.heap.size 31 4 (.slice A5 (DL.length + 2) c5) (DL.length + 2) (sks DL ++ sks [⟨1, 42, true, 0⟩, ⟨1, 42, false, 0⟩])) := Lib.hid hs5
                  refine hK.out _ _ (fun _ => hF5) (fun hHeld => ?_)
                  have hHeld := hHeld rfl
                  clear hK K
                  try simp only [Act.put, List.setIfInBounds_toArray, List.set_cons_zero, List.set_cons_succ]
                  clear hs5 hb5 hz5 hk5 hl5 hF5
                  clear HS2 HS4
                  refine Kt.G.one 6 { dst := some 73, op := Op.call { callee := Callee.value (Operand.func 12), args := #[Operand.tmp 67, Operand.tmp 72], argTypes := #[37, 26] }, type := 39, pos := "typist.go:115", after := #[{ on := 0, ground := Ground.data }, { on := 5, ground := Ground.data }, { on := 5, ground := Ground.chain }], guard := none } rfl (by kernel_rfl) (by rfl) (fun K hK => ?_)
                  go_simp
                  refine (HT11.out _ hHeld.bel _ _ _ HS5.out).mono ?_; rintro en x6 ⟨rfl, hb6⟩
                  refine hK.out _ _ (fun _ => hHeld.on hb6) (fun hHeld => ?_)
                  have hHeld := hHeld rfl
                  clear hK K
                  try simp only [Act.put, List.setIfInBounds_toArray, List.set_cons_zero, List.set_cons_succ]
                  replace rK := Kt.row_on hb6 rK
                  clear hb6 HS5
                  refine Kt.G.takeP 7 { dst := some 66, op := Op.move (Operand.tmp 73), type := 39, pos := "typist.go:115", after := #[{ on := 6, ground := Ground.data }], guard := none } ?_ (fun _ => hHeld) rfl (by kernel_rfl) (fun _ _ _ h => h) (by rfl) ?_ ?_
                  rotate_left
                  · intro w; go_simp; try with_reducible rfl
                  try simp only [Act.put, List.setIfInBounds_toArray, List.set_cons_zero, List.set_cons_succ]
                  refine Kt.G.takeP 8 { dst := some 74, op := Op.extract (Operand.tmp 66) 0, type := 37, pos := "typist.go:115", after := #[{ on := 7, ground := Ground.data }], guard := none } ?_ (fun _ => hHeld) rfl (by kernel_rfl) (fun _ _ _ h => h) (by rfl) ?_ ?_
                  rotate_left
                  · intro w; go_simp; try with_reducible rfl
                  try simp only [Act.put, List.setIfInBounds_toArray, List.set_cons_zero, List.set_cons_succ]
                  refine Kt.G.takeP 9 { dst := some 75, op := Op.extract (Operand.tmp 66) 1, type := 38, pos := "typist.go:115", after := #[{ on := 7, ground := Ground.data }, { on := 11, ground := Ground.gcOnly Departure.lateStores }], guard := none } ?_ (fun _ => hHeld) rfl (by kernel_rfl) (fun _ _ _ h => h) (by rfl) ?_ ?_
                  rotate_left
                  · intro w; go_simp; try with_reducible rfl
                  try simp only [Act.put, List.setIfInBounds_toArray, List.set_cons_zero, List.set_cons_succ]
              case' g13 =>
                have hk0 : wc.heap.size ≤ y3.heap.size := hHeld.bel.size
                try (have hne : ∀ k, (Value.slice A2 DL.length c2).ownBlock = some k → k ≠ y3.heap.size := fun k hk => by have := (HS2.out.lt k hk).2; omega)
                replace HS2 := Lib.hid (HS2.out.on (Kt.balloc (Below.refl _ y3) (.cells #[.int .u64 0, .int .u64 0, .int .u64 0, .int .u64 0, .bool false, .int .i64 0, .int .i64 0, .int .i64 0, .string ⟨#[]⟩] 37)))
                replace HA3 := Lib.hid (HA3.out.on (Kt.balloc (Below.refl _ y3) (.cells #[.int .u64 0, .int .u64 0, .int .u64 0, .int .u64 0, .bool false, .int .i64 0, .int .i64 0, .int .i64 0, .string ⟨#[]⟩] 37)))
                go_simp
                refine hK.out _ _ (fun _ => hHeld.alloc _) (fun hHeld => ?_)
                have hHeld := hHeld rfl
                clear hK K
                try simp only [Act.put, List.setIfInBounds_toArray, List.set_cons_zero, List.set_cons_succ]
                have rK := heap_alloc_new y3 (.cells #[.int .u64 0, .int .u64 0, .int .u64 0, .int .u64 0, .bool false, .int .i64 0, .int .i64 0, .int .i64 0, .string ⟨#[]⟩] 37)
                generalize hkZ : y3.heap.size = kZ at *
                clear hkZ
                generalize y3.alloc (.cells #[.int .u64 0, .int .u64 0, .int .u64 0, .int .u64 0, .bool false, .int .i64 0, .int .i64 0, .int .i64 0, .string ⟨#[]⟩] 37) = xk at *
                refine Kt.G.one 4 { dst := some 71, op := Op.call { callee := Callee.value (Operand.func 11), args := #[Operand.tmp 70], argTypes := #[22] }, type := 26, pos := "typist.go:115", after := #[{ on := 3, ground := Ground.data }, { on := 2, ground := Ground.chain }], guard := none } rfl (by kernel_rfl) (by rfl) (fun K hK => ?_)
                try (have hkk := lt_of_row0 rK)
                have hszz := hHeld.bel.size
                go_simp
                refine (press1_calls _ _ _ _ HA3.out).mono ?_; rintro en x4 ⟨A4, c4, rfl, hs4, hb4⟩
                refine hK.out _ _ (fun _ => hHeld.on hb4) (fun hHeld => ?_)
                have hHeld := hHeld rfl
                clear hK K
                try simp only [Act.put, List.setIfInBounds_toArray, List.set_cons_zero, List.set_cons_succ]
                replace rK := Kt.row_on (hb4) rK
                replace HS2 := Lib.hid (HS2.out.on (hb4))
                have HS4 := Lib.hid (hs4.mono hszz)
                try clear hkk
                clear hs4 hb4 hszz HA3
                refine Kt.G.one 5 { dst := some 72, op := Op.call { callee := Callee.builtin Builtin.append, args := #[Operand.tmp 69, Operand.tmp 71], argTypes := #[26, 26] }, type := 26, pos := "typist.go:115", after := #[{ on := 2, ground := Ground.data }, { on := 4, ground := Ground.data }, { on := 4, ground := Ground.chain }], guard := none } rfl (by kernel_rfl) (by rfl) (fun K hK => ?_)
                refine Kt.wp_append_ar (.tmp 69) (.tmp 71) 26 rfl wc.heap.size 31 (.agg #[.int .i64 0, .int .i64 0, .bool false, .int .i64 0]) 4 32 infoK Tryd.underlying26 rfl (by decide) _ _ _ rfl HS2.out _ _ _ rfl (Kt.Ar.of_sl HS4.out) (by first | exact sks_one _ | (intro u hu; simp only [List.mem_cons, List.not_mem_nil, or_false] at hu; rcases hu with rfl | rfl | rfl | rfl | rfl | rfl | rfl | rfl <;> rfl)) (by have := HDL.out; unfold maxLen; omega) (by have := HDL.out; omega) hHeld.bel.size ?_
                intro A5 c5 x5 hs5 hb5 hz5 hk5 hl5
                replace rK := (hk5 kZ (lt_of_row0 rK) (fun e => hne _ e rfl)).trans rK
                have hF5 := hHeld.onB hb5 (Nat.le_refl _) HRB.out
                try clear hne
                have HS5 : Hid (Kt.Sl x5 wc.heap.size 31 4 (.slice A5 (DL.length + 2) c5) (DL.length + 2) (sks DL ++ sks [⟨1, 42, true, 0⟩, ⟨1, 42, false, 0⟩])) := Lib.hid hs5
                refine hK.out _ _ (fun _ => hF5) (fun hHeld => ?_)
                have hHeld := hHeld rfl
                clear hK K
                try simp only [Act.put, List.setIfInBounds_toArray, List.set_cons_zero, List.set_cons_succ]
                clear hs5 hb5 hz5 hk5 hl5 hF5
                clear HS2 HS4
                refine Kt.G.one 6 { dst := some 73, op := Op.call { callee := Callee.value (Operand.func 12), args := #[Operand.tmp 67, Operand.tmp 72], argTypes := #[37, 26] }, type := 39, pos := "typist.go:115", after := #[{ on := 0, ground := Ground.data }, { on := 5, ground := Ground.data }, { on := 5, ground := Ground.chain }], guard := none } rfl (by kernel_rfl) (by rfl) (fun K hK => ?_)
                go_simp
                refine (HT11.out _ hHeld.bel _ _ _ HS5.out).mono ?_; rintro en x6 ⟨rfl, hb6⟩
                refine hK.out _ _ (fun _ => hHeld.on hb6) (fun hHeld => ?_)
                have hHeld := hHeld rfl
                clear hK K
                try simp only [Act.put, List.setIfInBounds_toArray, List.set_cons_zero, List.set_cons_succ]
                replace rK := Kt.row_on hb6 rK
                clear hb6 HS5
                refine Kt.G.takeP 7 { dst := some 66, op := Op.move (Operand.tmp 73), type := 39, pos := "typist.go:115", after := #[{ on := 6, ground := Ground.data }], guard := none } ?_ (fun _ => hHeld) rfl (by kernel_rfl) (fun _ _ _ h => h) (by rfl) ?_ ?_
                rotate_left
                · intro w; go_simp; try with_reducible rfl
                try simp only [Act.put, List.setIfInBounds_toArray, List.set_cons_zero, List.set_cons_succ]
                refine Kt.G.takeP 8 { dst := some 74, op := Op.extract (Operand.tmp 66) 0, type := 37, pos := "typist.go:115", after := #[{ on := 7, ground := Ground.data }], guard := none } ?_ (fun _ => hHeld) rfl (by kernel_rfl) (fun _ _ _ h => h) (by rfl) ?_ ?_
                rotate_left
                · intro w; go_simp; try with_reducible rfl
                try simp only [Act.put, List.setIfInBounds_toArray, List.set_cons_zero, List.set_cons_succ]
                refine Kt.G.takeP 9 { dst := some 75, op := Op.extract (Operand.tmp 66) 1, type := 38, pos := "typist.go:115", after := #[{ on := 7, ground := Ground.data }, { on := 11, ground := Ground.gcOnly Departure.lateStores }], guard := none } ?_ (fun _ => hHeld) rfl (by kernel_rfl) (fun _ _ _ h => h) (by rfl) ?_ ?_
                rotate_left
                · intro w; go_simp; try with_reducible rfl
                try simp only [Act.put, List.setIfInBounds_toArray, List.set_cons_zero, List.set_cons_succ]
            case' g11 =>
              have hk0 : wc.heap.size ≤ x2.heap.size := hHeld.bel.size
              try (have hne : ∀ k, (Value.slice A2 DL.length c2).ownBlock = some k → k ≠ x2.heap.size := fun k hk => by have := (HS2.out.lt k hk).2; omega)
              replace HS2 := Lib.hid (HS2.out.on (Kt.balloc (Below.refl _ x2) (.cells #[.int .u64 0, .int .u64 0, .int .u64 0, .int .u64 0, .bool false, .int .i64 0, .int .i64 0, .int .i64 0, .string ⟨#[]⟩] 37)))
              go_simp
              refine hK.out _ _ (fun _ => hHeld.alloc _) (fun hHeld => ?_)
              have hHeld := hHeld rfl
              clear hK K
              try simp only [Act.put, List.setIfInBounds_toArray, List.set_cons_zero, List.set_cons_succ]
              have rK := heap_alloc_new x2 (.cells #[.int .u64 0, .int .u64 0, .int .u64 0, .int .u64 0, .bool false, .int .i64 0, .int .i64 0, .int .i64 0, .string ⟨#[]⟩] 37)
              generalize hkZ : x2.heap.size = kZ at *
              clear hkZ
              generalize x2.alloc (.cells #[.int .u64 0, .int .u64 0, .int .u64 0, .int .u64 0, .bool false, .int .i64 0, .int .i64 0, .int .i64 0, .string ⟨#[]⟩] 37) = xk at *
              refine Kt.G.one 3 { dst := some 70, op := Op.buildSlice 22 1 #[(0, Operand.const (Value.int IntKind.i64 42))], type := 22, pos := "typist.go:115", after := #[], guard := none } rfl (by kernel_rfl) (by rfl) (fun K hK => ?_)
              go_simp
              refine hK.out _ _ (fun _ => hHeld.alloc _) (fun hHeld => ?_)
              have hHeld := hHeld rfl
              clear hK K
              try simp only [Act.put, List.setIfInBounds_toArray, List.set_cons_zero, List.set_cons_succ]
              have HA3 := Lib.hid (Kt.Ar.new xk #[.int .i64 42] 3 1 1 rfl)
              replace rK := Kt.row_on (Kt.balloc (Below.refl _ xk) (.cells #[.int .i64 42] 3)) rK
              replace HS2 := Lib.hid (HS2.out.on (Kt.balloc (Below.refl _ xk) (.cells #[.int .i64 42] 3)))
              generalize xk.alloc (.cells #[.int .i64 42] 3) = y3 at *
              refine Kt.G.one 4 { dst := some 71, op := Op.call { callee := Callee.value (Operand.func 11), args := #[Operand.tmp 70], argTypes := #[22] }, type := 26, pos := "typist.go:115", after := #[{ on := 3, ground := Ground.data }, { on := 2, ground := Ground.chain }], guard := none } rfl (by kernel_rfl) (by rfl) (fun K hK => ?_)
              try (have hkk := lt_of_row0 rK)
              have hszz := hHeld.bel.size
              go_simp
              refine (press1_calls _ _ _ _ HA3.out).mono ?_; rintro en x4 ⟨A4, c4, rfl, hs4, hb4⟩
              refine hK.out _ _ (fun _ => hHeld.on hb4) (fun hHeld => ?_)
              have hHeld := hHeld rfl
              clear hK K
              try simp only [Act.put, List.setIfInBounds_toArray, List.set_cons_zero, List.set_cons_succ]
              replace rK := Kt.row_on (hb4) rK
              replace HS2 := Lib.hid (HS2.out.on (hb4))
              have HS4 := Lib.hid (hs4.mono hszz)
              try clear hkk
              clear hs4 hb4 hszz HA3
              refine Kt.G.one 5 { dst := some 72, op := Op.call { callee := Callee.builtin Builtin.append, args := #[Operand.tmp 69, Operand.tmp 71], argTypes := #[26, 26] }, type := 26, pos := "typist.go:115", after := #[{ on := 2, ground := Ground.data }, { on := 4, ground := Ground.data }, { on := 4, ground := Ground.chain }], guard := none } rfl (by kernel_rfl) (by rfl) (fun K hK => ?_)
              refine Kt.wp_append_ar (.tmp 69) (.tmp 71) 26 rfl wc.heap.size 31 (.agg #[.int .i64 0, .int .i64 0, .bool false, .int .i64 0]) 4 32 infoK Tryd.underlying26 rfl (by decide) _ _ _ rfl HS2.out _ _ _ rfl (Kt.Ar.of_sl HS4.out) (by first | exact sks_one _ | (intro u hu; simp only [List.mem_cons, List.not_mem_nil, or_false] at hu; rcases hu with rfl | rfl | rfl | rfl | rfl | rfl | rfl | rfl <;> rfl)) (by have := HDL.out; unfold maxLen; omega) (by have := HDL.out; omega) hHeld.bel.size ?_
              intro A5 c5 x5 hs5 hb5 hz5 hk5 hl5
              replace rK := (hk5 kZ (lt_of_row0 rK) (fun e => hne _ e rfl)).trans rK
              have hF5 := hHeld.onB hb5 (Nat.le_refl _) HRB.out
              try clear hne
              have HS5 : Hid (Kt.Sl x5 wc.heap.size 31 4 (.slice A5 (DL.length + 2) c5) (DL.length + 2) (sks DL ++ sks [⟨1, 42, true, 0⟩, ⟨1, 42, false, 0⟩])) := Lib.hid hs5
              refine hK.out _ _ (fun _ => hF5) (fun hHeld => ?_)
              have hHeld := hHeld rfl
              clear hK K
              try simp only [Act.put, List.setIfInBounds_toArray, List.set_cons_zero, List.set_cons_succ]
              clear hs5 hb5 hz5 hk5 hl5 hF5
              clear HS2 HS4
              refine Kt.G.one 6 { dst := some 73, op := Op.call { callee := Callee.value (Operand.func 12), args := #[Operand.tmp 67, Operand.tmp 72], argTypes := #[37, 26] }, type := 39, pos := "typist.go:115", after := #[{ on := 0, ground := Ground.data }, { on := 5, ground := Ground.data }, { on := 5, ground := Ground.chain }], guard := none } rfl (by kernel_rfl) (by rfl) (fun K hK => ?_)
              go_simp
              refine (HT11.out _ hHeld.bel _ _ _ HS5.out).mono ?_; rintro en x6 ⟨rfl, hb6⟩
              refine hK.out _ _ (fun _ => hHeld.on hb6) (fun hHeld => ?_)
              have hHeld := hHeld rfl
              clear hK K
              try simp only [Act.put, List.setIfInBounds_toArray, List.set_cons_zero, List.set_cons_succ]
              replace rK := Kt.row_on hb6 rK
              clear hb6 HS5
              refine Kt.G.takeP 7 { dst := some 66, op := Op.move (Operand.tmp 73), type := 39, pos := "typist.go:115", after := #[{ on := 6, ground := Ground.data }], guard := none } ?_ (fun _ => hHeld) rfl (by kernel_rfl) (fun _ _ _ h => h) (by rfl) ?_ ?_
              rotate_left
              · intro w; go_simp; try with_reducible rfl
              try simp only [Act.put, List.setIfInBounds_toArray, List.set_cons_zero, List.set_cons_succ]
              refine Kt.G.takeP 8 { dst := some 74, op := Op.extract (Operand.tmp 66) 0, type := 37, pos := "typist.go:115", after := #[{ on := 7, ground := Ground.data }], guard := none } ?_ (fun _ => hHeld) rfl (by kernel_rfl) (fun _ _ _ h => h) (by rfl) ?_ ?_
              rotate_left
              · intro w; go_simp; try with_reducible rfl
              try simp only [Act.put, List.setIfInBounds_toArray, List.set_cons_zero, List.set_cons_succ]
              refine Kt.G.takeP 9 { dst := some 75, op := Op.extract (Operand.tmp 66) 1, type := 38, pos := "typist.go:115", after := #[{ on := 7, ground := Ground.data }, { on := 11, ground := Ground.gcOnly Departure.lateStores }], guard := none } ?_ (fun _ => hHeld) rfl (by kernel_rfl) (fun _ _ _ h => h) (by rfl) ?_ ?_
              rotate_left
              · intro w; go_simp; try with_reducible rfl
              try simp only [Act.put, List.setIfInBounds_toArray, List.set_cons_zero, List.set_cons_succ]
          case' g8 =>
            go_simp
            refine hK.out _ _ (fun _ => hHeld.alloc _) (fun hHeld => ?_)
            have hHeld := hHeld rfl
            clear hK K
            try simp only [Act.put, List.setIfInBounds_toArray, List.set_cons_zero, List.set_cons_succ]
            have HA3 := Lib.hid (Kt.Ar.new x0 #[.int .i64 42] 3 1 1 rfl)
            generalize x0.alloc (.cells #[.int .i64 42] 3) = y3 at *
            refine Kt.G.two 2 10 { dst := some 69, op := Op.call { callee := Callee.value (Operand.func 15), args := #[Operand.tmp 68], argTypes := #[26] }, type := 26, pos := "typist.go:115", after := #[{ on := 1, ground := Ground.data }], guard := none } { dst := some 14, op := Op.alloc 37, type := 0, pos := "typist.go:115", after := #[], guard := none } rfl rfl (by kernel_rfl) (by rfl) (by rfl) (fun K hK => ?g18) (fun K hK => ?g19)
            case' g18 =>
              try (have hkk := lt_of_row0 rK)
              have hszz := hHeld.bel.size
              go_simp
              refine (HCL.out _ hHeld.bel).mono ?_; rintro en x2 ⟨A2, c2, rfl, hs2, hb2⟩
              refine hK.out _ _ (fun _ => hHeld.on hb2) (fun hHeld => ?_)
              have hHeld := hHeld rfl
              clear hK K
              try simp only [Act.put, List.setIfInBounds_toArray, List.set_cons_zero, List.set_cons_succ]
              replace HA3 := Lib.hid (HA3.out.on (hb2))
              have HS2 := Lib.hid (hs2.mono hszz)
              try clear hkk
              clear hs2 hb2 hszz
              refine Kt.G.two 4 10 { dst := some 71, op := Op.call { callee := Callee.value (Operand.func 11), args := #[Operand.tmp 70], argTypes := #[22] }, type := 26, pos := "typist.go:115", after := #[{ on := 3, ground := Ground.data }, { on := 2, ground := Ground.chain }], guard := none } { dst := some 14, op := Op.alloc 37, type := 0, pos := "typist.go:115", after := #[], guard := none } rfl rfl (by kernel_rfl) (by rfl) (by rfl) (fun K hK => ?g20) (fun K hK => ?g21)
              case' g20 =>
                try (have hkk := lt_of_row0 rK)
                have hszz := hHeld.bel.size
                go_simp
                refine (press1_calls _ _ _ _ HA3.out).mono ?_; rintro en x4 ⟨A4, c4, rfl, hs4, hb4⟩
                refine hK.out _ _ (fun _ => hHeld.on hb4) (fun hHeld => ?_)
                have hHeld := hHeld rfl
                clear hK K
                try simp only [Act.put, List.setIfInBounds_toArray, List.set_cons_zero, List.set_cons_succ]
                replace HS2 := Lib.hid (HS2.out.on (hb4))
                have HS4 := Lib.hid (hs4.mono hszz)
                try clear hkk
                clear hs4 hb4 hszz HA3
                refine Kt.G.two 5 10 { dst := some 72, op := Op.call { callee := Callee.builtin Builtin.append, args := #[Operand.tmp 69, Operand.tmp 71], argTypes := #[26, 26] }, type := 26, pos := "typist.go:115", after := #[{ on := 2, ground := Ground.data }, { on := 4, ground := Ground.data }, { on := 4, ground := Ground.chain }], guard := none } { dst := some 14, op := Op.alloc 37, type := 0, pos := "typist.go:115", after := #[], guard := none } rfl rfl (by kernel_rfl) (by rfl) (by rfl) (fun K hK => ?g22) (fun K hK => ?g23)
                case' g22 =>
                  refine Kt.wp_append_ar (.tmp 69) (.tmp 71) 26 rfl wc.heap.size 31 (.agg #[.int .i64 0, .int .i64 0, .bool false, .int .i64 0]) 4 32 infoK Tryd.underlying26 rfl (by decide) _ _ _ rfl HS2.out _ _ _ rfl (Kt.Ar.of_sl HS4.out) (by first | exact sks_one _ | (intro u hu; simp only [List.mem_cons, List.not_mem_nil, or_false] at hu; rcases hu with rfl | rfl | rfl | rfl | rfl | rfl | rfl | rfl <;> rfl)) (by have := HDL.out; unfold maxLen; omega) (by have := HDL.out; omega) hHeld.bel.size ?_
                  intro A5 c5 x5 hs5 hb5 hz5 hk5 hl5
                  have hF5 := hHeld.onB hb5 (Nat.le_refl _) HRB.out
                  try clear hne
                  have HS5 : Hid (Kt.Sl x5 wc.heap.size 31 4 (.slice A5 (DL.length + 2) c5) (DL.length + 2) (sks DL ++ sks [⟨1, 42, true, 0⟩, ⟨1, 42, false, 0⟩])) := Lib.hid hs5
                  refine hK.out _ _ (fun _ => hF5) (fun hHeld => ?_)
                  have hHeld := hHeld rfl
                  clear hK K
                  try simp only [Act.put, List.setIfInBounds_toArray, List.set_cons_zero, List.set_cons_succ]
                  clear hs5 hb5 hz5 hk5 hl5 hF5
                  clear HS2 HS4
                  refine Kt.G.two 6 10 { dst := some 73, op := Op.call { callee := Callee.value (Operand.func 12), args := #[Operand.tmp 67, Operand.tmp 72], argTypes := #[37, 26] }, type := 39, pos := "typist.go:115", after := #[{ on := 0, ground := Ground.data }, { on := 5, ground := Ground.data }, { on := 5, ground := Ground.chain }], guard := none } { dst := some 14, op := Op.alloc 37, type := 0, pos := "typist.go:115", after := #[], guard := none } rfl rfl (by kernel_rfl) (by rfl) (by rfl) (fun K hK => ?g24) (fun K hK => ?g25)
                  case' g24 =>
                    go_simp
                    refine (HT11.out _ hHeld.bel _ _ _ HS5.out).mono ?_; rintro en x6 ⟨rfl, hb6⟩
                    refine hK.out _ _ (fun _ => hHeld.on hb6) (fun hHeld => ?_)
                    have hHeld := hHeld rfl
                    clear hK K
                    try simp only [Act.put, List.setIfInBounds_toArray, List.set_cons_zero, List.set_cons_succ]
                    clear hb6 HS5
                    refine Kt.G.takeP 7 { dst := some 66, op := Op.move (Operand.tmp 73), type := 39, pos := "typist.go:115", after := #[{ on := 6, ground := Ground.data }], guard := none } ?_ (fun _ => hHeld) rfl (by kernel_rfl) (fun _ _ _ h => h) (by rfl) ?_ ?_
                    rotate_left
                    · intro w; go_simp; try with_reducible rfl
                    try simp only [Act.put, List.setIfInBounds_toArray, List.set_cons_zero, List.set_cons_succ]
                    refine Kt.G.takeP 8 { dst := some 74, op := Op.extract (Operand.tmp 66) 0, type := 37, pos := "typist.go:115", after := #[{ on := 7, ground := Ground.data }], guard := none } ?_ (fun _ => hHeld) rfl (by kernel_rfl) (fun _ _ _ h => h) (by rfl) ?_ ?_
                    rotate_left
                    · intro w; go_simp; try with_reducible rfl
                    try simp only [Act.put, List.setIfInBounds_toArray, List.set_cons_zero, List.set_cons_succ]
                    refine Kt.G.takeP 9 { dst := some 75, op := Op.extract (Operand.tmp 66) 1, type := 38, pos := "typist.go:115", after := #[{ on := 7, ground := Ground.data }, { on := 11, ground := Ground.gcOnly Departure.lateStores }], guard := none } ?_ (fun _ => hHeld) rfl (by kernel_rfl) (fun _ _ _ h => h) (by rfl) ?_ ?_
                    rotate_left
                    · intro w; go_simp; try with_reducible rfl
                    try simp only [Act.put, List.setIfInBounds_toArray, List.set_cons_zero, List.set_cons_succ]
                    refine Kt.G.one 10 { dst := some 14, op := Op.alloc 37, type := 0, pos := "typist.go:115", after := #[], guard := none } rfl (by kernel_rfl) (by rfl) (fun K hK => ?_)
                    have hk0 : wc.heap.size ≤ x6.heap.size := hHeld.bel.size
                    try (have hne : ∀ k, (Value.slice A2 DL.length c2).ownBlock = some k → k ≠ x6.heap.size := fun k hk => by have := (HS2.out.lt k hk).2; omega)
                    go_simp
                    refine hK.out _ _ (fun _ => hHeld.alloc _) (fun hHeld => ?_)
                    have hHeld := hHeld rfl
                    clear hK K
                    try simp only [Act.put, List.setIfInBounds_toArray, List.set_cons_zero, List.set_cons_succ]
                    have rK := heap_alloc_new x6 (.cells #[.int .u64 0, .int .u64 0, .int .u64 0, .int .u64 0, .bool false, .int .i64 0, .int .i64 0, .int .i64 0, .string ⟨#[]⟩] 37)
                    generalize hkZ : x6.heap.size = kZ at *
                    clear hkZ
                    generalize x6.alloc (.cells #[.int .u64 0, .int .u64 0, .int .u64 0, .int .u64 0, .bool false, .int .i64 0, .int .i64 0, .int .i64 0, .string ⟨#[]⟩] 37) = xk at *
                  case' g25 =>
                    have hk0 : wc.heap.size ≤ x5.heap.size := hHeld.bel.size
                    try (have hne : ∀ k, (Value.slice A2 DL.length c2).ownBlock = some k → k ≠ x5.heap.size := fun k hk => by have := (HS2.out.lt k hk).2; omega)
                    replace HS5 := Lib.hid (HS5.out.on (Kt.balloc (Below.refl _ x5) (.cells #[.int .u64 0, .int .u64 0, .int .u64 0, .int .u64 0, .bool false, .int .i64 0, .int .i64 0, .int .i64 0, .string ⟨#[]⟩] 37)))
                    go_simp
                    refine hK.out _ _ (fun _ => hHeld.alloc _) (fun hHeld => ?_)
                    have hHeld := hHeld rfl
                    clear hK K
                    try simp only [Act.put, List.setIfInBounds_toArray, List.set_cons_zero, List.set_cons_succ]
                    have rK := heap_alloc_new x5 (.cells #[.int .u64 0, .int .u64 0, .int .u64 0, .int .u64 0, .bool false, .int .i64 0, .int .i64 0, .int .i64 0, .string ⟨#[]⟩] 37)
                    generalize hkZ : x5.heap.size = kZ at *
                    clear hkZ
                    generalize x5.alloc (.cells #[.int .u64 0, .int .u64 0, .int .u64 0, .int .u64 0, .bool false, .int .i64 0, .int .i64 0, .int .i64 0, .string ⟨#[]⟩] 37) = xk at *
                    refine Kt.G.one 6 { dst := some 73, op := Op.call { callee := Callee.value (Operand.func 12), args := #[Operand.tmp 67, Operand.tmp 72], argTypes := #[37, 26] }, type := 39, pos := "typist.go:115", after := #[{ on := 0, ground := Ground.data }, { on := 5, ground := Ground.data }, { on := 5, ground := Ground.chain }], guard := none } rfl (by kernel_rfl) (by rfl) (fun K hK => ?_)
                    go_simp
                    refine (HT11.out _ hHeld.bel _ _ _ HS5.out).mono ?_; rintro en x6 ⟨rfl, hb6⟩
                    refine hK.out _ _ (fun _ => hHeld.on hb6) (fun hHeld => ?_)
                    have hHeld := hHeld rfl
                    clear hK K
                    try simp only [Act.put, List.setIfInBounds_toArray, List.set_cons_zero, List.set_cons_succ]
                    replace rK := Kt.row_on hb6 rK
                    clear hb6 HS5
                    refine Kt.G.takeP 7 { dst := some 66, op := Op.move (Operand.tmp 73), type := 39, pos := "typist.go:115", after := #[{ on := 6, ground := Ground.data }], guard := none } ?_ (fun _ => hHeld) rfl (by kernel_rfl) (fun _ _ _ h => h) (by rfl) ?_ ?_
                    rotate_left
                    · intro w; go_simp; try with_reducible rfl
                    try simp only [Act.put, List.setIfInBounds_toArray, List.set_cons_zero, List.set_cons_succ]
                    refine Kt.G.takeP 8 { dst := some 74, op := Op.extract (Operand.tmp 66) 0, type := 37, pos := "typist.go:115", after := #[{ on := 7, ground := Ground.data }], guard := none } ?_ (fun _ => hHeld) rfl (by kernel_rfl) (fun _ _ _ h => h) (by rfl) ?_ ?_
                    rotate_left
                    · intro w; go_simp; try with_reducible rfl
                    try simp only [Act.put, List.setIfInBounds_toArray, List.set_cons_zero, List.set_cons_succ]
                    refine Kt.G.takeP 9 { dst := some 75, op := Op.extract (Operand.tmp 66) 1, type := 38, pos := "typist.go:115", after := #[{ on := 7, ground := Ground.data }, { on := 11, ground := Ground.gcOnly Departure.lateStores }], guard := none } ?_ (fun _ => hHeld) rfl (by kernel_rfl) (fun _ _ _ h => h) (by rfl) ?_ ?_
                    rotate_left
                    · intro w; go_simp; try with_reducible rfl
                    try simp only [Act.put, List.setIfInBounds_toArray, List.set_cons_zero, List.set_cons_succ]
                case' g23 =>
                  have hk0 : wc.heap.size ≤ x4.heap.size := hHeld.bel.size
                  try (have hne : ∀ k, (Value.slice A2 DL.length c2).ownBlock = some k → k ≠ x4.heap.size := fun k hk => by have := (HS2.out.lt k hk).2; omega)
                  replace HS2 := Lib.hid (HS2.out.on (Kt.balloc (Below.refl _ x4) (.cells #[.int .u64 0, .int .u64 0, .int .u64 0, .int .u64 0, .bool false, .int .i64 0, .int .i64 0, .int .i64 0, .string ⟨#[]⟩] 37)))
                  replace HS4 := Lib.hid (HS4.out.on (Kt.balloc (Below.refl _ x4) (.cells #[.int .u64 0, .int .u64 0, .int .u64 0, .int .u64 0, .bool false, .int .i64 0, .int .i64 0, .int .i64 0, .string ⟨#[]⟩] 37)))
                  go_simp
                  refine hK.out _ _ (fun _ => hHeld.alloc _) (fun hHeld => ?_)
                  have hHeld := hHeld rfl
                  clear hK K
                  try simp only [Act.put, List.setIfInBounds_toArray, List.set_cons_zero, List.set_cons_succ]
                  have rK := heap_alloc_new x4 (.cells #[.int .u64 0, .int .u64 0, .int .u64 0, .int .u64 0, .bool false, .int .i64 0, .int .i64 0, .int .i64 0, .string ⟨#[]⟩] 37)
                  generalize hkZ : x4.heap.size = kZ at *
                  clear hkZ
                  generalize x4.alloc (.cells #[.int .u64 0, .int .u64 0, .int .u64 0, .int .u64 0, .bool false, .int .i64 0, .int .i64 0, .int .i64 0, .string ⟨#[]⟩] 37) = xk at *
                  refine Kt.G.one 5 { dst := some 72, op := Op.call { callee := Callee.builtin Builtin.append, args := #[Operand.tmp 69, Operand.tmp 71], argTypes := #[26, 26] }, type := 26, pos := "typist.go:115", after := #[{ on := 2, ground := Ground.data }, { on := 4, ground := Ground.data }, { on := 4, ground := Ground.chain }], guard := none } rfl (by kernel_rfl) (by rfl) (fun K hK => ?_)
                  refine Kt.wp_append_ar (.tmp 69) (.tmp 71) 26 rfl wc.heap.size 31 (.agg #[.int .i64 0, .int .i64 0, .bool false, .int .i64 0]) 4 32 infoK Tryd.underlying26 rfl (by decide) _ _ _ rfl HS2.out _ _ _ rfl (Kt.Ar.of_sl HS4.out) (by first | exact sks_one _ | (intro u hu; simp only [List.mem_cons, List.not_mem_nil, or_false] at hu; rcases hu with rfl | rfl | rfl | rfl | rfl | rfl | rfl | rfl <;> rfl)) (by have := HDL.out; unfold maxLen; omega) (by have := HDL.out; omega) hHeld.bel.size ?_
                  intro A5 c5 x5 hs5 hb5 hz5 hk5 hl5
                  replace rK := (hk5 kZ (lt_of_row0 rK) (fun e => hne _ e rfl)).trans rK
                  have hF5 := hHeld.onB hb5 (Nat.le_refl _) HRB.out
                  try clear hne
                  have HS5 : Hid (Kt.Sl x5 wc.heap.size 31 4 (.slice A5 (DL.length + 2) c5) (DL.length + 2) (sks DL ++ sks [⟨1, 42, true, 0⟩, ⟨1, 42, false, 0⟩])) := Lib.hid hs5
                  refine hK.out _ _ (fun _ => hF5) (fun hHeld => ?_)
                  have hHeld := hHeld rfl
                  clear hK K
                  try simp only [Act.put, List.setIfInBounds_toArray, List.set_cons_zero, List.set_cons_succ]
                  clear hs5 hb5 hz5 hk5 hl5 hF5
                  clear HS2 HS4
                  refine Kt.G.one 6 { dst := some 73, op := Op.call { callee := Callee.value (Operand.func 12), args := #[Operand.tmp 67, Operand.tmp 72], argTypes := #[37, 26] }, type := 39, pos := "typist.go:115", after := #[{ on := 0, ground := Ground.data }, { on := 5, ground := Ground.data }, { on := 5, ground := Ground.chain }], guard := none } rfl (by kernel_rfl) (by rfl) (fun K hK => ?_)
                  go_simp
                  refine (HT11.out _ hHeld.bel _ _ _ HS5.out).mono ?_; rintro en x6 ⟨rfl, hb6⟩
                  refine hK.out _ _ (fun _ => hHeld.on hb6) (fun hHeld => ?_)
                  have hHeld := hHeld rfl
                  clear hK K
                  try simp only [Act.put, List.setIfInBounds_toArray, List.set_cons_zero, List.set_cons_succ]
                  replace rK := Kt.row_on hb6 rK
                  clear hb6 HS5
                  refine Kt.G.takeP 7 { dst := some 66, op := Op.move (Operand.tmp 73), type := 39, pos := "typist.go:115", after := #[{ on := 6, ground := Ground.data }], guard := none } ?_ (fun _ => hHeld) rfl (by kernel_rfl) (fun _ _ _ h => h) (by rfl) ?_ ?_
                  rotate_left
                  · intro w; go_simp; try with_reducible rfl
                  try simp only [Act.put, List.setIfInBounds_toArray, List.set_cons_zero, List.set_cons_succ]
                  refine Kt.G.takeP 8 { dst := some 74, op := Op.extract (Operand.tmp 66) 0, type := 37, pos := "typist.go:115", after := #[{ on := 7, ground := Ground.data }], guard := none } ?_ (fun _ => hHeld) rfl (by kernel_rfl) (fun _ _ _ h => h) (by rfl) ?_ ?_
                  rotate_left
                  · intro w; go_simp; try with_reducible rfl
                  try simp only [Act.put, List.setIfInBounds_toArray, List.set_cons_zero, List.set_cons_succ]
                  refine Kt.G.takeP 9 { dst := some 75, op := Op.extract (Operand.tmp 66) 1, type := 38, pos := "typist.go:115", after := #[{ on := 7, ground := Ground.data }, { on := 11, ground := Ground.gcOnly Departure.lateStores }], guard := none } ?_ (fun _ => hHeld) rfl (by kernel_rfl) (fun _ _ _ h => h) (by rfl) ?_ ?_
                  rotate_left
                  · intro w; go_simp; try with_reducible rfl
                  try simp only [Act.put, List.setIfInBounds_toArray, List.set_cons_zero, List.set_cons_succ]
              case' g21 =>
                have hk0 : wc.heap.size ≤ x2.heap.size := hHeld.bel.size
                try (have hne : ∀ k, (Value.slice A2 DL.length c2).ownBlock = some k → k ≠ x2.heap.size := fun k hk => by have := (HS2.out.lt k hk).2; omega)
                replace HS2 := Lib.hid (HS2.out.on (Kt.balloc (Below.refl _ x2) (.cells #[.int .u64 0, .int .u64 0, .int .u64 0, .int .u64 0, .bool false, .int .i64 0, .int .i64 0, .int .i64 0, .string ⟨#[]⟩] 37)))
                replace HA3 := Lib.hid (HA3.out.on (Kt.balloc (Below.refl _ x2) (.cells #[.int .u64 0, .int .u64 0, .int .u64 0, .int .u64 0, .bool false, .int .i64 0, .int .i64 0, .int .i64 0, .string ⟨#[]⟩] 37)))
                go_simp
                refine hK.out _ _ (fun _ => hHeld.alloc _) (fun hHeld => ?_)
                have hHeld := hHeld rfl
                clear hK K
                try simp only [Act.put, List.setIfInBounds_toArray, List.set_cons_zero, List.set_cons_succ]
                have rK := heap_alloc_new x2 (.cells #[.int .u64 0, .int .u64 0, .int .u64 0, .int .u64 0, .bool false, .int .i64 0, .int .i64 0, .int .i64 0, .string ⟨#[]⟩] 37)
                generalize hkZ : x2.heap.size = kZ at *
                clear hkZ
                generalize x2.alloc (.cells #[.int .u64 0, .int .u64 0, .int .u64 0, .int .u64 0, .bool false, .int .i64 0, .int .i64 0, .int .i64 0, .string ⟨#[]⟩] 37) = xk at *
                refine Kt.G.one 4 { dst := some 71, op := Op.call { callee := Callee.value (Operand.func 11), args := #[Operand.tmp 70], argTypes := #[22] }, type := 26, pos := "typist.go:115", after := #[{ on := 3, ground := Ground.data }, { on := 2, ground := Ground.chain }], guard := none } rfl (by kernel_rfl) (by rfl) (fun K hK => ?_)
                try (have hkk := lt_of_row0 rK)
                have hszz := hHeld.bel.size
                go_simp
                refine (press1_calls _ _ _ _ HA3.out).mono ?_; rintro en x4 ⟨A4, c4, rfl, hs4, hb4⟩
                refine hK.out _ _ (fun _ => hHeld.on hb4) (fun hHeld => ?_)
                have hHeld := hHeld rfl
                clear hK K
                try simp only [Act.put, List.setIfInBounds_toArray, List.set_cons_zero, List.set_cons_succ]
                replace rK := Kt.row_on (hb4) rK
                replace HS2 := Lib.hid (HS2.out.on (hb4))
                have HS4 := Lib.hid (hs4.mono hszz)
                try clear hkk
                clear hs4 hb4 hszz HA3
                refine Kt.G.one 5 { dst := some 72, op := Op.call { callee := Callee.builtin Builtin.append, args := #[Operand.tmp 69, Operand.tmp 71], argTypes := #[26, 26] }, type := 26, pos := "typist.go:115", after := #[{ on := 2, ground := Ground.data }, { on := 4, ground := Ground.data }, { on := 4, ground := Ground.chain }], guard := none } rfl (by kernel_rfl) (by rfl) (fun K hK => ?_)
                refine Kt.wp_append_ar (.tmp 69) (.tmp 71) 26 rfl wc.heap.size 31 (.agg #[.int .i64 0, .int .i64 0, .bool false, .int .i64 0]) 4 32 infoK Tryd.underlying26 rfl (by decide) _ _ _ rfl HS2.out _ _ _ rfl (Kt.Ar.of_sl HS4.out) (by first | exact sks_one _ | (intro u hu; simp only [List.mem_cons, List.not_mem_nil, or_false] at hu; rcases hu with rfl | rfl | rfl | rfl | rfl | rfl | rfl | rfl <;> rfl)) (by have := HDL.out; unfold maxLen; omega) (by have := HDL.out; omega) hHeld.bel.size ?_
                intro A5 c5 x5 hs5 hb5 hz5 hk5 hl5
                replace rK := (hk5 kZ (lt_of_row0 rK) (fun e => hne _ e rfl)).trans rK
                have hF5 := hHeld.onB hb5 (Nat.le_refl _) HRB.out
                try clear hne
                have HS5 : Hid (Kt.Sl x5 wc.heap.size 31 4 (.slice A5 (DL.length + 2) c5) (DL.length + 2) (sks DL ++ sks [⟨1, 42, true, 0⟩, ⟨1, 42, false, 0⟩])) := Lib.hid hs5
                refine hK.out _ _ (fun _ => hF5) (fun hHeld => ?_)
                have hHeld := hHeld rfl
                clear hK K
                try simp only [Act.put, List.setIfInBounds_toArray, List.set_cons_zero, List.set_cons_succ]
                clear hs5 hb5 hz5 hk5 hl5 hF5
                clear HS2 HS4
                refine Kt.G.one 6 { dst := some 73, op := Op.call { callee := Callee.value (Operand.func 12), args := #[Operand.tmp 67, Operand.tmp 72], argTypes := #[37, 26] }, type := 39, pos := "typist.go:115", after := #[{ on := 0, ground := Ground.data }, { on := 5, ground := Ground.data }, { on := 5, ground := Ground.chain }], guard := none } rfl (by kernel_rfl) (by rfl) (fun K hK => ?_)
                go_simp
                refine (HT11.out _ hHeld.bel _ _ _ HS5.out).mono ?_; rintro en x6 ⟨rfl, hb6⟩
                refine hK.out _ _ (fun _ => hHeld.on hb6) (fun hHeld => ?_)
                have hHeld := hHeld rfl
                clear hK K
                try simp only [Act.put, List.setIfInBounds_toArray, List.set_cons_zero, List.set_cons_succ]
                replace rK := Kt.row_on hb6 rK
                clear hb6 HS5
                refine Kt.G.takeP 7 { dst := some 66, op := Op.move (Operand.tmp 73), type := 39, pos := "typist.go:115", after := #[{ on := 6, ground := Ground.data }], guard := none } ?_ (fun _ => hHeld) rfl (by kernel_rfl) (fun _ _ _ h => h) (by rfl) ?_ ?_
                rotate_left
                · intro w; go_simp; try with_reducible rfl
                try simp only [Act.put, List.setIfInBounds_toArray, List.set_cons_zero, List.set_cons_succ]
                refine Kt.G.takeP 8 { dst := some 74, op := Op.extract (Operand.tmp 66) 0, type := 37, pos := "typist.go:115", after := #[{ on := 7, ground := Ground.data }], guard := none } ?_ (fun _ => hHeld) rfl (by kernel_rfl) (fun _ _ _ h => h) (by rfl) ?_ ?_
                rotate_left
                · intro w; go_simp; try with_reducible rfl
                try simp only [Act.put, List.setIfInBounds_toArray, List.set_cons_zero, List.set_cons_succ]
                refine Kt.G.takeP 9 { dst := some 75, op := Op.extract (Operand.tmp 66) 1, type := 38, pos := "typist.go:115", after := #[{ on := 7, ground := Ground.data }, { on := 11, ground := Ground.gcOnly Departure.lateStores }], guard := none } ?_ (fun _ => hHeld) rfl (by kernel_rfl) (fun _ _ _ h => h) (by rfl) ?_ ?_
                rotate_left
                · intro w; go_simp; try with_reducible rfl
                try simp only [Act.put, List.setIfInBounds_toArray, List.set_cons_zero, List.set_cons_succ]
            case' g19 =>
              have hk0 : wc.heap.size ≤ y3.heap.size := hHeld.bel.size
              try (have hne : ∀ k, (Value.slice A2 DL.length c2).ownBlock = some k → k ≠ y3.heap.size := fun k hk => by have := (HS2.out.lt k hk).2; omega)
              replace HA3 := Lib.hid (HA3.out.on (Kt.balloc (Below.refl _ y3) (.cells #[.int .u64 0, .int .u64 0, .int .u64 0, .int .u64 0, .bool false, .int .i64 0, .int .i64 0, .int .i64 0, .string ⟨#[]⟩] 37)))
              go_simp
              refine hK.out _ _ (fun _ => hHeld.alloc _) (fun hHeld => ?_)
              have hHeld := hHeld rfl
              clear hK K
              try simp only [Act.put, List.setIfInBounds_toArray, List.set_cons_zero, List.set_cons_succ]
              have rK := heap_alloc_new y3 (.cells #[.int .u64 0, .int .u64 0, .int .u64 0, .int .u64 0, .bool false, .int .i64 0, .int .i64 0, .int .i64 0, .string ⟨#[]⟩] 37)
              generalize hkZ : y3.heap.size = kZ at *
              clear hkZ
              generalize y3.alloc (.cells #[.int .u64 0, .int .u64 0, .int .u64 0, .int .u64 0, .bool false, .int .i64 0, .int .i64 0, .int .i64 0, .string ⟨#[]⟩] 37) = xk at *
              refine Kt.G.one 2 { dst := some 69, op := Op.call { callee := Callee.value (Operand.func 15), args := #[Operand.tmp 68], argTypes := #[26] }, type := 26, pos := "typist.go:115", after := #[{ on := 1, ground := Ground.data }], guard := none } rfl (by kernel_rfl) (by rfl) (fun K hK => ?_)
              try (have hkk := lt_of_row0 rK)
              have hszz := hHeld.bel.size
              go_simp
              refine (HCL.out _ hHeld.bel).mono ?_; rintro en x2 ⟨A2, c2, rfl, hs2, hb2⟩
              refine hK.out _ _ (fun _ => hHeld.on hb2) (fun hHeld => ?_)
              have hHeld := hHeld rfl
              clear hK K
              try simp only [Act.put, List.setIfInBounds_toArray, List.set_cons_zero, List.set_cons_succ]
              replace rK := Kt.row_on (hb2) rK
              replace HA3 := Lib.hid (HA3.out.on (hb2))
              try (have hne : ∀ k, (Value.slice A2 DL.length c2).ownBlock = some k → k ≠ kZ := fun k hk => by have := (hs2.lt k hk).1; omega)
              have HS2 := Lib.hid (hs2.mono hszz)
              try clear hkk
              clear hs2 hb2 hszz
              refine Kt.G.one 4 { dst := some 71, op := Op.call { callee := Callee.value (Operand.func 11), args := #[Operand.tmp 70], argTypes := #[22] }, type := 26, pos := "typist.go:115", after := #[{ on := 3, ground := Ground.data }, { on := 2, ground := Ground.chain }], guard := none } rfl (by kernel_rfl) (by rfl) (fun K hK => ?_)
              try (have hkk := lt_of_row0 rK)
              have hszz := hHeld.bel.size
              go_simp
              refine (press1_calls _ _ _ _ HA3.out).mono ?_; rintro en x4 ⟨A4, c4, rfl, hs4, hb4⟩
              refine hK.out _ _ (fun _ => hHeld.on hb4) (fun hHeld => ?_)
              have hHeld := hHeld rfl
              clear hK K
              try simp only [Act.put, List.setIfInBounds_toArray, List.set_cons_zero, List.set_cons_succ]
              replace rK := Kt.row_on (hb4) rK
              replace HS2 := Lib.hid (HS2.out.on (hb4))
              have HS4 := Lib.hid (hs4.mono hszz)
              try clear hkk
              clear hs4 hb4 hszz HA3
              refine Kt.G.one 5 { dst := some 72, op := Op.call { callee := Callee.builtin Builtin.append, args := #[Operand.tmp 69, Operand.tmp 71], argTypes := #[26, 26] }, type := 26, pos := "typist.go:115", after := #[{ on := 2, ground := Ground.data }, { on := 4, ground := Ground.data }, { on := 4, ground := Ground.chain }], guard := none } rfl (by kernel_rfl) (by rfl) (fun K hK => ?_)
              refine Kt.wp_append_ar (.tmp 69) (.tmp 71) 26 rfl wc.heap.size 31 (.agg #[.int .i64 0, .int .i64 0, .bool false, .int .i64 0]) 4 32 infoK Tryd.underlying26 rfl (by decide) _ _ _ rfl HS2.out _ _ _ rfl (Kt.Ar.of_sl HS4.out) (by first | exact sks_one _ | (intro u hu; simp only [List.mem_cons, List.not_mem_nil, or_false] at hu; rcases hu with rfl | rfl | rfl | rfl | rfl | rfl | rfl | rfl <;> rfl)) (by have := HDL.out; unfold maxLen; omega) (by have := HDL.out; omega) hHeld.bel.size ?_
              intro A5 c5 x5 hs5 hb5 hz5 hk5 hl5
              replace rK := (hk5 kZ (lt_of_row0 rK) (fun e => hne _ e rfl)).trans rK
              have hF5 := hHeld.onB hb5 (Nat.le_refl _) HRB.out
              try clear hne
              have HS5 : Hid (Kt.Sl x5 wc.heap.size 31 4 (.slice A5 (DL.length + 2) c5) (DL.length + 2) (sks DL ++ sks [⟨1, 42, true, 0⟩, ⟨1, 42, false, 0⟩])) := Lib.hid hs5
              refine hK.out _ _ (fun _ => hF5) (fun hHeld => ?_)
              have hHeld := hHeld rfl
              clear hK K
              try simp only [Act.put, List.setIfInBounds_toArray, List.set_cons_zero, List.set_cons_succ]
              clear hs5 hb5 hz5 hk5 hl5 hF5
              clear HS2 HS4
              refine Kt.G.one 6 { dst := some 73, op := Op.call { callee := Callee.value (Operand.func 12), args := #[Operand.tmp 67, Operand.tmp 72], argTypes := #[37, 26] }, type := 39, pos := "typist.go:115", after := #[{ on := 0, ground := Ground.data }, { on := 5, ground := Ground.data }, { on := 5, ground := Ground.chain }], guard := none } rfl (by kernel_rfl) (by rfl) (fun K hK => ?_)
              go_simp
              refine (HT11.out _ hHeld.bel _ _ _ HS5.out).mono ?_; rintro en x6 ⟨rfl, hb6⟩
              refine hK.out _ _ (fun _ => hHeld.on hb6) (fun hHeld => ?_)
              have hHeld := hHeld rfl
              clear hK K
              try simp only [Act.put, List.setIfInBounds_toArray, List.set_cons_zero, List.set_cons_succ]
              replace rK := Kt.row_on hb6 rK
              clear hb6 HS5
              refine Kt.G.takeP 7 { dst := some 66, op := Op.move (Operand.tmp 73), type := 39, pos := "typist.go:115", after := #[{ on := 6, ground := Ground.data }], guard := none } ?_ (fun _ => hHeld) rfl (by kernel_rfl) (fun _ _ _ h => h) (by rfl) ?_ ?_
              rotate_left
              · intro w; go_simp; try with_reducible rfl
              try simp only [Act.put, List.setIfInBounds_toArray, List.set_cons_zero, List.set_cons_succ]
              refine Kt.G.takeP 8 { dst := some 74, op := Op.extract (Operand.tmp 66) 0, type := 37, pos := "typist.go:115", after := #[{ on := 7, ground := Ground.data }], guard := none } ?_ (fun _ => hHeld) rfl (by kernel_rfl) (fun _ _ _ h => h) (by rfl) ?_ ?_
              rotate_left
              · intro w; go_simp; try with_reducible rfl
              try simp only [Act.put, List.setIfInBounds_toArray, List.set_cons_zero, List.set_cons_succ]
              refine Kt.G.takeP 9 { dst := some 75, op := Op.extract (Operand.tmp 66) 1, type := 38, pos := "typist.go:115", after := #[{ on := 7, ground := Ground.data }, { on := 11, ground := Ground.gcOnly Departure.lateStores }], guard := none } ?_ (fun _ => hHeld) rfl (by kernel_rfl) (fun _ _ _ h => h) (by rfl) ?_ ?_
              rotate_left
              · intro w; go_simp; try with_reducible rfl
              try simp only [Act.put, List.setIfInBounds_toArray, List.set_cons_zero, List.set_cons_succ]
          case' g9 =>
            have hk0 : wc.heap.size ≤ x0.heap.size := hHeld.bel.size
            try (have hne : ∀ k, (Value.slice A2 DL.length c2).ownBlock = some k → k ≠ x0.heap.size := fun k hk => by have := (HS2.out.lt k hk).2; omega)
            go_simp
            refine hK.out _ _ (fun _ => hHeld.alloc _) (fun hHeld => ?_)
            have hHeld := hHeld rfl
            clear hK K
            try simp only [Act.put, List.setIfInBounds_toArray, List.set_cons_zero, List.set_cons_succ]
            have rK := heap_alloc_new x0 (.cells #[.int .u64 0, .int .u64 0, .int .u64 0, .int .u64 0, .bool false, .int .i64 0, .int .i64 0, .int .i64 0, .string ⟨#[]⟩] 37)
            generalize hkZ : x0.heap.size = kZ at *
            clear hkZ
            generalize x0.alloc (.cells #[.int .u64 0, .int .u64 0, .int .u64 0, .int .u64 0, .bool false, .int .i64 0, .int .i64 0, .int .i64 0, .string ⟨#[]⟩] 37) = xk at *
            refine Kt.G.two 2 3 { dst := some 69, op := Op.call { callee := Callee.value (Operand.func 15), args := #[Operand.tmp 68], argTypes := #[26] }, type := 26, pos := "typist.go:115", after := #[{ on := 1, ground := Ground.data }], guard := none } { dst := some 70, op := Op.buildSlice 22 1 #[(0, Operand.const (Value.int IntKind.i64 42))], type := 22, pos := "typist.go:115", after := #[], guard := none } rfl rfl (by kernel_rfl) (by rfl) (by rfl) (fun K hK => ?g26) (fun K hK => ?g27)
            case' g26 =>
              try (have hkk := lt_of_row0 rK)
              have hszz := hHeld.bel.size
              go_simp
              refine (HCL.out _ hHeld.bel).mono ?_; rintro en x2 ⟨A2, c2, rfl, hs2, hb2⟩
              refine hK.out _ _ (fun _ => hHeld.on hb2) (fun hHeld => ?_)
              have hHeld := hHeld rfl
              clear hK K
              try simp only [Act.put, List.setIfInBounds_toArray, List.set_cons_zero, List.set_cons_succ]
              replace rK := Kt.row_on (hb2) rK
              try (have hne : ∀ k, (Value.slice A2 DL.length c2).ownBlock = some k → k ≠ kZ := fun k hk => by have := (hs2.lt k hk).1; omega)
              have HS2 := Lib.hid (hs2.mono hszz)
              try clear hkk
              clear hs2 hb2 hszz
              refine Kt.G.one 3 { dst := some 70, op := Op.buildSlice 22 1 #[(0, Operand.const (Value.int IntKind.i64 42))], type := 22, pos := "typist.go:115", after := #[], guard := none } rfl (by kernel_rfl) (by rfl) (fun K hK => ?_)
              go_simp
              refine hK.out _ _ (fun _ => hHeld.alloc _) (fun hHeld => ?_)
              have hHeld := hHeld rfl
              clear hK K
              try simp only [Act.put, List.setIfInBounds_toArray, List.set_cons_zero, List.set_cons_succ]
              have HA3 := Lib.hid (Kt.Ar.new x2 #[.int .i64 42] 3 1 1 rfl)
              replace rK := Kt.row_on (Kt.balloc (Below.refl _ x2) (.cells #[.int .i64 42] 3)) rK
              replace HS2 := Lib.hid (HS2.out.on (Kt.balloc (Below.refl _ x2) (.cells #[.int .i64 42] 3)))
              generalize x2.alloc (.cells #[.int .i64 42] 3) = y3 at *
              refine Kt.G.one 4 { dst := some 71, op := Op.call { callee := Callee.value (Operand.func 11), args := #[Operand.tmp 70], argTypes := #[22] }, type := 26, pos := "typist.go:115", after := #[{ on := 3, ground := Ground.data }, { on := 2, ground := Ground.chain }], guard := none } rfl (by kernel_rfl) (by rfl) (fun K hK => ?_)
              try (have hkk := lt_of_row0 rK)
              have hszz := hHeld.bel.size
              go_simp
              refine (press1_calls _ _ _ _ HA3.out).mono ?_; rintro en x4 ⟨A4, c4, rfl, hs4, hb4⟩
              refine hK.out _ _ (fun _ => hHeld.on hb4) (fun hHeld => ?_)
              have hHeld := hHeld rfl
              clear hK K
              try simp only [Act.put, List.setIfInBounds_toArray, List.set_cons_zero, List.set_cons_succ]
              replace rK := Kt.row_on (hb4) rK
              replace HS2 := Lib.hid (HS2.out.on (hb4))
              have HS4 := Lib.hid (hs4.mono hszz)
              try clear hkk
              clear hs4 hb4 hszz HA3
              refine Kt.G.one 5 { dst := some 72, op := Op.call { callee := Callee.builtin Builtin.append, args := #[Operand.tmp 69, Operand.tmp 71], argTypes := #[26, 26] }, type := 26, pos := "typist.go:115", after := #[{ on := 2, ground := Ground.data }, { on := 4, ground := Ground.data }, { on := 4, ground := Ground.chain }], guard := none } rfl (by kernel_rfl) (by rfl) (fun K hK => ?_)
              refine Kt.wp_append_ar (.tmp 69) (.tmp 71) 26 rfl wc.heap.size 31 (.agg #[.int .i64 0, .int .i64 0, .bool false, .int .i64 0]) 4 32 infoK Tryd.underlying26 rfl (by decide) _ _ _ rfl HS2.out _ _ _ rfl (Kt.Ar.of_sl HS4.out) (by first | exact sks_one _ | (intro u hu; simp only [List.mem_cons, List.not_mem_nil, or_false] at hu; rcases hu with rfl | rfl | rfl | rfl | rfl | rfl | rfl | rfl <;> rfl)) (by have := HDL.out; unfold maxLen; omega) (by have := HDL.out; omega) hHeld.bel.size ?_
              intro A5 c5 x5 hs5 hb5 hz5 hk5 hl5
              replace rK := (hk5 kZ (lt_of_row0 rK) (fun e => hne _ e rfl)).trans rK
              have hF5 := hHeld.onB hb5 (Nat.le_refl _) HRB.out
              try clear hne
              have HS5 : Hid (Kt.Sl x5 wc.heap.size 31 4 (.slice A5 (DL.length + 2) c5) (DL.length + 2) (sks DL ++ sks [⟨1, 42, true, 0⟩, ⟨1, 42, false, 0⟩])) := Lib.hid hs5
              refine hK.out _ _ (fun _ => hF5) (fun hHeld => ?_)
              have hHeld := hHeld rfl
              clear hK K
              try simp only [Act.put, List.setIfInBounds_toArray, List.set_cons_zero, List.set_cons_succ]
              clear hs5 hb5 hz5 hk5 hl5 hF5
              clear HS2 HS4
              refine Kt.G.one 6 { dst := some 73, op := Op.call { callee := Callee.value (Operand.func 12), args := #[Operand.tmp 67, Operand.tmp 72], argTypes := #[37, 26] }, type := 39, pos := "typist.go:115", after := #[{ on := 0, ground := Ground.data }, { on := 5, ground := Ground.data }, { on := 5, ground := Ground.chain }], guard := none } rfl (by kernel_rfl) (by rfl) (fun K hK => ?_)
              go_simp
              refine (HT11.out _ hHeld.bel _ _ _ HS5.out).mono ?_; rintro en x6 ⟨rfl, hb6⟩
              refine hK.out _ _ (fun _ => hHeld.on hb6) (fun hHeld => ?_)
              have hHeld := hHeld rfl
              clear hK K
              try simp only [Act.put, List.setIfInBounds_toArray, List.set_cons_zero, List.set_cons_succ]
              replace rK := Kt.row_on hb6 rK
              clear hb6 HS5
              refine Kt.G.takeP 7 { dst := some 66, op := Op.move (Operand.tmp 73), type := 39, pos := "typist.go:115", after := #[{ on := 6, ground := Ground.data }], guard := none } ?_ (fun _ => hHeld) rfl (by kernel_rfl) (fun _ _ _ h => h) (by rfl) ?_ ?_
              rotate_left
              · intro w; go_simp; try with_reducible rfl
              try simp only [Act.put, List.setIfInBounds_toArray, List.set_cons_zero, List.set_cons_succ]
              refine Kt.G.takeP 8 { dst := some 74, op := Op.extract (Operand.tmp 66) 0, type := 37, pos := "typist.go:115", after := #[{ on := 7, ground := Ground.data }], guard := none } ?_ (fun _ => hHeld) rfl (by kernel_rfl) (fun _ _ _ h => h) (by rfl) ?_ ?_
              rotate_left
              · intro w; go_simp; try with_reducible rfl
              try simp only [Act.put, List.setIfInBounds_toArray, List.set_cons_zero, List.set_cons_succ]
              refine Kt.G.takeP 9 { dst := some 75, op := Op.extract (Operand.tmp 66) 1, type := 38, pos := "typist.go:115", after := #[{ on := 7, ground := Ground.data }, { on := 11, ground := Ground.gcOnly Departure.lateStores }], guard := none } ?_ (fun _ => hHeld) rfl (by kernel_rfl) (fun _ _ _ h => h) (by rfl) ?_ ?_
              rotate_left
              · intro w; go_simp; try with_reducible rfl
              try simp only [Act.put, List.setIfInBounds_toArray, List.set_cons_zero, List.set_cons_succ]
            case' g27 =>
              go_simp
              refine hK.out _ _ (fun _ => hHeld.alloc _) (fun hHeld => ?_)
              have hHeld := hHeld rfl
              clear hK K
              try simp only [Act.put, List.setIfInBounds_toArray, List.set_cons_zero, List.set_cons_succ]
              have HA3 := Lib.hid (Kt.Ar.new xk #[.int .i64 42] 3 1 1 rfl)
              replace rK := Kt.row_on (Kt.balloc (Below.refl _ xk) (.cells #[.int .i64 42] 3)) rK
              generalize xk.alloc (.cells #[.int .i64 42] 3) = y3 at *
              refine Kt.G.one 2 { dst := some 69, op := Op.call { callee := Callee.value (Operand.func 15), args := #[Operand.tmp 68], argTypes := #[26] }, type := 26, pos := "typist.go:115", after := #[{ on := 1, ground := Ground.data }], guard := none } rfl (by kernel_rfl) (by rfl) (fun K hK => ?_)
              try (have hkk := lt_of_row0 rK)
              have hszz := hHeld.bel.size
              go_simp
              refine (HCL.out _ hHeld.bel).mono ?_; rintro en x2 ⟨A2, c2, rfl, hs2, hb2⟩
              refine hK.out _ _ (fun _ => hHeld.on hb2) (fun hHeld => ?_)
              have hHeld := hHeld rfl
              clear hK K
              try simp only [Act.put, List.setIfInBounds_toArray, List.set_cons_zero, List.set_cons_succ]
              replace rK := Kt.row_on (hb2) rK
              replace HA3 := Lib.hid (HA3.out.on (hb2))
              try (have hne : ∀ k, (Value.slice A2 DL.length c2).ownBlock = some k → k ≠ kZ := fun k hk => by have := (hs2.lt k hk).1; omega)
              have HS2 := Lib.hid (hs2.mono hszz)
              try clear hkk
              clear hs2 hb2 hszz
              refine Kt.G.one 4 { dst := some 71, op := Op.call { callee := Callee.value (Operand.func 11), args := #[Operand.tmp 70], argTypes := #[22] }, type := 26, pos := "typist.go:115", after := #[{ on := 3, ground := Ground.data }, { on := 2, ground := Ground.chain }], guard := none } rfl (by kernel_rfl) (by rfl) (fun K hK => ?_)
              try (have hkk := lt_of_row0 rK)
              have hszz := hHeld.bel.size
              go_simp
              refine (press1_calls _ _ _ _ HA3.out).mono ?_; rintro en x4 ⟨A4, c4, rfl, hs4, hb4⟩
              refine hK.out _ _ (fun _ => hHeld.on hb4) (fun hHeld => ?_)
              have hHeld := hHeld rfl
              clear hK K
              try simp only [Act.put, List.setIfInBounds_toArray, List.set_cons_zero, List.set_cons_succ]
              replace rK := Kt.row_on (hb4) rK
              replace HS2 := Lib.hid (HS2.out.on (hb4))
              have HS4 := Lib.hid (hs4.mono hszz)
              try clear hkk
              clear hs4 hb4 hszz HA3
              refine Kt.G.one 5 { dst := some 72, op := Op.call { callee := Callee.builtin Builtin.append, args := #[Operand.tmp 69, Operand.tmp 71], argTypes := #[26, 26] }, type := 26, pos := "typist.go:115", after := #[{ on := 2, ground := Ground.data }, { on := 4, ground := Ground.data }, { on := 4, ground := Ground.chain }], guard := none } rfl (by kernel_rfl) (by rfl) (fun K hK => ?_)
              refine Kt.wp_append_ar (.tmp 69) (.tmp 71) 26 rfl wc.heap.size 31 (.agg #[.int .i64 0, .int .i64 0, .bool false, .int .i64 0]) 4 32 infoK Tryd.underlying26 rfl (by decide) _ _ _ rfl HS2.out _ _ _ rfl (Kt.Ar.of_sl HS4.out) (by first | exact sks_one _ | (intro u hu; simp only [List.mem_cons, List.not_mem_nil, or_false] at hu; rcases hu with rfl | rfl | rfl | rfl | rfl | rfl | rfl | rfl <;> rfl)) (by have := HDL.out; unfold maxLen; omega) (by have := HDL.out; omega) hHeld.bel.size ?_
              intro A5 c5 x5 hs5 hb5 hz5 hk5 hl5
              replace rK := (hk5 kZ (lt_of_row0 rK) (fun e => hne _ e rfl)).trans rK
              have hF5 := hHeld.onB hb5 (Nat.le_refl _) HRB.out
              try clear hne
              have HS5 : Hid (Kt.Sl x5 wc.heap.size 31 4 (.slice A5 (DL.length + 2) c5) (DL.length + 2) (sks DL ++ sks [⟨1, 42, true, 0⟩, ⟨1, 42, false, 0⟩])) := Lib.hid hs5
              refine hK.out _ _ (fun _ => hF5) (fun hHeld => ?_)
              have hHeld := hHeld rfl
              clear hK K
              try simp only [Act.put, List.setIfInBounds_toArray, List.set_cons_zero, List.set_cons_succ]
              clear hs5 hb5 hz5 hk5 hl5 hF5
              clear HS2 HS4
              refine Kt.G.one 6 { dst := some 73, op := Op.call { callee := Callee.value (Operand.func 12), args := #[Operand.tmp 67, Operand.tmp 72], argTypes := #[37, 26] }, type := 39, pos := "typist.go:115", after := #[{ on := 0, ground := Ground.data }, { on := 5, ground := Ground.data }, { on := 5, ground := Ground.chain }], guard := none } rfl (by kernel_rfl) (by rfl) (fun K hK => ?_)
              go_simp
              refine (HT11.out _ hHeld.bel _ _ _ HS5.out).mono ?_; rintro en x6 ⟨rfl, hb6⟩
              refine hK.out _ _ (fun _ => hHeld.on hb6) (fun hHeld => ?_)
              have hHeld := hHeld rfl
              clear hK K
              try simp only [Act.put, List.setIfInBounds_toArray, List.set_cons_zero, List.set_cons_succ]
              replace rK := Kt.row_on hb6 rK
              clear hb6 HS5
              refine Kt.G.takeP 7 { dst := some 66, op := Op.move (Operand.tmp 73), type := 39, pos := "typist.go:115", after := #[{ on := 6, ground := Ground.data }], guard := none } ?_ (fun _ => hHeld) rfl (by kernel_rfl) (fun _ _ _ h => h) (by rfl) ?_ ?_
              rotate_left
              · intro w; go_simp; try with_reducible rfl
              try simp only [Act.put, List.setIfInBounds_toArray, List.set_cons_zero, List.set_cons_succ]
              refine Kt.G.takeP 8 { dst := some 74, op := Op.extract (Operand.tmp 66) 0, type := 37, pos := "typist.go:115", after := #[{ on := 7, ground := Ground.data }], guard := none } ?_ (fun _ => hHeld) rfl (by kernel_rfl) (fun _ _ _ h => h) (by rfl) ?_ ?_
              rotate_left
              · intro w; go_simp; try with_reducible rfl
              try simp only [Act.put, List.setIfInBounds_toArray, List.set_cons_zero, List.set_cons_succ]
              refine Kt.G.takeP 9 { dst := some 75, op := Op.extract (Operand.tmp 66) 1, type := 38, pos := "typist.go:115", after := #[{ on := 7, ground := Ground.data }, { on := 11, ground := Ground.gcOnly Departure.lateStores }], guard := none } ?_ (fun _ => hHeld) rfl (by kernel_rfl) (fun _ _ _ h => h) (by rfl) ?_ ?_
              rotate_left
              · intro w; go_simp; try with_reducible rfl
              try simp only [Act.put, List.setIfInBounds_toArray, List.set_cons_zero, List.set_cons_succ]
          all_goals
            refine Kt.G.one 11 { dst := none, op := Op.store 37 (Operand.tmp 14) (Operand.tmp 74), type := 0, pos := "typist.go:115", after := #[{ on := 10, ground := Ground.data }, { on := 8, ground := Ground.data }, { on := 6, ground := Ground.chain }, { on := 0, ground := Ground.phase }, { on := 1, ground := Ground.phase }, { on := 2, ground := Ground.phase }, { on := 3, ground := Ground.phase }, { on := 4, ground := Ground.phase }, { on := 5, ground := Ground.phase }, { on := 6, ground := Ground.phase }, { on := 7, ground := Ground.phase }, { on := 8, ground := Ground.phase }, { on := 9, ground := Ground.textOnly Departure.lateStores }, { on := 10, ground := Ground.phase }], guard := none } rfl (by kernel_rfl) (by rfl) (fun K hK => ?_)
            have cK := fun i => cell_of_row _ _ i _ _ _ rK; have fK := fun i => frozen_of_row _ _ i _ _ rK
            go_simp
            refine hK.out _ _ (Kt.G.late (by kernel_rfl)) (fun _ => ?_)
            clear hK K
            try simp only [Act.put, List.setIfInBounds_toArray, List.set_cons_zero, List.set_cons_succ]
            refine Kt.G.takeP 12 { dst := some 15, op := Op.assign (Operand.tmp 75), type := 38, pos := "typist.go:115", after := #[{ on := 9, ground := Ground.data }, { on := 11, ground := Ground.chain }, { on := 0, ground := Ground.phase }, { on := 1, ground := Ground.phase }, { on := 2, ground := Ground.phase }, { on := 3, ground := Ground.phase }, { on := 4, ground := Ground.phase }, { on := 5, ground := Ground.phase }, { on := 6, ground := Ground.phase }, { on := 7, ground := Ground.phase }, { on := 8, ground := Ground.phase }, { on := 9, ground := Ground.phase }, { on := 10, ground := Ground.phase }, { on := 11, ground := Ground.phase }], guard := none } ?_ (Kt.G.late (by kernel_rfl)) rfl (by kernel_rfl) (fun _ _ _ h => h) (by rfl) ?_ ?_
            rotate_left
            · intro w; go_simp; try with_reducible rfl
            try simp only [Act.put, List.setIfInBounds_toArray, List.set_cons_zero, List.set_cons_succ]
            refine Kt.G.done (by kernel_rfl) (NoPanic.normal ?_) _
            go_wp2_with fail
            go_meet
            case rel =>
              exact ⟨kZ, rfl, rfl, Kt.fill [.int .u64 (V.held.a.toNat : Int), .int .u64 (V.held.b.toNat : Int), .int .u64 (V.held.c.toNat : Int), .int .u64 (V.held.d.toNat : Int), .bool V.caps, .int .i64 V.dead, .int .i64 V.last, .int .i64 V.wait, .string V.text] rK rfl, set9 hHeld.bel hk0 [.int .u64 (V.held.a.toNat : Int), .int .u64 (V.held.b.toNat : Int), .int .u64 (V.held.c.toNat : Int), .int .u64 (V.held.d.toNat : Int), .bool V.caps, .int .i64 V.dead, .int .i64 V.last, .int .i64 V.wait, .string V.text]⟩
          -- END11
        case rest =>
          obtain ⟨kV, rfl, rfl, hrv, hbv⟩ := hcut
          have HW12 := Lib.hid (show wc.heap[kT]? = some (.cells T.cs 37 (0, 0)) ∧ wc.heap[kU]? = some (.cells U.cs 37 (0, 0)) ∧ wc.heap[kV]? = some (.cells V.cs 37 (0, 0)) ∧ Below w0.heap.size w0 wc from ⟨Kt.row_on hbv HW11.out.1, Kt.row_on hbv HW11.out.2.1, hrv, Kt.bthen HW11.out.2.2.2 hbv⟩)
          clear hrv hbv HW11 HT11 HCL HRB HTY HTZ HRES HLV HT
          obtain ⟨t1, t2, t3, t4, t5, t6⟩ := HTX.out
          obtain ⟨z, hz⟩ : ∃ z, decide (accdP (accN two) (S1.data.toList.getD 0 0) = ByteArray.empty) = z := ⟨_, rfl⟩
          rw [hz] at t5
          have h3 : U.text = if z then accP (accN two) else ⟨#[]⟩ := by
            rw [t3, ← hz]
            by_cases q : accdP (accN two) (S1.data.toList.getD 0 0) = ByteArray.empty
            · rw [if_pos q, if_pos (decide_eq_true q)]
            · rw [if_neg q, if_neg (by rw [decide_eq_false q]; decide)]; rfl
          have HRC := Lib.hid (fun W => Tryd.utf8_RuneCountInString WN W (by omega))
          obtain ⟨RC, hRC⟩ : ∃ r, Lib.runeCount WN = r := ⟨_, rfl⟩
          rw [hRC] at HRC t5
          have h2 : ((RC : Int) == 2) = z := by
            rw [← t5, Bool.eq_iff_iff, beq_iff_eq, beq_iff_eq]; omega
          have HX := Lib.hid (And.intro t1 (And.intro t2 (And.intro h3 t4)))
          have HZ := Lib.hid h2
          clear HTX t1 t2 t3 t4 t5 t6 hz h3 hRC h2
          go_wp2_with fail
          refine (HRC.out _).mono ?_; rintro e w13 ⟨rfl, pos, rfl⟩
          have hbi : Below wc.heap.size wc (wc.iter WN pos) := Kt.balloc (Below.refl _ wc) _
          have HW13 := Lib.hid (And.intro (Kt.row_on hbi HW12.out.1) (And.intro (Kt.row_on hbi HW12.out.2.1) (And.intro (Kt.row_on hbi HW12.out.2.2.1) (Kt.bthen HW12.out.2.2.2 hbi))))
          clear hbi HW12 HRC
          generalize wc.iter WN pos = w14 at *
          have h2 := HZ.out
          cases z
          · have hr1 := HW13.out.1
            have hr2 := HW13.out.2.1
            have hr3 := HW13.out.2.2.1
            unfold St.cs at hr1 hr2 hr3
            rw [HX.out.1, HX.out.2.1] at hr1
            rw [HX.out.2.2.1] at hr2
            rw [HX.out.2.2.2] at hr3
            simp only [Bool.false_eq_true, if_false] at hr2
            have q1 := fun i => cell_of_row _ _ i _ _ _ hr1
            have q2 := fun i => cell_of_row _ _ i _ _ _ hr2
            have q3 := fun i => cell_of_row _ _ i _ _ _ hr3
            clear hr1 hr2 hr3
            go_wp2_with fail
            go_ret
            exact ⟨rfl, HW13.out.2.2.2⟩
          · cases two
            · go_wp2_with fail
              refine (acc_empty 1 (.inl rfl) _).mono ?_; rintro e w15 ⟨rfl, hb⟩
              have hr1 := Kt.row_on hb HW13.out.1
              have hr2 := Kt.row_on hb HW13.out.2.1
              have hr3 := Kt.row_on hb HW13.out.2.2.1
              have HB15 := Lib.hid (Kt.bthen HW13.out.2.2.2 hb)
              unfold St.cs at hr1 hr2 hr3
              rw [HX.out.1, HX.out.2.1] at hr1
              rw [HX.out.2.2.1] at hr2
              rw [HX.out.2.2.2] at hr3
              simp only [if_true, accN, Bool.false_eq_true, if_false] at hr2
              obtain ⟨AP, hAP⟩ : ∃ x, accP 1 = x := ⟨_, rfl⟩
              rw [hAP] at hr2 ⊢
              have q1 := fun i => cell_of_row _ _ i _ _ _ hr1
              have q2 := fun i => cell_of_row _ _ i _ _ _ hr2
              have q3 := fun i => cell_of_row _ _ i _ _ _ hr3
              clear hr1 hr2 hr3 hb hAP
              go_wp2_with fail
              go_ret
              exact ⟨rfl, HB15.out⟩
            · go_wp2_with fail
              refine (acc_empty 1 (.inl rfl) _).mono ?_; rintro e w15 ⟨rfl, hb⟩
              have HW15 := Lib.hid (And.intro (Kt.row_on hb HW13.out.1) (And.intro (Kt.row_on hb HW13.out.2.1) (And.intro (Kt.row_on hb HW13.out.2.2.1) (Kt.bthen HW13.out.2.2.2 hb))))
              clear hb HW13
              go_wp2_with fail
              refine (acc_empty 2 (.inr rfl) _).mono ?_; rintro e w16 ⟨rfl, hb⟩
              have hr1 := Kt.row_on hb HW15.out.1
              have hr2 := Kt.row_on hb HW15.out.2.1
              have hr3 := Kt.row_on hb HW15.out.2.2.1
              have HB16 := Lib.hid (Kt.bthen HW15.out.2.2.2 hb)
              unfold St.cs at hr1 hr2 hr3
              rw [HX.out.1, HX.out.2.1] at hr1
              rw [HX.out.2.2.1] at hr2
              rw [HX.out.2.2.2] at hr3
              simp only [if_true, accN] at hr2
              obtain ⟨AP, hAP⟩ : ∃ x, accP 2 = x := ⟨_, rfl⟩
              rw [hAP] at hr2 ⊢
              have q1 := fun i => cell_of_row _ _ i _ _ _ hr1
              have q2 := fun i => cell_of_row _ _ i _ _ _ hr2
              have q3 := fun i => cell_of_row _ _ i _ _ _ hr3
              clear hr1 hr2 hr3 hb hAP
              go_wp2_with fail
              go_ret
              exact ⟨rfl, HB16.out⟩
theorem accents_walk (v0 v1 : Value) (w : World) (hT : Lib.Utf8Tabs 0 1 w) (r0 : Fr.RdV w reachBytes (.int .i64) v0) (r1 : Fr.RdV w reachBytes .bool v1) :
    Calls Tryd.prog 7 #[v0, v1] w fun e w' => e = .returned (.bool true) ∧ Below w.heap.size w w' := by
  obtain ⟨c, e0, _⟩ := r0; cases e0
  obtain ⟨two, e1⟩ := r1; cases e1
  exact accents_calls c two w (fun W hW => Utf8Tabs_below hT hW)
end Go.Proofs.YtndkaehbmdiofaaDoor
