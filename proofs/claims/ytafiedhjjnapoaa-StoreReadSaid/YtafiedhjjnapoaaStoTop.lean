/- Texts of general use, one behind the other. -/
import Derived.Test.YtafiedhjjnapoaaStoE
import Derived.Test.YtafiedhjjnapoaaEq
import Derived.Test.YtafiedhjjnapoaaSlm
import Derived.Deep.MidRow
import Derived.Test.YtafiedhjjnapoaaScsN
import Derived.Test.YtafiedhjjnapoaaFr
import Derived.Test.YtafiedhjjnapoaaScsK
/- The walks of package store: portions that are read. -/
namespace Go.Proofs.Ytafiedhjjnapoaa
open Go.RowKit Go.Shelf Go.Proofs.Ytafiedhjjnapoaa.Scs Go.Proofs.Ytafiedhjjnapoaa.Blk Go.Proofs.Ytafiedhjjnapoaa.Sto
set_option maxRecDepth 100000 in
set_option maxHeartbeats 6400000 in
theorem por_read_calls (l0 : Ln) (A0 : Option Addr) (c0 : Nat) (FA : Option Addr) (fc : Nat) (fs : List Int) (a cnt : Nat) (w : World) (hA : DkA w A0 c0 l0.bs) (hF : Kt.Ar w (.slice FA fs.length fc) 1 fs.length (ics fs)) (ho : OkL l0) (hf : OkF fs)
    (hl : a + cnt ≤ l0.bs.length) :
    Calls Try.prog 25 #[lkV A0 c0 l0, .int .i64 40, .int .i64 (a : Int), .int .i64 (cnt : Int), .string ⟨#[]⟩, .slice FA fs.length fc] w fun e w' => ∃ A' c', e = .returned (.tuple #[lkV A' c' (por false a cnt ⟨#[]⟩ fs cnt l0 ByteArray.empty 0 0).l, .string (por false a cnt ⟨#[]⟩ fs cnt l0 ByteArray.empty 0 0).t, .agg #[.int .i64 (por false a cnt ⟨#[]⟩ fs cnt l0 ByteArray.empty 0 0).c, .int .i64 ((por false a cnt ⟨#[]⟩ fs cnt l0 ByteArray.empty 0 0).d : Nat), .int .i64 ((por false a cnt ⟨#[]⟩ fs cnt l0 ByteArray.empty 0 0).u : Nat)]]) ∧
      ((A' = A0 ∧ c' = c0 ∧ (por false a cnt ⟨#[]⟩ fs cnt l0 ByteArray.empty 0 0).l.bs = l0.bs) ∨ DkS w' w.heap.size A' c' (por false a cnt ⟨#[]⟩ fs cnt l0 ByteArray.empty 0 0).l.bs) ∧ Below w.heap.size w w' := by
  have h64 := ho.d.n2
  obtain ⟨L, hL⟩ : ∃ L, L = l0.bs.length := ⟨_, rfl⟩
  obtain ⟨O, hO⟩ : ∃ O, O = por false a cnt ⟨#[]⟩ fs cnt l0 ByteArray.empty 0 0 := ⟨_, rfl⟩
  have HO := Lib.hid hO
  have HOK := Lib.hid ho
  have HF := Lib.hid hF
  have HFS := Lib.hid hf
  have HP0 := Lib.hid (PB.start w A0 c0 l0)
  have HA := Lib.hid hA
  rw [← hO]
  rw [← hL] at hl h64
  have HL := Lib.hid hL
  clear hO ho hF hf hA hL
  unfold lkV
  go_enter Try.func25, Try.ntmps25
  go_upto_region 3 with (fail)
  go_loopw [16] (fun t wr => ∃ (k d u : Nat) (l : Ln) (A : Option Addr) (c : Nat) (tt : ByteArray), t = .string tt ∧ OkL l ∧ l.bs.length = L ∧ d ≤ cnt ∧ cnt ≤ d + k ∧ u ≤ fs.length ∧ tt.size ≤ d * 16 ∧ PB w A c l 0 (d : Int) (u : Int) wr ∧ QB w A0 c0 l0.bs A c l.bs wr ∧ por false a cnt ⟨#[]⟩ fs k l tt d u = O) (fun _ wr => cnt - dOf (w.heap.size + 1 + 1 + 1) wr)
  case atStart => exact ⟨cnt, 0, 0, l0, A0, c0, ByteArray.empty, rfl, HOK.out, HL.out.symm, Nat.zero_le _, by omega, Nat.zero_le _, Nat.zero_le _, HP0.out, .inl ⟨rfl, rfl, rfl⟩, HO.out.symm⟩
  case round =>
    clear HP0 HO HOK
    obtain ⟨k, d, u, l, A, c, tt, rfl, hok, hlen, hdc, hck, hu, htt, hpb, hqb, hpor⟩ := hrel
    have HOK := Lib.hid hok
    have HLN := Lib.hid hlen
    have HPB := Lib.hid hpb
    have HQB := Lib.hid hqb
    have HPOR := Lib.hid hpor
    have HMS := Lib.hid hpb.dOf'
    have q3 := fun i => cell_of_row _ _ i _ _ _ hpb.r3
    have hfn := HFS.out.n
    clear hok hlen hpb hqb hpor
    by_cases hlt : d < cnt
    · have hlti : (d : Int) < (cnt : Int) := by omega
      obtain ⟨n, hn⟩ : ∃ n, n = min 4 (cnt - d) := ⟨_, rfl⟩
      have hmin : min 4 ((cnt : Int) - (d : Int)) = (n : Int) := by omega
      have n1 : 1 ≤ n := by omega
      have n4 : n ≤ 4 := by omega
      have hdn : d + n ≤ cnt := by omega
      obtain ⟨M, hM⟩ : ∃ M, M = mk 40 (a + d) n := ⟨_, rfl⟩
      have HM := Lib.hid (fun W => make_calls40 ((a + d : Nat) : Int) ((n : Nat) : Int) ⟨by omega, by omega, by omega, by omega⟩ W)
      rw [Int.toNat_natCast, Int.toNat_natCast, ← hM] at HM
      have HM1 := Lib.hid hM
      have HN1 := Lib.hid hn
      clear hn hM
      go_wp2_with fail
      refine (HM.out _).mono ?_
      rintro e w1 ⟨rfl, hb⟩
      replace HPB := Lib.hid (HPB.out.on hb)
      replace HQB := Lib.hid (HQB.out.on hb)
      clear hb q3 HM hmin
      have q3 := fun i => cell_of_row _ _ i _ _ _ HPB.out.r3
      have hlt1 := HPB.out.lt
      go_upto_region 12 with (fail)
      have HG20 : Hid (w.heap.size + 3 < w1.heap.size) := Lib.hid HPB.out.lt
      have HRW : Hid ((w1.alloc (.cells #[.int .i64 0, .int .i64 ((n : Int) * 16), .bool true, .int .i64 0, .string M] 75)).heap[w1.heap.size]? = some (.cells #[.int .i64 0, .int .i64 ((n : Int) * 16), .bool true, .int .i64 0, .string M] 75 (0, 0))) := Lib.hid (heap_alloc_new w1 _)
      replace HPB := Lib.hid (HPB.out.on (Kt.balloc (Below.refl _ w1) (.cells #[.int .i64 0, .int .i64 ((n : Int) * 16), .bool true, .int .i64 0, .string M] 75)))
      replace HQB := Lib.hid (HQB.out.on (Kt.balloc (Below.refl _ w1) (.cells #[.int .i64 0, .int .i64 ((n : Int) * 16), .bool true, .int .i64 0, .string M] 75)))
      obtain ⟨g20, hg20⟩ : ∃ g, g = w1.heap.size := ⟨_, rfl⟩
      rw [← hg20] at HG20 HRW hlt1 ⊢
      clear q3 hg20
      generalize w1.alloc (.cells #[.int .i64 0, .int .i64 ((n : Int) * 16), .bool true, .int .i64 0, .string M] 75) = W2 at *
      obtain ⟨T0, hT0⟩ : ∃ T, T = tries false (a + d) n ByteArray.empty 2 l (fs.drop u) := ⟨_, rfl⟩
      have HT0 := Lib.hid hT0
      clear hT0
      go_loopw [16, 22] (fun tx tr wr => ∃ (j u' : Nat) (l' : Ln) (A' : Option Addr) (c' : Nat), tx = .string tt ∧ tr = .int .i64 (j : Int) ∧ j ≤ 2 ∧ OkL l' ∧ l'.bs.length = L ∧ u' ≤ fs.length ∧ PB w A' c' l' 0 (d : Int) (u' : Int) wr ∧ QB w A0 c0 l0.bs A' c' l'.bs wr ∧
        wr.heap[g20]? = some (.cells #[.int .i64 0, .int .i64 ((n : Int) * 16), .bool true, .int .i64 0, .string M] 75 (0, 0)) ∧
        (tries false (a + d) n ByteArray.empty (2 - j) l' (fs.drop u')).l = T0.l ∧ (tries false (a + d) n ByteArray.empty (2 - j) l' (fs.drop u')).t = T0.t ∧ (tries false (a + d) n ByteArray.empty (2 - j) l' (fs.drop u')).c = T0.c ∧ u' + (tries false (a + d) n ByteArray.empty (2 - j) l' (fs.drop u')).u = u + T0.u) (fun _ tr _ => 3 - (intOf tr).toNat)
      case atStart => exact ⟨0, u, l, A, c, rfl, rfl, by omega, HOK.out, HLN.out, hu, HPB.out, HQB.out, HRW.out, by rw [HT0.out], by rw [HT0.out], by rw [HT0.out], by rw [HT0.out]⟩
      case round =>
        clear HPB HQB HRW
        obtain ⟨j, u', l', A', c', rfl, rfl, hj, hok', hln', hu', hpb, hqb, hrw, t1, t2, t3, t4⟩ := hrel
        have HPB := Lib.hid hpb
        have HQB := Lib.hid hqb
        have HRW := Lib.hid hrw
        have HTR := Lib.hid (And.intro t1 (And.intro t2 (And.intro t3 t4)))
        have HOK' := Lib.hid hok'
        have HLN' := Lib.hid hln'
        obtain ⟨wr2, hwr2⟩ : ∃ x, x = wr := ⟨_, rfl⟩
        rw [← hwr2] at HPB HQB HRW ⊢
        clear hok' hln' hpb hqb hrw t1 t2 t3 t4 hwr2
        obtain ⟨R, hR⟩ : ∃ R, R = cyc false (a + d) n ByteArray.empty l' (fs.drop u') := ⟨_, rfl⟩
        have HR := Lib.hid hR
        obtain ⟨FX, hFX⟩ : ∃ x, (if fc = u' then FA else Option.map (fun x => x.add u') FA) = x := ⟨_, rfl⟩
        have HFX : Hid (Kt.Ar w (.slice FX (fs.length - u') (fc - u')) 1 (fs.length - u') (ics (fs.drop u'))) := Lib.hid (by
          have := fates_from (w0 := w) (FA := FA) (fc := fc) (fs := fs) (u := 0) (k := u') (by simpa using HF.out) (by omega)
          rw [Nat.zero_add, hFX] at this
          exact this)
        have HCY : Hid (∀ (A : Option Addr) (c : Nat) (FA : Option Addr) (fc : Nat) (W : World), DkA W A c l'.bs → Kt.Ar W (.slice FA (fs.length - u') fc) 1 (fs.length - u') (ics (fs.drop u')) →
            Calls Try.prog 41 #[.agg #[.slice A l'.bs.length c, .int .i64 l'.s, .int .i64 l'.tag], .agg #[.int .i64 0, .int .i64 ((n : Int) * 16), .bool true, .int .i64 0, .string M], .string ⟨#[]⟩, .slice FA (fs.length - u') fc] W fun e w' => ∃ A2 c2, e = .returned (.tuple #[.agg #[.slice A2 R.l.bs.length c2, .int .i64 R.l.s, .int .i64 R.l.tag], .string R.t, .agg #[.int .i64 R.c, .int .i64 0, .int .i64 (R.u : Int)]]) ∧ DkS w' W.heap.size A2 c2 R.l.bs ∧ Below W.heap.size W w') := Lib.hid (fun A c FA fc W hA hF => by
          have := cycle_read l' A c FA fc (fs.drop u') (a + d) n 0 W hA (by rw [List.length_drop]; exact hF) HOK'.out ⟨by rw [List.length_drop]; omega, fun f hf => HFS.out.all f (List.mem_of_mem_drop hf)⟩ n1 n4 (by rw [HLN'.out]; omega)
          rw [List.length_drop, show ((n * 16 : Nat) : Int) = (n : Int) * 16 by omega, ← HM1.out, show cyc false (a + d) n ⟨#[]⟩ l' (fs.drop u') = R from hR.symm] at this
          exact this)
        clear hR
        go_upto_region 12 with (fail)
        go_cut [23, 24, 25] from 68 to 79 (fun v23 v24 v25 wx => ∃ g23 g25 A2 c2, v23 = .pointer (some ⟨g23, 0, none⟩) ∧ v24 = .string R.t ∧ v25 = .pointer (some ⟨g25, 0, none⟩) ∧ w.heap.size + 3 < g25 ∧ PB w A' c' l' 0 (d : Int) (u' : Int) wx ∧ wx.heap[g20]? = some (.cells #[.int .i64 0, .int .i64 ((n : Int) * 16), .bool true, .int .i64 0, .string M] 75 (0, 0)) ∧
          wx.heap[g23]? = some (.cells #[.slice A2 R.l.bs.length c2, .int .i64 R.l.s, .int .i64 R.l.tag] 26 (0, 0)) ∧ wx.heap[g25]? = some (.cells #[.int .i64 R.c, .int .i64 0, .int .i64 (R.u : Int)] 30 (0, 0)) ∧ DkS wx (w.heap.size + 4) A2 c2 R.l.bs)
        case first =>
          refine Kt.G.start 16 (fun X => PB w A' c' l' 0 (d : Int) (u' : Int) X ∧ X.heap[g20]? = some (.cells #[.int .i64 0, .int .i64 ((n : Int) * 16), .bool true, .int .i64 0, .string M] 75 (0, 0))) (by kernel_rfl) ⟨HPB.out.on (bdrewN (Below.refl _ wr2) 1), Kt.row_on (bdrewN (Below.refl _ wr2) 1) HRW.out⟩ (fun hHeld => ?_)
          have HQ : Hid (QB w A0 c0 l0.bs A' c' l'.bs wr2.drew) := Lib.hid (HQB.out.on (bdrewN (Below.refl _ wr2) 1))
          have HLT : Hid (g20 < wr2.drew.heap.size) := Lib.hid (Array.getElem?_eq_some_iff.1 HRW.out).1
          generalize wr2.drew = X0 at *
          refine Kt.G.take 0 { dst := some 69, op := Op.load 26 (Operand.tmp 6), type := 26, pos := "store.go:140", after := #[], guard := none } ?_ hHeld rfl (by kernel_rfl) (fun _ _ _ h => h) (by rfl) ?_ ?_
          rotate_left
          · intro w9 hSw; have c0 := fun i => cell_of_row _ _ i _ _ _ hSw.1.r0; go_simp; try with_reducible rfl
          try simp only [Act.put, List.setIfInBounds_toArray, List.set_cons_zero, List.set_cons_succ]
          refine Kt.G.take 1 { dst := some 70, op := Op.load 75 (Operand.tmp 20), type := 75, pos := "store.go:140", after := #[], guard := none } ?_ hHeld rfl (by kernel_rfl) (fun _ _ _ h => h) (by rfl) ?_ ?_
          rotate_left
          · intro w9 hSw; have c0 := fun i => cell_of_row _ _ i _ _ _ hSw.2; go_simp; try with_reducible rfl
          try simp only [Act.put, List.setIfInBounds_toArray, List.set_cons_zero, List.set_cons_succ]
          refine Kt.G.takeP 2 { dst := some 71, op := Op.move (Operand.tmp 21), type := 9, pos := "store.go:140", after := #[], guard := none } ?_ (fun _ => hHeld) rfl (by kernel_rfl) (fun _ _ _ h => h) (by rfl) ?_ ?_
          rotate_left
          · intro w; go_simp; try with_reducible rfl
          try simp only [Act.put, List.setIfInBounds_toArray, List.set_cons_zero, List.set_cons_succ]
          refine Kt.G.takeP 3 { dst := some 72, op := Op.move (Operand.tmp 5), type := 27, pos := "store.go:140", after := #[], guard := none } ?_ (fun _ => hHeld) rfl (by kernel_rfl) (fun _ _ _ h => h) (by rfl) ?_ ?_
          rotate_left
          · intro w; go_simp; try with_reducible rfl
          try simp only [Act.put, List.setIfInBounds_toArray, List.set_cons_zero, List.set_cons_succ]
          refine Kt.G.takeP 4 { dst := some 73, op := Op.fieldAddr 30 (Operand.tmp 15) 2, type := 0, pos := "store.go:140", after := #[], guard := none } ?_ (fun _ => hHeld) rfl (by kernel_rfl) (fun _ _ _ h => h) (by rfl) ?_ ?_
          rotate_left
          · intro w; go_simp; try with_reducible rfl
          try simp only [Act.put, List.setIfInBounds_toArray, List.set_cons_zero, List.set_cons_succ]
          refine Kt.G.take 5 { dst := some 74, op := Op.load 3 (Operand.tmp 73), type := 3, pos := "store.go:140", after := #[{ on := 4, ground := Ground.data }], guard := none } ?_ hHeld rfl (by kernel_rfl) (fun _ _ _ h => h) (by rfl) ?_ ?_
          rotate_left
          · intro w9 hSw; have c0 := fun i => cell_of_row _ _ i _ _ _ hSw.1.r3; go_simp; try with_reducible rfl
          try simp only [Act.put, List.setIfInBounds_toArray, List.set_cons_zero, List.set_cons_succ]
          refine Kt.G.takeP 6 { dst := some 75, op := Op.slice 27 (Operand.tmp 72) (some (Operand.tmp 74)) none none, type := 27, pos := "store.go:140", after := #[{ on := 3, ground := Ground.data }, { on := 5, ground := Ground.data }], guard := none } ?_ (fun _ => hHeld) rfl (by kernel_rfl) (fun _ _ _ h => h) (by rfl) ?_ ?_
          rotate_left
          · intro w; go_simp; try with_reducible rfl
          try simp only [Act.put, List.setIfInBounds_toArray, List.set_cons_zero, List.set_cons_succ]
          refine Kt.G.three 7 12 13 { dst := some 76, op := Op.call { callee := Callee.value (Operand.func 41), args := #[Operand.tmp 69, Operand.tmp 70, Operand.tmp 71, Operand.tmp 75], argTypes := #[26, 75, 9, 27] }, type := 31, pos := "store.go:140", after := #[{ on := 0, ground := Ground.data }, { on := 1, ground := Ground.data }, { on := 2, ground := Ground.data }, { on := 6, ground := Ground.data }], guard := none } { dst := some 23, op := Op.alloc 26, type := 0, pos := "store.go:140", after := #[], guard := none } { dst := some 25, op := Op.alloc 30, type := 0, pos := "store.go:140", after := #[], guard := none } rfl rfl rfl (by kernel_rfl) (by rfl) (by rfl) (by rfl) (fun K hK => ?_) (fun K hK => ?_) (fun K hK => ?_)
          · go_simp
            refine (HCY.out A' c' FX (fc - u') _ (HQ.out.toA HA.out hHeld.1.bel) (HFX.out.on hHeld.1.bel)).mono ?_
            rintro en x7 ⟨A2, c2, rfl, hs7, hb7⟩
            refine hK.out _ _ (fun _ => ⟨hHeld.1.on hb7, Kt.row_on hb7 hHeld.2⟩) (fun hHeld => ?_)
            have hHeld := hHeld rfl
            clear hK K
            try simp only [Act.put, List.setIfInBounds_toArray, List.set_cons_zero, List.set_cons_succ]
            have HS2 : Hid (DkS x7 (w.heap.size + 4) A2 c2 R.l.bs) := Lib.hid (Kt.Sl.mono hs7 (by have := HLT.out; have := HG20.out; omega))
            clear HQ
            replace HLT := Lib.hid (Nat.lt_of_lt_of_le HLT.out hb7.size)
            clear hs7 hb7
            refine Kt.G.takeP 8 { dst := some 68, op := Op.move (Operand.tmp 76), type := 31, pos := "store.go:140", after := #[{ on := 7, ground := Ground.data }], guard := none } ?_ (fun _ => hHeld) rfl (by kernel_rfl) (fun _ _ _ h => h) (by rfl) ?_ ?_
            rotate_left
            · intro w; go_simp; try with_reducible rfl
            try simp only [Act.put, List.setIfInBounds_toArray, List.set_cons_zero, List.set_cons_succ]
            refine Kt.G.takeP 9 { dst := some 77, op := Op.extract (Operand.tmp 68) 0, type := 26, pos := "store.go:140", after := #[{ on := 8, ground := Ground.data }], guard := none } ?_ (fun _ => hHeld) rfl (by kernel_rfl) (fun _ _ _ h => h) (by rfl) ?_ ?_
            rotate_left
            · intro w; go_simp; try with_reducible rfl
            try simp only [Act.put, List.setIfInBounds_toArray, List.set_cons_zero, List.set_cons_succ]
            refine Kt.G.takeP 10 { dst := some 78, op := Op.extract (Operand.tmp 68) 1, type := 9, pos := "store.go:140", after := #[{ on := 8, ground := Ground.data }, { on := 14, ground := Ground.gcOnly Departure.lateStores }], guard := none } ?_ (fun _ => hHeld) rfl (by kernel_rfl) (fun _ _ _ h => h) (by rfl) ?_ ?_
            rotate_left
            · intro w; go_simp; try with_reducible rfl
            try simp only [Act.put, List.setIfInBounds_toArray, List.set_cons_zero, List.set_cons_succ]
            refine Kt.G.takeP 11 { dst := some 79, op := Op.extract (Operand.tmp 68) 2, type := 30, pos := "store.go:140", after := #[{ on := 8, ground := Ground.data }, { on := 15, ground := Ground.gcOnly Departure.lateStores }], guard := none } ?_ (fun _ => hHeld) rfl (by kernel_rfl) (fun _ _ _ h => h) (by rfl) ?_ ?_
            rotate_left
            · intro w; go_simp; try with_reducible rfl
            try simp only [Act.put, List.setIfInBounds_toArray, List.set_cons_zero, List.set_cons_succ]
            refine Kt.G.two 12 13 { dst := some 23, op := Op.alloc 26, type := 0, pos := "store.go:140", after := #[], guard := none } { dst := some 25, op := Op.alloc 30, type := 0, pos := "store.go:140", after := #[], guard := none } rfl rfl (by kernel_rfl) (by rfl) (by rfl) (fun K hK => ?_) (fun K hK => ?_)
            · have hal := Kt.balloc (Below.refl _ (x7)) (.cells #[.slice none 0 0, .int .i64 0, .int .i64 0] 26)
              go_simp
              refine hK.out _ _ (fun _ => ⟨hHeld.1.on hal, Kt.row_on hal hHeld.2⟩) (fun hHeld => ?_)
              have hHeld := hHeld rfl
              clear hK K
              try simp only [Act.put, List.setIfInBounds_toArray, List.set_cons_zero, List.set_cons_succ]
              have r23 := heap_alloc_new (x7) (.cells #[.slice none 0 0, .int .i64 0, .int .i64 0] 26)
              obtain ⟨g23, hg23⟩ : ∃ g, g = (x7).heap.size := ⟨_, rfl⟩
              rw [← hg23] at r23
              have kg23 : w.heap.size + 3 < g23 ∧ g20 < g23 := by rw [hg23]; exact ⟨by have := HLT.out; have := HG20.out; omega, HLT.out⟩
              have ne23 : ∀ k, (Value.slice A2 R.l.bs.length c2).ownBlock = some k → k ≠ g23 := fun k hk => by rw [hg23]; have := (HS2.out.lt k hk).2; omega
              replace HLT := Lib.hid (Nat.lt_of_lt_of_le HLT.out hal.size)
              replace HS2 := Lib.hid (DkS.on HS2.out hal)
              clear hal
              (try rw [← hg23])
              clear hg23
              generalize (x7).alloc (.cells #[.slice none 0 0, .int .i64 0, .int .i64 0] 26) = y1 at *
              refine Kt.G.one 13 { dst := some 25, op := Op.alloc 30, type := 0, pos := "store.go:140", after := #[], guard := none } rfl (by kernel_rfl) (by rfl) (fun K hK => ?_)
              have hal := Kt.balloc (Below.refl _ (y1)) (.cells #[.int .i64 0, .int .i64 0, .int .i64 0] 30)
              go_simp
              refine hK.out _ _ (fun _ => ⟨hHeld.1.on hal, Kt.row_on hal hHeld.2⟩) (fun hHeld => ?_)
              have hHeld := hHeld rfl
              clear hK K
              try simp only [Act.put, List.setIfInBounds_toArray, List.set_cons_zero, List.set_cons_succ]
              have r25 := heap_alloc_new (y1) (.cells #[.int .i64 0, .int .i64 0, .int .i64 0] 30)
              obtain ⟨g25, hg25⟩ : ∃ g, g = (y1).heap.size := ⟨_, rfl⟩
              rw [← hg25] at r25
              have kg25 : w.heap.size + 3 < g25 ∧ g20 < g25 := by rw [hg25]; exact ⟨by have := HLT.out; have := HG20.out; omega, HLT.out⟩
              have ne25 : ∀ k, (Value.slice A2 R.l.bs.length c2).ownBlock = some k → k ≠ g25 := fun k hk => by rw [hg25]; have := (HS2.out.lt k hk).2; omega
              have kk : g23 ≠ g25 := by rw [hg25]; have := (Array.getElem?_eq_some_iff.1 r23).1; omega
              replace HLT := Lib.hid (Nat.lt_of_lt_of_le HLT.out hal.size)
              replace r23 := Kt.row_on hal r23
              replace HS2 := Lib.hid (DkS.on HS2.out hal)
              clear hal
              (try rw [← hg25])
              clear hg25
              generalize (y1).alloc (.cells #[.int .i64 0, .int .i64 0, .int .i64 0] 30) = y2 at *
              refine Kt.G.one 14 { dst := none, op := Op.store 26 (Operand.tmp 23) (Operand.tmp 77), type := 0, pos := "store.go:140", after := #[{ on := 12, ground := Ground.data }, { on := 9, ground := Ground.data }, { on := 7, ground := Ground.chain }, { on := 0, ground := Ground.phase }, { on := 1, ground := Ground.phase }, { on := 2, ground := Ground.phase }, { on := 3, ground := Ground.phase }, { on := 4, ground := Ground.phase }, { on := 5, ground := Ground.phase }, { on := 6, ground := Ground.phase }, { on := 7, ground := Ground.phase }, { on := 8, ground := Ground.phase }, { on := 9, ground := Ground.phase }, { on := 10, ground := Ground.textOnly Departure.lateStores }, { on := 11, ground := Ground.textOnly Departure.lateStores }, { on := 12, ground := Ground.phase }, { on := 13, ground := Ground.phase }], guard := none } rfl (by kernel_rfl) (by rfl) (fun K hK => ?_)
              have cK := fun i => cell_of_row _ _ i _ _ _ r23
              have fK := fun i => frozen_of_row _ _ i _ _ r23
              have hu := (((Upd.refl g23 y2).set 0 (.slice A2 R.l.bs.length c2)).set 1 (.int .i64 R.l.s)).set 2 (.int .i64 R.l.tag)
              go_simp
              clear cK fK
              refine hK.out _ _ (fun _ => ⟨hHeld.1.upd hu kg23.1, hu.row hHeld.2 (by have := kg23.2; omega)⟩) (fun hHeld => ?_)
              have hHeld := hHeld rfl
              clear hK K
              try simp only [Act.put, List.setIfInBounds_toArray, List.set_cons_zero, List.set_cons_succ]
              replace r23 := row_put3 (x' := .slice A2 R.l.bs.length c2) (y' := .int .i64 R.l.s) (z' := .int .i64 R.l.tag) r23
              replace r25 := hu.row r25 (by omega)
              replace HS2 := Lib.hid (show DkS _ (w.heap.size + 4) A2 c2 R.l.bs from HS2.out.keep fun k hk => hu.other k (ne23 k hk) (HS2.out.lt k hk).2)
              clear hu
              generalize ((y2.setCell ⟨g23, 0, none⟩ (.slice A2 R.l.bs.length c2)).setCell ⟨g23, 1, none⟩ (.int .i64 R.l.s)).setCell ⟨g23, 2, none⟩ (.int .i64 R.l.tag) = z3 at *
              refine Kt.G.takeP 15 { dst := some 24, op := Op.assign (Operand.tmp 78), type := 9, pos := "store.go:140", after := #[{ on := 10, ground := Ground.data }, { on := 14, ground := Ground.chain }, { on := 0, ground := Ground.phase }, { on := 1, ground := Ground.phase }, { on := 2, ground := Ground.phase }, { on := 3, ground := Ground.phase }, { on := 4, ground := Ground.phase }, { on := 5, ground := Ground.phase }, { on := 6, ground := Ground.phase }, { on := 7, ground := Ground.phase }, { on := 8, ground := Ground.phase }, { on := 9, ground := Ground.phase }, { on := 10, ground := Ground.phase }, { on := 11, ground := Ground.textOnly Departure.lateStores }, { on := 12, ground := Ground.phase }, { on := 13, ground := Ground.phase }, { on := 14, ground := Ground.phase }], guard := none } ?_ (fun _ => hHeld) rfl (by kernel_rfl) (fun _ _ _ h => h) (by rfl) ?_ ?_
              rotate_left
              · intro w; go_simp; try with_reducible rfl
              try simp only [Act.put, List.setIfInBounds_toArray, List.set_cons_zero, List.set_cons_succ]
              refine Kt.G.one 16 { dst := none, op := Op.store 30 (Operand.tmp 25) (Operand.tmp 79), type := 0, pos := "store.go:140", after := #[{ on := 13, ground := Ground.data }, { on := 11, ground := Ground.data }, { on := 15, ground := Ground.chain }, { on := 0, ground := Ground.phase }, { on := 1, ground := Ground.phase }, { on := 2, ground := Ground.phase }, { on := 3, ground := Ground.phase }, { on := 4, ground := Ground.phase }, { on := 5, ground := Ground.phase }, { on := 6, ground := Ground.phase }, { on := 7, ground := Ground.phase }, { on := 8, ground := Ground.phase }, { on := 9, ground := Ground.phase }, { on := 10, ground := Ground.phase }, { on := 11, ground := Ground.phase }, { on := 12, ground := Ground.phase }, { on := 13, ground := Ground.phase }, { on := 14, ground := Ground.phase }, { on := 15, ground := Ground.phase }], guard := none } rfl (by kernel_rfl) (by rfl) (fun K hK => ?_)
              have cK := fun i => cell_of_row _ _ i _ _ _ r25
              have fK := fun i => frozen_of_row _ _ i _ _ r25
              have hu := (((Upd.refl g25 z3).set 0 (.int .i64 R.c)).set 1 (.int .i64 0)).set 2 (.int .i64 (R.u : Int))
              go_simp
              clear cK fK
              have hL := (show _ ∧ _ from ⟨hHeld.1.upd hu kg25.1, hu.row hHeld.2 (by have := kg25.2; omega)⟩)
              refine hK.out _ _ (Kt.G.late (by kernel_rfl)) (fun _ => ?_)
              clear hK K
              try simp only [Act.put, List.setIfInBounds_toArray, List.set_cons_zero, List.set_cons_succ]
              replace r25 := row_put3 (x' := .int .i64 R.c) (y' := .int .i64 0) (z' := .int .i64 (R.u : Int)) r25
              replace r23 := hu.row r23 (by omega)
              replace HS2 := Lib.hid (show DkS _ (w.heap.size + 4) A2 c2 R.l.bs from HS2.out.keep fun k hk => hu.other k (ne25 k hk) (HS2.out.lt k hk).2)
              clear hu
              generalize ((z3.setCell ⟨g25, 0, none⟩ (.int .i64 R.c)).setCell ⟨g25, 1, none⟩ (.int .i64 0)).setCell ⟨g25, 2, none⟩ (.int .i64 (R.u : Int)) = z4 at *
              have hL0 := hL
              clear hL
              refine Kt.G.done (by kernel_rfl) (NoPanic.normal ?_) _
              go_wp2_with fail
              go_meet
              case rel => exact ⟨g23, g25, A2, c2, rfl, rfl, rfl, kg25.1, hL0.1, hL0.2, r23, r25, HS2.out⟩
            · have hal := Kt.balloc (Below.refl _ (x7)) (.cells #[.int .i64 0, .int .i64 0, .int .i64 0] 30)
              go_simp
              refine hK.out _ _ (fun _ => ⟨hHeld.1.on hal, Kt.row_on hal hHeld.2⟩) (fun hHeld => ?_)
              have hHeld := hHeld rfl
              clear hK K
              try simp only [Act.put, List.setIfInBounds_toArray, List.set_cons_zero, List.set_cons_succ]
              have r25 := heap_alloc_new (x7) (.cells #[.int .i64 0, .int .i64 0, .int .i64 0] 30)
              obtain ⟨g25, hg25⟩ : ∃ g, g = (x7).heap.size := ⟨_, rfl⟩
              rw [← hg25] at r25
              have kg25 : w.heap.size + 3 < g25 ∧ g20 < g25 := by rw [hg25]; exact ⟨by have := HLT.out; have := HG20.out; omega, HLT.out⟩
              have ne25 : ∀ k, (Value.slice A2 R.l.bs.length c2).ownBlock = some k → k ≠ g25 := fun k hk => by rw [hg25]; have := (HS2.out.lt k hk).2; omega
              replace HLT := Lib.hid (Nat.lt_of_lt_of_le HLT.out hal.size)
              replace HS2 := Lib.hid (DkS.on HS2.out hal)
              clear hal
              (try rw [← hg25])
              clear hg25
              generalize (x7).alloc (.cells #[.int .i64 0, .int .i64 0, .int .i64 0] 30) = y5 at *
              refine Kt.G.one 12 { dst := some 23, op := Op.alloc 26, type := 0, pos := "store.go:140", after := #[], guard := none } rfl (by kernel_rfl) (by rfl) (fun K hK => ?_)
              have hal := Kt.balloc (Below.refl _ (y5)) (.cells #[.slice none 0 0, .int .i64 0, .int .i64 0] 26)
              go_simp
              refine hK.out _ _ (fun _ => ⟨hHeld.1.on hal, Kt.row_on hal hHeld.2⟩) (fun hHeld => ?_)
              have hHeld := hHeld rfl
              clear hK K
              try simp only [Act.put, List.setIfInBounds_toArray, List.set_cons_zero, List.set_cons_succ]
              have r23 := heap_alloc_new (y5) (.cells #[.slice none 0 0, .int .i64 0, .int .i64 0] 26)
              obtain ⟨g23, hg23⟩ : ∃ g, g = (y5).heap.size := ⟨_, rfl⟩
              rw [← hg23] at r23
              have kg23 : w.heap.size + 3 < g23 ∧ g20 < g23 := by rw [hg23]; exact ⟨by have := HLT.out; have := HG20.out; omega, HLT.out⟩
              have ne23 : ∀ k, (Value.slice A2 R.l.bs.length c2).ownBlock = some k → k ≠ g23 := fun k hk => by rw [hg23]; have := (HS2.out.lt k hk).2; omega
              have kk : g23 ≠ g25 := by rw [hg23]; have := (Array.getElem?_eq_some_iff.1 r25).1; omega
              replace HLT := Lib.hid (Nat.lt_of_lt_of_le HLT.out hal.size)
              replace r25 := Kt.row_on hal r25
              replace HS2 := Lib.hid (DkS.on HS2.out hal)
              clear hal
              (try rw [← hg23])
              clear hg23
              generalize (y5).alloc (.cells #[.slice none 0 0, .int .i64 0, .int .i64 0] 26) = y6 at *
              refine Kt.G.one 14 { dst := none, op := Op.store 26 (Operand.tmp 23) (Operand.tmp 77), type := 0, pos := "store.go:140", after := #[{ on := 12, ground := Ground.data }, { on := 9, ground := Ground.data }, { on := 7, ground := Ground.chain }, { on := 0, ground := Ground.phase }, { on := 1, ground := Ground.phase }, { on := 2, ground := Ground.phase }, { on := 3, ground := Ground.phase }, { on := 4, ground := Ground.phase }, { on := 5, ground := Ground.phase }, { on := 6, ground := Ground.phase }, { on := 7, ground := Ground.phase }, { on := 8, ground := Ground.phase }, { on := 9, ground := Ground.phase }, { on := 10, ground := Ground.textOnly Departure.lateStores }, { on := 11, ground := Ground.textOnly Departure.lateStores }, { on := 12, ground := Ground.phase }, { on := 13, ground := Ground.phase }], guard := none } rfl (by kernel_rfl) (by rfl) (fun K hK => ?_)
              have cK := fun i => cell_of_row _ _ i _ _ _ r23
              have fK := fun i => frozen_of_row _ _ i _ _ r23
              have hu := (((Upd.refl g23 y6).set 0 (.slice A2 R.l.bs.length c2)).set 1 (.int .i64 R.l.s)).set 2 (.int .i64 R.l.tag)
              go_simp
              clear cK fK
              refine hK.out _ _ (fun _ => ⟨hHeld.1.upd hu kg23.1, hu.row hHeld.2 (by have := kg23.2; omega)⟩) (fun hHeld => ?_)
              have hHeld := hHeld rfl
              clear hK K
              try simp only [Act.put, List.setIfInBounds_toArray, List.set_cons_zero, List.set_cons_succ]
              replace r23 := row_put3 (x' := .slice A2 R.l.bs.length c2) (y' := .int .i64 R.l.s) (z' := .int .i64 R.l.tag) r23
              replace r25 := hu.row r25 (by omega)
              replace HS2 := Lib.hid (show DkS _ (w.heap.size + 4) A2 c2 R.l.bs from HS2.out.keep fun k hk => hu.other k (ne23 k hk) (HS2.out.lt k hk).2)
              clear hu
              generalize ((y6.setCell ⟨g23, 0, none⟩ (.slice A2 R.l.bs.length c2)).setCell ⟨g23, 1, none⟩ (.int .i64 R.l.s)).setCell ⟨g23, 2, none⟩ (.int .i64 R.l.tag) = z7 at *
              refine Kt.G.takeP 15 { dst := some 24, op := Op.assign (Operand.tmp 78), type := 9, pos := "store.go:140", after := #[{ on := 10, ground := Ground.data }, { on := 14, ground := Ground.chain }, { on := 0, ground := Ground.phase }, { on := 1, ground := Ground.phase }, { on := 2, ground := Ground.phase }, { on := 3, ground := Ground.phase }, { on := 4, ground := Ground.phase }, { on := 5, ground := Ground.phase }, { on := 6, ground := Ground.phase }, { on := 7, ground := Ground.phase }, { on := 8, ground := Ground.phase }, { on := 9, ground := Ground.phase }, { on := 10, ground := Ground.phase }, { on := 11, ground := Ground.textOnly Departure.lateStores }, { on := 12, ground := Ground.phase }, { on := 13, ground := Ground.phase }, { on := 14, ground := Ground.phase }], guard := none } ?_ (fun _ => hHeld) rfl (by kernel_rfl) (fun _ _ _ h => h) (by rfl) ?_ ?_
              rotate_left
              · intro w; go_simp; try with_reducible rfl
              try simp only [Act.put, List.setIfInBounds_toArray, List.set_cons_zero, List.set_cons_succ]
              refine Kt.G.one 16 { dst := none, op := Op.store 30 (Operand.tmp 25) (Operand.tmp 79), type := 0, pos := "store.go:140", after := #[{ on := 13, ground := Ground.data }, { on := 11, ground := Ground.data }, { on := 15, ground := Ground.chain }, { on := 0, ground := Ground.phase }, { on := 1, ground := Ground.phase }, { on := 2, ground := Ground.phase }, { on := 3, ground := Ground.phase }, { on := 4, ground := Ground.phase }, { on := 5, ground := Ground.phase }, { on := 6, ground := Ground.phase }, { on := 7, ground := Ground.phase }, { on := 8, ground := Ground.phase }, { on := 9, ground := Ground.phase }, { on := 10, ground := Ground.phase }, { on := 11, ground := Ground.phase }, { on := 12, ground := Ground.phase }, { on := 13, ground := Ground.phase }, { on := 14, ground := Ground.phase }, { on := 15, ground := Ground.phase }], guard := none } rfl (by kernel_rfl) (by rfl) (fun K hK => ?_)
              have cK := fun i => cell_of_row _ _ i _ _ _ r25
              have fK := fun i => frozen_of_row _ _ i _ _ r25
              have hu := (((Upd.refl g25 z7).set 0 (.int .i64 R.c)).set 1 (.int .i64 0)).set 2 (.int .i64 (R.u : Int))
              go_simp
              clear cK fK
              have hL := (show _ ∧ _ from ⟨hHeld.1.upd hu kg25.1, hu.row hHeld.2 (by have := kg25.2; omega)⟩)
              refine hK.out _ _ (Kt.G.late (by kernel_rfl)) (fun _ => ?_)
              clear hK K
              try simp only [Act.put, List.setIfInBounds_toArray, List.set_cons_zero, List.set_cons_succ]
              replace r25 := row_put3 (x' := .int .i64 R.c) (y' := .int .i64 0) (z' := .int .i64 (R.u : Int)) r25
              replace r23 := hu.row r23 (by omega)
              replace HS2 := Lib.hid (show DkS _ (w.heap.size + 4) A2 c2 R.l.bs from HS2.out.keep fun k hk => hu.other k (ne25 k hk) (HS2.out.lt k hk).2)
              clear hu
              generalize ((z7.setCell ⟨g25, 0, none⟩ (.int .i64 R.c)).setCell ⟨g25, 1, none⟩ (.int .i64 0)).setCell ⟨g25, 2, none⟩ (.int .i64 (R.u : Int)) = z8 at *
              have hL0 := hL
              clear hL
              refine Kt.G.done (by kernel_rfl) (NoPanic.normal ?_) _
              go_wp2_with fail
              go_meet
              case rel => exact ⟨g23, g25, A2, c2, rfl, rfl, rfl, kg25.1, hL0.1, hL0.2, r23, r25, HS2.out⟩
          · have hal := Kt.balloc (Below.refl _ (X0)) (.cells #[.slice none 0 0, .int .i64 0, .int .i64 0] 26)
            go_simp
            refine hK.out _ _ (fun _ => ⟨hHeld.1.on hal, Kt.row_on hal hHeld.2⟩) (fun hHeld => ?_)
            have hHeld := hHeld rfl
            clear hK K
            try simp only [Act.put, List.setIfInBounds_toArray, List.set_cons_zero, List.set_cons_succ]
            have r23 := heap_alloc_new (X0) (.cells #[.slice none 0 0, .int .i64 0, .int .i64 0] 26)
            obtain ⟨g23, hg23⟩ : ∃ g, g = (X0).heap.size := ⟨_, rfl⟩
            rw [← hg23] at r23
            have kg23 : w.heap.size + 3 < g23 ∧ g20 < g23 := by rw [hg23]; exact ⟨by have := HLT.out; have := HG20.out; omega, HLT.out⟩
            replace HLT := Lib.hid (Nat.lt_of_lt_of_le HLT.out hal.size)
            replace HQ := Lib.hid (HQ.out.on hal)
            clear hal
            (try rw [← hg23])
            clear hg23
            generalize (X0).alloc (.cells #[.slice none 0 0, .int .i64 0, .int .i64 0] 26) = y9 at *
            refine Kt.G.two 7 13 { dst := some 76, op := Op.call { callee := Callee.value (Operand.func 41), args := #[Operand.tmp 69, Operand.tmp 70, Operand.tmp 71, Operand.tmp 75], argTypes := #[26, 75, 9, 27] }, type := 31, pos := "store.go:140", after := #[{ on := 0, ground := Ground.data }, { on := 1, ground := Ground.data }, { on := 2, ground := Ground.data }, { on := 6, ground := Ground.data }], guard := none } { dst := some 25, op := Op.alloc 30, type := 0, pos := "store.go:140", after := #[], guard := none } rfl rfl (by kernel_rfl) (by rfl) (by rfl) (fun K hK => ?_) (fun K hK => ?_)
            · go_simp
              refine (HCY.out A' c' FX (fc - u') _ (HQ.out.toA HA.out hHeld.1.bel) (HFX.out.on hHeld.1.bel)).mono ?_
              rintro en x7 ⟨A2, c2, rfl, hs7, hb7⟩
              refine hK.out _ _ (fun _ => ⟨hHeld.1.on hb7, Kt.row_on hb7 hHeld.2⟩) (fun hHeld => ?_)
              have hHeld := hHeld rfl
              clear hK K
              try simp only [Act.put, List.setIfInBounds_toArray, List.set_cons_zero, List.set_cons_succ]
              have HS2 : Hid (DkS x7 (w.heap.size + 4) A2 c2 R.l.bs) := Lib.hid (Kt.Sl.mono hs7 (by have := HLT.out; have := HG20.out; omega))
              have ne23 : ∀ k, (Value.slice A2 R.l.bs.length c2).ownBlock = some k → k ≠ g23 := fun k hk => by have := (hs7.lt k hk).1; have := (Array.getElem?_eq_some_iff.1 r23).1; omega
              clear HQ
              replace r23 := Kt.row_on hb7 r23
              replace HLT := Lib.hid (Nat.lt_of_lt_of_le HLT.out hb7.size)
              clear hs7 hb7
              refine Kt.G.takeP 8 { dst := some 68, op := Op.move (Operand.tmp 76), type := 31, pos := "store.go:140", after := #[{ on := 7, ground := Ground.data }], guard := none } ?_ (fun _ => hHeld) rfl (by kernel_rfl) (fun _ _ _ h => h) (by rfl) ?_ ?_
              rotate_left
              · intro w; go_simp; try with_reducible rfl
              try simp only [Act.put, List.setIfInBounds_toArray, List.set_cons_zero, List.set_cons_succ]
              refine Kt.G.takeP 9 { dst := some 77, op := Op.extract (Operand.tmp 68) 0, type := 26, pos := "store.go:140", after := #[{ on := 8, ground := Ground.data }], guard := none } ?_ (fun _ => hHeld) rfl (by kernel_rfl) (fun _ _ _ h => h) (by rfl) ?_ ?_
              rotate_left
              · intro w; go_simp; try with_reducible rfl
              try simp only [Act.put, List.setIfInBounds_toArray, List.set_cons_zero, List.set_cons_succ]
              refine Kt.G.takeP 10 { dst := some 78, op := Op.extract (Operand.tmp 68) 1, type := 9, pos := "store.go:140", after := #[{ on := 8, ground := Ground.data }, { on := 14, ground := Ground.gcOnly Departure.lateStores }], guard := none } ?_ (fun _ => hHeld) rfl (by kernel_rfl) (fun _ _ _ h => h) (by rfl) ?_ ?_
              rotate_left
              · intro w; go_simp; try with_reducible rfl
              try simp only [Act.put, List.setIfInBounds_toArray, List.set_cons_zero, List.set_cons_succ]
              refine Kt.G.takeP 11 { dst := some 79, op := Op.extract (Operand.tmp 68) 2, type := 30, pos := "store.go:140", after := #[{ on := 8, ground := Ground.data }, { on := 15, ground := Ground.gcOnly Departure.lateStores }], guard := none } ?_ (fun _ => hHeld) rfl (by kernel_rfl) (fun _ _ _ h => h) (by rfl) ?_ ?_
              rotate_left
              · intro w; go_simp; try with_reducible rfl
              try simp only [Act.put, List.setIfInBounds_toArray, List.set_cons_zero, List.set_cons_succ]
              refine Kt.G.one 13 { dst := some 25, op := Op.alloc 30, type := 0, pos := "store.go:140", after := #[], guard := none } rfl (by kernel_rfl) (by rfl) (fun K hK => ?_)
              have hal := Kt.balloc (Below.refl _ (x7)) (.cells #[.int .i64 0, .int .i64 0, .int .i64 0] 30)
              go_simp
              refine hK.out _ _ (fun _ => ⟨hHeld.1.on hal, Kt.row_on hal hHeld.2⟩) (fun hHeld => ?_)
              have hHeld := hHeld rfl
              clear hK K
              try simp only [Act.put, List.setIfInBounds_toArray, List.set_cons_zero, List.set_cons_succ]
              have r25 := heap_alloc_new (x7) (.cells #[.int .i64 0, .int .i64 0, .int .i64 0] 30)
              obtain ⟨g25, hg25⟩ : ∃ g, g = (x7).heap.size := ⟨_, rfl⟩
              rw [← hg25] at r25
              have kg25 : w.heap.size + 3 < g25 ∧ g20 < g25 := by rw [hg25]; exact ⟨by have := HLT.out; have := HG20.out; omega, HLT.out⟩
              have ne25 : ∀ k, (Value.slice A2 R.l.bs.length c2).ownBlock = some k → k ≠ g25 := fun k hk => by rw [hg25]; have := (HS2.out.lt k hk).2; omega
              have kk : g23 ≠ g25 := by rw [hg25]; have := (Array.getElem?_eq_some_iff.1 r23).1; omega
              replace HLT := Lib.hid (Nat.lt_of_lt_of_le HLT.out hal.size)
              replace r23 := Kt.row_on hal r23
              replace HS2 := Lib.hid (DkS.on HS2.out hal)
              clear hal
              (try rw [← hg25])
              clear hg25
              generalize (x7).alloc (.cells #[.int .i64 0, .int .i64 0, .int .i64 0] 30) = y10 at *
              refine Kt.G.one 14 { dst := none, op := Op.store 26 (Operand.tmp 23) (Operand.tmp 77), type := 0, pos := "store.go:140", after := #[{ on := 12, ground := Ground.data }, { on := 9, ground := Ground.data }, { on := 7, ground := Ground.chain }, { on := 0, ground := Ground.phase }, { on := 1, ground := Ground.phase }, { on := 2, ground := Ground.phase }, { on := 3, ground := Ground.phase }, { on := 4, ground := Ground.phase }, { on := 5, ground := Ground.phase }, { on := 6, ground := Ground.phase }, { on := 7, ground := Ground.phase }, { on := 8, ground := Ground.phase }, { on := 9, ground := Ground.phase }, { on := 10, ground := Ground.textOnly Departure.lateStores }, { on := 11, ground := Ground.textOnly Departure.lateStores }, { on := 12, ground := Ground.phase }, { on := 13, ground := Ground.phase }], guard := none } rfl (by kernel_rfl) (by rfl) (fun K hK => ?_)
              have cK := fun i => cell_of_row _ _ i _ _ _ r23
              have fK := fun i => frozen_of_row _ _ i _ _ r23
              have hu := (((Upd.refl g23 y10).set 0 (.slice A2 R.l.bs.length c2)).set 1 (.int .i64 R.l.s)).set 2 (.int .i64 R.l.tag)
              go_simp
              clear cK fK
              refine hK.out _ _ (fun _ => ⟨hHeld.1.upd hu kg23.1, hu.row hHeld.2 (by have := kg23.2; omega)⟩) (fun hHeld => ?_)
              have hHeld := hHeld rfl
              clear hK K
              try simp only [Act.put, List.setIfInBounds_toArray, List.set_cons_zero, List.set_cons_succ]
              replace r23 := row_put3 (x' := .slice A2 R.l.bs.length c2) (y' := .int .i64 R.l.s) (z' := .int .i64 R.l.tag) r23
              replace r25 := hu.row r25 (by omega)
              replace HS2 := Lib.hid (show DkS _ (w.heap.size + 4) A2 c2 R.l.bs from HS2.out.keep fun k hk => hu.other k (ne23 k hk) (HS2.out.lt k hk).2)
              clear hu
              generalize ((y10.setCell ⟨g23, 0, none⟩ (.slice A2 R.l.bs.length c2)).setCell ⟨g23, 1, none⟩ (.int .i64 R.l.s)).setCell ⟨g23, 2, none⟩ (.int .i64 R.l.tag) = z11 at *
              refine Kt.G.takeP 15 { dst := some 24, op := Op.assign (Operand.tmp 78), type := 9, pos := "store.go:140", after := #[{ on := 10, ground := Ground.data }, { on := 14, ground := Ground.chain }, { on := 0, ground := Ground.phase }, { on := 1, ground := Ground.phase }, { on := 2, ground := Ground.phase }, { on := 3, ground := Ground.phase }, { on := 4, ground := Ground.phase }, { on := 5, ground := Ground.phase }, { on := 6, ground := Ground.phase }, { on := 7, ground := Ground.phase }, { on := 8, ground := Ground.phase }, { on := 9, ground := Ground.phase }, { on := 10, ground := Ground.phase }, { on := 11, ground := Ground.textOnly Departure.lateStores }, { on := 12, ground := Ground.phase }, { on := 13, ground := Ground.phase }, { on := 14, ground := Ground.phase }], guard := none } ?_ (fun _ => hHeld) rfl (by kernel_rfl) (fun _ _ _ h => h) (by rfl) ?_ ?_
              rotate_left
              · intro w; go_simp; try with_reducible rfl
              try simp only [Act.put, List.setIfInBounds_toArray, List.set_cons_zero, List.set_cons_succ]
              refine Kt.G.one 16 { dst := none, op := Op.store 30 (Operand.tmp 25) (Operand.tmp 79), type := 0, pos := "store.go:140", after := #[{ on := 13, ground := Ground.data }, { on := 11, ground := Ground.data }, { on := 15, ground := Ground.chain }, { on := 0, ground := Ground.phase }, { on := 1, ground := Ground.phase }, { on := 2, ground := Ground.phase }, { on := 3, ground := Ground.phase }, { on := 4, ground := Ground.phase }, { on := 5, ground := Ground.phase }, { on := 6, ground := Ground.phase }, { on := 7, ground := Ground.phase }, { on := 8, ground := Ground.phase }, { on := 9, ground := Ground.phase }, { on := 10, ground := Ground.phase }, { on := 11, ground := Ground.phase }, { on := 12, ground := Ground.phase }, { on := 13, ground := Ground.phase }, { on := 14, ground := Ground.phase }, { on := 15, ground := Ground.phase }], guard := none } rfl (by kernel_rfl) (by rfl) (fun K hK => ?_)
              have cK := fun i => cell_of_row _ _ i _ _ _ r25
              have fK := fun i => frozen_of_row _ _ i _ _ r25
              have hu := (((Upd.refl g25 z11).set 0 (.int .i64 R.c)).set 1 (.int .i64 0)).set 2 (.int .i64 (R.u : Int))
              go_simp
              clear cK fK
              have hL := (show _ ∧ _ from ⟨hHeld.1.upd hu kg25.1, hu.row hHeld.2 (by have := kg25.2; omega)⟩)
              refine hK.out _ _ (Kt.G.late (by kernel_rfl)) (fun _ => ?_)
              clear hK K
              try simp only [Act.put, List.setIfInBounds_toArray, List.set_cons_zero, List.set_cons_succ]
              replace r25 := row_put3 (x' := .int .i64 R.c) (y' := .int .i64 0) (z' := .int .i64 (R.u : Int)) r25
              replace r23 := hu.row r23 (by omega)
              replace HS2 := Lib.hid (show DkS _ (w.heap.size + 4) A2 c2 R.l.bs from HS2.out.keep fun k hk => hu.other k (ne25 k hk) (HS2.out.lt k hk).2)
              clear hu
              generalize ((z11.setCell ⟨g25, 0, none⟩ (.int .i64 R.c)).setCell ⟨g25, 1, none⟩ (.int .i64 0)).setCell ⟨g25, 2, none⟩ (.int .i64 (R.u : Int)) = z12 at *
              have hL0 := hL
              clear hL
              refine Kt.G.done (by kernel_rfl) (NoPanic.normal ?_) _
              go_wp2_with fail
              go_meet
              case rel => exact ⟨g23, g25, A2, c2, rfl, rfl, rfl, kg25.1, hL0.1, hL0.2, r23, r25, HS2.out⟩
            · have hal := Kt.balloc (Below.refl _ (y9)) (.cells #[.int .i64 0, .int .i64 0, .int .i64 0] 30)
              go_simp
              refine hK.out _ _ (fun _ => ⟨hHeld.1.on hal, Kt.row_on hal hHeld.2⟩) (fun hHeld => ?_)
              have hHeld := hHeld rfl
              clear hK K
              try simp only [Act.put, List.setIfInBounds_toArray, List.set_cons_zero, List.set_cons_succ]
              have r25 := heap_alloc_new (y9) (.cells #[.int .i64 0, .int .i64 0, .int .i64 0] 30)
              obtain ⟨g25, hg25⟩ : ∃ g, g = (y9).heap.size := ⟨_, rfl⟩
              rw [← hg25] at r25
              have kg25 : w.heap.size + 3 < g25 ∧ g20 < g25 := by rw [hg25]; exact ⟨by have := HLT.out; have := HG20.out; omega, HLT.out⟩
              have kk : g23 ≠ g25 := by rw [hg25]; have := (Array.getElem?_eq_some_iff.1 r23).1; omega
              replace HLT := Lib.hid (Nat.lt_of_lt_of_le HLT.out hal.size)
              replace HQ := Lib.hid (HQ.out.on hal)
              replace r23 := Kt.row_on hal r23
              clear hal
              (try rw [← hg25])
              clear hg25
              generalize (y9).alloc (.cells #[.int .i64 0, .int .i64 0, .int .i64 0] 30) = y13 at *
              refine Kt.G.one 7 { dst := some 76, op := Op.call { callee := Callee.value (Operand.func 41), args := #[Operand.tmp 69, Operand.tmp 70, Operand.tmp 71, Operand.tmp 75], argTypes := #[26, 75, 9, 27] }, type := 31, pos := "store.go:140", after := #[{ on := 0, ground := Ground.data }, { on := 1, ground := Ground.data }, { on := 2, ground := Ground.data }, { on := 6, ground := Ground.data }], guard := none } rfl (by kernel_rfl) (by rfl) (fun K hK => ?_)
              go_simp
              refine (HCY.out A' c' FX (fc - u') _ (HQ.out.toA HA.out hHeld.1.bel) (HFX.out.on hHeld.1.bel)).mono ?_
              rintro en x7 ⟨A2, c2, rfl, hs7, hb7⟩
              refine hK.out _ _ (fun _ => ⟨hHeld.1.on hb7, Kt.row_on hb7 hHeld.2⟩) (fun hHeld => ?_)
              have hHeld := hHeld rfl
              clear hK K
              try simp only [Act.put, List.setIfInBounds_toArray, List.set_cons_zero, List.set_cons_succ]
              have HS2 : Hid (DkS x7 (w.heap.size + 4) A2 c2 R.l.bs) := Lib.hid (Kt.Sl.mono hs7 (by have := HLT.out; have := HG20.out; omega))
              have ne23 : ∀ k, (Value.slice A2 R.l.bs.length c2).ownBlock = some k → k ≠ g23 := fun k hk => by have := (hs7.lt k hk).1; have := (Array.getElem?_eq_some_iff.1 r23).1; omega
              have ne25 : ∀ k, (Value.slice A2 R.l.bs.length c2).ownBlock = some k → k ≠ g25 := fun k hk => by have := (hs7.lt k hk).1; have := (Array.getElem?_eq_some_iff.1 r25).1; omega
              clear HQ
              replace r23 := Kt.row_on hb7 r23
              replace r25 := Kt.row_on hb7 r25
              replace HLT := Lib.hid (Nat.lt_of_lt_of_le HLT.out hb7.size)
              clear hs7 hb7
              refine Kt.G.takeP 8 { dst := some 68, op := Op.move (Operand.tmp 76), type := 31, pos := "store.go:140", after := #[{ on := 7, ground := Ground.data }], guard := none } ?_ (fun _ => hHeld) rfl (by kernel_rfl) (fun _ _ _ h => h) (by rfl) ?_ ?_
              rotate_left
              · intro w; go_simp; try with_reducible rfl
              try simp only [Act.put, List.setIfInBounds_toArray, List.set_cons_zero, List.set_cons_succ]
              refine Kt.G.takeP 9 { dst := some 77, op := Op.extract (Operand.tmp 68) 0, type := 26, pos := "store.go:140", after := #[{ on := 8, ground := Ground.data }], guard := none } ?_ (fun _ => hHeld) rfl (by kernel_rfl) (fun _ _ _ h => h) (by rfl) ?_ ?_
              rotate_left
              · intro w; go_simp; try with_reducible rfl
              try simp only [Act.put, List.setIfInBounds_toArray, List.set_cons_zero, List.set_cons_succ]
              refine Kt.G.takeP 10 { dst := some 78, op := Op.extract (Operand.tmp 68) 1, type := 9, pos := "store.go:140", after := #[{ on := 8, ground := Ground.data }, { on := 14, ground := Ground.gcOnly Departure.lateStores }], guard := none } ?_ (fun _ => hHeld) rfl (by kernel_rfl) (fun _ _ _ h => h) (by rfl) ?_ ?_
              rotate_left
              · intro w; go_simp; try with_reducible rfl
              try simp only [Act.put, List.setIfInBounds_toArray, List.set_cons_zero, List.set_cons_succ]
              refine Kt.G.takeP 11 { dst := some 79, op := Op.extract (Operand.tmp 68) 2, type := 30, pos := "store.go:140", after := #[{ on := 8, ground := Ground.data }, { on := 15, ground := Ground.gcOnly Departure.lateStores }], guard := none } ?_ (fun _ => hHeld) rfl (by kernel_rfl) (fun _ _ _ h => h) (by rfl) ?_ ?_
              rotate_left
              · intro w; go_simp; try with_reducible rfl
              try simp only [Act.put, List.setIfInBounds_toArray, List.set_cons_zero, List.set_cons_succ]
              refine Kt.G.one 14 { dst := none, op := Op.store 26 (Operand.tmp 23) (Operand.tmp 77), type := 0, pos := "store.go:140", after := #[{ on := 12, ground := Ground.data }, { on := 9, ground := Ground.data }, { on := 7, ground := Ground.chain }, { on := 0, ground := Ground.phase }, { on := 1, ground := Ground.phase }, { on := 2, ground := Ground.phase }, { on := 3, ground := Ground.phase }, { on := 4, ground := Ground.phase }, { on := 5, ground := Ground.phase }, { on := 6, ground := Ground.phase }, { on := 7, ground := Ground.phase }, { on := 8, ground := Ground.phase }, { on := 9, ground := Ground.phase }, { on := 10, ground := Ground.textOnly Departure.lateStores }, { on := 11, ground := Ground.textOnly Departure.lateStores }, { on := 12, ground := Ground.phase }, { on := 13, ground := Ground.phase }], guard := none } rfl (by kernel_rfl) (by rfl) (fun K hK => ?_)
              have cK := fun i => cell_of_row _ _ i _ _ _ r23
              have fK := fun i => frozen_of_row _ _ i _ _ r23
              have hu := (((Upd.refl g23 x7).set 0 (.slice A2 R.l.bs.length c2)).set 1 (.int .i64 R.l.s)).set 2 (.int .i64 R.l.tag)
              go_simp
              clear cK fK
              refine hK.out _ _ (fun _ => ⟨hHeld.1.upd hu kg23.1, hu.row hHeld.2 (by have := kg23.2; omega)⟩) (fun hHeld => ?_)
              have hHeld := hHeld rfl
              clear hK K
              try simp only [Act.put, List.setIfInBounds_toArray, List.set_cons_zero, List.set_cons_succ]
              replace r23 := row_put3 (x' := .slice A2 R.l.bs.length c2) (y' := .int .i64 R.l.s) (z' := .int .i64 R.l.tag) r23
              replace r25 := hu.row r25 (by omega)
              replace HS2 := Lib.hid (show DkS _ (w.heap.size + 4) A2 c2 R.l.bs from HS2.out.keep fun k hk => hu.other k (ne23 k hk) (HS2.out.lt k hk).2)
              clear hu
              generalize ((x7.setCell ⟨g23, 0, none⟩ (.slice A2 R.l.bs.length c2)).setCell ⟨g23, 1, none⟩ (.int .i64 R.l.s)).setCell ⟨g23, 2, none⟩ (.int .i64 R.l.tag) = z14 at *
              refine Kt.G.takeP 15 { dst := some 24, op := Op.assign (Operand.tmp 78), type := 9, pos := "store.go:140", after := #[{ on := 10, ground := Ground.data }, { on := 14, ground := Ground.chain }, { on := 0, ground := Ground.phase }, { on := 1, ground := Ground.phase }, { on := 2, ground := Ground.phase }, { on := 3, ground := Ground.phase }, { on := 4, ground := Ground.phase }, { on := 5, ground := Ground.phase }, { on := 6, ground := Ground.phase }, { on := 7, ground := Ground.phase }, { on := 8, ground := Ground.phase }, { on := 9, ground := Ground.phase }, { on := 10, ground := Ground.phase }, { on := 11, ground := Ground.textOnly Departure.lateStores }, { on := 12, ground := Ground.phase }, { on := 13, ground := Ground.phase }, { on := 14, ground := Ground.phase }], guard := none } ?_ (fun _ => hHeld) rfl (by kernel_rfl) (fun _ _ _ h => h) (by rfl) ?_ ?_
              rotate_left
              · intro w; go_simp; try with_reducible rfl
              try simp only [Act.put, List.setIfInBounds_toArray, List.set_cons_zero, List.set_cons_succ]
              refine Kt.G.one 16 { dst := none, op := Op.store 30 (Operand.tmp 25) (Operand.tmp 79), type := 0, pos := "store.go:140", after := #[{ on := 13, ground := Ground.data }, { on := 11, ground := Ground.data }, { on := 15, ground := Ground.chain }, { on := 0, ground := Ground.phase }, { on := 1, ground := Ground.phase }, { on := 2, ground := Ground.phase }, { on := 3, ground := Ground.phase }, { on := 4, ground := Ground.phase }, { on := 5, ground := Ground.phase }, { on := 6, ground := Ground.phase }, { on := 7, ground := Ground.phase }, { on := 8, ground := Ground.phase }, { on := 9, ground := Ground.phase }, { on := 10, ground := Ground.phase }, { on := 11, ground := Ground.phase }, { on := 12, ground := Ground.phase }, { on := 13, ground := Ground.phase }, { on := 14, ground := Ground.phase }, { on := 15, ground := Ground.phase }], guard := none } rfl (by kernel_rfl) (by rfl) (fun K hK => ?_)
              have cK := fun i => cell_of_row _ _ i _ _ _ r25
              have fK := fun i => frozen_of_row _ _ i _ _ r25
              have hu := (((Upd.refl g25 z14).set 0 (.int .i64 R.c)).set 1 (.int .i64 0)).set 2 (.int .i64 (R.u : Int))
              go_simp
              clear cK fK
              have hL := (show _ ∧ _ from ⟨hHeld.1.upd hu kg25.1, hu.row hHeld.2 (by have := kg25.2; omega)⟩)
              refine hK.out _ _ (Kt.G.late (by kernel_rfl)) (fun _ => ?_)
              clear hK K
              try simp only [Act.put, List.setIfInBounds_toArray, List.set_cons_zero, List.set_cons_succ]
              replace r25 := row_put3 (x' := .int .i64 R.c) (y' := .int .i64 0) (z' := .int .i64 (R.u : Int)) r25
              replace r23 := hu.row r23 (by omega)
              replace HS2 := Lib.hid (show DkS _ (w.heap.size + 4) A2 c2 R.l.bs from HS2.out.keep fun k hk => hu.other k (ne25 k hk) (HS2.out.lt k hk).2)
              clear hu
              generalize ((z14.setCell ⟨g25, 0, none⟩ (.int .i64 R.c)).setCell ⟨g25, 1, none⟩ (.int .i64 0)).setCell ⟨g25, 2, none⟩ (.int .i64 (R.u : Int)) = z15 at *
              have hL0 := hL
              clear hL
              refine Kt.G.done (by kernel_rfl) (NoPanic.normal ?_) _
              go_wp2_with fail
              go_meet
              case rel => exact ⟨g23, g25, A2, c2, rfl, rfl, rfl, kg25.1, hL0.1, hL0.2, r23, r25, HS2.out⟩
          · have hal := Kt.balloc (Below.refl _ (X0)) (.cells #[.int .i64 0, .int .i64 0, .int .i64 0] 30)
            go_simp
            refine hK.out _ _ (fun _ => ⟨hHeld.1.on hal, Kt.row_on hal hHeld.2⟩) (fun hHeld => ?_)
            have hHeld := hHeld rfl
            clear hK K
            try simp only [Act.put, List.setIfInBounds_toArray, List.set_cons_zero, List.set_cons_succ]
            have r25 := heap_alloc_new (X0) (.cells #[.int .i64 0, .int .i64 0, .int .i64 0] 30)
            obtain ⟨g25, hg25⟩ : ∃ g, g = (X0).heap.size := ⟨_, rfl⟩
            rw [← hg25] at r25
            have kg25 : w.heap.size + 3 < g25 ∧ g20 < g25 := by rw [hg25]; exact ⟨by have := HLT.out; have := HG20.out; omega, HLT.out⟩
            replace HLT := Lib.hid (Nat.lt_of_lt_of_le HLT.out hal.size)
            replace HQ := Lib.hid (HQ.out.on hal)
            clear hal
            (try rw [← hg25])
            clear hg25
            generalize (X0).alloc (.cells #[.int .i64 0, .int .i64 0, .int .i64 0] 30) = y16 at *
            refine Kt.G.two 7 12 { dst := some 76, op := Op.call { callee := Callee.value (Operand.func 41), args := #[Operand.tmp 69, Operand.tmp 70, Operand.tmp 71, Operand.tmp 75], argTypes := #[26, 75, 9, 27] }, type := 31, pos := "store.go:140", after := #[{ on := 0, ground := Ground.data }, { on := 1, ground := Ground.data }, { on := 2, ground := Ground.data }, { on := 6, ground := Ground.data }], guard := none } { dst := some 23, op := Op.alloc 26, type := 0, pos := "store.go:140", after := #[], guard := none } rfl rfl (by kernel_rfl) (by rfl) (by rfl) (fun K hK => ?_) (fun K hK => ?_)
            · go_simp
              refine (HCY.out A' c' FX (fc - u') _ (HQ.out.toA HA.out hHeld.1.bel) (HFX.out.on hHeld.1.bel)).mono ?_
              rintro en x7 ⟨A2, c2, rfl, hs7, hb7⟩
              refine hK.out _ _ (fun _ => ⟨hHeld.1.on hb7, Kt.row_on hb7 hHeld.2⟩) (fun hHeld => ?_)
              have hHeld := hHeld rfl
              clear hK K
              try simp only [Act.put, List.setIfInBounds_toArray, List.set_cons_zero, List.set_cons_succ]
              have HS2 : Hid (DkS x7 (w.heap.size + 4) A2 c2 R.l.bs) := Lib.hid (Kt.Sl.mono hs7 (by have := HLT.out; have := HG20.out; omega))
              have ne25 : ∀ k, (Value.slice A2 R.l.bs.length c2).ownBlock = some k → k ≠ g25 := fun k hk => by have := (hs7.lt k hk).1; have := (Array.getElem?_eq_some_iff.1 r25).1; omega
              clear HQ
              replace r25 := Kt.row_on hb7 r25
              replace HLT := Lib.hid (Nat.lt_of_lt_of_le HLT.out hb7.size)
              clear hs7 hb7
              refine Kt.G.takeP 8 { dst := some 68, op := Op.move (Operand.tmp 76), type := 31, pos := "store.go:140", after := #[{ on := 7, ground := Ground.data }], guard := none } ?_ (fun _ => hHeld) rfl (by kernel_rfl) (fun _ _ _ h => h) (by rfl) ?_ ?_
              rotate_left
              · intro w; go_simp; try with_reducible rfl
              try simp only [Act.put, List.setIfInBounds_toArray, List.set_cons_zero, List.set_cons_succ]
              refine Kt.G.takeP 9 { dst := some 77, op := Op.extract (Operand.tmp 68) 0, type := 26, pos := "store.go:140", after := #[{ on := 8, ground := Ground.data }], guard := none } ?_ (fun _ => hHeld) rfl (by kernel_rfl) (fun _ _ _ h => h) (by rfl) ?_ ?_
              rotate_left
              · intro w; go_simp; try with_reducible rfl
              try simp only [Act.put, List.setIfInBounds_toArray, List.set_cons_zero, List.set_cons_succ]
              refine Kt.G.takeP 10 { dst := some 78, op := Op.extract (Operand.tmp 68) 1, type := 9, pos := "store.go:140", after := #[{ on := 8, ground := Ground.data }, { on := 14, ground := Ground.gcOnly Departure.lateStores }], guard := none } ?_ (fun _ => hHeld) rfl (by kernel_rfl) (fun _ _ _ h => h) (by rfl) ?_ ?_
              rotate_left
              · intro w; go_simp; try with_reducible rfl
              try simp only [Act.put, List.setIfInBounds_toArray, List.set_cons_zero, List.set_cons_succ]
              refine Kt.G.takeP 11 { dst := some 79, op := Op.extract (Operand.tmp 68) 2, type := 30, pos := "store.go:140", after := #[{ on := 8, ground := Ground.data }, { on := 15, ground := Ground.gcOnly Departure.lateStores }], guard := none } ?_ (fun _ => hHeld) rfl (by kernel_rfl) (fun _ _ _ h => h) (by rfl) ?_ ?_
              rotate_left
              · intro w; go_simp; try with_reducible rfl
              try simp only [Act.put, List.setIfInBounds_toArray, List.set_cons_zero, List.set_cons_succ]
              refine Kt.G.one 12 { dst := some 23, op := Op.alloc 26, type := 0, pos := "store.go:140", after := #[], guard := none } rfl (by kernel_rfl) (by rfl) (fun K hK => ?_)
              have hal := Kt.balloc (Below.refl _ (x7)) (.cells #[.slice none 0 0, .int .i64 0, .int .i64 0] 26)
              go_simp
              refine hK.out _ _ (fun _ => ⟨hHeld.1.on hal, Kt.row_on hal hHeld.2⟩) (fun hHeld => ?_)
              have hHeld := hHeld rfl
              clear hK K
              try simp only [Act.put, List.setIfInBounds_toArray, List.set_cons_zero, List.set_cons_succ]
              have r23 := heap_alloc_new (x7) (.cells #[.slice none 0 0, .int .i64 0, .int .i64 0] 26)
              obtain ⟨g23, hg23⟩ : ∃ g, g = (x7).heap.size := ⟨_, rfl⟩
              rw [← hg23] at r23
              have kg23 : w.heap.size + 3 < g23 ∧ g20 < g23 := by rw [hg23]; exact ⟨by have := HLT.out; have := HG20.out; omega, HLT.out⟩
              have ne23 : ∀ k, (Value.slice A2 R.l.bs.length c2).ownBlock = some k → k ≠ g23 := fun k hk => by rw [hg23]; have := (HS2.out.lt k hk).2; omega
              have kk : g23 ≠ g25 := by rw [hg23]; have := (Array.getElem?_eq_some_iff.1 r25).1; omega
              replace HLT := Lib.hid (Nat.lt_of_lt_of_le HLT.out hal.size)
              replace r25 := Kt.row_on hal r25
              replace HS2 := Lib.hid (DkS.on HS2.out hal)
              clear hal
              (try rw [← hg23])
              clear hg23
              generalize (x7).alloc (.cells #[.slice none 0 0, .int .i64 0, .int .i64 0] 26) = y17 at *
              refine Kt.G.one 14 { dst := none, op := Op.store 26 (Operand.tmp 23) (Operand.tmp 77), type := 0, pos := "store.go:140", after := #[{ on := 12, ground := Ground.data }, { on := 9, ground := Ground.data }, { on := 7, ground := Ground.chain }, { on := 0, ground := Ground.phase }, { on := 1, ground := Ground.phase }, { on := 2, ground := Ground.phase }, { on := 3, ground := Ground.phase }, { on := 4, ground := Ground.phase }, { on := 5, ground := Ground.phase }, { on := 6, ground := Ground.phase }, { on := 7, ground := Ground.phase }, { on := 8, ground := Ground.phase }, { on := 9, ground := Ground.phase }, { on := 10, ground := Ground.textOnly Departure.lateStores }, { on := 11, ground := Ground.textOnly Departure.lateStores }, { on := 12, ground := Ground.phase }, { on := 13, ground := Ground.phase }], guard := none } rfl (by kernel_rfl) (by rfl) (fun K hK => ?_)
              have cK := fun i => cell_of_row _ _ i _ _ _ r23
              have fK := fun i => frozen_of_row _ _ i _ _ r23
              have hu := (((Upd.refl g23 y17).set 0 (.slice A2 R.l.bs.length c2)).set 1 (.int .i64 R.l.s)).set 2 (.int .i64 R.l.tag)
              go_simp
              clear cK fK
              refine hK.out _ _ (fun _ => ⟨hHeld.1.upd hu kg23.1, hu.row hHeld.2 (by have := kg23.2; omega)⟩) (fun hHeld => ?_)
              have hHeld := hHeld rfl
              clear hK K
              try simp only [Act.put, List.setIfInBounds_toArray, List.set_cons_zero, List.set_cons_succ]
              replace r23 := row_put3 (x' := .slice A2 R.l.bs.length c2) (y' := .int .i64 R.l.s) (z' := .int .i64 R.l.tag) r23
              replace r25 := hu.row r25 (by omega)
              replace HS2 := Lib.hid (show DkS _ (w.heap.size + 4) A2 c2 R.l.bs from HS2.out.keep fun k hk => hu.other k (ne23 k hk) (HS2.out.lt k hk).2)
              clear hu
              generalize ((y17.setCell ⟨g23, 0, none⟩ (.slice A2 R.l.bs.length c2)).setCell ⟨g23, 1, none⟩ (.int .i64 R.l.s)).setCell ⟨g23, 2, none⟩ (.int .i64 R.l.tag) = z18 at *
              refine Kt.G.takeP 15 { dst := some 24, op := Op.assign (Operand.tmp 78), type := 9, pos := "store.go:140", after := #[{ on := 10, ground := Ground.data }, { on := 14, ground := Ground.chain }, { on := 0, ground := Ground.phase }, { on := 1, ground := Ground.phase }, { on := 2, ground := Ground.phase }, { on := 3, ground := Ground.phase }, { on := 4, ground := Ground.phase }, { on := 5, ground := Ground.phase }, { on := 6, ground := Ground.phase }, { on := 7, ground := Ground.phase }, { on := 8, ground := Ground.phase }, { on := 9, ground := Ground.phase }, { on := 10, ground := Ground.phase }, { on := 11, ground := Ground.textOnly Departure.lateStores }, { on := 12, ground := Ground.phase }, { on := 13, ground := Ground.phase }, { on := 14, ground := Ground.phase }], guard := none } ?_ (fun _ => hHeld) rfl (by kernel_rfl) (fun _ _ _ h => h) (by rfl) ?_ ?_
              rotate_left
              · intro w; go_simp; try with_reducible rfl
              try simp only [Act.put, List.setIfInBounds_toArray, List.set_cons_zero, List.set_cons_succ]
              refine Kt.G.one 16 { dst := none, op := Op.store 30 (Operand.tmp 25) (Operand.tmp 79), type := 0, pos := "store.go:140", after := #[{ on := 13, ground := Ground.data }, { on := 11, ground := Ground.data }, { on := 15, ground := Ground.chain }, { on := 0, ground := Ground.phase }, { on := 1, ground := Ground.phase }, { on := 2, ground := Ground.phase }, { on := 3, ground := Ground.phase }, { on := 4, ground := Ground.phase }, { on := 5, ground := Ground.phase }, { on := 6, ground := Ground.phase }, { on := 7, ground := Ground.phase }, { on := 8, ground := Ground.phase }, { on := 9, ground := Ground.phase }, { on := 10, ground := Ground.phase }, { on := 11, ground := Ground.phase }, { on := 12, ground := Ground.phase }, { on := 13, ground := Ground.phase }, { on := 14, ground := Ground.phase }, { on := 15, ground := Ground.phase }], guard := none } rfl (by kernel_rfl) (by rfl) (fun K hK => ?_)
              have cK := fun i => cell_of_row _ _ i _ _ _ r25
              have fK := fun i => frozen_of_row _ _ i _ _ r25
              have hu := (((Upd.refl g25 z18).set 0 (.int .i64 R.c)).set 1 (.int .i64 0)).set 2 (.int .i64 (R.u : Int))
              go_simp
              clear cK fK
              have hL := (show _ ∧ _ from ⟨hHeld.1.upd hu kg25.1, hu.row hHeld.2 (by have := kg25.2; omega)⟩)
              refine hK.out _ _ (Kt.G.late (by kernel_rfl)) (fun _ => ?_)
              clear hK K
              try simp only [Act.put, List.setIfInBounds_toArray, List.set_cons_zero, List.set_cons_succ]
              replace r25 := row_put3 (x' := .int .i64 R.c) (y' := .int .i64 0) (z' := .int .i64 (R.u : Int)) r25
              replace r23 := hu.row r23 (by omega)
              replace HS2 := Lib.hid (show DkS _ (w.heap.size + 4) A2 c2 R.l.bs from HS2.out.keep fun k hk => hu.other k (ne25 k hk) (HS2.out.lt k hk).2)
              clear hu
              generalize ((z18.setCell ⟨g25, 0, none⟩ (.int .i64 R.c)).setCell ⟨g25, 1, none⟩ (.int .i64 0)).setCell ⟨g25, 2, none⟩ (.int .i64 (R.u : Int)) = z19 at *
              have hL0 := hL
              clear hL
              refine Kt.G.done (by kernel_rfl) (NoPanic.normal ?_) _
              go_wp2_with fail
              go_meet
              case rel => exact ⟨g23, g25, A2, c2, rfl, rfl, rfl, kg25.1, hL0.1, hL0.2, r23, r25, HS2.out⟩
            · have hal := Kt.balloc (Below.refl _ (y16)) (.cells #[.slice none 0 0, .int .i64 0, .int .i64 0] 26)
              go_simp
              refine hK.out _ _ (fun _ => ⟨hHeld.1.on hal, Kt.row_on hal hHeld.2⟩) (fun hHeld => ?_)
              have hHeld := hHeld rfl
              clear hK K
              try simp only [Act.put, List.setIfInBounds_toArray, List.set_cons_zero, List.set_cons_succ]
              have r23 := heap_alloc_new (y16) (.cells #[.slice none 0 0, .int .i64 0, .int .i64 0] 26)
              obtain ⟨g23, hg23⟩ : ∃ g, g = (y16).heap.size := ⟨_, rfl⟩
              rw [← hg23] at r23
              have kg23 : w.heap.size + 3 < g23 ∧ g20 < g23 := by rw [hg23]; exact ⟨by have := HLT.out; have := HG20.out; omega, HLT.out⟩
              have kk : g23 ≠ g25 := by rw [hg23]; have := (Array.getElem?_eq_some_iff.1 r25).1; omega
              replace HLT := Lib.hid (Nat.lt_of_lt_of_le HLT.out hal.size)
              replace HQ := Lib.hid (HQ.out.on hal)
              replace r25 := Kt.row_on hal r25
              clear hal
              (try rw [← hg23])
              clear hg23
              generalize (y16).alloc (.cells #[.slice none 0 0, .int .i64 0, .int .i64 0] 26) = y20 at *
              refine Kt.G.one 7 { dst := some 76, op := Op.call { callee := Callee.value (Operand.func 41), args := #[Operand.tmp 69, Operand.tmp 70, Operand.tmp 71, Operand.tmp 75], argTypes := #[26, 75, 9, 27] }, type := 31, pos := "store.go:140", after := #[{ on := 0, ground := Ground.data }, { on := 1, ground := Ground.data }, { on := 2, ground := Ground.data }, { on := 6, ground := Ground.data }], guard := none } rfl (by kernel_rfl) (by rfl) (fun K hK => ?_)
              go_simp
              refine (HCY.out A' c' FX (fc - u') _ (HQ.out.toA HA.out hHeld.1.bel) (HFX.out.on hHeld.1.bel)).mono ?_
              rintro en x7 ⟨A2, c2, rfl, hs7, hb7⟩
              refine hK.out _ _ (fun _ => ⟨hHeld.1.on hb7, Kt.row_on hb7 hHeld.2⟩) (fun hHeld => ?_)
              have hHeld := hHeld rfl
              clear hK K
              try simp only [Act.put, List.setIfInBounds_toArray, List.set_cons_zero, List.set_cons_succ]
              have HS2 : Hid (DkS x7 (w.heap.size + 4) A2 c2 R.l.bs) := Lib.hid (Kt.Sl.mono hs7 (by have := HLT.out; have := HG20.out; omega))
              have ne23 : ∀ k, (Value.slice A2 R.l.bs.length c2).ownBlock = some k → k ≠ g23 := fun k hk => by have := (hs7.lt k hk).1; have := (Array.getElem?_eq_some_iff.1 r23).1; omega
              have ne25 : ∀ k, (Value.slice A2 R.l.bs.length c2).ownBlock = some k → k ≠ g25 := fun k hk => by have := (hs7.lt k hk).1; have := (Array.getElem?_eq_some_iff.1 r25).1; omega
              clear HQ
              replace r23 := Kt.row_on hb7 r23
              replace r25 := Kt.row_on hb7 r25
              replace HLT := Lib.hid (Nat.lt_of_lt_of_le HLT.out hb7.size)
              clear hs7 hb7
              refine Kt.G.takeP 8 { dst := some 68, op := Op.move (Operand.tmp 76), type := 31, pos := "store.go:140", after := #[{ on := 7, ground := Ground.data }], guard := none } ?_ (fun _ => hHeld) rfl (by kernel_rfl) (fun _ _ _ h => h) (by rfl) ?_ ?_
              rotate_left
              · intro w; go_simp; try with_reducible rfl
              try simp only [Act.put, List.setIfInBounds_toArray, List.set_cons_zero, List.set_cons_succ]
              refine Kt.G.takeP 9 { dst := some 77, op := Op.extract (Operand.tmp 68) 0, type := 26, pos := "store.go:140", after := #[{ on := 8, ground := Ground.data }], guard := none } ?_ (fun _ => hHeld) rfl (by kernel_rfl) (fun _ _ _ h => h) (by rfl) ?_ ?_
              rotate_left
              · intro w; go_simp; try with_reducible rfl
              try simp only [Act.put, List.setIfInBounds_toArray, List.set_cons_zero, List.set_cons_succ]
              refine Kt.G.takeP 10 { dst := some 78, op := Op.extract (Operand.tmp 68) 1, type := 9, pos := "store.go:140", after := #[{ on := 8, ground := Ground.data }, { on := 14, ground := Ground.gcOnly Departure.lateStores }], guard := none } ?_ (fun _ => hHeld) rfl (by kernel_rfl) (fun _ _ _ h => h) (by rfl) ?_ ?_
              rotate_left
              · intro w; go_simp; try with_reducible rfl
              try simp only [Act.put, List.setIfInBounds_toArray, List.set_cons_zero, List.set_cons_succ]
              refine Kt.G.takeP 11 { dst := some 79, op := Op.extract (Operand.tmp 68) 2, type := 30, pos := "store.go:140", after := #[{ on := 8, ground := Ground.data }, { on := 15, ground := Ground.gcOnly Departure.lateStores }], guard := none } ?_ (fun _ => hHeld) rfl (by kernel_rfl) (fun _ _ _ h => h) (by rfl) ?_ ?_
              rotate_left
              · intro w; go_simp; try with_reducible rfl
              try simp only [Act.put, List.setIfInBounds_toArray, List.set_cons_zero, List.set_cons_succ]
              refine Kt.G.one 14 { dst := none, op := Op.store 26 (Operand.tmp 23) (Operand.tmp 77), type := 0, pos := "store.go:140", after := #[{ on := 12, ground := Ground.data }, { on := 9, ground := Ground.data }, { on := 7, ground := Ground.chain }, { on := 0, ground := Ground.phase }, { on := 1, ground := Ground.phase }, { on := 2, ground := Ground.phase }, { on := 3, ground := Ground.phase }, { on := 4, ground := Ground.phase }, { on := 5, ground := Ground.phase }, { on := 6, ground := Ground.phase }, { on := 7, ground := Ground.phase }, { on := 8, ground := Ground.phase }, { on := 9, ground := Ground.phase }, { on := 10, ground := Ground.textOnly Departure.lateStores }, { on := 11, ground := Ground.textOnly Departure.lateStores }, { on := 12, ground := Ground.phase }, { on := 13, ground := Ground.phase }], guard := none } rfl (by kernel_rfl) (by rfl) (fun K hK => ?_)
              have cK := fun i => cell_of_row _ _ i _ _ _ r23
              have fK := fun i => frozen_of_row _ _ i _ _ r23
              have hu := (((Upd.refl g23 x7).set 0 (.slice A2 R.l.bs.length c2)).set 1 (.int .i64 R.l.s)).set 2 (.int .i64 R.l.tag)
              go_simp
              clear cK fK
              refine hK.out _ _ (fun _ => ⟨hHeld.1.upd hu kg23.1, hu.row hHeld.2 (by have := kg23.2; omega)⟩) (fun hHeld => ?_)
              have hHeld := hHeld rfl
              clear hK K
              try simp only [Act.put, List.setIfInBounds_toArray, List.set_cons_zero, List.set_cons_succ]
              replace r23 := row_put3 (x' := .slice A2 R.l.bs.length c2) (y' := .int .i64 R.l.s) (z' := .int .i64 R.l.tag) r23
              replace r25 := hu.row r25 (by omega)
              replace HS2 := Lib.hid (show DkS _ (w.heap.size + 4) A2 c2 R.l.bs from HS2.out.keep fun k hk => hu.other k (ne23 k hk) (HS2.out.lt k hk).2)
              clear hu
              generalize ((x7.setCell ⟨g23, 0, none⟩ (.slice A2 R.l.bs.length c2)).setCell ⟨g23, 1, none⟩ (.int .i64 R.l.s)).setCell ⟨g23, 2, none⟩ (.int .i64 R.l.tag) = z21 at *
              refine Kt.G.takeP 15 { dst := some 24, op := Op.assign (Operand.tmp 78), type := 9, pos := "store.go:140", after := #[{ on := 10, ground := Ground.data }, { on := 14, ground := Ground.chain }, { on := 0, ground := Ground.phase }, { on := 1, ground := Ground.phase }, { on := 2, ground := Ground.phase }, { on := 3, ground := Ground.phase }, { on := 4, ground := Ground.phase }, { on := 5, ground := Ground.phase }, { on := 6, ground := Ground.phase }, { on := 7, ground := Ground.phase }, { on := 8, ground := Ground.phase }, { on := 9, ground := Ground.phase }, { on := 10, ground := Ground.phase }, { on := 11, ground := Ground.textOnly Departure.lateStores }, { on := 12, ground := Ground.phase }, { on := 13, ground := Ground.phase }, { on := 14, ground := Ground.phase }], guard := none } ?_ (fun _ => hHeld) rfl (by kernel_rfl) (fun _ _ _ h => h) (by rfl) ?_ ?_
              rotate_left
              · intro w; go_simp; try with_reducible rfl
              try simp only [Act.put, List.setIfInBounds_toArray, List.set_cons_zero, List.set_cons_succ]
              refine Kt.G.one 16 { dst := none, op := Op.store 30 (Operand.tmp 25) (Operand.tmp 79), type := 0, pos := "store.go:140", after := #[{ on := 13, ground := Ground.data }, { on := 11, ground := Ground.data }, { on := 15, ground := Ground.chain }, { on := 0, ground := Ground.phase }, { on := 1, ground := Ground.phase }, { on := 2, ground := Ground.phase }, { on := 3, ground := Ground.phase }, { on := 4, ground := Ground.phase }, { on := 5, ground := Ground.phase }, { on := 6, ground := Ground.phase }, { on := 7, ground := Ground.phase }, { on := 8, ground := Ground.phase }, { on := 9, ground := Ground.phase }, { on := 10, ground := Ground.phase }, { on := 11, ground := Ground.phase }, { on := 12, ground := Ground.phase }, { on := 13, ground := Ground.phase }, { on := 14, ground := Ground.phase }, { on := 15, ground := Ground.phase }], guard := none } rfl (by kernel_rfl) (by rfl) (fun K hK => ?_)
              have cK := fun i => cell_of_row _ _ i _ _ _ r25
              have fK := fun i => frozen_of_row _ _ i _ _ r25
              have hu := (((Upd.refl g25 z21).set 0 (.int .i64 R.c)).set 1 (.int .i64 0)).set 2 (.int .i64 (R.u : Int))
              go_simp
              clear cK fK
              have hL := (show _ ∧ _ from ⟨hHeld.1.upd hu kg25.1, hu.row hHeld.2 (by have := kg25.2; omega)⟩)
              refine hK.out _ _ (Kt.G.late (by kernel_rfl)) (fun _ => ?_)
              clear hK K
              try simp only [Act.put, List.setIfInBounds_toArray, List.set_cons_zero, List.set_cons_succ]
              replace r25 := row_put3 (x' := .int .i64 R.c) (y' := .int .i64 0) (z' := .int .i64 (R.u : Int)) r25
              replace r23 := hu.row r23 (by omega)
              replace HS2 := Lib.hid (show DkS _ (w.heap.size + 4) A2 c2 R.l.bs from HS2.out.keep fun k hk => hu.other k (ne25 k hk) (HS2.out.lt k hk).2)
              clear hu
              generalize ((z21.setCell ⟨g25, 0, none⟩ (.int .i64 R.c)).setCell ⟨g25, 1, none⟩ (.int .i64 0)).setCell ⟨g25, 2, none⟩ (.int .i64 (R.u : Int)) = z22 at *
              have hL0 := hL
              clear hL
              refine Kt.G.done (by kernel_rfl) (NoPanic.normal ?_) _
              go_wp2_with fail
              go_meet
              case rel => exact ⟨g23, g25, A2, c2, rfl, rfl, rfl, kg25.1, hL0.1, hL0.2, r23, r25, HS2.out⟩
        case rest =>
          obtain ⟨g23, g25, A2, c2, rfl, rfl, rfl, k25, hpb, hrw, r23, r25, hs2⟩ := hcut
          clear HPB HQB HRW HCY HFX hFX
          have hle := cyc_u false (a + d) n ByteArray.empty l' (fs.drop u')
          rw [← HR.out, List.length_drop] at hle
          have q0 := fun i => cell_of_row _ _ i _ _ _ hpb.r0
          have f0 := fun i => frozen_of_row _ _ i _ _ hpb.r0
          have q23 := fun i => cell_of_row _ _ i _ _ _ r23
          have k20 : g20 ≠ w.heap.size := by have := HG20.out; omega
          go_upto_region 14 with (fail)
          refine Kt.fold (fun W => PB w A2 c2 R.l 0 (d : Int) (u' : Int) W ∧ QB w A0 c0 l0.bs A2 c2 R.l.bs W ∧ W.heap[g20]? = some (.cells #[.int .i64 0, .int .i64 ((n : Int) * 16), .bool true, .int .i64 0, .string M] 75 (0, 0)) ∧ W.heap[g25]? = some (.cells #[.int .i64 R.c, .int .i64 0, .int .i64 (R.u : Int)] 30 (0, 0)))
            ⟨hpb.link R.l, (((show QB w A0 c0 l0.bs A2 c2 R.l.bs _ from .inr hs2).set w.heap.size 0 (by omega) _).set w.heap.size 1 (by omega) _).set w.heap.size 2 (by omega) _,
             ((((Upd.refl w.heap.size _).set 0 _).set 1 _).set 2 _).row hrw k20, ((((Upd.refl w.heap.size _).set 0 _).set 1 _).set 2 _).row r25 (by omega)⟩ ?_
          rintro W5 ⟨hp, hq, hr20, hr25⟩
          clear q0 f0 q23 hpb hrw r23 r25 hs2
          have HPB := Lib.hid hp
          have HQB := Lib.hid hq
          have HR20 := Lib.hid hr20
          have q3 := fun i => cell_of_row _ _ i _ _ _ hp.r3
          have f3 := fun i => frozen_of_row _ _ i _ _ hp.r3
          have q25 := fun i => cell_of_row _ _ i _ _ _ hr25
          have HR25 := Lib.hid hr25
          clear hp hq hr20 hr25
          go_upto_region 15 with (fail)
          refine Kt.fold (fun W => PB w A2 c2 R.l 0 (d : Int) ((u' : Int) + (R.u : Int)) W ∧ QB w A0 c0 l0.bs A2 c2 R.l.bs W ∧ W.heap[g20]? = some (.cells #[.int .i64 0, .int .i64 ((n : Int) * 16), .bool true, .int .i64 0, .string M] 75 (0, 0)) ∧ W.heap[g25]? = some (.cells #[.int .i64 R.c, .int .i64 0, .int .i64 (R.u : Int)] 30 (0, 0)))
            ⟨HPB.out.cell2 _, HQB.out.set _ _ (by omega) _, ((Upd.refl (w.heap.size + 1 + 1 + 1) _).set 2 _).row HR20.out (by have := HG20.out; omega), ((Upd.refl (w.heap.size + 1 + 1 + 1) _).set 2 _).row HR25.out (by omega)⟩ ?_
          rintro W6 ⟨hp, hq, hr20, hr25⟩
          clear q3 f3 q25 HPB HQB HR20 HR25
          have HPB := Lib.hid hp
          have HQB := Lib.hid hq
          have HR20 := Lib.hid hr20
          have q25 := fun i => cell_of_row _ _ i _ _ _ hr25
          have q3 := fun i => cell_of_row _ _ i _ _ _ hp.r3
          have f3 := fun i => frozen_of_row _ _ i _ _ hp.r3
          have hcc := cyc_c false (a + d) n ByteArray.empty l' (fs.drop u')
          have hkp := cyc_keep (wr := false) (n := n) (data := ByteArray.empty) (fs := fs.drop u') HOK'.out (a := a + d) (by rw [HLN'.out]; omega) (fun q => by cases q)
          rw [← HR.out] at hcc hkp
          have HKP := Lib.hid hkp
          clear hp hq hr20 hr25 hkp
          rcases hcc with z | z | z | z
          · have HT : Hid (T0.l = R.l ∧ T0.t = R.t ∧ T0.c = 0 ∧ u + T0.u = u' + R.u) := Lib.hid (by
              obtain ⟨t1, t2, t3, t4⟩ := HTR.out
              have e := tries_end (wr := false) (a := a + d) (n := n) (data := ByteArray.empty) (l := l') (fs := fs.drop u') (by rw [← HR.out, z]; decide) (2 - j)
              rw [e, ← HR.out] at t1 t2 t3 t4
              exact ⟨t1.symm, t2.symm, by rw [← t3, z], t4.symm⟩)
            have hct := cyc_t (wr := false) (data := ByteArray.empty) (fs := fs.drop u') HOK'.out (a := a + d) (n := n) (by rw [HLN'.out]; omega)
            rw [← HR.out] at hct
            have hsz : tt.size + R.t.size ≤ 9223372036854775807 := by omega
            have hsz' : ¬ 9223372036854775807 < tt.size + R.t.size := by omega
            go_upto_region 21 with (fail)
            clear hsz hsz'
            go_upto_block 0 with (fail)
            have hp7 := HPB.out.cell1 ((d : Int) + (n : Int))
            have hp8 : PB w A2 c2 R.l 0 ((d + n : Nat) : Int) ((u' + R.u : Nat) : Int) (W6.setCell ⟨w.heap.size + 1 + 1 + 1, 1, none⟩ (.int .i64 ((d : Int) + (n : Int)))) := by rw [Int.natCast_add, Int.natCast_add]; exact hp7
            refine ⟨⟨k - 1, d + n, u' + R.u, R.l, A2, c2, tt ++ R.t, rfl, HKP.out.1, HKP.out.2.trans HLN'.out, hdn, by omega, by omega, by rw [ByteArray.size_append]; omega, hp8, HQB.out.set _ _ (by omega) _, ?_⟩, ?_⟩
            · have hpr := HPOR.out
              rw [show k = (k - 1) + 1 by omega, por_go hlt, ← HN1.out, show Sto.part false ⟨#[]⟩ d n = ByteArray.empty from rfl, ← HT0.out, if_pos HT.out.2.2.1, HT.out.1, HT.out.2.1, HT.out.2.2.2] at hpr
              exact hpr
            · rw [hp8.dOf', HMS.out]; omega
          · by_cases j2 : j < 2
            · have HTN := Lib.hid (tries_next HR.out (.inl z) j2)
              have ij : (j : Int) < 2 := by omega
              have ij2 : ¬ (j : Int) = 2 := by omega
              go_wp2_with fail
              have hp8 : PB w A2 c2 R.l 0 (d : Int) ((u' + R.u : Nat) : Int) W6 := by rw [Int.natCast_add]; exact HPB.out
              obtain ⟨t1, t2, t3, t4⟩ := HTR.out
              obtain ⟨s1, s2, s3, s4⟩ := HTN.out
              refine ⟨⟨j + 1, u' + R.u, R.l, A2, c2, rfl, by go_num, by omega, HKP.out.1, HKP.out.2.trans HLN'.out, by omega, hp8, HQB.out, HR20.out, s1.trans t1, s2.trans t2, s3.trans t3, s4.trans t4⟩, ?_⟩
              simp [intOf]; omega
            · have j3 : j = 2 := by omega
              have ij : (j : Int) = 2 := by omega
              have HOE : Hid (O = ⟨R.l, tt, 8, d, u' + R.u⟩) := Lib.hid (by
                obtain ⟨t1, t2, t3, t4⟩ := HTR.out
                have e : tries false (a + d) n ByteArray.empty (2 - j) l' (fs.drop u') = cyc false (a + d) n ByteArray.empty l' (fs.drop u') := by rw [show 2 - j = 0 by omega]; rfl
                rw [e, ← HR.out] at t1 t2 t3 t4
                have hpr := HPOR.out
                rw [show k = (k - 1) + 1 by omega, por_go hlt, ← HN1.out, show Sto.part false ⟨#[]⟩ d n = ByteArray.empty from rfl, ← HT0.out, if_neg (by rw [← t3, z]; decide), ← t1, ← t3, ← t4, z] at hpr
                exact hpr.symm)
              go_upto_region 20 with (fail)
              refine Kt.fold (fun W => PB w A2 c2 R.l 8 (d : Int) ((u' : Int) + (R.u : Int)) W ∧ QB w A0 c0 l0.bs A2 c2 R.l.bs W) ⟨HPB.out.cell0 8, HQB.out.set _ _ (by omega) _⟩ ?_
              rintro W7 ⟨hp, hq⟩
              clear q3 f3 q25 HPB HQB HR20
              have q0 := fun i => cell_of_row _ _ i _ _ _ hp.r0
              have q1 := fun i => cell_of_row _ _ i _ _ _ hp.r1
              have f1 := fun i => frozen_of_row _ _ i _ _ hp.r1
              have q2 := fun i => cell_of_row _ _ i _ _ _ hp.r2
              have f2 := fun i => frozen_of_row _ _ i _ _ hp.r2
              have q3 := fun i => cell_of_row _ _ i _ _ _ hp.r3
              have HPB := Lib.hid hp
              have HQB := Lib.hid hq
              clear hp hq
              go_region
              have hdn := HPB.out.done HQB.out rfl
              generalize ((((((W7.setCell ⟨w.heap.size + 1, 0, none⟩ (.slice A2 R.l.bs.length c2)).setCell ⟨w.heap.size + 1, 1, none⟩ (.int .i64 R.l.s)).setCell ⟨w.heap.size + 1, 2, none⟩ (.int .i64 R.l.tag)).setCell ⟨w.heap.size + 1 + 1, 0, none⟩ (.int .i64 8)).setCell ⟨w.heap.size + 1 + 1, 1, none⟩ (.int .i64 (d : Int))).setCell ⟨w.heap.size + 1 + 1, 2, none⟩ (.int .i64 ((u' : Int) + (R.u : Int)))).drew = W9 at *
              have HDN := Lib.hid hdn
              have e1 := ld_lk hdn.1
              have e2 := ld_oc hdn.2.1
              clear hdn q0 q1 f1 q2 f2 q3 HPB HQB
              go_wp2_with fail
              refine bodyPost_ret (v := .tuple #[.agg #[.slice A2 R.l.bs.length c2, .int .i64 R.l.s, .int .i64 R.l.tag], .string tt, .agg #[.int .i64 8, .int .i64 (d : Int), .int .i64 ((u' : Int) + (R.u : Int))]]) (by simp [results, Try.results25, asAddr, e1, e2]) rfl ?_
              rw [HOE.out]
              exact ⟨A2, c2, rfl, HDN.out.2.2.1.imp id (fun q => Kt.Sl.mono q (by omega)), HDN.out.2.2.2⟩
          · by_cases j2 : j < 2
            · have HTN := Lib.hid (tries_next HR.out (.inr z) j2)
              have ij : (j : Int) < 2 := by omega
              have ij2 : ¬ (j : Int) = 2 := by omega
              go_wp2_with fail
              have hp8 : PB w A2 c2 R.l 0 (d : Int) ((u' + R.u : Nat) : Int) W6 := by rw [Int.natCast_add]; exact HPB.out
              obtain ⟨t1, t2, t3, t4⟩ := HTR.out
              obtain ⟨s1, s2, s3, s4⟩ := HTN.out
              refine ⟨⟨j + 1, u' + R.u, R.l, A2, c2, rfl, by go_num, by omega, HKP.out.1, HKP.out.2.trans HLN'.out, by omega, hp8, HQB.out, HR20.out, s1.trans t1, s2.trans t2, s3.trans t3, s4.trans t4⟩, ?_⟩
              simp [intOf]; omega
            · have j3 : j = 2 := by omega
              have ij : (j : Int) = 2 := by omega
              have HOE : Hid (O = ⟨R.l, tt, 9, d, u' + R.u⟩) := Lib.hid (by
                obtain ⟨t1, t2, t3, t4⟩ := HTR.out
                have e : tries false (a + d) n ByteArray.empty (2 - j) l' (fs.drop u') = cyc false (a + d) n ByteArray.empty l' (fs.drop u') := by rw [show 2 - j = 0 by omega]; rfl
                rw [e, ← HR.out] at t1 t2 t3 t4
                have hpr := HPOR.out
                rw [show k = (k - 1) + 1 by omega, por_go hlt, ← HN1.out, show Sto.part false ⟨#[]⟩ d n = ByteArray.empty from rfl, ← HT0.out, if_neg (by rw [← t3, z]; decide), ← t1, ← t3, ← t4, z] at hpr
                exact hpr.symm)
              go_upto_region 20 with (fail)
              refine Kt.fold (fun W => PB w A2 c2 R.l 9 (d : Int) ((u' : Int) + (R.u : Int)) W ∧ QB w A0 c0 l0.bs A2 c2 R.l.bs W) ⟨HPB.out.cell0 9, HQB.out.set _ _ (by omega) _⟩ ?_
              rintro W7 ⟨hp, hq⟩
              clear q3 f3 q25 HPB HQB HR20
              have q0 := fun i => cell_of_row _ _ i _ _ _ hp.r0
              have q1 := fun i => cell_of_row _ _ i _ _ _ hp.r1
              have f1 := fun i => frozen_of_row _ _ i _ _ hp.r1
              have q2 := fun i => cell_of_row _ _ i _ _ _ hp.r2
              have f2 := fun i => frozen_of_row _ _ i _ _ hp.r2
              have q3 := fun i => cell_of_row _ _ i _ _ _ hp.r3
              have HPB := Lib.hid hp
              have HQB := Lib.hid hq
              clear hp hq
              go_region
              have hdn := HPB.out.done HQB.out rfl
              generalize ((((((W7.setCell ⟨w.heap.size + 1, 0, none⟩ (.slice A2 R.l.bs.length c2)).setCell ⟨w.heap.size + 1, 1, none⟩ (.int .i64 R.l.s)).setCell ⟨w.heap.size + 1, 2, none⟩ (.int .i64 R.l.tag)).setCell ⟨w.heap.size + 1 + 1, 0, none⟩ (.int .i64 9)).setCell ⟨w.heap.size + 1 + 1, 1, none⟩ (.int .i64 (d : Int))).setCell ⟨w.heap.size + 1 + 1, 2, none⟩ (.int .i64 ((u' : Int) + (R.u : Int)))).drew = W9 at *
              have HDN := Lib.hid hdn
              have e1 := ld_lk hdn.1
              have e2 := ld_oc hdn.2.1
              clear hdn q0 q1 f1 q2 f2 q3 HPB HQB
              go_wp2_with fail
              refine bodyPost_ret (v := .tuple #[.agg #[.slice A2 R.l.bs.length c2, .int .i64 R.l.s, .int .i64 R.l.tag], .string tt, .agg #[.int .i64 9, .int .i64 (d : Int), .int .i64 ((u' : Int) + (R.u : Int))]]) (by simp [results, Try.results25, asAddr, e1, e2]) rfl ?_
              rw [HOE.out]
              exact ⟨A2, c2, rfl, HDN.out.2.2.1.imp id (fun q => Kt.Sl.mono q (by omega)), HDN.out.2.2.2⟩
          · have HOE : Hid (O = ⟨R.l, tt, 10, d, u' + R.u⟩) := Lib.hid (by
              obtain ⟨t1, t2, t3, t4⟩ := HTR.out
              have e : tries false (a + d) n ByteArray.empty (2 - j) l' (fs.drop u') = cyc false (a + d) n ByteArray.empty l' (fs.drop u') := tries_end (by rw [← HR.out, z]; decide) (2 - j)
              rw [e, ← HR.out] at t1 t2 t3 t4
              have hpr := HPOR.out
              rw [show k = (k - 1) + 1 by omega, por_go hlt, ← HN1.out, show Sto.part false ⟨#[]⟩ d n = ByteArray.empty from rfl, ← HT0.out, if_neg (by rw [← t3, z]; decide), ← t1, ← t3, ← t4, z] at hpr
              exact hpr.symm)
            go_upto_region 20 with (fail)
            refine Kt.fold (fun W => PB w A2 c2 R.l 10 (d : Int) ((u' : Int) + (R.u : Int)) W ∧ QB w A0 c0 l0.bs A2 c2 R.l.bs W) ⟨HPB.out.cell0 10, HQB.out.set _ _ (by omega) _⟩ ?_
            rintro W7 ⟨hp, hq⟩
            clear q3 f3 q25 HPB HQB HR20
            have q0 := fun i => cell_of_row _ _ i _ _ _ hp.r0
            have q1 := fun i => cell_of_row _ _ i _ _ _ hp.r1
            have f1 := fun i => frozen_of_row _ _ i _ _ hp.r1
            have q2 := fun i => cell_of_row _ _ i _ _ _ hp.r2
            have f2 := fun i => frozen_of_row _ _ i _ _ hp.r2
            have q3 := fun i => cell_of_row _ _ i _ _ _ hp.r3
            have HPB := Lib.hid hp
            have HQB := Lib.hid hq
            clear hp hq
            go_region
            have hdn := HPB.out.done HQB.out rfl
            generalize ((((((W7.setCell ⟨w.heap.size + 1, 0, none⟩ (.slice A2 R.l.bs.length c2)).setCell ⟨w.heap.size + 1, 1, none⟩ (.int .i64 R.l.s)).setCell ⟨w.heap.size + 1, 2, none⟩ (.int .i64 R.l.tag)).setCell ⟨w.heap.size + 1 + 1, 0, none⟩ (.int .i64 10)).setCell ⟨w.heap.size + 1 + 1, 1, none⟩ (.int .i64 (d : Int))).setCell ⟨w.heap.size + 1 + 1, 2, none⟩ (.int .i64 ((u' : Int) + (R.u : Int)))).drew = W9 at *
            have HDN := Lib.hid hdn
            have e1 := ld_lk hdn.1
            have e2 := ld_oc hdn.2.1
            clear hdn q0 q1 f1 q2 f2 q3 HPB HQB
            go_wp2_with fail
            refine bodyPost_ret (v := .tuple #[.agg #[.slice A2 R.l.bs.length c2, .int .i64 R.l.s, .int .i64 R.l.tag], .string tt, .agg #[.int .i64 10, .int .i64 (d : Int), .int .i64 ((u' : Int) + (R.u : Int))]]) (by simp [results, Try.results25, asAddr, e1, e2]) rfl ?_
            rw [HOE.out]
            exact ⟨A2, c2, rfl, HDN.out.2.2.1.imp id (fun q => Kt.Sl.mono q (by omega)), HDN.out.2.2.2⟩
    · have hlti : ¬ (d : Int) < (cnt : Int) := by omega
      have HOE : Hid (O = ⟨l, tt, 0, d, u⟩) := Lib.hid (by rw [← HPOR.out, por_end hlt])
      go_upto_region 22 with (fail)
      have q0 := fun i => cell_of_row _ _ i _ _ _ HPB.out.r0
      have q1 := fun i => cell_of_row _ _ i _ _ _ HPB.out.r1
      have f1 := fun i => frozen_of_row _ _ i _ _ HPB.out.r1
      have q2 := fun i => cell_of_row _ _ i _ _ _ HPB.out.r2
      have f2 := fun i => frozen_of_row _ _ i _ _ HPB.out.r2
      go_region
      have hdn := HPB.out.done HQB.out rfl
      generalize ((((((wr.setCell ⟨w.heap.size + 1, 0, none⟩ (.slice A l.bs.length c)).setCell ⟨w.heap.size + 1, 1, none⟩ (.int .i64 l.s)).setCell ⟨w.heap.size + 1, 2, none⟩ (.int .i64 l.tag)).setCell ⟨w.heap.size + 1 + 1, 0, none⟩ (.int .i64 0)).setCell ⟨w.heap.size + 1 + 1, 1, none⟩ (.int .i64 (d : Int))).setCell ⟨w.heap.size + 1 + 1, 2, none⟩ (.int .i64 (u : Int))).drew = W9 at *
      have HDN := Lib.hid hdn
      have e1 := ld_lk hdn.1
      have e2 := ld_oc hdn.2.1
      clear hdn q0 q1 f1 q2 f2 q3 HPB HQB
      go_wp2_with fail
      refine bodyPost_ret (v := .tuple #[.agg #[.slice A l.bs.length c, .int .i64 l.s, .int .i64 l.tag], .string tt, .agg #[.int .i64 0, .int .i64 (d : Int), .int .i64 (u : Int)]]) (by simp [results, Try.results25, asAddr, e1, e2]) rfl ?_
      rw [HOE.out]
      exact ⟨A, c, rfl, HDN.out.2.2.1.imp id (fun q => Kt.Sl.mono q (by omega)), HDN.out.2.2.2⟩
end Go.Proofs.Ytafiedhjjnapoaa
/- The walks of package store: Read, Write. -/
namespace Go.Proofs.Ytafiedhjjnapoaa
open Go.RowKit Go.Shelf Go.Proofs.Ytafiedhjjnapoaa.Scs Go.Proofs.Ytafiedhjjnapoaa.Blk Go.Proofs.Ytafiedhjjnapoaa.Sto
/-- is there such a range? -/
def blkC (n : Nat) (a c : Int) : Int := if a < 0 ∨ c < 0 then 1 else if (n : Int) < a ∨ (n : Int) < c ∨ (n : Int) < a + c then 12 else 0
theorem blkC_ok {n : Nat} {a c : Int} : blkC n a c = 0 ↔ 0 ≤ a ∧ 0 ≤ c ∧ a + c ≤ n := by
  unfold blkC
  split
  · simp; omega
  · split
    · simp; omega
    · simp; omega
theorem blocks_calls' (l : Ln) (A : Option Addr) (c : Nat) (x y : Int) (w : World) (hn : l.bs.length ≤ 8796093022208) :
    Calls Try.prog 24 #[lkV A c l, .int .i64 x, .int .i64 y] w fun e w' => e = .returned (.int .i64 (blkC l.bs.length x y)) ∧ Below w.heap.size w w' := by
  have HB := Lib.hid (Kt.balloc (Below.refl _ w) (.cells #[.slice A l.bs.length c, .int .i64 l.s, .int .i64 l.tag] 26))
  obtain ⟨n, hN⟩ : ∃ n, n = l.bs.length := ⟨_, rfl⟩
  unfold lkV
  rw [← hN] at HB hn ⊢
  clear hN
  by_cases h1 : x < 0
  · have HE : Hid (blkC n x y = 1) := Lib.hid (by unfold blkC; rw [if_pos (.inl h1)])
    go_enter Try.func24, Try.ntmps24
    go_wp2_with fail
    go_ret
    exact ⟨by rw [HE.out]; rfl, HB.out⟩
  by_cases h2 : y < 0
  · have HE : Hid (blkC n x y = 1) := Lib.hid (by unfold blkC; rw [if_pos (.inr h2)])
    go_enter Try.func24, Try.ntmps24
    go_wp2_with fail
    go_ret
    exact ⟨by rw [HE.out]; rfl, HB.out⟩
  have h12 : ¬ (x < 0 ∨ y < 0) := by omega
  by_cases h3 : (n : Int) < x
  · have HE : Hid (blkC n x y = 12) := Lib.hid (by unfold blkC; rw [if_neg h12, if_pos (.inl h3)])
    clear h12
    go_enter Try.func24, Try.ntmps24
    go_wp2_with fail
    go_ret
    exact ⟨by rw [HE.out]; rfl, HB.out⟩
  by_cases h4 : (n : Int) < y
  · have HE : Hid (blkC n x y = 12) := Lib.hid (by unfold blkC; rw [if_neg h12, if_pos (.inr (.inl h4))])
    clear h12
    go_enter Try.func24, Try.ntmps24
    go_wp2_with fail
    go_ret
    exact ⟨by rw [HE.out]; rfl, HB.out⟩
  by_cases h5 : (n : Int) < x + y
  · have HE : Hid (blkC n x y = 12) := Lib.hid (by unfold blkC; rw [if_neg h12, if_pos (.inr (.inr h5))])
    clear h12
    go_enter Try.func24, Try.ntmps24
    go_wp2_with fail
    go_ret
    exact ⟨by rw [HE.out]; rfl, HB.out⟩
  · have HE : Hid (blkC n x y = 0) := Lib.hid (by unfold blkC; rw [if_neg h12, if_neg (by omega)])
    clear h12
    go_enter Try.func24, Try.ntmps24
    go_wp2_with fail
    go_ret
    exact ⟨by rw [HE.out]; rfl, HB.out⟩
/-- the boxes of Read and Write: the link, what is told -/
structure RB (w : World) (A : Option Addr) (c : Nat) (l : Ln) (W : World) : Prop where
  r0 : W.heap[w.heap.size]? = some (.cells #[.slice A l.bs.length c, .int .i64 l.s, .int .i64 l.tag] 26 (0, 0))
  r1 : W.heap[w.heap.size + 1]? = some (.cells #[.slice none 0 0, .int .i64 0, .int .i64 0] 26 (0, 0))
  r2 : W.heap[w.heap.size + 1 + 1]? = some (.cells #[.int .i64 0, .int .i64 0, .int .i64 0] 30 (0, 0))
  bel : Below w.heap.size w W
section
variable {w W W' : World} {A : Option Addr} {c : Nat} {l : Ln}
theorem RB.on (h : RB w A c l W) (hb : Below W.heap.size W W') : RB w A c l W' := ⟨Kt.row_on hb h.r0, Kt.row_on hb h.r1, Kt.row_on hb h.r2, Kt.bthen h.bel hb⟩
theorem RB.lt (h : RB w A c l W) : w.heap.size + 2 < W.heap.size := (Array.getElem?_eq_some_iff.1 h.r2).1
theorem RB.start (w : World) (A : Option Addr) (c : Nat) (l : Ln) : RB w A c l (((w.alloc (.cells #[.slice A l.bs.length c, .int .i64 l.s, .int .i64 l.tag] 26)).alloc (.cells #[.slice none 0 0, .int .i64 0, .int .i64 0] 26)).alloc (.cells #[.int .i64 0, .int .i64 0, .int .i64 0] 30)) := by
  refine ⟨al_row (al_row (heap_alloc_new _ _) _) _, al_row (heap_alloc2_new _ _ _) _, ?_, Kt.balloc (Kt.balloc (Kt.balloc (Below.refl _ _) _) _) _⟩
  have := heap_alloc_new ((w.alloc (.cells #[.slice A l.bs.length c, .int .i64 l.s, .int .i64 l.tag] 26)).alloc (.cells #[.slice none 0 0, .int .i64 0, .int .i64 0] 26)) (.cells #[.int .i64 0, .int .i64 0, .int .i64 0] 30)
  rwa [sz2] at this
theorem RB.link (h : RB w A c l W) {A' : Option Addr} {c' : Nat} (l' : Ln) : RB w A' c' l' (((W.setCell ⟨w.heap.size, 0, none⟩ (.slice A' l'.bs.length c')).setCell ⟨w.heap.size, 1, none⟩ (.int .i64 l'.s)).setCell ⟨w.heap.size, 2, none⟩ (.int .i64 l'.tag)) := by
  have hu := (((Upd.refl w.heap.size W).set 0 (.slice A' l'.bs.length c')).set 1 (.int .i64 l'.s)).set 2 (.int .i64 l'.tag)
  exact ⟨row_put3 h.r0, hu.row h.r1 (by omega), hu.row h.r2 (by omega), hu.to h.bel (by omega)⟩
theorem DkS.set3 {B g : Nat} {A : Option Addr} {c : Nat} {bs : List ByteArray} (h : DkS W B A c bs) (hg : g < B) (x y z : Value) : DkS (((W.setCell ⟨g, 0, none⟩ x).setCell ⟨g, 1, none⟩ y).setCell ⟨g, 2, none⟩ z) B A c bs :=
  Kt.Sl.low (Kt.Sl.low (Kt.Sl.low h (p := ⟨g, 0, none⟩) hg x) (p := ⟨g, 1, none⟩) hg y) (p := ⟨g, 2, none⟩) hg z
theorem RB.done (h : RB w A c l W) {A1 : Option Addr} {c1 : Nat} {l1 : Ln} {code d u : Int} (hs : DkS W (w.heap.size + 3) A1 c1 l1.bs) {W' : World}
    (hW : W' = (((((W.setCell ⟨w.heap.size + 1, 0, none⟩ (.slice A1 l1.bs.length c1)).setCell ⟨w.heap.size + 1, 1, none⟩ (.int .i64 l1.s)).setCell ⟨w.heap.size + 1, 2, none⟩ (.int .i64 l1.tag)).setCell ⟨w.heap.size + 1 + 1, 0, none⟩ (.int .i64 code)).setCell ⟨w.heap.size + 1 + 1, 1, none⟩ (.int .i64 d)).setCell ⟨w.heap.size + 1 + 1, 2, none⟩ (.int .i64 u)) :
    W'.heap[w.heap.size + 1]? = some (.cells #[.slice A1 l1.bs.length c1, .int .i64 l1.s, .int .i64 l1.tag] 26 (0, 0)) ∧ W'.heap[w.heap.size + 1 + 1]? = some (.cells #[.int .i64 code, .int .i64 d, .int .i64 u] 30 (0, 0)) ∧ DkS W' w.heap.size A1 c1 l1.bs ∧ Below w.heap.size w W' := by
  have hu := (((Upd.refl (w.heap.size + 1) W).set 0 (.slice A1 l1.bs.length c1)).set 1 (.int .i64 l1.s)).set 2 (.int .i64 l1.tag)
  have hw2 := row_put3 (x' := .slice A1 l1.bs.length c1) (y' := .int .i64 l1.s) (z' := .int .i64 l1.tag) h.r1
  have r2' := hu.row h.r2 (by omega)
  have hq1 := hs.set3 (g := w.heap.size + 1) (by omega) (.slice A1 l1.bs.length c1) (.int .i64 l1.s) (.int .i64 l1.tag)
  have hb1 := hu.to h.bel (by omega)
  generalize ((W.setCell ⟨w.heap.size + 1, 0, none⟩ (.slice A1 l1.bs.length c1)).setCell ⟨w.heap.size + 1, 1, none⟩ (.int .i64 l1.s)).setCell ⟨w.heap.size + 1, 2, none⟩ (.int .i64 l1.tag) = W6 at *
  have hu2 := (((Upd.refl (w.heap.size + 1 + 1) W6).set 0 (.int .i64 code)).set 1 (.int .i64 d)).set 2 (.int .i64 u)
  have hw3 := row_put3 (x' := .int .i64 code) (y' := .int .i64 d) (z' := .int .i64 u) r2'
  subst hW
  exact ⟨hu2.row hw2 (by omega), hw3, Kt.Sl.mono (hq1.set3 (g := w.heap.size + 1 + 1) (by omega) (.int .i64 code) (.int .i64 d) (.int .i64 u)) (by omega), hu2.to hb1 (by omega)⟩
end
open Classical in
/-- what Read tells -/
noncomputable def rdL (l : Ln) (x y : Int) (fs : List Int) : Ot :=
  if chkL l fs ≠ 0 then ⟨l, ByteArray.empty, chkL l fs, 0, 0⟩ else if blkC l.bs.length x y ≠ 0 then ⟨l, ByteArray.empty, blkC l.bs.length x y, 0, 0⟩
  else por false x.toNat y.toNat ⟨#[]⟩ fs y.toNat l ByteArray.empty 0 0
theorem own_of {W W' : World} {A A1 : Option Addr} {c c1 : Nat} {b0 bs : List ByteArray} {B : Nat} (hs : DkS W B A1 c1 b0) (hb : Below W.heap.size W W') (hB : B ≤ W.heap.size) (h : (A = A1 ∧ c = c1 ∧ bs = b0) ∨ DkS W' W.heap.size A c bs) : DkS W' B A c bs := by
  rcases h with ⟨rfl, rfl, rfl⟩ | h
  · exact DkS.on hs hb
  · exact Kt.Sl.mono h hB
set_option maxRecDepth 100000 in
set_option maxHeartbeats 3200000 in
theorem read_calls (l : Ln) (A : Option Addr) (c : Nat) (FA : Option Addr) (fc : Nat) (fs : List Int) (x y : Int) (w : World) (hA : DkA w A c l.bs) (hn : l.bs.length ≤ 8796093022208) (hF : Kt.Ar w (.slice FA fs.length fc) 1 fs.length (ics fs)) :
    Calls Try.prog 10 #[lkV A c l, .int .i64 x, .int .i64 y, .slice FA fs.length fc] w fun e w' => ∃ A' c', e = .returned (.tuple #[lkV A' c' (rdL l x y fs).l, .string (rdL l x y fs).t, .agg #[.int .i64 (rdL l x y fs).c, .int .i64 ((rdL l x y fs).d : Nat), .int .i64 ((rdL l x y fs).u : Nat)]]) ∧ DkS w' w.heap.size A' c' (rdL l x y fs).l.bs ∧ Below w.heap.size w w' := by
  have HS := Lib.hid (RB.start w A c l)
  have HCO := Lib.hid (fun W (hW : RB w A c l W) => lcopied_calls l A c W (hA.on hW.bel) hn)
  have HCK := Lib.hid (fun A1 c1 W (hW : Below w.heap.size w W) (hs : DkA W A1 c1 l.bs) => lcheck_calls l fs A1 c1 FA fc W hs hn (hF.on hW))
  have HBL := Lib.hid (fun A1 c1 W => blocks_calls' l A1 c1 x y W hn)
  have HF := Lib.hid hF
  obtain ⟨O, hO⟩ : ∃ O, O = rdL l x y fs := ⟨_, rfl⟩
  have HO := Lib.hid hO
  rw [← hO]
  clear hA hn hF hO
  unfold lkV at *
  go_enter Try.func10, Try.ntmps10
  go_wp2_with fail
  refine (HCO.out _ HS.out).mono ?_
  rintro e w1 ⟨A1, c1, rfl, hs, hb⟩
  have HS1 := Lib.hid (HS.out.on hb)
  have HB1 := Lib.hid (Kt.Sl.mono (B' := w.heap.size + 3) hs (by have := HS.out.lt; omega))
  clear hs hb HS HCO
  have q0 := fun i => cell_of_row _ _ i _ _ _ HS1.out.r0
  have f0 := fun i => frozen_of_row _ _ i _ _ HS1.out.r0
  go_upto_region 2 with (fail)
  refine Kt.fold (fun W => RB w A1 c1 l W ∧ DkS W (w.heap.size + 3) A1 c1 l.bs) ⟨HS1.out.link l, DkS.set3 HB1.out (by omega) _ _ _⟩ ?_
  rintro W2 ⟨hy, hs⟩
  have HY := Lib.hid hy
  have HD := Lib.hid hs
  clear q0 f0 HS1 HB1
  have q0 := fun i => cell_of_row _ _ i _ _ _ hy.r0
  clear hy hs
  go_wp2_with fail
  refine (HCK.out _ _ _ HY.out.bel HD.out.toA).mono ?_
  rintro e w2 ⟨rfl, hb⟩
  replace HY := Lib.hid (HY.out.on hb)
  replace HD := Lib.hid (DkS.on HD.out hb)
  clear hb q0 HCK
  have q0 := fun i => cell_of_row _ _ i _ _ _ HY.out.r0
  obtain ⟨k, hk⟩ : ∃ k, k = chkL l fs := ⟨_, rfl⟩
  rw [← hk]
  by_cases hk0 : k = 0
  · subst hk0
    have HOK := Lib.hid (chkL_ok.1 hk.symm)
    have HKK := Lib.hid hk
    clear hk
    go_wp2_with fail
    refine (HBL.out _ _ _).mono ?_
    rintro e w3 ⟨rfl, hb⟩
    replace HY := Lib.hid (HY.out.on hb)
    replace HD := Lib.hid (DkS.on HD.out hb)
    clear hb q0 HBL
    have q0 := fun i => cell_of_row _ _ i _ _ _ HY.out.r0
    obtain ⟨b, hb⟩ : ∃ b, b = blkC l.bs.length x y := ⟨_, rfl⟩
    rw [← hb]
    by_cases hb0 : b = 0
    · subst hb0
      obtain ⟨x0, y0, hxy⟩ := blkC_ok.1 hb.symm
      obtain ⟨x, rfl⟩ : ∃ n : Nat, x = n := ⟨x.toNat, by omega⟩
      obtain ⟨y, rfl⟩ : ∃ n : Nat, y = n := ⟨y.toNat, by omega⟩
      have HOE : Hid (O = por false x y ⟨#[]⟩ fs y l ByteArray.empty 0 0) := Lib.hid (by rw [HO.out]; unfold rdL; rw [if_neg (by rw [← HKK.out]; decide), if_neg (by rw [← hb]; decide), Int.toNat_natCast, Int.toNat_natCast])
      have HP := Lib.hid (por_read_calls l A1 c1 FA fc fs x y w3 HD.out.toA (HF.out.on HY.out.bel) HOK.out.1 HOK.out.2 (by omega))
      rw [← HOE.out] at HP
      unfold lkV at HP
      clear hb x0 y0 hxy
      go_wp2_with fail
      refine HP.out.mono ?_
      rintro e w4 ⟨A4, c4, rfl, hor, hb⟩
      have HD4 := Lib.hid (own_of HD.out hb (by have := HY.out.lt; omega) hor)
      replace HY := Lib.hid (HY.out.on hb)
      clear hb hor q0 HP HD
      have q1 := fun i => cell_of_row _ _ i _ _ _ HY.out.r1
      have f1 := fun i => frozen_of_row _ _ i _ _ HY.out.r1
      have q2 := fun i => cell_of_row _ _ i _ _ _ HY.out.r2
      have f2 := fun i => frozen_of_row _ _ i _ _ HY.out.r2
      go_wp2_with fail
      have hdn := HY.out.done (code := O.c) (d := (O.d : Int)) (u := (O.u : Int)) HD4.out rfl
      generalize (((((w4.setCell ⟨w.heap.size + 1, 0, none⟩ (.slice A4 O.l.bs.length c4)).setCell ⟨w.heap.size + 1, 1, none⟩ (.int .i64 O.l.s)).setCell ⟨w.heap.size + 1, 2, none⟩ (.int .i64 O.l.tag)).setCell ⟨w.heap.size + 1 + 1, 0, none⟩ (.int .i64 O.c)).setCell ⟨w.heap.size + 1 + 1, 1, none⟩ (.int .i64 (O.d : Int))).setCell ⟨w.heap.size + 1 + 1, 2, none⟩ (.int .i64 (O.u : Int)) = W9 at *
      refine bodyPost_ret (v := .tuple #[.agg #[.slice A4 O.l.bs.length c4, .int .i64 O.l.s, .int .i64 O.l.tag], .string O.t, .agg #[.int .i64 O.c, .int .i64 (O.d : Int), .int .i64 (O.u : Int)]]) (by simp [results, Try.results10, asAddr, ld_lk hdn.1, ld_oc hdn.2.1]) rfl ?_
      skip
      exact ⟨A4, c4, rfl, hdn.2.2.1, hdn.2.2.2⟩
    · have HOE : Hid (O = ⟨l, ByteArray.empty, b, 0, 0⟩) := Lib.hid (by rw [HO.out]; unfold rdL; rw [if_neg (by rw [← HKK.out]; decide), if_pos (by rw [← hb]; exact hb0), ← hb])
      clear hb
      have q1 := fun i => cell_of_row _ _ i _ _ _ HY.out.r1
      have f1 := fun i => frozen_of_row _ _ i _ _ HY.out.r1
      have q2 := fun i => cell_of_row _ _ i _ _ _ HY.out.r2
      have f2 := fun i => frozen_of_row _ _ i _ _ HY.out.r2
      go_wp2_with fail
      have hdn := HY.out.done (code := b) (d := 0) (u := 0) HD.out rfl
      generalize (((((w3.setCell ⟨w.heap.size + 1, 0, none⟩ (.slice A1 l.bs.length c1)).setCell ⟨w.heap.size + 1, 1, none⟩ (.int .i64 l.s)).setCell ⟨w.heap.size + 1, 2, none⟩ (.int .i64 l.tag)).setCell ⟨w.heap.size + 1 + 1, 0, none⟩ (.int .i64 b)).setCell ⟨w.heap.size + 1 + 1, 1, none⟩ (.int .i64 0)).setCell ⟨w.heap.size + 1 + 1, 2, none⟩ (.int .i64 0) = W9 at *
      refine bodyPost_ret (v := .tuple #[.agg #[.slice A1 l.bs.length c1, .int .i64 l.s, .int .i64 l.tag], .string ⟨#[]⟩, .agg #[.int .i64 b, .int .i64 0, .int .i64 0]]) (by simp [results, Try.results10, asAddr, ld_lk hdn.1, ld_oc hdn.2.1]) rfl ?_
      rw [HOE.out]
      exact ⟨A1, c1, rfl, hdn.2.2.1, hdn.2.2.2⟩
  · have HOE : Hid (O = ⟨l, ByteArray.empty, k, 0, 0⟩) := Lib.hid (by rw [HO.out]; unfold rdL; rw [if_pos (by rw [← hk]; exact hk0), ← hk])
    clear hk
    have q1 := fun i => cell_of_row _ _ i _ _ _ HY.out.r1
    have f1 := fun i => frozen_of_row _ _ i _ _ HY.out.r1
    have q2 := fun i => cell_of_row _ _ i _ _ _ HY.out.r2
    have f2 := fun i => frozen_of_row _ _ i _ _ HY.out.r2
    go_wp2_with fail
    have hdn := HY.out.done (code := k) (d := 0) (u := 0) HD.out rfl
    generalize (((((w2.setCell ⟨w.heap.size + 1, 0, none⟩ (.slice A1 l.bs.length c1)).setCell ⟨w.heap.size + 1, 1, none⟩ (.int .i64 l.s)).setCell ⟨w.heap.size + 1, 2, none⟩ (.int .i64 l.tag)).setCell ⟨w.heap.size + 1 + 1, 0, none⟩ (.int .i64 k)).setCell ⟨w.heap.size + 1 + 1, 1, none⟩ (.int .i64 0)).setCell ⟨w.heap.size + 1 + 1, 2, none⟩ (.int .i64 0) = W9 at *
    refine bodyPost_ret (v := .tuple #[.agg #[.slice A1 l.bs.length c1, .int .i64 l.s, .int .i64 l.tag], .string ⟨#[]⟩, .agg #[.int .i64 k, .int .i64 0, .int .i64 0]]) (by simp [results, Try.results10, asAddr, ld_lk hdn.1, ld_oc hdn.2.1]) rfl ?_
    rw [HOE.out]
    exact ⟨A1, c1, rfl, hdn.2.2.1, hdn.2.2.2⟩
open Classical in
/-- what Write tells -/
noncomputable def wtL (l : Ln) (x : Int) (data : ByteArray) (fs : List Int) : Ot :=
  if chkL l fs ≠ 0 then ⟨l, ByteArray.empty, chkL l fs, 0, 0⟩ else if data.size % 16 ≠ 0 then ⟨l, ByteArray.empty, 1, 0, 0⟩
  else if blkC l.bs.length x ((data.size / 16 : Nat) : Int) ≠ 0 then ⟨l, ByteArray.empty, blkC l.bs.length x ((data.size / 16 : Nat) : Int), 0, 0⟩
  else por true x.toNat (data.size / 16) data fs (data.size / 16) l ByteArray.empty 0 0
set_option maxRecDepth 100000 in
set_option maxHeartbeats 3200000 in
theorem write_calls (l : Ln) (A : Option Addr) (c : Nat) (FA : Option Addr) (fc : Nat) (fs : List Int) (x : Int) (data : ByteArray) (w : World) (hA : DkA w A c l.bs) (hn : l.bs.length ≤ 8796093022208) (hF : Kt.Ar w (.slice FA fs.length fc) 1 fs.length (ics fs)) (hds : data.size ≤ 9223372036854775807) :
    Calls Try.prog 14 #[lkV A c l, .int .i64 x, .string data, .slice FA fs.length fc] w fun e w' => ∃ A' c', e = .returned (.tuple #[lkV A' c' (wtL l x data fs).l, .agg #[.int .i64 (wtL l x data fs).c, .int .i64 ((wtL l x data fs).d : Nat), .int .i64 ((wtL l x data fs).u : Nat)]]) ∧ DkS w' w.heap.size A' c' (wtL l x data fs).l.bs ∧ Below w.heap.size w w' := by
  have HS := Lib.hid (RB.start w A c l)
  have HCO := Lib.hid (fun W (hW : RB w A c l W) => lcopied_calls l A c W (hA.on hW.bel) hn)
  have HCK := Lib.hid (fun A1 c1 W (hW : Below w.heap.size w W) (hs : DkA W A1 c1 l.bs) => lcheck_calls l fs A1 c1 FA fc W hs hn (hF.on hW))
  have HBL := Lib.hid (fun A1 c1 y W => blocks_calls' l A1 c1 x y W hn)
  have HF := Lib.hid hF
  obtain ⟨O, hO⟩ : ∃ O, O = wtL l x data fs := ⟨_, rfl⟩
  have HO := Lib.hid hO
  rw [← hO]
  clear hA hn hF hO
  unfold lkV at *
  go_enter Try.func14, Try.ntmps14
  go_wp2_with fail
  refine (HCO.out _ HS.out).mono ?_
  rintro e w1 ⟨A1, c1, rfl, hs, hb⟩
  have HS1 := Lib.hid (HS.out.on hb)
  have HB1 := Lib.hid (Kt.Sl.mono (B' := w.heap.size + 3) hs (by have := HS.out.lt; omega))
  clear hs hb HS HCO
  have q0 := fun i => cell_of_row _ _ i _ _ _ HS1.out.r0
  have f0 := fun i => frozen_of_row _ _ i _ _ HS1.out.r0
  go_upto_region 2 with (fail)
  refine Kt.fold (fun W => RB w A1 c1 l W ∧ DkS W (w.heap.size + 3) A1 c1 l.bs) ⟨HS1.out.link l, DkS.set3 HB1.out (by omega) _ _ _⟩ ?_
  rintro W2 ⟨hy, hs⟩
  have HY := Lib.hid hy
  have HD := Lib.hid hs
  clear q0 f0 HS1 HB1
  have q0 := fun i => cell_of_row _ _ i _ _ _ hy.r0
  clear hy hs
  go_wp2_with fail
  refine (HCK.out _ _ _ HY.out.bel HD.out.toA).mono ?_
  rintro e w2 ⟨rfl, hb⟩
  replace HY := Lib.hid (HY.out.on hb)
  replace HD := Lib.hid (DkS.on HD.out hb)
  clear hb q0 HCK
  have q0 := fun i => cell_of_row _ _ i _ _ _ HY.out.r0
  obtain ⟨k, hk⟩ : ∃ k, k = chkL l fs := ⟨_, rfl⟩
  rw [← hk]
  by_cases hk0 : k = 0
  · subst hk0
    have HOK := Lib.hid (chkL_ok.1 hk.symm)
    have HKK := Lib.hid hk
    clear hk
    by_cases hm : data.size % 16 = 0
    · obtain ⟨Z, hZ⟩ : ∃ Z, Z = data.size / 16 := ⟨_, rfl⟩
      have hz1 : (data.size : Int) / 16 = (Z : Int) := by omega
      have hz2 : data.size / 16 = Z := hZ.symm
      have hm2 : (data.size : Int) % 16 = 0 := by omega
      have HM := Lib.hid hm
      have HZ := Lib.hid hZ
      clear hZ
      go_wp2_with fail
      refine (HBL.out _ _ _ _).mono ?_
      rintro e w3 ⟨rfl, hb⟩
      replace HY := Lib.hid (HY.out.on hb)
      replace HD := Lib.hid (DkS.on HD.out hb)
      clear hb q0 HBL
      have q0 := fun i => cell_of_row _ _ i _ _ _ HY.out.r0
      obtain ⟨b, hb⟩ : ∃ b, b = blkC l.bs.length x (Z : Int) := ⟨_, rfl⟩
      rw [← hb]
      by_cases hb0 : b = 0
      · subst hb0
        obtain ⟨x0, y0, hxy⟩ := blkC_ok.1 hb.symm
        obtain ⟨x, rfl⟩ : ∃ n : Nat, x = n := ⟨x.toNat, by omega⟩
        have HOE : Hid (O = por true x Z data fs Z l ByteArray.empty 0 0) := Lib.hid (by rw [HO.out]; unfold wtL; rw [if_neg (by rw [← HKK.out]; decide), if_neg (by rw [HM.out]; decide), ← HZ.out, if_neg (by rw [← hb]; decide), Int.toNat_natCast])
        have HP := Lib.hid (por_write_calls l A1 c1 FA fc fs x Z data w3 HD.out.toA (HF.out.on HY.out.bel) HOK.out.1 HOK.out.2 (by omega) (by have := HZ.out; have := HM.out; omega))
        rw [← HOE.out] at HP
        unfold lkV at HP
        clear hb x0 y0 hxy
        go_wp2_with fail
        refine HP.out.mono ?_
        rintro e w4 ⟨A4, c4, rfl, hor, hb⟩
        have HD4 := Lib.hid (own_of HD.out hb (by have := HY.out.lt; omega) hor)
        replace HY := Lib.hid (HY.out.on hb)
        clear hb hor q0 HP HD hz1 hz2 hm2
        have q0 := fun i => cell_of_row _ _ i _ _ _ HY.out.r0
        have f0 := fun i => frozen_of_row _ _ i _ _ HY.out.r0
        have hlt := HY.out.lt
        have hl0 : w.heap.size < w4.heap.size := by omega
        go_upto_region 10 with (fail)
        obtain ⟨g12, hg12⟩ : ∃ g, g = w4.heap.size := ⟨_, rfl⟩
        rw [← hg12]
        refine Kt.fold (fun W => RB w A4 c4 O.l W ∧ DkS W (w.heap.size + 3) A4 c4 O.l.bs ∧ W.heap[g12]? = some (.cells #[.int .i64 O.c, .int .i64 (O.d : Int), .int .i64 (O.u : Int)] 30 (0, 0)))
          ⟨(HY.out.link O.l).on (Kt.balloc (Below.refl _ _) _), DkS.on (DkS.set3 HD4.out (by omega) _ _ _) (Kt.balloc (Below.refl _ _) _), ?_⟩ ?_
        · rw [hg12]
          have := heap_alloc_new (((w4.setCell ⟨w.heap.size, 0, none⟩ (.slice A4 O.l.bs.length c4)).setCell ⟨w.heap.size, 1, none⟩ (.int .i64 O.l.s)).setCell ⟨w.heap.size, 2, none⟩ (.int .i64 O.l.tag)) (.cells #[.int .i64 O.c, .int .i64 (O.d : Int), .int .i64 (O.u : Int)] 30)
          simpa [World.setCell] using this
        rintro W5 ⟨hy, hs, h12⟩
        have n1 : g12 ≠ w.heap.size + 1 := by omega
        have n2 : g12 ≠ w.heap.size + 1 + 1 := by omega
        clear q0 f0 hl0 hlt HY HD4 hg12
        have HY := Lib.hid hy
        have HD4 := Lib.hid hs
        have q0 := fun i => cell_of_row _ _ i _ _ _ hy.r0
        have q12 := fun i => cell_of_row _ _ i _ _ _ h12
        have q1 := fun i => cell_of_row _ _ i _ _ _ hy.r1
        have f1 := fun i => frozen_of_row _ _ i _ _ hy.r1
        have q2 := fun i => cell_of_row _ _ i _ _ _ hy.r2
        have f2 := fun i => frozen_of_row _ _ i _ _ hy.r2
        clear hy hs h12
        go_region
        have hdn := HY.out.done (code := O.c) (d := (O.d : Int)) (u := (O.u : Int)) HD4.out rfl
        generalize ((((((W5.setCell ⟨w.heap.size + 1, 0, none⟩ (.slice A4 O.l.bs.length c4)).setCell ⟨w.heap.size + 1, 1, none⟩ (.int .i64 O.l.s)).setCell ⟨w.heap.size + 1, 2, none⟩ (.int .i64 O.l.tag)).setCell ⟨w.heap.size + 1 + 1, 0, none⟩ (.int .i64 O.c)).setCell ⟨w.heap.size + 1 + 1, 1, none⟩ (.int .i64 (O.d : Int))).setCell ⟨w.heap.size + 1 + 1, 2, none⟩ (.int .i64 (O.u : Int))) = W9 at *
        have e1 := ld_lk (W := W9.drew) hdn.1
        have e2 := ld_oc (W := W9.drew) hdn.2.1
        have HDN := Lib.hid hdn
        clear hdn q0 q12 q1 f1 q2 f2 HY HD4
        go_wp2_with fail
        refine bodyPost_ret (v := .tuple #[.agg #[.slice A4 O.l.bs.length c4, .int .i64 O.l.s, .int .i64 O.l.tag], .agg #[.int .i64 O.c, .int .i64 (O.d : Int), .int .i64 (O.u : Int)]]) (by simp [results, Try.results14, asAddr, e1, e2]) rfl ?_
        exact ⟨A4, c4, rfl, Kt.Sl.drew HDN.out.2.2.1, HDN.out.2.2.2.drew⟩
      · have HOE : Hid (O = ⟨l, ByteArray.empty, b, 0, 0⟩) := Lib.hid (by rw [HO.out]; unfold wtL; rw [if_neg (by rw [← HKK.out]; decide), if_neg (by rw [HM.out]; decide), ← HZ.out, if_pos (by rw [← hb]; exact hb0), ← hb])
        clear hb hz1 hz2 hm2
        have q1 := fun i => cell_of_row _ _ i _ _ _ HY.out.r1
        have f1 := fun i => frozen_of_row _ _ i _ _ HY.out.r1
        have q2 := fun i => cell_of_row _ _ i _ _ _ HY.out.r2
        have f2 := fun i => frozen_of_row _ _ i _ _ HY.out.r2
        go_wp2_with fail
        have hdn := HY.out.done (code := b) (d := 0) (u := 0) HD.out rfl
        generalize (((((w3.setCell ⟨w.heap.size + 1, 0, none⟩ (.slice A1 l.bs.length c1)).setCell ⟨w.heap.size + 1, 1, none⟩ (.int .i64 l.s)).setCell ⟨w.heap.size + 1, 2, none⟩ (.int .i64 l.tag)).setCell ⟨w.heap.size + 1 + 1, 0, none⟩ (.int .i64 b)).setCell ⟨w.heap.size + 1 + 1, 1, none⟩ (.int .i64 0)).setCell ⟨w.heap.size + 1 + 1, 2, none⟩ (.int .i64 0) = W9 at *
        refine bodyPost_ret (v := .tuple #[.agg #[.slice A1 l.bs.length c1, .int .i64 l.s, .int .i64 l.tag], .agg #[.int .i64 b, .int .i64 0, .int .i64 0]]) (by simp [results, Try.results14, asAddr, ld_lk hdn.1, ld_oc hdn.2.1]) rfl ?_
        rw [HOE.out]
        exact ⟨A1, c1, rfl, hdn.2.2.1, hdn.2.2.2⟩
    · have HOE : Hid (O = ⟨l, ByteArray.empty, 1, 0, 0⟩) := Lib.hid (by rw [HO.out]; unfold wtL; rw [if_neg (by rw [← HKK.out]; decide), if_pos hm])
      have hm2 : ¬ (data.size : Int) % 16 = 0 := by omega
      have q1 := fun i => cell_of_row _ _ i _ _ _ HY.out.r1
      have f1 := fun i => frozen_of_row _ _ i _ _ HY.out.r1
      have q2 := fun i => cell_of_row _ _ i _ _ _ HY.out.r2
      have f2 := fun i => frozen_of_row _ _ i _ _ HY.out.r2
      go_wp2_with fail
      have hdn := HY.out.done (code := 1) (d := 0) (u := 0) HD.out rfl
      generalize (((((w2.setCell ⟨w.heap.size + 1, 0, none⟩ (.slice A1 l.bs.length c1)).setCell ⟨w.heap.size + 1, 1, none⟩ (.int .i64 l.s)).setCell ⟨w.heap.size + 1, 2, none⟩ (.int .i64 l.tag)).setCell ⟨w.heap.size + 1 + 1, 0, none⟩ (.int .i64 1)).setCell ⟨w.heap.size + 1 + 1, 1, none⟩ (.int .i64 0)).setCell ⟨w.heap.size + 1 + 1, 2, none⟩ (.int .i64 0) = W9 at *
      refine bodyPost_ret (v := .tuple #[.agg #[.slice A1 l.bs.length c1, .int .i64 l.s, .int .i64 l.tag], .agg #[.int .i64 1, .int .i64 0, .int .i64 0]]) (by simp [results, Try.results14, asAddr, ld_lk hdn.1, ld_oc hdn.2.1]) rfl ?_
      rw [HOE.out]
      exact ⟨A1, c1, rfl, hdn.2.2.1, hdn.2.2.2⟩
  · have HOE : Hid (O = ⟨l, ByteArray.empty, k, 0, 0⟩) := Lib.hid (by rw [HO.out]; unfold wtL; rw [if_pos (by rw [← hk]; exact hk0), ← hk])
    clear hk
    have q1 := fun i => cell_of_row _ _ i _ _ _ HY.out.r1
    have f1 := fun i => frozen_of_row _ _ i _ _ HY.out.r1
    have q2 := fun i => cell_of_row _ _ i _ _ _ HY.out.r2
    have f2 := fun i => frozen_of_row _ _ i _ _ HY.out.r2
    go_wp2_with fail
    have hdn := HY.out.done (code := k) (d := 0) (u := 0) HD.out rfl
    generalize (((((w2.setCell ⟨w.heap.size + 1, 0, none⟩ (.slice A1 l.bs.length c1)).setCell ⟨w.heap.size + 1, 1, none⟩ (.int .i64 l.s)).setCell ⟨w.heap.size + 1, 2, none⟩ (.int .i64 l.tag)).setCell ⟨w.heap.size + 1 + 1, 0, none⟩ (.int .i64 k)).setCell ⟨w.heap.size + 1 + 1, 1, none⟩ (.int .i64 0)).setCell ⟨w.heap.size + 1 + 1, 2, none⟩ (.int .i64 0) = W9 at *
    refine bodyPost_ret (v := .tuple #[.agg #[.slice A1 l.bs.length c1, .int .i64 l.s, .int .i64 l.tag], .agg #[.int .i64 k, .int .i64 0, .int .i64 0]]) (by simp [results, Try.results14, asAddr, ld_lk hdn.1, ld_oc hdn.2.1]) rfl ?_
    rw [HOE.out]
    exact ⟨A1, c1, rfl, hdn.2.2.1, hdn.2.2.2⟩
end Go.Proofs.Ytafiedhjjnapoaa
/- Structs and arrays of integers alone, as lists. -/
namespace Go.Proofs.Ytafiedhjjnapoaa.Kt
open Go.RowKit Classical
/-- the cells -/
def ia (k : IntKind) (l : List Int) : Array Value := (l.map (Value.int k)).toArray
theorem ia_size (k : IntKind) (l : List Int) : (ia k l).size = l.length := by simp [ia]
theorem ia_list (k : IntKind) (l : List Int) : (ia k l).toList = l.map (Value.int k) := by simp [ia]
theorem ia_get (k : IntKind) (l : List Int) (i : Nat) : (ia k l)[i]? = l[i]?.map (Value.int k) := by simp [ia]
theorem ia_at (k : IntKind) (l : List Int) (i : Nat) (h : i < l.length) : (ia k l)[i]? = some (.int k l[i]) := by rw [ia_get, List.getElem?_eq_getElem h]; rfl
theorem ia_set (k : IntKind) (l : List Int) (i : Nat) (v : Int) : (ia k l).setIfInBounds i (.int k v) = ia k (l.set i v) := by
  apply Array.toList_inj.1
  simp [ia]
theorem ia_extract (k : IntKind) (l : List Int) (a b : Nat) : (ia k l).extract a b = ia k ((l.drop a).take (b - a)) := by
  apply Array.toList_inj.1
  simp [ia, List.extract]
theorem ia_inj {k : IntKind} {a b : List Int} (h : ia k a = ia k b) : a = b := by
  have h2 := congrArg Array.toList h
  rw [ia_list, ia_list] at h2
  exact List.map_inj_right (fun x y e => by cases e; rfl) |>.1 h2
theorem ia_one (k : IntKind) (l : List Int) : (ia k l).all (·.oneCell') = true := by
  rw [Array.all_eq_true_iff_forall_mem]
  intro x hx
  simp [ia] at hx
  obtain ⟨n, _, rfl⟩ := hx
  rfl
def allI (k : IntKind) : Fr.Ty → Bool
  | .int q => q == k
  | .nil => true
  | .cat _ a b => allI k a && allI k b
  | .arr _ _ e => allI k e
  | _ => false
/-- how many cells, and whether they are told right -/
def tsz : Fr.Ty → Nat
  | .nil => 0
  | .cat _ a b => tsz a + tsz b
  | .arr n _ e => n * tsz e
  | _ => 1
def okSz : Fr.Ty → Bool
  | .cat sz a b => sz == tsz a && okSz a && okSz b
  | .arr _ sz e => sz == tsz e && okSz e
  | _ => true
theorem chunk_take {α : Type} (l : List α) (n sz : Nat) (h : l.length = (n + 1) * sz) : (l.take (n * sz)).length = n * sz ∧ l = l.take (n * sz) ++ (l.drop (n * sz)).take sz := by
  rw [Nat.add_mul, Nat.one_mul] at h
  refine ⟨by rw [List.length_take]; omega, ?_⟩
  have e : (l.drop (n * sz)).take sz = l.drop (n * sz) := List.take_of_length_le (by rw [List.length_drop]; omega)
  rw [e, List.take_append_drop]
theorem ints_cl (k : IntKind) : ∀ (ty : Fr.Ty) (cs : List Value), allI k ty = true → okSz ty = true → Fr.Cl ty cs → ∃ l : List Int, cs = l.map (Value.int k) ∧ l.length = tsz ty
  | .int q, _, ha, _, h => by
    obtain ⟨n, rfl⟩ := h
    simp [allI] at ha
    subst ha
    exact ⟨[n], rfl, rfl⟩
  | .bool, _, ha, _, _ => by simp [allI] at ha
  | .string, _, ha, _, _ => by simp [allI] at ha
  | .slice .., _, ha, _, _ => by simp [allI] at ha
  | .nil, _, _, _, h => ⟨[], h, rfl⟩
  | .cat sz a b, cs, ha, ho, h => by
    simp only [allI, Bool.and_eq_true] at ha
    simp only [okSz, Bool.and_eq_true, beq_iff_eq] at ho
    obtain ⟨la, ea, na⟩ := ints_cl k a _ ha.1 ho.1.2 h.2.1
    obtain ⟨lb, eb, nb⟩ := ints_cl k b _ ha.2 ho.2 h.2.2
    refine ⟨la ++ lb, ?_, by simp [tsz, na, nb]⟩
    rw [← List.take_append_drop sz cs, ea, eb, List.map_append]
  | .arr n sz e, cs, ha, ho, h => by
    simp only [allI] at ha
    simp only [okSz, Bool.and_eq_true, beq_iff_eq] at ho
    obtain ⟨hl, hc⟩ := h
    have ho1 := ho.1
    have key : ∀ (n : Nat) (cs : List Value), cs.length = n * sz → (∀ i, i < n → Fr.Cl e ((cs.drop (i * sz)).take sz)) → ∃ l : List Int, cs = l.map (Value.int k) ∧ l.length = n * tsz e := by
      intro n
      induction n with
      | zero => intro cs hl _; exact ⟨[], List.eq_nil_of_length_eq_zero (by simpa using hl), by simp⟩
      | succ n ih =>
        intro cs hl hc
        obtain ⟨h1, h2⟩ := chunk_take cs n sz hl
        obtain ⟨la, ea, na⟩ := ih (cs.take (n * sz)) h1 (fun i hi => by
          have := hc i (by omega)
          have hmul : i * sz + sz ≤ n * sz := by rw [← Nat.succ_mul]; exact Nat.mul_le_mul_right _ hi
          rw [List.drop_take, List.take_take, Nat.min_eq_left (by omega)]
          exact this)
        obtain ⟨lb, eb, nb⟩ := ints_cl k e _ ha ho.2 (hc n (by omega))
        refine ⟨la ++ lb, ?_, by rw [List.length_append, na, nb, Nat.add_mul]; omega⟩
        rw [h2, ea, eb, List.map_append]
    exact key n cs hl hc
theorem cl_ints (k : IntKind) : ∀ (ty : Fr.Ty) (l : List Int), allI k ty = true → okSz ty = true → l.length = tsz ty → Fr.Cl ty (l.map (Value.int k))
  | .int q, l, ha, _, h => by
    simp [allI] at ha
    subst ha
    match l, h with
    | [n], _ => exact ⟨n, rfl⟩
  | .bool, _, ha, _, _ => by simp [allI] at ha
  | .string, _, ha, _, _ => by simp [allI] at ha
  | .slice .., _, ha, _, _ => by simp [allI] at ha
  | .nil, l, _, _, h => by simp only [tsz] at h; simp only [Fr.Cl]; rw [List.eq_nil_of_length_eq_zero h]; rfl
  | .cat sz a b, l, ha, ho, h => by
    simp only [allI, Bool.and_eq_true] at ha
    simp only [okSz, Bool.and_eq_true, beq_iff_eq] at ho
    simp only [tsz] at h
    refine ⟨by rw [List.length_map]; omega, ?_, ?_⟩
    · rw [← List.map_take]; exact cl_ints k a _ ha.1 ho.1.2 (by rw [List.length_take]; omega)
    · rw [← List.map_drop]; exact cl_ints k b _ ha.2 ho.2 (by rw [List.length_drop]; omega)
  | .arr n sz e, l, ha, ho, h => by
    simp only [allI] at ha
    simp only [okSz, Bool.and_eq_true, beq_iff_eq] at ho
    simp only [tsz] at h
    refine ⟨by rw [List.length_map, h, ho.1], fun i hi => ?_⟩
    rw [← List.map_drop, ← List.map_take]
    refine cl_ints k e _ ha ho.2 ?_
    have hmul : i * sz + sz ≤ n * sz := by rw [← Nat.succ_mul]; exact Nat.mul_le_mul_right _ hi
    have := ho.1
    rw [List.length_take, List.length_drop, h, ← this]; omega
/-- '==' of two -/
theorem eq_ia {P : Program} (k : IntKind) (t : TypeId) (ty : Fr.Ty) (m : Nat) (hm : m ≤ 10000) (hf : Fr.fits P m t ty = true) (he : Fr.eqOk P m t = true) (ha : allI k ty = true) (ho : okSz ty = true) (hp : Fr.plain ty = true) (hv : ∀ cs, Fr.vof ty cs = .agg cs.toArray)
    (a b : List Int) (hla : a.length = tsz ty) (hlb : b.length = tsz ty) : (a = b → ∀ w, (binOp .eql t (.agg (ia k a)) (.agg (ia k b))).run P w = .ok (.bool true) w ∧ (binOp .neq t (.agg (ia k a)) (.agg (ia k b))).run P w = .ok (.bool false) w) ∧
      (a ≠ b → ∀ w, (binOp .eql t (.agg (ia k a)) (.agg (ia k b))).run P w = .ok (.bool false) w ∧ (binOp .neq t (.agg (ia k a)) (.agg (ia k b))).run P w = .ok (.bool true) w) := by
  have h := fun w => Fr.eql_agg (P := P) w t ty m hm hf he hp (ia k a) (ia k b) (by rw [ia_list]; exact cl_ints k ty a ha ho hla) (by rw [ia_list]; exact cl_ints k ty b ha ho hlb) (by rw [hv]) (by rw [hv])
  constructor
  · rintro rfl w
    obtain ⟨h1, h2⟩ := h w
    rw [decide_eq_true rfl] at h1 h2
    exact ⟨h1, h2⟩
  · intro hne w
    obtain ⟨h1, h2⟩ := h w
    rw [decide_eq_false (fun e => hne (ia_inj e))] at h1 h2
    exact ⟨h1, h2⟩
/-- a part of an array of arrays or structs -/
theorem run_index_ia {P : Program} (k q : IntKind) (t e : TypeId) (n : Nat) (ety : Fr.Ty) (m : Nat) (ht : P.underlying t = some (.array n e)) (hf : Fr.fits P m e ety = true) (he : Fr.eqOk P m e = true) (ha : allI k ety = true) (ho : okSz ety = true) (hp : Fr.plain ety = true) (hsz : P.cellsOf e = tsz ety)
    (l : List Int) (hl : l.length = n * tsz ety) (i : Nat) (hi : i < n) (w : World) : (Instr.index t (.agg (ia k l)) (.int q i)).run P w = .ok (Fr.vof ety (((l.drop (i * tsz ety)).take (tsz ety)).map (Value.int k))) w := by
  have hmul : i * tsz ety + tsz ety ≤ n * tsz ety := by rw [← Nat.succ_mul]; exact Nat.mul_le_mul_right _ hi
  have e1 : ((ia k l).toList.drop (i * P.cellsOf e)).take (P.cellsOf e) = ((l.drop (i * tsz ety)).take (tsz ety)).map (Value.int k) := by
    rw [ia_list, hsz, List.map_take, List.map_drop]
  have hpart := Fr.part_run (P := P) w e ety m m hf he hp (ia k l) (i * P.cellsOf e) (by
    rw [e1]; exact cl_ints k ety _ ha ho (by rw [List.length_take, List.length_drop]; omega))
  rw [e1] at hpart
  have hie : ∃ x, P.info? e = some x := by
    cases m with
    | zero => simp [Fr.eqOk] at he
    | succ m' => unfold Fr.eqOk at he; rw [Bool.and_eq_true] at he; exact Option.isSome_iff_exists.1 he.1
  obtain ⟨x, hx⟩ := hie
  have hb : (0 : Int) ≤ (i : Int) ∧ (i : Int) < (n : Int) := by omega
  simp [Instr.index, asIntOf, run_underlying ht, run_sizeOf w hx, Result.andThen, hpart]
  exact fun hh => absurd hh (by omega)
end Go.Proofs.Ytafiedhjjnapoaa.Kt
/- plugkeep's storeLives. -/
namespace Go.Proofs.Ytafiedhjjnapoaa
open Go.RowKit Go.Shelf Go.Proofs.Ytafiedhjjnapoaa.Scs Go.Proofs.Ytafiedhjjnapoaa.Blk Go.Proofs.Ytafiedhjjnapoaa.Sto
theorem car_1 {t : ByteArray} (h : t.size < 64) (r : List Int) : car t (1 :: r) = (0, t.data.toList, 1) := by
  unfold car
  rw [chop_small h]
  have e : stepF (p0 [t]) 1 = ⟨1, 1, [], [t]⟩ := by simp [stepF, p0, took]
  rw [carF_ok _ _ _ _ _ (by decide) (by rw [e]), e]
  simp [cat_one]
theorem car_333 {t : ByteArray} (h : t.size < 64) (r : List Int) : car t (3 :: 3 :: 3 :: r) = (9, t.data.toList, 3) := by
  unfold car
  rw [chop_small h]
  have e1 : stepF (p0 [t]) 3 = ⟨0, 1, [t], [t]⟩ := by simp [stepF, p0, took]
  have e2 : stepF ⟨0, 1, [t], [t]⟩ 3 = ⟨0, 1, [t], [t]⟩ := by simp [stepF, took]
  rw [carF_on _ _ _ _ _ (by decide) (by rw [e1]; simp) (by decide), e1, carF_on _ _ _ _ _ (by decide) (by rw [e2]; simp) (by decide), e2, carF_bus _ _ _ _ _ (by decide) (by rw [e2]; simp) (by decide), e2]
  simp [cat_one]
def L0 : Ln := ⟨[zb, zb], 0, 0⟩
theorem ok_L0 : OkL L0 := ⟨⟨by decide, by decide, by intro b hb; simp [L0] at hb; subst hb; rfl, .inl rfl⟩, by decide, by decide⟩
theorem wrp_size {wr : Bool} {a n : Nat} {l : Ln} (h : OkL l) (h4 : n ≤ 4) : (wrp wr a n l.tag).size = 31 := by
  unfold wrp
  exact wrapT_size _ (h.wr h4)
theorem sta_size {l : Ln} : (sta l.tag).size = 13 := statT_size _
/-- all goes well: three good fates -/
theorem cyc_111 {wr : Bool} {a n : Nat} {data : ByteArray} {l : Ln} (h : OkL l) (h4 : n ≤ 4) (hm : (mid2 wr a n data l).size < 64) (r : List Int) :
    cyc wr a n data l (1 :: 1 :: 1 :: r) = ⟨aft wr a n data l true, if wr then ByteArray.empty else mid2 wr a n data l, 0, 3⟩ := by
  have a1 := car_1 (t := wrp wr a n l.tag) (by rw [wrp_size h h4]; decide) (1 :: 1 :: r)
  have a2 := car_1 hm (1 :: r)
  have a3 := car_1 (t := sta l.tag) (by rw [sta_size]; decide) r
  have b2 : car (mid2 wr a n data l) ((1 :: 1 :: 1 :: r).drop 1) = (0, (mid2 wr a n data l).data.toList, 1) := a2
  have b3 : car (sta l.tag) ((1 :: 1 :: 1 :: r).drop (1 + 1)) = (0, (sta l.tag).data.toList, 1) := a3
  rw [cyc_3 (by rw [a1]) (by rw [a1]; dsimp only; rw [b2]), a1]
  dsimp only
  rw [b2]
  dsimp only
  rw [b3]
  dsimp only
  rw [if_neg (by decide)]
theorem lives_w {X : ByteArray} (hX : X.size = 16) : (wtL L0 1 X [1, 3, 3, 3, 1, 1, 1, 1, 1]).l = ⟨putB (putB [zb, zb] 1 X 1) 1 X 1, 0, 2⟩ ∧ (wtL L0 1 X [1, 3, 3, 3, 1, 1, 1, 1, 1]).c = 0 ∧ (wtL L0 1 X [1, 3, 3, 3, 1, 1, 1, 1, 1]).d = 1 ∧ (wtL L0 1 X [1, 3, 3, 3, 1, 1, 1, 1, 1]).u = 7 := by
  have hk : chkL L0 [1, 3, 3, 3, 1, 1, 1, 1, 1] = 0 := chkL_ok.2 ⟨ok_L0, by decide, by decide⟩
  have hm : mid2 true 1 1 X L0 = X := rfl
  have hp : Sto.part true X 0 1 = X := by
    show X.extract (0 * 16) ((0 + 1) * 16) = X
    rw [show (0 + 1) * 16 = X.size by rw [hX]]
    apply ext_bytes; simp
  have c1 : cyc true 1 1 X L0 [1, 3, 3, 3, 1, 1, 1, 1, 1] = ⟨⟨putB [zb, zb] 1 X 1, 0, 1⟩, ByteArray.empty, 9, 4⟩ := by
    have a1 := car_1 (t := wrp true 1 1 L0.tag) (by rw [wrp_size ok_L0 (by decide)]; decide) [3, 3, 3, 1, 1, 1, 1, 1]
    have b2 : car (mid2 true 1 1 X L0) ([1, 3, 3, 3, 1, 1, 1, 1, 1].drop 1) = (9, X.data.toList, 3) := car_333 (by show X.size < 64; omega) [1, 1, 1, 1, 1]
    rw [cyc_2 (by rw [a1]) (by rw [a1]; dsimp only; rw [b2]; show (9 : Int) ≠ 0; decide), a1]
    dsimp only
    rw [b2]
    dsimp only
    rw [show (X.data.toList.length == (mid2 true 1 1 X L0).size) = true by rw [hm, blen, beq_self_eq_true]]
    rfl
  have ok1 : OkL ⟨putB [zb, zb] 1 X 1, 0, 1⟩ := ⟨putB_ok ok_L0.d 1 X 1 (by decide) (by omega), by show (0 : Int) ≤ 1; decide, by show (1 : Int) < 4294967296; decide⟩
  have c2 : cyc true 1 1 X ⟨putB [zb, zb] 1 X 1, 0, 1⟩ [1, 1, 1, 1, 1] = ⟨⟨putB (putB [zb, zb] 1 X 1) 1 X 1, 0, 2⟩, ByteArray.empty, 0, 3⟩ := by
    rw [cyc_111 ok1 (by decide) (by show X.size < 64; omega)]
    rfl
  have t1 : tries true 1 1 X 2 L0 [1, 3, 3, 3, 1, 1, 1, 1, 1] = ⟨⟨putB (putB [zb, zb] 1 X 1) 1 X 1, 0, 2⟩, ByteArray.empty, 0, 7⟩ := by
    have c2' : cyc true 1 1 X ⟨putB [zb, zb] 1 X 1, 0, 1⟩ ([1, 3, 3, 3, 1, 1, 1, 1, 1].drop 4) = _ := c2
    rw [tries_go (by rw [c1]; exact .inr rfl), c1]
    dsimp only
    rw [tries_end (by rw [c2']; show ¬ ((0 : Int) = 8 ∨ (0 : Int) = 9); decide), c2']
    rfl
  unfold wtL
  rw [if_neg (by rw [hk]; decide), if_neg (by rw [hX]; decide), show X.size / 16 = 1 by omega, if_neg (by decide)]
  rw [show (1 : Int).toNat = 1 from rfl, show por true 1 1 X [1, 3, 3, 3, 1, 1, 1, 1, 1] 1 L0 ByteArray.empty 0 0 = por true 1 1 X [1, 3, 3, 3, 1, 1, 1, 1, 1] (0 + 1) L0 ByteArray.empty 0 0 from rfl, por_go (by decide)]
  rw [show min 4 (1 - 0) = 1 from rfl, hp, show 1 + 0 = 1 from rfl, List.drop_zero, t1]
  exact ⟨rfl, rfl, rfl, rfl⟩
theorem lives_r {X : ByteArray} {bs : List ByteArray} (ok : OkL ⟨bs, 0, 2⟩) (hl : bs.length = 2) (hX : X.size = 16) (hj : joinS ((bs.drop 1).take 1) = X) :
    (rdL ⟨bs, 0, 2⟩ 1 1 [1, 1, 1, 1]).l = ⟨bs, 0, 3⟩ ∧ (rdL ⟨bs, 0, 2⟩ 1 1 [1, 1, 1, 1]).t = X ∧ (rdL ⟨bs, 0, 2⟩ 1 1 [1, 1, 1, 1]).c = 0 ∧ (rdL ⟨bs, 0, 2⟩ 1 1 [1, 1, 1, 1]).d = 1 ∧ (rdL ⟨bs, 0, 2⟩ 1 1 [1, 1, 1, 1]).u = 3 := by
  have hk : chkL ⟨bs, 0, 2⟩ [1, 1, 1, 1] = 0 := chkL_ok.2 ⟨ok, by decide, by decide⟩
  have c2 : cyc false 1 1 ByteArray.empty ⟨bs, 0, 2⟩ [1, 1, 1, 1] = ⟨⟨bs, 0, 3⟩, X, 0, 3⟩ := by
    rw [cyc_111 ok (by decide) (by show (joinS ((bs.drop 1).take 1)).size < 64; rw [hj]; omega)]
    show (⟨_, joinS ((bs.drop 1).take 1), _, _⟩ : Rt) = _
    rw [hj]
    rfl
  unfold rdL
  rw [if_neg (by rw [hk]; decide), if_neg (by dsimp only; rw [hl]; decide)]
  rw [show (1 : Int).toNat = 1 from rfl, show por false 1 1 ⟨#[]⟩ [1, 1, 1, 1] 1 ⟨bs, 0, 2⟩ ByteArray.empty 0 0 = por false 1 1 ⟨#[]⟩ [1, 1, 1, 1] (0 + 1) ⟨bs, 0, 2⟩ ByteArray.empty 0 0 from rfl, por_go (by decide)]
  rw [show min 4 (1 - 0) = 1 from rfl, show Sto.part false ⟨#[]⟩ 0 1 = ByteArray.empty from rfl, show 1 + 0 = 1 from rfl, List.drop_zero, tries_end (by rw [c2]; show ¬ ((0 : Int) = 8 ∨ (0 : Int) = 9); decide), c2]
  refine ⟨rfl, ?_, rfl, rfl, rfl⟩
  show ByteArray.empty ++ X = X
  simp
theorem fit_oc : Fr.fits Try.prog 12 30 (.cat 1 (.int .i64) (.cat 1 (.int .i64) (.cat 1 (.int .i64) .nil))) = true := by kernel_rfl
theorem ok_oc : Fr.eqOk Try.prog 12 30 = true := by kernel_rfl
theorem eq_oc (a b c : Int) (w : World) : (binOp .eql 30 (.agg #[.int .i64 a, .int .i64 b, .int .i64 c]) (.agg #[.int .i64 a, .int .i64 b, .int .i64 c])).run Try.prog w = .ok (.bool true) w :=
  ((Kt.eq_ia (P := Try.prog) .i64 30 (.cat 1 (.int .i64) (.cat 1 (.int .i64) (.cat 1 (.int .i64) .nil))) 12 (by omega) fit_oc ok_oc rfl rfl rfl (fun _ => rfl) [a, b, c] [a, b, c] rfl rfl).1 rfl w).1
theorem guard_ocT : Program.eqGuardType Try.prog Try.prog.depth 30 = false := by kernel_rfl
theorem guard_oc (op : BinOp) (x y : Operand) (a b : Array Value) (w : World) : (eqGuard op 30 x y (.agg a) (.agg b)).run Try.prog w = .ok () w := run_eqGuard_agg w op 30 x y _ _ guard_ocT
set_option maxRecDepth 100000 in
set_option maxHeartbeats 1600000 in
theorem snew_calls (w : World) : Calls Try.prog 26 #[.int .i64 2] w fun e w' => ∃ g, e = .returned (.tuple #[.agg #[.slice (some ⟨g, 0, none⟩) 2 2, .int .i64 0, .int .i64 0], .int .i64 0]) ∧ w'.heap[g]? = some (.cells #[.string zb, .string zb] 9 (0, 0)) ∧ Below w.heap.size w w' ∧ g ≠ w.heap.size := by
  go_enter Try.func26, Try.ntmps26
  go_wp2_with fail
  refine (new2_calls _).mono ?_
  rintro e w1 ⟨g, rfl, hg, hb⟩
  unfold dkV
  have HB := Lib.hid (Kt.bthen (Kt.balloc (Below.refl _ w) (.cells #[.slice none 0 0, .int .i64 0, .int .i64 0] 26)) hb)
  have r0 := Kt.box1 hb
  have HG := Lib.hid hg
  have hl := (Array.getElem?_eq_some_iff.1 r0).1
  have q0 := fun i => cell_of_row _ _ i _ _ _ r0
  have f0 := fun i => frozen_of_row _ _ i _ _ r0
  have R0 := Lib.hid r0
  have hne : g ≠ w.heap.size := fun q => by rw [q, r0] at hg; injection hg with hg; injection hg with h1 h2; simp at h1
  clear hb r0 hg
  go_wp2_with fail
  have hw := al_row (row_put3 (x' := .slice (some ⟨g, 0, none⟩) 2 2) (y' := .int .i64 0) (z' := .int .i64 0) R0.out) (.cells #[.slice (some ⟨g, 0, none⟩) 2 2, .int .i64 0] 24)
  refine bodyPost_ret (v := .tuple #[.agg #[.slice (some ⟨g, 0, none⟩) 2 2, .int .i64 0, .int .i64 0], .int .i64 0]) (by simp [results, Try.results26, asAddr, ld_lk hw]) rfl ?_
  refine ⟨g, rfl, ?_, Kt.balloc (Kt.bset (Kt.bset (Kt.bset HB.out (Nat.le_refl _) _) (Nat.le_refl _) _) (Nat.le_refl _) _) _, hne⟩
  exact al_row ((((((Upd.refl w.heap.size w1).set 0 _).set 1 _).set 2 _).row HG.out hne)) _
def FW : List Int := [1, 3, 3, 3, 1, 1, 1, 1, 1]
def FR : List Int := [1, 1, 1, 1]
set_option maxRecDepth 100000 in
set_option maxHeartbeats 3200000 in
theorem stoLives_calls (w : World) : Calls Try.prog 11 #[] w fun e w' => e = .returned (.bool true) ∧ Below w.heap.size w w' := by
  have GE := fun a b c w => eq_oc a b c w
  have GG := guard_oc
  obtain ⟨X, hXe⟩ : ∃ X, X = (⟨(Lib.repeatL (⟨#[120]⟩ : ByteArray).data.toList 16).toArray⟩ : ByteArray) := ⟨_, rfl⟩
  have hX : X.size = 16 := by rw [hXe]; decide +kernel
  have HX := Lib.hid hX
  obtain ⟨P, hP⟩ : ∃ P, P = putB (putB [zb, zb] 1 X 1) 1 X 1 := ⟨_, rfl⟩
  have okP : OkD P 0 := by rw [hP]; exact putB_ok (putB_ok ok_L0.d 1 X 1 (by decide) (by omega)) 1 X 1 (by rw [putB_len _ _ _ _ (by decide)]; decide) (by omega)
  have lenP : P.length = 2 := by rw [hP, putB_len _ _ _ _ (by rw [putB_len _ _ _ _ (by decide)]; decide), putB_len _ _ _ _ (by decide)]; rfl
  have jP : joinS ((P.drop 1).take 1) = X := by rw [hP]; exact joinS_back _ 1 X 1 (by rw [putB_len _ _ _ _ (by decide)]; decide) (by omega)
  have HWR : Hid (∀ (A : Option Addr) (c : Nat) (FA : Option Addr) (fc : Nat) (W : World), DkA W A c [zb, zb] → Kt.Ar W (.slice FA 9 fc) 1 9 (ics FW) → Calls Try.prog 14 #[.agg #[.slice A 2 c, .int .i64 0, .int .i64 0], .int .i64 1, .string X, .slice FA 9 fc] W fun e w' => ∃ A' c', e = .returned (.tuple #[.agg #[.slice A' 2 c', .int .i64 0, .int .i64 2], .agg #[.int .i64 0, .int .i64 1, .int .i64 7]]) ∧ DkS w' W.heap.size A' c' P ∧ Below W.heap.size W w') := Lib.hid (fun A c FA fc W hA hF => by
    have := write_calls L0 A c FA fc FW 1 X W hA (by decide) hF (by omega)
    obtain ⟨e1, e2, e3, e4⟩ := lives_w hX
    rw [show FW = [1, 3, 3, 3, 1, 1, 1, 1, 1] from rfl, e1, e2, e3, e4, ← hP] at this
    unfold lkV at this
    dsimp only at this
    rw [lenP] at this
    exact this)
  have HRD : Hid (∀ (A : Option Addr) (c : Nat) (FA : Option Addr) (fc : Nat) (W : World), DkA W A c P → Kt.Ar W (.slice FA 4 fc) 1 4 (ics FR) → Calls Try.prog 10 #[.agg #[.slice A 2 c, .int .i64 0, .int .i64 2], .int .i64 1, .int .i64 1, .slice FA 4 fc] W fun e w' => ∃ A' c', e = .returned (.tuple #[.agg #[.slice A' 2 c', .int .i64 0, .int .i64 3], .string X, .agg #[.int .i64 0, .int .i64 1, .int .i64 3]]) ∧ DkS w' W.heap.size A' c' P ∧ Below W.heap.size W w') := Lib.hid (fun A c FA fc W hA hF => by
    have := read_calls ⟨P, 0, 2⟩ A c FA fc FR 1 1 W hA (by rw [lenP]; decide) hF
    obtain ⟨e1, e2, e3, e4, e5⟩ := lives_r (X := X) (bs := P) ⟨okP, by show (0 : Int) ≤ 2; decide, by show (2 : Int) < 4294967296; decide⟩ lenP hX jP
    rw [show FR = [1, 1, 1, 1] from rfl, e1, e2, e3, e4, e5] at this
    unfold lkV at this
    dsimp only at this
    rw [lenP] at this
    exact this)
  have HRP := Lib.hid (fun W => Try.strings_Repeat_main ⟨#[120]⟩ 16 W (by decide) (by decide) (by decide) (by decide))
  rw [← hXe] at HRP
  clear hXe hX hP okP lenP jP
  go_enter Try.func11, Try.ntmps11
  go_wp2_with fail
  refine (snew_calls _).mono ?_
  rintro e w1 ⟨g, rfl, hg, hb, _⟩
  have HG := Lib.hid (Kt.row_on (Kt.balloc (Below.refl _ w1) (.cells #[.slice (some ⟨g, 0, none⟩) 2 2, .int .i64 0, .int .i64 0] 26)) hg)
  have HB := Lib.hid (Kt.balloc hb (.cells #[.slice (some ⟨g, 0, none⟩) 2 2, .int .i64 0, .int .i64 0] 26))
  have r1 : (w1.alloc (.cells #[.slice (some ⟨g, 0, none⟩) 2 2, .int .i64 0, .int .i64 0] 26)).heap[w1.heap.size]? = some (.cells #[.slice (some ⟨g, 0, none⟩) 2 2, .int .i64 0, .int .i64 0] 26 (0, 0)) := heap_alloc_new w1 _
  have hz1 := hb.size
  clear hg hb
  go_upto_region 2 with (fail)
  obtain ⟨n1, hn1⟩ : ∃ n, n = w1.heap.size := ⟨_, rfl⟩
  rw [← hn1] at r1 hz1 ⊢
  clear hn1
  generalize w1.alloc (.cells #[.slice (some ⟨g, 0, none⟩) 2 2, .int .i64 0, .int .i64 0] 26) = W1 at *
  go_wp2_with fail
  refine (HRP.out _).mono ?_
  rintro e w2 ⟨rfl, hb⟩
  have r2 := Kt.row_on hb r1
  replace HG := Lib.hid (Kt.row_on hb HG.out)
  replace HB := Lib.hid (Kt.bthen HB.out hb)
  clear hb r1 HRP
  have q := fun i => cell_of_row _ _ i _ _ _ r2
  go_wp2_with fail
  have hbA := Kt.balloc (Below.refl _ w2) (.cells (ics FW).toArray 3)
  refine (HWR.out _ _ _ _ _ (dka_row (Kt.row_on hbA HG.out)) (Kt.Ar.new w2 (ics FW).toArray 3 9 1 rfl)).mono ?_
  rintro e w3 ⟨A3, c3, rfl, hs, hb⟩
  have r3 := Kt.row_on (hbA.trans (hb.mono hbA.size)) r2
  replace HB := Lib.hid (Kt.bthen HB.out (hbA.trans (hb.mono hbA.size)))
  have HS := Lib.hid (Kt.Sl.mono (B' := w2.heap.size) hs hbA.size)
  have hlt := (Array.getElem?_eq_some_iff.1 r2).1
  have hl3 := (Array.getElem?_eq_some_iff.1 r3).1
  clear hb hbA hs q HWR
  have q := fun i => cell_of_row _ _ i _ _ _ r3
  have f := fun i => frozen_of_row _ _ i _ _ r3
  go_upto_region 4 with (fail)
  obtain ⟨g4, hg4⟩ : ∃ n, n = w3.heap.size := ⟨_, rfl⟩
  rw [← hg4]
  refine Kt.fold (fun W => W.heap[n1]? = some (.cells #[.slice A3 2 c3, .int .i64 0, .int .i64 2] 26 (0, 0)) ∧ W.heap[g4]? = some (.cells #[.int .i64 0, .int .i64 1, .int .i64 7] 30 (0, 0)) ∧ DkS W w2.heap.size A3 c3 P ∧ Below w.heap.size w W)
    ⟨al_row (row_put3 r3) _, ?_, Kt.Sl.alloc (DkS.set3 HS.out hlt _ _ _) _, Kt.balloc (Kt.bset (Kt.bset (Kt.bset HB.out hz1 _) hz1 _) hz1 _) _⟩ ?_
  · rw [hg4]
    have := heap_alloc_new (((w3.setCell ⟨n1, 0, none⟩ (.slice A3 2 c3)).setCell ⟨n1, 1, none⟩ (.int .i64 0)).setCell ⟨n1, 2, none⟩ (.int .i64 2)) (.cells #[.int .i64 0, .int .i64 1, .int .i64 7] 30)
    simpa [World.setCell] using this
  rintro W4 ⟨h1, h4, hs, hb⟩
  have hne : g4 ≠ n1 := by omega
  clear q f HB HS r3 r2 hl3 hlt hg4
  have q := fun i => cell_of_row _ _ i _ _ _ h1
  have HS := Lib.hid hs
  have HB := Lib.hid hb
  have H1 := Lib.hid h1
  have H4 := Lib.hid h4
  clear h1 h4 hs hb
  go_wp2_with fail
  have hbA := Kt.balloc (Below.refl _ W4) (.cells (ics FR).toArray 3)
  refine (HRD.out _ _ _ _ _ (DkS.toA (DkS.on HS.out hbA)) (Kt.Ar.new W4 (ics FR).toArray 3 4 1 rfl)).mono ?_
  rintro e w5 ⟨A5, c5, rfl, _, hb⟩
  have hb' := hbA.trans (hb.mono hbA.size)
  have r1 := Kt.row_on hb' H1.out
  have r4 := Kt.row_on hb' H4.out
  replace HB := Lib.hid (Kt.bthen HB.out hb')
  have hl1 := (Array.getElem?_eq_some_iff.1 r1).1
  have hl4 := (Array.getElem?_eq_some_iff.1 r4).1
  clear hb hb' hbA HS H1 H4 q HRD
  have q := fun i => cell_of_row _ _ i _ _ _ r1
  have f := fun i => frozen_of_row _ _ i _ _ r1
  have q4 := fun i => cell_of_row _ _ i _ _ _ r4
  clear r1 r4
  go_wp2_with fail
  go_ret
  refine ⟨rfl, ?_⟩
  first
  | exact Kt.balloc (Kt.bset (Kt.bset (Kt.bset HB.out hz1 _) hz1 _) hz1 _) _
  | exact Kt.bset (Kt.bset (Kt.bset (Kt.balloc HB.out _) hz1 _) hz1 _) hz1 _
end Go.Proofs.Ytafiedhjjnapoaa
/- a slice handed in, of the first form: its places times the bytes of one stay below the bound. -/
namespace Go.Proofs.Ytafiedhjjnapoaa
open Go.ChangeShapes Go.WideShapes Go.ChangeAt Go.RowKit
theorem Fr.top_len {H : Type} {enc : TypeId × Value → H} {P : Program} {w : World} {base R : Nat} {t e : TypeId} {a : Option Addr} {len cap : Nat} {d : DataW H} {p : List MemPlace}
    (hu : P.underlying t = some (.slice e)) (h : DataW.Trod enc P w base (fun _ => true) true t (.slice a len cap) d p) (hk : ∀ n ∈ d.weights P t, n ≤ R) : len * P.bytesOf e ≤ R := by
  obtain ⟨n, hn⟩ := h
  have hn' : DataW.trod enc P w base (fun _ => true) true n t [.slice a len cap] = some (d, p) := hn
  rcases DataW.trod_slice hu hn' with ⟨he, _⟩ | ⟨ad, len', cap', els, rest, n', _, he, hd, _, hl, _, hel, _, _, _⟩
  · simp only [List.cons.injEq, Value.slice.injEq] at he
    obtain ⟨⟨_, rfl, _⟩, _⟩ := he
    omega
  · simp only [List.cons.injEq, Value.slice.injEq] at he
    obtain ⟨⟨_, rfl, rfl⟩, _⟩ := he
    simp only [Prod.mk.injEq] at hd
    obtain ⟨rfl, _⟩ := hd
    have := hk _ (by simp only [DataW.weights, hu, List.mem_cons]; exact Or.inl rfl)
    simp only [List.length_map] at this
    exact Nat.le_trans (Nat.mul_le_mul_right _ (by omega)) this
theorem Fr.fld_len {H : Type} {enc : TypeId × Value → H} {P : Program} {w : World} {base R : Nat} {t e : TypeId} {fs : Array Field} {i : Nat} {f : Field} {cs : Array Value} {a : Option Addr} {len cap : Nat} {d : DataW H} {p : List MemPlace}
    (hu : P.underlying t = some (.struct fs)) (hf : fs[i]? = some f) (hue : P.underlying f.type = some (.slice e)) (hc : (cs.toList.drop f.offset).take (P.cellsOf f.type) = [.slice a len cap])
    (h : DataW.Trod enc P w base (fun _ => true) true t (.agg cs) d p) (hk : ∀ n ∈ d.weights P t, n ≤ R) : len * P.bytesOf e ≤ R := by
  obtain ⟨n, hn⟩ := h
  have hn' : DataW.trod enc P w base (fun _ => true) true n t cs.toList = some (d, p) := hn
  obtain ⟨xs, n', _, hd, hlen, hxl, hget⟩ := DataW.trod_struct hu hn'
  simp only [Prod.mk.injEq] at hd
  obtain ⟨rfl, _⟩ := hd
  have hi : i < xs.length := by rw [hxl]; exact (Array.getElem?_eq_some_iff.1 hf).1
  have h1 := hget i f hf
  rw [hc, List.getElem?_eq_getElem hi] at h1
  refine Fr.top_len (enc := enc) (w := w) (base := base) (R := R) (d := xs[i].1) (p := xs[i].2) hue ⟨n', h1⟩ fun m hm => hk m ?_
  simp only [DataW.weights, hu]
  exact DataW.weights_mem_each (j := i) (by simpa using congrArg (Option.map (·.type)) hf) (by simp [hi]) m hm
end Go.Proofs.Ytafiedhjjnapoaa
/- a slice in a field of a struct that is itself a field of a struct handed in: its places times the bytes of one stay below the bound. -/
namespace Go.Proofs.Ytafiedhjjnapoaa
open Go.ChangeShapes Go.WideShapes Go.ChangeAt Go.RowKit
theorem Fr.fldb_len {H : Type} {enc : TypeId × Value → H} {P : Program} {w : World} {base R : Nat} {t e : TypeId} {fs0 fs : Array Field} {i0 i : Nat} {f0 f : Field} {cs : Array Value} {a : Option Addr} {len cap : Nat} {d : DataW H} {p : List MemPlace}
    (hu0 : P.underlying t = some (.struct fs0)) (hf0 : fs0[i0]? = some f0) (hu : P.underlying f0.type = some (.struct fs)) (hf : fs[i]? = some f) (hue : P.underlying f.type = some (.slice e))
    (hc : (((cs.toList.drop f0.offset).take (P.cellsOf f0.type)).drop f.offset).take (P.cellsOf f.type) = [.slice a len cap])
    (h : DataW.Trod enc P w base (fun _ => true) true t (.agg cs) d p) (hk : ∀ n ∈ d.weights P t, n ≤ R) : len * P.bytesOf e ≤ R := by
  obtain ⟨n, hn⟩ := h
  have hn' : DataW.trod enc P w base (fun _ => true) true n t cs.toList = some (d, p) := hn
  obtain ⟨xs, n', _, hd, hlen, hxl, hget⟩ := DataW.trod_struct hu0 hn'
  simp only [Prod.mk.injEq] at hd
  obtain ⟨rfl, _⟩ := hd
  have hi : i0 < xs.length := by rw [hxl]; exact (Array.getElem?_eq_some_iff.1 hf0).1
  have h1 := hget i0 f0 hf0
  rw [List.getElem?_eq_getElem hi] at h1
  refine Fr.fld_len (enc := enc) (w := w) (base := base) (R := R) (i := i) (cs := ((cs.toList.drop f0.offset).take (P.cellsOf f0.type)).toArray) (d := xs[i0].1) (p := xs[i0].2) hu hf hue (by simpa using hc) ⟨n', h1⟩ fun m hm => hk m ?_
  simp only [DataW.weights, hu0]
  exact DataW.weights_mem_each (j := i0) (by simpa using congrArg (Option.map (·.type)) hf0) (by simp [hi]) m hm
end Go.Proofs.Ytafiedhjjnapoaa
/- A link that came in; the laws StoreBack, StoreTwice, walked. -/
namespace Go.Proofs.Ytafiedhjjnapoaa
open Go.RowKit Go.Shelf Go.Proofs.Ytafiedhjjnapoaa.Scs Go.Proofs.Ytafiedhjjnapoaa.Blk Go.Proofs.Ytafiedhjjnapoaa.Sto
abbrev lkTy : Fr.Ty := .cat 2 (.cat 1 (.slice 1 .string) (.cat 1 (.int .i64) .nil)) (.cat 1 (.int .i64) .nil)
theorem lk_of {w : World} {B : Nat} {v : Value} (r : Fr.RdV w B lkTy v) : ∃ A c l, v = lkV A c l ∧ DkA w A c l.bs := by
  obtain ⟨cs, rfl, r⟩ := r
  obtain ⟨l1, _, a1, e1, r1, q1⟩ := Fr.cat_open r
  obtain ⟨_, _, a2, _, ⟨tg, rfl, _⟩, q2⟩ := Fr.cat_open q1
  obtain ⟨l3, _, a3, e3, r3, q3⟩ := Fr.cat_open r1
  obtain ⟨_, _, a4, _, ⟨s, rfl, _⟩, q4⟩ := Fr.cat_open q3
  obtain ⟨L, rfl⟩ : ∃ L, l3 = [L] := List.length_eq_one_iff.1 e3
  obtain ⟨ls, _, _, hL⟩ := Kt.ar_strs (v := L) r3
  have z1 : _ = [] := q2
  have z2 : _ = [] := q4
  obtain ⟨A, c, rfl, _, _⟩ := hL.form
  refine ⟨A, c, ⟨ls, s, tg⟩, ?_, hL⟩
  subst_vars
  unfold lkV
  congr 1
  rw [← Array.toList_inj, a1]
  simp
theorem lk_len {A : Option Addr} {c : Nat} {l : Ln} (n0 : ∀ (cs : Array Value) a k c', lkV A c l = .agg cs → (((cs.toList.drop 0).take 2).drop 0).take 1 = [.slice a k c'] → k * Try.prog.bytesOf 9 ≤ reachBytes) : l.bs.length ≤ 8796093022208 := by
  have hb : Try.prog.bytesOf 9 = 16 := by kernel_rfl
  have hR : reachBytes ≤ 140737488355328 := by unfold reachBytes; omega
  rw [hb] at n0
  have q0 := n0 _ A l.bs.length c rfl (by simp)
  omega
theorem putB_0 (bs : List ByteArray) (a : Nat) (d : ByteArray) : putB bs a d 0 = bs := by
  unfold putB
  simp
/-- what a write leaves -/
theorem wt_len (l : Ln) (x : Int) (data : ByteArray) (fs : List Int) : (wtL l x data fs).l.bs.length = l.bs.length := by
  unfold wtL
  split
  · rfl
  · split
    · rfl
    · split
      · rfl
      · next h1 h2 h3 =>
        obtain ⟨x0, _, hx⟩ := blkC_ok.1 (Decidable.not_not.1 h3)
        have hb : x.toNat + data.size / 16 ≤ l.bs.length := by omega
        have h := por_write x.toNat (data.size / 16) data fs l.bs hb (by omega) (data.size / 16) l ByteArray.empty 0 0 (putB_0 _ _ _).symm (Nat.zero_le _) (by omega)
        rcases h.1 with q | ⟨_, q⟩
        · rw [q, putB_len _ _ _ _ (by omega)]
        · rw [q, putB_len _ _ _ _ (by omega)]
theorem wt_ok {l : Ln} {x : Int} {data : ByteArray} {fs : List Int} (h : (wtL l x data fs).c = 0) : ∃ a n : Nat, x = a ∧ data.size = n * 16 ∧ a + n ≤ l.bs.length ∧ (wtL l x data fs).l.bs = putB l.bs a data n ∧ (wtL l x data fs).d = n := by
  unfold wtL at h ⊢
  by_cases h1 : chkL l fs = 0
  · by_cases h2 : data.size % 16 = 0
    · by_cases h3 : blkC l.bs.length x ((data.size / 16 : Nat) : Int) = 0
      · rw [if_neg (by rw [h1]; decide), if_neg (by rw [h2]; decide), if_neg (by rw [h3]; decide)] at h ⊢
        obtain ⟨x0, _, hx⟩ := blkC_ok.1 h3
        have hb : x.toNat + data.size / 16 ≤ l.bs.length := by omega
        have hp := por_write x.toNat (data.size / 16) data fs l.bs hb (by omega) (data.size / 16) l ByteArray.empty 0 0 (putB_0 _ _ _).symm (Nat.zero_le _) (by omega)
        have hd := hp.2.2 h
        refine ⟨x.toNat, data.size / 16, by omega, by omega, hb, ?_, hd⟩
        rcases hp.1 with q | ⟨q, _⟩
        · rw [q, hd]
        · exact absurd h q
      · rw [if_neg (by rw [h1]; decide), if_neg (by rw [h2]; decide), if_pos h3] at h
        exact absurd h h3
    · rw [if_neg (by rw [h1]; decide), if_pos h2] at h
      cases h
  · rw [if_pos h1] at h
    exact absurd h h1
theorem rd_ok {l : Ln} {x y : Int} {fs : List Int} (h : (rdL l x y fs).c = 0) : ∃ a n : Nat, x = a ∧ y = n ∧ a + n ≤ l.bs.length ∧ (rdL l x y fs).l.bs = l.bs ∧ (rdL l x y fs).t = joinS ((l.bs.drop a).take n) ∧ (rdL l x y fs).d = n := by
  unfold rdL at h ⊢
  by_cases h1 : chkL l fs = 0
  · by_cases h3 : blkC l.bs.length x y = 0
    · rw [if_neg (by rw [h1]; decide), if_neg (by rw [h3]; decide)] at h ⊢
      obtain ⟨x0, y0, hx⟩ := blkC_ok.1 h3
      have hp := por_read x.toNat y.toNat ⟨#[]⟩ fs l.bs y.toNat l ByteArray.empty 0 0 rfl (by simp [joinS]) (Nat.zero_le _) (by omega)
      have hd := hp.2.2.2 h
      exact ⟨x.toNat, y.toNat, by omega, by omega, by omega, hp.1, by rw [hp.2.1, hd], hd⟩
    · rw [if_neg (by rw [h1]; decide), if_pos h3] at h
      exact absurd h h3
  · rw [if_pos h1] at h
    exact absurd h h1
/-- what was written is read -/
theorem back_plain {l : Ln} {x : Int} {data : ByteArray} {f g : List Int} (h : (wtL l x data f).c = 0) (h2 : (rdL (wtL l x data f).l x ((data.size / 16 : Nat) : Int) g).c = 0) :
    (rdL (wtL l x data f).l x ((data.size / 16 : Nat) : Int) g).t = data ∧ (rdL (wtL l x data f).l x ((data.size / 16 : Nat) : Int) g).l.bs = (wtL l x data f).l.bs := by
  obtain ⟨a, n, rfl, hz, hl, hb, _⟩ := wt_ok h
  obtain ⟨a', n', e1, e2, _, e3, e4, _⟩ := rd_ok h2
  obtain rfl : a = a' := by omega
  obtain rfl : n = n' := by omega
  refine ⟨?_, e3⟩
  rw [e4, hb, joinS_back _ _ _ _ hl hz]
/-- done again it is as if done at once -/
theorem twice_plain {l : Ln} {x : Int} {data : ByteArray} {f g : List Int} (h : (wtL (wtL l x data f).l x data g).c = 0) (h2 : (wtL l x data g).c = 0) :
    (wtL (wtL l x data f).l x data g).l.bs = (wtL l x data g).l.bs := by
  obtain ⟨a, n, rfl, hz, hl, hb, _⟩ := wt_ok h2
  obtain ⟨a', n', e1, e2, _, e3, _⟩ := wt_ok h
  obtain rfl : a = a' := by omega
  obtain rfl : n = n' := by omega
  rw [hb, e3]
  have key : ∀ d, d ≤ n → putB (putB l.bs a data d) a data n = putB l.bs a data n := fun d hd => by
    have l1 := putB_len l.bs a data d (by omega)
    apply List.ext_getElem?
    intro i
    rw [putB_get _ _ _ _ (by omega), putB_get _ _ _ _ (by omega), putB_get _ _ _ _ (by omega)]
    by_cases c : a ≤ i ∧ i < a + n
    · rw [if_pos c, if_pos c]
    · rw [if_neg c, if_neg c, if_neg (by omega)]
  unfold wtL
  by_cases h1 : chkL l f = 0
  · have hm : data.size % 16 = 0 := by omega
    by_cases h3 : blkC l.bs.length (a : Int) ((data.size / 16 : Nat) : Int) = 0
    · rw [if_neg (by rw [h1]; decide), if_neg (by rw [hm]; decide), if_neg (by rw [h3]; decide)]
      have hn : data.size / 16 = n := by omega
      rw [hn, Int.toNat_natCast]
      have hp := por_write a n data f l.bs hl hz n l ByteArray.empty 0 0 (putB_0 _ _ _).symm (Nat.zero_le _) (by omega)
      rcases hp.1 with q | ⟨_, q⟩
      · rw [q]; exact key _ hp.2.1
      · rw [q]; exact key _ (by omega)
    · rw [if_neg (by rw [h1]; decide), if_neg (by rw [hm]; decide), if_pos h3]
  · rw [if_pos h1]
end Go.Proofs.Ytafiedhjjnapoaa
/- The laws StoreBack, StoreTwice, walked. -/
namespace Go.Proofs.Ytafiedhjjnapoaa
open Go.RowKit Go.Shelf Go.Proofs.Ytafiedhjjnapoaa.Scs Go.Proofs.Ytafiedhjjnapoaa.Blk Go.Proofs.Ytafiedhjjnapoaa.Sto
set_option maxRecDepth 100000 in
set_option maxHeartbeats 3200000 in
theorem sback_calls (l : Ln) (A : Option Addr) (c : Nat) (x : Int) (data : ByteArray) (f g : List Int) (FA GA : Option Addr) (fc gc : Nat) (w : World) (hA : DkA w A c l.bs) (hn : l.bs.length ≤ 8796093022208) (hF : Kt.Ar w (.slice FA f.length fc) 1 f.length (ics f)) (hG : Kt.Ar w (.slice GA g.length gc) 1 g.length (ics g)) (hds : data.size ≤ 9223372036854775807) :
    Calls Try.prog 5 #[lkV A c l, .int .i64 x, .string data, .slice FA f.length fc, .slice GA g.length gc] w fun e w' => e = .returned (.bool true) ∧ Below w.heap.size w w' := by
  obtain ⟨Z, hZ⟩ : ∃ Z, Z = data.size / 16 := ⟨_, rfl⟩
  have hz1 : (data.size : Int) / 16 = (Z : Int) := by omega
  have hz2 : data.size / 16 = Z := hZ.symm
  obtain ⟨O, hO⟩ : ∃ O, O = wtL l x data f := ⟨_, rfl⟩
  obtain ⟨Q, hQ⟩ : ∃ Q, Q = rdL O.l x (Z : Int) g := ⟨_, rfl⟩
  have hOl : O.l.bs.length ≤ 8796093022208 := by rw [hO, wt_len]; exact hn
  have HPL : Hid (O.c = 0 → Q.c = 0 → Q.t = data ∧ Q.l.bs = O.l.bs) := Lib.hid (by rw [hQ, hO, hZ]; exact fun h1 h2 => back_plain h1 h2)
  have HOB := Lib.hid hOl
  have HB0 := Lib.hid (Kt.balloc (Below.refl _ w) (.cells #[.slice A l.bs.length c, .int .i64 l.s, .int .i64 l.tag] 26))
  have HWR := Lib.hid (write_calls l A c FA fc f x data _ (hA.on HB0.out) hn (hF.on HB0.out) hds)
  have HRD := Lib.hid (fun A c W (h : DkA W A c O.l.bs) (hW : Below w.heap.size w W) => read_calls O.l A c GA gc g x (Z : Int) W h hOl (hG.on hW))
  rw [← hO] at HWR
  rw [← hQ] at HRD
  clear hA hn hF hG hO hQ hOl hZ
  unfold lkV at *
  go_enter Try.func5, Try.ntmps5
  go_wp2_with fail
  refine HWR.out.mono ?_
  rintro e w1 ⟨A1, c1, rfl, hs, hb⟩
  have HB1 := Lib.hid (Kt.bthen HB0.out hb)
  have hal := Kt.balloc (Kt.balloc (Below.refl _ w1) (.cells #[.slice A1 O.l.bs.length c1, .int .i64 O.l.s, .int .i64 O.l.tag] 26)) (.cells #[.int .i64 O.c, .int .i64 (O.d : Int), .int .i64 (O.u : Int)] 30)
  have HS2 := Lib.hid (DkS.on hs hal)
  have HB2 := Lib.hid (Kt.bthen HB1.out hal)
  have r11 : ((w1.alloc (.cells #[.slice A1 O.l.bs.length c1, .int .i64 O.l.s, .int .i64 O.l.tag] 26)).alloc (.cells #[.int .i64 O.c, .int .i64 (O.d : Int), .int .i64 (O.u : Int)] 30)).heap[w1.heap.size]? = some (.cells #[.slice A1 O.l.bs.length c1, .int .i64 O.l.s, .int .i64 O.l.tag] 26 (0, 0)) := heap_alloc2_old w1 _ _
  have r12 : ((w1.alloc (.cells #[.slice A1 O.l.bs.length c1, .int .i64 O.l.s, .int .i64 O.l.tag] 26)).alloc (.cells #[.int .i64 O.c, .int .i64 (O.d : Int), .int .i64 (O.u : Int)] 30)).heap[w1.heap.size + 1]? = some (.cells #[.int .i64 O.c, .int .i64 (O.d : Int), .int .i64 (O.u : Int)] 30 (0, 0)) := heap_alloc2_new w1 _ _
  clear hs hb hal HWR HB0 HB1
  go_upto_region 2 with (fail)
  obtain ⟨n1, hn1⟩ : ∃ n, n = w1.heap.size := ⟨_, rfl⟩
  rw [← hn1] at r11 r12 ⊢
  clear hn1
  generalize (w1.alloc (.cells #[.slice A1 O.l.bs.length c1, .int .i64 O.l.s, .int .i64 O.l.tag] 26)).alloc (.cells #[.int .i64 O.c, .int .i64 (O.d : Int), .int .i64 (O.u : Int)] 30) = W2 at *
  have q := fun i => cell_of_row _ _ i _ _ _ r11
  go_wp2_with fail
  refine (HRD.out _ _ _ HS2.out.toA HB2.out).mono ?_
  rintro e w3 ⟨A3, c3, rfl, hs, hb⟩
  have hal := Kt.balloc (Kt.balloc (Below.refl _ w3) (.cells #[.slice A3 Q.l.bs.length c3, .int .i64 Q.l.s, .int .i64 Q.l.tag] 26)) (.cells #[.int .i64 Q.c, .int .i64 (Q.d : Int), .int .i64 (Q.u : Int)] 30)
  have r13 : ((w3.alloc (.cells #[.slice A3 Q.l.bs.length c3, .int .i64 Q.l.s, .int .i64 Q.l.tag] 26)).alloc (.cells #[.int .i64 Q.c, .int .i64 (Q.d : Int), .int .i64 (Q.u : Int)] 30)).heap[w3.heap.size]? = some (.cells #[.slice A3 Q.l.bs.length c3, .int .i64 Q.l.s, .int .i64 Q.l.tag] 26 (0, 0)) := heap_alloc2_old w3 _ _
  have r15 : ((w3.alloc (.cells #[.slice A3 Q.l.bs.length c3, .int .i64 Q.l.s, .int .i64 Q.l.tag] 26)).alloc (.cells #[.int .i64 Q.c, .int .i64 (Q.d : Int), .int .i64 (Q.u : Int)] 30)).heap[w3.heap.size + 1]? = some (.cells #[.int .i64 Q.c, .int .i64 (Q.d : Int), .int .i64 (Q.u : Int)] 30 (0, 0)) := heap_alloc2_new w3 _ _
  have HS3 := Lib.hid (DkS.on hs hal)
  have hbb := Kt.bthen hb (Kt.balloc (Kt.balloc (Below.refl _ w3) (.cells #[.slice A3 Q.l.bs.length c3, .int .i64 Q.l.s, .int .i64 Q.l.tag] 26)) (.cells #[.int .i64 Q.c, .int .i64 (Q.d : Int), .int .i64 (Q.u : Int)] 30))
  have HB3 := Lib.hid (Kt.bthen HB2.out hbb)
  replace HS2 := Lib.hid (DkS.on HS2.out hbb)
  replace r11 := Kt.row_on hbb r11
  replace r12 := Kt.row_on hbb r12
  clear hs hb hal hbb HRD HB2 q
  go_upto_region 3 with (fail)
  obtain ⟨n3, hn3⟩ : ∃ n, n = w3.heap.size := ⟨_, rfl⟩
  rw [← hn3] at r13 r15 ⊢
  clear hn3
  generalize (w3.alloc (.cells #[.slice A3 Q.l.bs.length c3, .int .i64 Q.l.s, .int .i64 Q.l.tag] 26)).alloc (.cells #[.int .i64 Q.c, .int .i64 (Q.d : Int), .int .i64 (Q.u : Int)] 30) = W4 at *
  go_wp2_with fail
  refine (stoLives_calls _).mono ?_
  rintro e w5 ⟨rfl, hb⟩
  replace HS2 := Lib.hid (DkS.on HS2.out hb)
  replace HS3 := Lib.hid (DkS.on HS3.out hb)
  have HB5 := Lib.hid (Kt.bthen HB3.out hb)
  have q11 := fun i => cell_of_row _ _ i _ _ _ (Kt.row_on hb r11)
  have q12 := fun i => cell_of_row _ _ i _ _ _ (Kt.row_on hb r12)
  have q13 := fun i => cell_of_row _ _ i _ _ _ (Kt.row_on hb r13)
  have q15 := fun i => cell_of_row _ _ i _ _ _ (Kt.row_on hb r15)
  clear hb r11 r12 r13 r15 HB3
  obtain ⟨k1, hk1⟩ : ∃ k, k = O.c := ⟨_, rfl⟩
  obtain ⟨k2, hk2⟩ : ∃ k, k = Q.c := ⟨_, rfl⟩
  obtain ⟨T, hT⟩ : ∃ T, T = Q.t := ⟨_, rfl⟩
  rw [← hk1] at q12 ⊢
  rw [← hk2] at q15 ⊢
  rw [← hk1, ← hk2, ← hT] at HPL
  rw [← hT]
  clear hk1 hk2 hT
  by_cases h1 : k1 = 0
  · by_cases h2 : k2 = 0
    · subst h1 h2
      obtain ⟨hT, hbs⟩ := HPL.out rfl rfl
      subst hT
      have HEQ := Lib.hid (eqs_true A1 A3 c1 c3 O.l.bs w5 HS2.out.toA (hbs ▸ HS3.out.toA) (by have := HOB.out; omega))
      have hle : Q.l.bs.length = O.l.bs.length := by rw [hbs]
      rw [hle] at q13
      clear hbs hle HPL
      go_wp2_with fail
      refine HEQ.out.mono ?_
      rintro e w6 ⟨rfl, hb⟩
      have HB6 := Lib.hid (Kt.bthen HB5.out hb)
      clear hb
      go_wp2_with fail
      go_ret
      exact ⟨rfl, HB6.out⟩
    · clear HPL q11 q13
      go_wp2_with fail
      refine (stoLives_calls _).mono ?_
      rintro e w6 ⟨rfl, hb⟩
      have HB6 := Lib.hid (Kt.bthen HB5.out hb)
      clear hb
      go_wp2_with fail
      go_ret
      exact ⟨rfl, HB6.out⟩
  · clear HPL q11 q13
    go_wp2_with fail
    refine (stoLives_calls _).mono ?_
    rintro e w6 ⟨rfl, hb⟩
    have HB6 := Lib.hid (Kt.bthen HB5.out hb)
    clear hb
    go_wp2_with fail
    go_ret
    exact ⟨rfl, HB6.out⟩
theorem sback_walk (v0 v1 v2 v3 v4 : Value) (w : World) (r0 : Fr.RdV w reachBytes lkTy v0) (r1 : Fr.RdV w reachBytes (.int .i64) v1) (r2 : Fr.RdV w reachBytes .string v2) (r3 : Fr.RdV w reachBytes (.slice 1 (.int .i64)) v3) (r4 : Fr.RdV w reachBytes (.slice 1 (.int .i64)) v4)
    (n0 : ∀ (cs : Array Value) a l c, v0 = .agg cs → (((cs.toList.drop 0).take 2).drop 0).take 1 = [.slice a l c] → l * Try.prog.bytesOf 9 ≤ reachBytes) :
    Calls Try.prog 5 #[v0, v1, v2, v3, v4] w fun e w' => e = .returned (.bool true) ∧ Below w.heap.size w w' := by
  obtain ⟨A, c, l, rfl, hA⟩ := lk_of r0
  have hn := lk_len n0
  obtain ⟨x, h, _⟩ := r1
  simp only [List.cons.injEq, and_true] at h
  subst h
  obtain ⟨d, e2, hd⟩ := r2
  cases e2
  obtain ⟨f, _, _, hF⟩ := Kt.ar_ints r3
  obtain ⟨g, _, _, hG⟩ := Kt.ar_ints r4
  obtain ⟨FA, fc, rfl, _, _⟩ := hF.form
  obtain ⟨GA, gc, rfl, _, _⟩ := hG.form
  have hR : reachBytes ≤ 140737488355328 := by unfold reachBytes; omega
  exact sback_calls l A c x d f g FA GA fc gc w hA hn hF hG (by omega)
set_option maxRecDepth 100000 in
set_option maxHeartbeats 3200000 in
theorem stwice_calls (l : Ln) (A : Option Addr) (c : Nat) (x : Int) (data : ByteArray) (f g : List Int) (FA GA : Option Addr) (fc gc : Nat) (w : World) (hA : DkA w A c l.bs) (hn : l.bs.length ≤ 8796093022208) (hF : Kt.Ar w (.slice FA f.length fc) 1 f.length (ics f)) (hG : Kt.Ar w (.slice GA g.length gc) 1 g.length (ics g)) (hds : data.size ≤ 9223372036854775807) :
    Calls Try.prog 6 #[lkV A c l, .int .i64 x, .string data, .slice FA f.length fc, .slice GA g.length gc] w fun e w' => e = .returned (.bool true) ∧ Below w.heap.size w w' := by
  obtain ⟨O, hO⟩ : ∃ O, O = wtL l x data f := ⟨_, rfl⟩
  obtain ⟨Q, hQ⟩ : ∃ Q, Q = wtL O.l x data g := ⟨_, rfl⟩
  obtain ⟨R, hR⟩ : ∃ R, R = wtL l x data g := ⟨_, rfl⟩
  have hOl : O.l.bs.length ≤ 8796093022208 := by rw [hO, wt_len]; exact hn
  have HPL : Hid (Q.c = 0 → R.c = 0 → Q.l.bs = R.l.bs) := Lib.hid (by rw [hR, hQ, hO]; exact fun h1 h2 => twice_plain h1 h2)
  have HOB : Hid (R.l.bs.length ≤ 8796093022208) := Lib.hid (by rw [hR, wt_len]; exact hn)
  have HB0 := Lib.hid (Kt.balloc (Below.refl _ w) (.cells #[.slice A l.bs.length c, .int .i64 l.s, .int .i64 l.tag] 26))
  have HA0 := Lib.hid (hA.on HB0.out)
  have HWR := Lib.hid (write_calls l A c FA fc f x data _ HA0.out hn (hF.on HB0.out) hds)
  have HRD := Lib.hid (fun A c W (h : DkA W A c O.l.bs) (hW : Below w.heap.size w W) => write_calls O.l A c GA gc g x data W h hOl (hG.on hW) hds)
  have HR3 := Lib.hid (fun W (h : DkA W A c l.bs) (hW : Below w.heap.size w W) => write_calls l A c GA gc g x data W h hn (hG.on hW) hds)
  rw [← hO] at HWR
  rw [← hQ] at HRD
  rw [← hR] at HR3
  have r5 : (w.alloc (.cells #[.slice A l.bs.length c, .int .i64 l.s, .int .i64 l.tag] 26)).heap[w.heap.size]? = some (.cells #[.slice A l.bs.length c, .int .i64 l.s, .int .i64 l.tag] 26 (0, 0)) := heap_alloc_new w _
  clear hA hn hF hG hO hQ hR hOl
  unfold lkV at *
  go_enter Try.func6, Try.ntmps6
  go_wp2_with fail
  refine HWR.out.mono ?_
  rintro e w1 ⟨A1, c1, rfl, hs, hb⟩
  have hal := Kt.balloc (Kt.balloc (Below.refl _ w1) (.cells #[.slice A1 O.l.bs.length c1, .int .i64 O.l.s, .int .i64 O.l.tag] 26)) (.cells #[.int .i64 O.c, .int .i64 (O.d : Int), .int .i64 (O.u : Int)] 30)
  have r11 : ((w1.alloc (.cells #[.slice A1 O.l.bs.length c1, .int .i64 O.l.s, .int .i64 O.l.tag] 26)).alloc (.cells #[.int .i64 O.c, .int .i64 (O.d : Int), .int .i64 (O.u : Int)] 30)).heap[w1.heap.size]? = some (.cells #[.slice A1 O.l.bs.length c1, .int .i64 O.l.s, .int .i64 O.l.tag] 26 (0, 0)) := heap_alloc2_old w1 _ _
  have r12 : ((w1.alloc (.cells #[.slice A1 O.l.bs.length c1, .int .i64 O.l.s, .int .i64 O.l.tag] 26)).alloc (.cells #[.int .i64 O.c, .int .i64 (O.d : Int), .int .i64 (O.u : Int)] 30)).heap[w1.heap.size + 1]? = some (.cells #[.int .i64 O.c, .int .i64 (O.d : Int), .int .i64 (O.u : Int)] 30 (0, 0)) := heap_alloc2_new w1 _ _
  have hbb := Kt.bthen hb (Kt.balloc (Kt.balloc (Below.refl _ w1) (.cells #[.slice A1 O.l.bs.length c1, .int .i64 O.l.s, .int .i64 O.l.tag] 26)) (.cells #[.int .i64 O.c, .int .i64 (O.d : Int), .int .i64 (O.u : Int)] 30))
  replace r5 := Kt.row_on hbb r5
  have HS2 := Lib.hid (DkS.on hs hal)
  have HB2 := Lib.hid (Kt.bthen HB0.out hbb)
  replace HA0 := Lib.hid (HA0.out.on hbb)
  clear hs hb hal hbb HWR HB0
  go_upto_region 2 with (fail)
  obtain ⟨n1, hn1⟩ : ∃ n, n = w1.heap.size := ⟨_, rfl⟩
  rw [← hn1] at r11 r12 ⊢
  clear hn1
  generalize (w1.alloc (.cells #[.slice A1 O.l.bs.length c1, .int .i64 O.l.s, .int .i64 O.l.tag] 26)).alloc (.cells #[.int .i64 O.c, .int .i64 (O.d : Int), .int .i64 (O.u : Int)] 30) = W2 at *
  have q := fun i => cell_of_row _ _ i _ _ _ r11
  clear r11 r12
  go_wp2_with fail
  refine (HRD.out _ _ _ HS2.out.toA HB2.out).mono ?_
  rintro e w3 ⟨A3, c3, rfl, hs, hb⟩
  have hal := Kt.balloc (Kt.balloc (Below.refl _ w3) (.cells #[.slice A3 Q.l.bs.length c3, .int .i64 Q.l.s, .int .i64 Q.l.tag] 26)) (.cells #[.int .i64 Q.c, .int .i64 (Q.d : Int), .int .i64 (Q.u : Int)] 30)
  have r13 : ((w3.alloc (.cells #[.slice A3 Q.l.bs.length c3, .int .i64 Q.l.s, .int .i64 Q.l.tag] 26)).alloc (.cells #[.int .i64 Q.c, .int .i64 (Q.d : Int), .int .i64 (Q.u : Int)] 30)).heap[w3.heap.size]? = some (.cells #[.slice A3 Q.l.bs.length c3, .int .i64 Q.l.s, .int .i64 Q.l.tag] 26 (0, 0)) := heap_alloc2_old w3 _ _
  have r14 : ((w3.alloc (.cells #[.slice A3 Q.l.bs.length c3, .int .i64 Q.l.s, .int .i64 Q.l.tag] 26)).alloc (.cells #[.int .i64 Q.c, .int .i64 (Q.d : Int), .int .i64 (Q.u : Int)] 30)).heap[w3.heap.size + 1]? = some (.cells #[.int .i64 Q.c, .int .i64 (Q.d : Int), .int .i64 (Q.u : Int)] 30 (0, 0)) := heap_alloc2_new w3 _ _
  have hbb := Kt.bthen hb (Kt.balloc (Kt.balloc (Below.refl _ w3) (.cells #[.slice A3 Q.l.bs.length c3, .int .i64 Q.l.s, .int .i64 Q.l.tag] 26)) (.cells #[.int .i64 Q.c, .int .i64 (Q.d : Int), .int .i64 (Q.u : Int)] 30))
  replace r5 := Kt.row_on hbb r5
  have HS3 := Lib.hid (DkS.on hs hal)
  have HB3 := Lib.hid (Kt.bthen HB2.out hbb)
  replace HA0 := Lib.hid (HA0.out.on hbb)
  clear hs hb hal hbb HRD HB2 HS2 q
  go_upto_region 3 with (fail)
  obtain ⟨n3, hn3⟩ : ∃ n, n = w3.heap.size := ⟨_, rfl⟩
  rw [← hn3] at r13 r14 ⊢
  clear hn3
  generalize (w3.alloc (.cells #[.slice A3 Q.l.bs.length c3, .int .i64 Q.l.s, .int .i64 Q.l.tag] 26)).alloc (.cells #[.int .i64 Q.c, .int .i64 (Q.d : Int), .int .i64 (Q.u : Int)] 30) = W4 at *
  have q := fun i => cell_of_row _ _ i _ _ _ r5
  go_wp2_with fail
  refine (HR3.out _ HA0.out HB3.out).mono ?_
  rintro e w5 ⟨A5, c5, rfl, hs, hb⟩
  have hal := Kt.balloc (Kt.balloc (Below.refl _ w5) (.cells #[.slice A5 R.l.bs.length c5, .int .i64 R.l.s, .int .i64 R.l.tag] 26)) (.cells #[.int .i64 R.c, .int .i64 (R.d : Int), .int .i64 (R.u : Int)] 30)
  have r15 : ((w5.alloc (.cells #[.slice A5 R.l.bs.length c5, .int .i64 R.l.s, .int .i64 R.l.tag] 26)).alloc (.cells #[.int .i64 R.c, .int .i64 (R.d : Int), .int .i64 (R.u : Int)] 30)).heap[w5.heap.size]? = some (.cells #[.slice A5 R.l.bs.length c5, .int .i64 R.l.s, .int .i64 R.l.tag] 26 (0, 0)) := heap_alloc2_old w5 _ _
  have r16 : ((w5.alloc (.cells #[.slice A5 R.l.bs.length c5, .int .i64 R.l.s, .int .i64 R.l.tag] 26)).alloc (.cells #[.int .i64 R.c, .int .i64 (R.d : Int), .int .i64 (R.u : Int)] 30)).heap[w5.heap.size + 1]? = some (.cells #[.int .i64 R.c, .int .i64 (R.d : Int), .int .i64 (R.u : Int)] 30 (0, 0)) := heap_alloc2_new w5 _ _
  have hbb := Kt.bthen hb (Kt.balloc (Kt.balloc (Below.refl _ w5) (.cells #[.slice A5 R.l.bs.length c5, .int .i64 R.l.s, .int .i64 R.l.tag] 26)) (.cells #[.int .i64 R.c, .int .i64 (R.d : Int), .int .i64 (R.u : Int)] 30))
  replace r13 := Kt.row_on hbb r13
  replace r14 := Kt.row_on hbb r14
  replace HS3 := Lib.hid (DkS.on HS3.out hbb)
  have HS5 := Lib.hid (DkS.on hs hal)
  have HB5 := Lib.hid (Kt.bthen HB3.out hbb)
  clear hs hb hal hbb HR3 HB3 HA0 r5 q
  go_upto_region 4 with (fail)
  obtain ⟨n5, hn5⟩ : ∃ n, n = w5.heap.size := ⟨_, rfl⟩
  rw [← hn5] at r15 r16 ⊢
  clear hn5
  generalize (w5.alloc (.cells #[.slice A5 R.l.bs.length c5, .int .i64 R.l.s, .int .i64 R.l.tag] 26)).alloc (.cells #[.int .i64 R.c, .int .i64 (R.d : Int), .int .i64 (R.u : Int)] 30) = W6 at *
  go_wp2_with fail
  refine (stoLives_calls _).mono ?_
  rintro e w7 ⟨rfl, hb⟩
  replace HS3 := Lib.hid (DkS.on HS3.out hb)
  replace HS5 := Lib.hid (DkS.on HS5.out hb)
  have HB7 := Lib.hid (Kt.bthen HB5.out hb)
  have q13 := fun i => cell_of_row _ _ i _ _ _ (Kt.row_on hb r13)
  have q14 := fun i => cell_of_row _ _ i _ _ _ (Kt.row_on hb r14)
  have q15 := fun i => cell_of_row _ _ i _ _ _ (Kt.row_on hb r15)
  have q16 := fun i => cell_of_row _ _ i _ _ _ (Kt.row_on hb r16)
  clear hb r13 r14 r15 r16 HB5
  obtain ⟨k1, hk1⟩ : ∃ k, k = Q.c := ⟨_, rfl⟩
  obtain ⟨k2, hk2⟩ : ∃ k, k = R.c := ⟨_, rfl⟩
  rw [← hk1] at q14 ⊢
  rw [← hk2] at q16 ⊢
  rw [← hk1, ← hk2] at HPL
  clear hk1 hk2
  by_cases h1 : k1 = 0
  · by_cases h2 : k2 = 0
    · subst h1 h2
      have hbs := HPL.out rfl rfl
      have HEQ := Lib.hid (eqs_true A3 A5 c3 c5 R.l.bs w7 (hbs ▸ HS3.out.toA) HS5.out.toA (by have := HOB.out; omega))
      have hle : Q.l.bs.length = R.l.bs.length := by rw [hbs]
      rw [hle] at q13
      clear hbs hle HPL
      go_wp2_with fail
      refine HEQ.out.mono ?_
      rintro e w8 ⟨rfl, hb⟩
      have HB8 := Lib.hid (Kt.bthen HB7.out hb)
      clear hb
      go_wp2_with fail
      go_ret
      exact ⟨rfl, HB8.out⟩
    · clear HPL q13 q15
      go_wp2_with fail
      refine (stoLives_calls _).mono ?_
      rintro e w8 ⟨rfl, hb⟩
      have HB8 := Lib.hid (Kt.bthen HB7.out hb)
      clear hb
      go_wp2_with fail
      go_ret
      exact ⟨rfl, HB8.out⟩
  · clear HPL q13 q15
    go_wp2_with fail
    refine (stoLives_calls _).mono ?_
    rintro e w8 ⟨rfl, hb⟩
    have HB8 := Lib.hid (Kt.bthen HB7.out hb)
    clear hb
    go_wp2_with fail
    go_ret
    exact ⟨rfl, HB8.out⟩
theorem stwice_walk (v0 v1 v2 v3 v4 : Value) (w : World) (r0 : Fr.RdV w reachBytes lkTy v0) (r1 : Fr.RdV w reachBytes (.int .i64) v1) (r2 : Fr.RdV w reachBytes .string v2) (r3 : Fr.RdV w reachBytes (.slice 1 (.int .i64)) v3) (r4 : Fr.RdV w reachBytes (.slice 1 (.int .i64)) v4)
    (n0 : ∀ (cs : Array Value) a l c, v0 = .agg cs → (((cs.toList.drop 0).take 2).drop 0).take 1 = [.slice a l c] → l * Try.prog.bytesOf 9 ≤ reachBytes) :
    Calls Try.prog 6 #[v0, v1, v2, v3, v4] w fun e w' => e = .returned (.bool true) ∧ Below w.heap.size w w' := by
  obtain ⟨A, c, l, rfl, hA⟩ := lk_of r0
  have hn := lk_len n0
  obtain ⟨x, h, _⟩ := r1
  simp only [List.cons.injEq, and_true] at h
  subst h
  obtain ⟨d, e2, hd⟩ := r2
  cases e2
  obtain ⟨f, _, _, hF⟩ := Kt.ar_ints r3
  obtain ⟨g, _, _, hG⟩ := Kt.ar_ints r4
  obtain ⟨FA, fc, rfl, _, _⟩ := hF.form
  obtain ⟨GA, gc, rfl, _, _⟩ := hG.form
  have hR : reachBytes ≤ 140737488355328 := by unfold reachBytes; omega
  exact stwice_calls l A c x d f g FA GA fc gc w hA hn hF hG (by omega)
end Go.Proofs.Ytafiedhjjnapoaa
