/- The walks of package store: Cycle. -/
import Derived.Test.YtafiedhjjnapoaaStoR
namespace Go.Proofs.Ytafiedhjjnapoaa
open Go.RowKit Go.Shelf Go.Proofs.Ytafiedhjjnapoaa.Scs Go.Proofs.Ytafiedhjjnapoaa.Blk Go.Proofs.Ytafiedhjjnapoaa.Sto
theorem al_row {w : World} {k : Nat} {x : Obj} (h : w.heap[k]? = some x) (o : Obj) : (w.alloc o).heap[k]? = some x := (Below.heap_alloc w o k (Array.getElem?_eq_some_iff.1 h).1).trans h
/-- Cycle's boxes: the link, the wrap, what is told -/
structure YB (w : World) (A : Option Addr) (c : Nat) (l : Ln) (x : Wr) (W : World) : Prop where
  r0 : W.heap[w.heap.size]? = some (.cells #[.slice A l.bs.length c, .int .i64 l.s, .int .i64 l.tag] 26 (0, 0))
  r1 : W.heap[w.heap.size + 1]? = some (.cells #[.int .i64 x.tag, .int .i64 x.len, .bool x.inn, .int .i64 x.unit, .string x.cmd] 75 (0, 0))
  r2 : W.heap[w.heap.size + 1 + 1]? = some (.cells #[.slice none 0 0, .int .i64 0, .int .i64 0] 26 (0, 0))
  r3 : W.heap[w.heap.size + 1 + 1 + 1]? = some (.cells #[.int .i64 0, .int .i64 0, .int .i64 0] 30 (0, 0))
  bel : Below w.heap.size w W
section
variable {w W W' : World} {A : Option Addr} {c : Nat} {l : Ln} {x : Wr}
theorem YB.on (h : YB w A c l x W) (hb : Below W.heap.size W W') : YB w A c l x W' := ⟨Kt.row_on hb h.r0, Kt.row_on hb h.r1, Kt.row_on hb h.r2, Kt.row_on hb h.r3, Kt.bthen h.bel hb⟩
theorem YB.lt (h : YB w A c l x W) : w.heap.size + 3 < W.heap.size := (Array.getElem?_eq_some_iff.1 h.r3).1
theorem YB.upd {kc : Nat} (h : YB w A c l x W) (hu : Upd kc W W') (hk : w.heap.size + 3 < kc) : YB w A c l x W' :=
  ⟨hu.row h.r0 (by omega), hu.row h.r1 (by omega), hu.row h.r2 (by omega), hu.row h.r3 (by omega), hu.to h.bel (by omega)⟩
theorem YB.start (w : World) (A : Option Addr) (c : Nat) (l : Ln) (x : Wr) : YB w A c l x ((((w.alloc (.cells #[.slice A l.bs.length c, .int .i64 l.s, .int .i64 l.tag] 26)).alloc (.cells #[.int .i64 x.tag, .int .i64 x.len, .bool x.inn, .int .i64 x.unit, .string x.cmd] 75)).alloc (.cells #[.slice none 0 0, .int .i64 0, .int .i64 0] 26)).alloc (.cells #[.int .i64 0, .int .i64 0, .int .i64 0] 30)) := by
  refine ⟨al_row (al_row (al_row (heap_alloc_new _ _) _) _) _, al_row (al_row (heap_alloc2_new _ _ _) _) _, al_row ?_ _, ?_, Kt.balloc (Kt.balloc (Kt.balloc (Kt.balloc (Below.refl _ _) _) _) _) _⟩
  · have := heap_alloc_new ((w.alloc (.cells #[.slice A l.bs.length c, .int .i64 l.s, .int .i64 l.tag] 26)).alloc (.cells #[.int .i64 x.tag, .int .i64 x.len, .bool x.inn, .int .i64 x.unit, .string x.cmd] 75)) (.cells #[.slice none 0 0, .int .i64 0, .int .i64 0] 26)
    rwa [sz2] at this
  · have := heap_alloc_new (((w.alloc (.cells #[.slice A l.bs.length c, .int .i64 l.s, .int .i64 l.tag] 26)).alloc (.cells #[.int .i64 x.tag, .int .i64 x.len, .bool x.inn, .int .i64 x.unit, .string x.cmd] 75)).alloc (.cells #[.slice none 0 0, .int .i64 0, .int .i64 0] 26)) (.cells #[.int .i64 0, .int .i64 0, .int .i64 0] 30)
    rwa [World.size_alloc, sz2] at this
/-- the link is stored anew -/
theorem YB.link (h : YB w A c l x W) {A' : Option Addr} {c' : Nat} (l' : Ln) : YB w A' c' l' x (((W.setCell ⟨w.heap.size, 0, none⟩ (.slice A' l'.bs.length c')).setCell ⟨w.heap.size, 1, none⟩ (.int .i64 l'.s)).setCell ⟨w.heap.size, 2, none⟩ (.int .i64 l'.tag)) := by
  have hu := (((Upd.refl w.heap.size W).set 0 (.slice A' l'.bs.length c')).set 1 (.int .i64 l'.s)).set 2 (.int .i64 l'.tag)
  exact ⟨row_put3 h.r0, hu.row h.r1 (by omega), hu.row h.r2 (by omega), hu.row h.r3 (by omega), hu.to h.bel (by omega)⟩
theorem YB.tag (h : YB w A c l x W) (t : Int) : YB w A c ⟨l.bs, l.s, t⟩ x (W.setCell ⟨w.heap.size, 2, none⟩ (.int .i64 t)) := by
  have hu := (Upd.refl w.heap.size W).set 2 (.int .i64 t)
  exact ⟨heap_setCell_same _ _ _ _ _ _ h.r0, hu.row h.r1 (by omega), hu.row h.r2 (by omega), hu.row h.r3 (by omega), hu.to h.bel (by omega)⟩
theorem YB.wtag (h : YB w A c l x W) (t : Int) : YB w A c l ⟨t, x.len, x.inn, x.unit, x.cmd⟩ (W.setCell ⟨w.heap.size + 1, 0, none⟩ (.int .i64 t)) := by
  have hu := (Upd.refl (w.heap.size + 1) W).set 0 (.int .i64 t)
  exact ⟨hu.row h.r0 (by omega), heap_setCell_same _ _ _ _ _ _ h.r1, hu.row h.r2 (by omega), hu.row h.r3 (by omega), hu.to h.bel (by omega)⟩
end
set_option maxRecDepth 100000 in
set_option maxHeartbeats 3200000 in
theorem cycle_write (l : Ln) (A : Option Addr) (c : Nat) (FA : Option Addr) (fc : Nat) (fs : List Int) (a n : Nat) (data : ByteArray) (tg : Int) (w : World) (hA : DkA w A c l.bs) (hF : Kt.Ar w (.slice FA fs.length fc) 1 fs.length (ics fs)) (ho : OkL l) (hf : OkF fs)
    (h1 : 1 ≤ n) (h4 : n ≤ 4) (hl : a + n ≤ l.bs.length) (hd : data.size = n * 16) :
    Calls Try.prog 41 #[lkV A c l, wrV ⟨tg, ((n * 16 : Nat) : Int), false, 0, mk 42 a n⟩, .string data, .slice FA fs.length fc] w fun e w' => ∃ A' c', e = .returned (.tuple #[lkV A' c' (cyc true a n data l fs).l, .string (cyc true a n data l fs).t, .agg #[.int .i64 (cyc true a n data l fs).c, .int .i64 0, .int .i64 ((cyc true a n data l fs).u : Nat)]]) ∧
      DkS w' w.heap.size A' c' (cyc true a n data l fs).l.bs ∧ Below w.heap.size w w' := by
  have h64 := ho.d.n2
  have HS := Lib.hid (YB.start w A c l ⟨tg, ((n * 16 : Nat) : Int), false, 0, mk 42 a n⟩)
  have HCO := Lib.hid (fun W (hW : YB w A c l ⟨tg, ((n * 16 : Nat) : Int), false, 0, mk 42 a n⟩ W) => lcopied_calls l A c W (hA.on hW.bel) (by omega))
  have HCK := Lib.hid (fun A1 c1 W (hW : Below w.heap.size w W) (hs : DkA W A1 c1 l.bs) => lcheck_calls l fs A1 c1 FA fc W hs (by omega) (hF.on hW))
  rw [chkL_ok.2 ⟨ho, hf⟩] at HCK
  have HW := Lib.hid (fun W => writeW_calls ⟨l.tag, ((n * 16 : Nat) : Int), false, 0, mk 42 a n⟩ W)
  rw [show writeW ⟨l.tag, ((n * 16 : Nat) : Int), false, 0, mk 42 a n⟩ = (wrp true a n l.tag, 0) from if_pos (ho.wr h4)] at HW
  have HRU := Lib.hid (fun kc A c FA fc W h => run_write w kc A c FA fc a n data l fs W h ho hf h1 h4 hl hd)
  have hF0 := Lib.hid hF
  obtain ⟨T, hT⟩ : ∃ T, T = wrp true a n l.tag := ⟨_, rfl⟩
  obtain ⟨M, hM⟩ : ∃ M, M = mk 42 a n := ⟨_, rfl⟩
  obtain ⟨Z, hZ⟩ : ∃ Z : Nat, Z = n * 16 := ⟨_, rfl⟩
  obtain ⟨R, hR⟩ : ∃ R, R = cyc true a n data l fs := ⟨_, rfl⟩
  rw [← hZ, ← hM] at HS HCO HW
  rw [← hZ, ← hM, ← hT, ← hR] at HRU
  rw [← hT] at HW
  rw [← hZ] at hd
  rw [← hZ, ← hM, ← hR]
  have t0 := ho.t0
  have t1 := ho.t1
  have hn0 : 1 ≤ Z := by omega
  have hz64 : Z ≤ 64 := by omega
  clear hA hF ho hf hT hM hZ hR h1 h4 hl
  unfold lkV wrV at *
  dsimp only at *
  go_enter Try.func41, Try.ntmps41
  go_wp2_with fail
  refine (HCO.out _ HS.out).mono ?_
  rintro e w1 ⟨A1, c1, rfl, hs, hb⟩
  have HS1 := Lib.hid (HS.out.on hb)
  have HB1 := Lib.hid (Kt.Sl.mono (B' := w.heap.size + 4) hs (by have := HS.out.lt; omega))
  clear hs hb HS HCO
  have q0 := fun i => cell_of_row _ _ i _ _ _ HS1.out.r0
  have f0 := fun i => frozen_of_row _ _ i _ _ HS1.out.r0
  go_upto_region 2 with (fail)
  refine Kt.fold (fun W => YB w A1 c1 l ⟨tg, (Z : Int), false, 0, M⟩ W ∧ DkS W (w.heap.size + 4) A1 c1 l.bs) ⟨HS1.out.link l, ((HB1.out.low (p := ⟨w.heap.size, 0, none⟩) (by show w.heap.size < w.heap.size + 4; omega) _).low (p := ⟨w.heap.size, 1, none⟩) (by show w.heap.size < w.heap.size + 4; omega) _).low (p := ⟨w.heap.size, 2, none⟩) (by show w.heap.size < w.heap.size + 4; omega) _⟩ ?_
  rintro W2 ⟨hy, hs⟩
  have HY := Lib.hid hy
  have HS := Lib.hid hs
  clear q0 f0 HS1 HB1
  have q0 := fun i => cell_of_row _ _ i _ _ _ hy.r0
  clear hy hs
  go_wp2_with fail
  refine (HCK.out _ _ _ HY.out.bel HS.out.toA).mono ?_
  rintro e w2 ⟨rfl, hb⟩
  replace HY := Lib.hid (HY.out.on hb)
  replace HS := Lib.hid (HS.out.on hb)
  clear hb q0 HCK
  have q0 := fun i => cell_of_row _ _ i _ _ _ HY.out.r0
  have q1 := fun i => cell_of_row _ _ i _ _ _ HY.out.r1
  have f1 := fun i => frozen_of_row _ _ i _ _ HY.out.r1
  go_upto_region 6 with (fail)
  refine Kt.fold (fun W => YB w A1 c1 l ⟨l.tag, (Z : Int), false, 0, M⟩ W ∧ DkS W (w.heap.size + 4) A1 c1 l.bs) ⟨HY.out.wtag l.tag, Kt.Sl.low HS.out (p := ⟨w.heap.size + 1, 0, none⟩) (by show w.heap.size + 1 < w.heap.size + 4; omega) _⟩ ?_
  rintro W3 ⟨hy, hs⟩
  clear q0 q1 f1 HY HS
  have HY := Lib.hid hy
  have HS := Lib.hid hs
  have q1 := fun i => cell_of_row _ _ i _ _ _ hy.r1
  clear hy hs
  go_wp2_with fail
  refine (HW.out _).mono ?_
  rintro e w3 ⟨rfl, hb⟩
  replace HY := Lib.hid (HY.out.on hb)
  replace HS := Lib.hid (HS.out.on hb)
  clear hb q1 HW
  have q0 := fun i => cell_of_row _ _ i _ _ _ HY.out.r0
  have f0 := fun i => frozen_of_row _ _ i _ _ HY.out.r0
  have q1 := fun i => cell_of_row _ _ i _ _ _ HY.out.r1
  have hemp := not_empty data (by omega)
  have hz : (data.size : Int) = (Z : Int) := by omega
  have hbig : ¬ (4096 : Int) < (data.size : Int) := by omega
  go_upto_region 15 with (fail)
  refine Kt.fold (fun W => YB w A1 c1 l.next ⟨l.tag, (Z : Int), false, 0, M⟩ W ∧ DkS W (w.heap.size + 4) A1 c1 l.bs) ⟨HY.out.tag ((l.tag + 1) % 4294967296), Kt.Sl.low HS.out (p := ⟨w.heap.size, 2, none⟩) (by show w.heap.size < w.heap.size + 4; omega) _⟩ ?_
  rintro W4 ⟨hy, hs⟩
  clear q0 f0 q1 HY HS hemp hz hbig
  obtain ⟨lt, hlt⟩ : ∃ x : Int, x = l.next.tag := ⟨_, rfl⟩
  have hrow : W4.heap[w.heap.size]? = some (.cells #[.slice A1 l.bs.length c1, .int .i64 l.s, .int .i64 lt] 26 (0, 0)) := by rw [hlt]; exact hy.r0
  have HLT := Lib.hid hlt
  have HY := Lib.hid (hy.on (Kt.balloc (Below.refl _ W4) (.cells #[.slice A1 l.bs.length c1, .int .i64 l.s, .int .i64 lt, .slice FA fs.length fc, .int .i64 0] 96)))
  have hkc := hy.lt
  have HCB : Hid (CB w W4.heap.size A1 c1 FA fc l.next fs 0 (0 : Nat) (W4.alloc (.cells #[.slice A1 l.bs.length c1, .int .i64 l.s, .int .i64 lt, .slice FA fs.length fc, .int .i64 0] 96))) := Lib.hid
    ⟨by rw [hlt]; exact heap_alloc_new W4 _, Kt.Sl.alloc hs _, fun k hk => by have := (hs.lt k hk).2; omega, by simpa using hF0.out, Kt.balloc hy.bel _, by omega, Nat.zero_le _⟩
  have q0 := fun i => cell_of_row _ _ i _ _ _ hrow
  clear hy hs hrow hlt
  obtain ⟨kc, hkce⟩ : ∃ k, k = W4.heap.size := ⟨_, rfl⟩
  go_upto_region 16 with (fail)
  rw [← hkce] at HCB hkc ⊢
  clear hkce q0
  generalize W4.alloc (.cells #[.slice A1 l.bs.length c1, .int .i64 l.s, .int .i64 lt, .slice FA fs.length fc, .int .i64 0] 96) = W5 at *
  have q1 := fun i => cell_of_row _ _ i _ _ _ HY.out.r1
  go_wp2_with fail
  refine (HRU.out _ _ _ _ _ _ HCB.out).mono ?_
  rintro e w5 ⟨rfl, ⟨A2, c2, FA2, fc2, hcb⟩, hu⟩
  have HC2 := Lib.hid hcb
  replace HY := Lib.hid (HY.out.upd hu hkc)
  clear q1 hcb hu HRU HCB
  have qc := fun i => cell_of_row _ _ i _ _ _ HC2.out.row
  have q2 := fun i => cell_of_row _ _ i _ _ _ HY.out.r2
  have f2 := fun i => frozen_of_row _ _ i _ _ HY.out.r2
  have q3 := fun i => cell_of_row _ _ i _ _ _ HY.out.r3
  have f3 := fun i => frozen_of_row _ _ i _ _ HY.out.r3
  go_upto_region 17 with (fail)
  go_region
  have hn := HC2.out.blk
  have hB : Below w.heap.size w _ := HY.out.bel
  have r2 := HY.out.r2
  have r3 := HY.out.r3
  have hu := (((((((Upd.refl (w.heap.size + 1 + 1) w5).set 0 (.slice A2 R.l.bs.length c2)).set 1 (.int .i64 R.l.s)).set 2 (.int .i64 R.l.tag)))))
  have hw2 := row_put3 (x' := .slice A2 R.l.bs.length c2) (y' := .int .i64 R.l.s) (z' := .int .i64 R.l.tag) r2
  have r3' := hu.row r3 (by omega)
  have hs1 : DkS _ (w.heap.size + 4) A2 c2 R.l.bs := Kt.Sl.low (Kt.Sl.low (Kt.Sl.low hn (p := ⟨w.heap.size + 1 + 1, 0, none⟩) (by show w.heap.size + 1 + 1 < w.heap.size + 4; omega) (.slice A2 R.l.bs.length c2)) (p := ⟨w.heap.size + 1 + 1, 1, none⟩) (by show w.heap.size + 1 + 1 < w.heap.size + 4; omega) (.int .i64 R.l.s)) (p := ⟨w.heap.size + 1 + 1, 2, none⟩) (by show w.heap.size + 1 + 1 < w.heap.size + 4; omega) (.int .i64 R.l.tag)
  have hb1 := hu.to hB (by omega)
  generalize (((w5.setCell ⟨w.heap.size + 1 + 1, 0, none⟩ (.slice A2 R.l.bs.length c2)).setCell ⟨w.heap.size + 1 + 1, 1, none⟩ (.int .i64 R.l.s)).setCell ⟨w.heap.size + 1 + 1, 2, none⟩ (.int .i64 R.l.tag)) = W6 at *
  have hu2 := (((((((Upd.refl (w.heap.size + 1 + 1 + 1) W6).set 0 (.int .i64 R.c)).set 1 (.int .i64 0)).set 2 (.int .i64 (R.u : Int))))))
  have hw3 := row_put3 (x' := .int .i64 R.c) (y' := .int .i64 0) (z' := .int .i64 (R.u : Int)) r3'
  have hw2' := hu2.row hw2 (by omega)
  have hs2 : DkS _ (w.heap.size + 4) A2 c2 R.l.bs := Kt.Sl.low (Kt.Sl.low (Kt.Sl.low hs1 (p := ⟨w.heap.size + 1 + 1 + 1, 0, none⟩) (by show w.heap.size + 1 + 1 + 1 < w.heap.size + 4; omega) (.int .i64 R.c)) (p := ⟨w.heap.size + 1 + 1 + 1, 1, none⟩) (by show w.heap.size + 1 + 1 + 1 < w.heap.size + 4; omega) (.int .i64 0)) (p := ⟨w.heap.size + 1 + 1 + 1, 2, none⟩) (by show w.heap.size + 1 + 1 + 1 < w.heap.size + 4; omega) (.int .i64 (R.u : Int))
  have hb2 := hu2.to hb1 (by omega)
  generalize (((W6.setCell ⟨w.heap.size + 1 + 1 + 1, 0, none⟩ (.int .i64 R.c)).setCell ⟨w.heap.size + 1 + 1 + 1, 1, none⟩ (.int .i64 0)).setCell ⟨w.heap.size + 1 + 1 + 1, 2, none⟩ (.int .i64 (R.u : Int))) = W7 at *
  have d2 : W7.drew.heap[w.heap.size + 1 + 1]? = _ := hw2'
  have d3 : W7.drew.heap[w.heap.size + 1 + 1 + 1]? = _ := hw3
  have HB7 := Lib.hid hb2.drew
  have HS7 := Lib.hid (Kt.Sl.drew hs2)
  clear qc q2 f2 q3 f3 hn hB r2 r3 hu hw2 r3' hs1 hb1 hu2 hw3 hw2' hs2 hb2
  go_wp2_with fail
  refine bodyPost_ret (v := .tuple #[.agg #[.slice A2 R.l.bs.length c2, .int .i64 R.l.s, .int .i64 R.l.tag], .string R.t, .agg #[.int .i64 R.c, .int .i64 0, .int .i64 (R.u : Int)]]) (by simp [results, Try.results41, asAddr, ld_lk d2, ld_oc d3]) rfl ?_
  exact ⟨A2, c2, rfl, Kt.Sl.mono HS7.out (by omega), HB7.out⟩
set_option maxRecDepth 100000 in
set_option maxHeartbeats 3200000 in
theorem cycle_read (l : Ln) (A : Option Addr) (c : Nat) (FA : Option Addr) (fc : Nat) (fs : List Int) (a n : Nat) (tg : Int) (w : World) (hA : DkA w A c l.bs) (hF : Kt.Ar w (.slice FA fs.length fc) 1 fs.length (ics fs)) (ho : OkL l) (hf : OkF fs)
    (h1 : 1 ≤ n) (h4 : n ≤ 4) (hl : a + n ≤ l.bs.length) :
    Calls Try.prog 41 #[lkV A c l, wrV ⟨tg, ((n * 16 : Nat) : Int), true, 0, mk 40 a n⟩, .string ⟨#[]⟩, .slice FA fs.length fc] w fun e w' => ∃ A' c', e = .returned (.tuple #[lkV A' c' (cyc false a n ⟨#[]⟩ l fs).l, .string (cyc false a n ⟨#[]⟩ l fs).t, .agg #[.int .i64 (cyc false a n ⟨#[]⟩ l fs).c, .int .i64 0, .int .i64 ((cyc false a n ⟨#[]⟩ l fs).u : Nat)]]) ∧
      DkS w' w.heap.size A' c' (cyc false a n ⟨#[]⟩ l fs).l.bs ∧ Below w.heap.size w w' := by
  have h64 := ho.d.n2
  have HS := Lib.hid (YB.start w A c l ⟨tg, ((n * 16 : Nat) : Int), true, 0, mk 40 a n⟩)
  have HCO := Lib.hid (fun W (hW : YB w A c l ⟨tg, ((n * 16 : Nat) : Int), true, 0, mk 40 a n⟩ W) => lcopied_calls l A c W (hA.on hW.bel) (by omega))
  have HCK := Lib.hid (fun A1 c1 W (hW : Below w.heap.size w W) (hs : DkA W A1 c1 l.bs) => lcheck_calls l fs A1 c1 FA fc W hs (by omega) (hF.on hW))
  rw [chkL_ok.2 ⟨ho, hf⟩] at HCK
  have HW := Lib.hid (fun W => writeW_calls ⟨l.tag, ((n * 16 : Nat) : Int), true, 0, mk 40 a n⟩ W)
  rw [show writeW ⟨l.tag, ((n * 16 : Nat) : Int), true, 0, mk 40 a n⟩ = (wrp false a n l.tag, 0) from if_pos (ho.wr h4)] at HW
  have HRU := Lib.hid (fun kc A c FA fc W h => run_read w kc A c FA fc a n l fs W h ho hf h1 h4 hl)
  have hF0 := Lib.hid hF
  obtain ⟨T, hT⟩ : ∃ T, T = wrp false a n l.tag := ⟨_, rfl⟩
  obtain ⟨M, hM⟩ : ∃ M, M = mk 40 a n := ⟨_, rfl⟩
  obtain ⟨Z, hZ⟩ : ∃ Z : Nat, Z = n * 16 := ⟨_, rfl⟩
  obtain ⟨R, hR⟩ : ∃ R, R = cyc false a n ⟨#[]⟩ l fs := ⟨_, rfl⟩
  rw [← hZ, ← hM] at HS HCO HW
  rw [← hZ, ← hM, ← hT, ← hR] at HRU
  rw [← hT] at HW
  rw [← hZ, ← hM, ← hR]
  have t0 := ho.t0
  have t1 := ho.t1
  have hn0 : 1 ≤ Z := by omega
  have hz64 : Z ≤ 64 := by omega
  clear hA hF ho hf hT hM hZ hR h1 h4 hl
  unfold lkV wrV at *
  dsimp only at *
  go_enter Try.func41, Try.ntmps41
  go_wp2_with fail
  refine (HCO.out _ HS.out).mono ?_
  rintro e w1 ⟨A1, c1, rfl, hs, hb⟩
  have HS1 := Lib.hid (HS.out.on hb)
  have HB1 := Lib.hid (Kt.Sl.mono (B' := w.heap.size + 4) hs (by have := HS.out.lt; omega))
  clear hs hb HS HCO
  have q0 := fun i => cell_of_row _ _ i _ _ _ HS1.out.r0
  have f0 := fun i => frozen_of_row _ _ i _ _ HS1.out.r0
  go_upto_region 2 with (fail)
  refine Kt.fold (fun W => YB w A1 c1 l ⟨tg, (Z : Int), true, 0, M⟩ W ∧ DkS W (w.heap.size + 4) A1 c1 l.bs) ⟨HS1.out.link l, ((HB1.out.low (p := ⟨w.heap.size, 0, none⟩) (by show w.heap.size < w.heap.size + 4; omega) _).low (p := ⟨w.heap.size, 1, none⟩) (by show w.heap.size < w.heap.size + 4; omega) _).low (p := ⟨w.heap.size, 2, none⟩) (by show w.heap.size < w.heap.size + 4; omega) _⟩ ?_
  rintro W2 ⟨hy, hs⟩
  have HY := Lib.hid hy
  have HS := Lib.hid hs
  clear q0 f0 HS1 HB1
  have q0 := fun i => cell_of_row _ _ i _ _ _ hy.r0
  clear hy hs
  go_wp2_with fail
  refine (HCK.out _ _ _ HY.out.bel HS.out.toA).mono ?_
  rintro e w2 ⟨rfl, hb⟩
  replace HY := Lib.hid (HY.out.on hb)
  replace HS := Lib.hid (HS.out.on hb)
  clear hb q0 HCK
  have q0 := fun i => cell_of_row _ _ i _ _ _ HY.out.r0
  have q1 := fun i => cell_of_row _ _ i _ _ _ HY.out.r1
  have f1 := fun i => frozen_of_row _ _ i _ _ HY.out.r1
  go_upto_region 6 with (fail)
  refine Kt.fold (fun W => YB w A1 c1 l ⟨l.tag, (Z : Int), true, 0, M⟩ W ∧ DkS W (w.heap.size + 4) A1 c1 l.bs) ⟨HY.out.wtag l.tag, Kt.Sl.low HS.out (p := ⟨w.heap.size + 1, 0, none⟩) (by show w.heap.size + 1 < w.heap.size + 4; omega) _⟩ ?_
  rintro W3 ⟨hy, hs⟩
  clear q0 q1 f1 HY HS
  have HY := Lib.hid hy
  have HS := Lib.hid hs
  have q1 := fun i => cell_of_row _ _ i _ _ _ hy.r1
  clear hy hs
  go_wp2_with fail
  refine (HW.out _).mono ?_
  rintro e w3 ⟨rfl, hb⟩
  replace HY := Lib.hid (HY.out.on hb)
  replace HS := Lib.hid (HS.out.on hb)
  clear hb q1 HW
  have q0 := fun i => cell_of_row _ _ i _ _ _ HY.out.r0
  have f0 := fun i => frozen_of_row _ _ i _ _ HY.out.r0
  have q1 := fun i => cell_of_row _ _ i _ _ _ HY.out.r1
  go_upto_region 15 with (fail)
  refine Kt.fold (fun W => YB w A1 c1 l.next ⟨l.tag, (Z : Int), true, 0, M⟩ W ∧ DkS W (w.heap.size + 4) A1 c1 l.bs) ⟨HY.out.tag ((l.tag + 1) % 4294967296), Kt.Sl.low HS.out (p := ⟨w.heap.size, 2, none⟩) (by show w.heap.size < w.heap.size + 4; omega) _⟩ ?_
  rintro W4 ⟨hy, hs⟩
  clear q0 f0 q1 HY HS
  obtain ⟨lt, hlt⟩ : ∃ x : Int, x = l.next.tag := ⟨_, rfl⟩
  have hrow : W4.heap[w.heap.size]? = some (.cells #[.slice A1 l.bs.length c1, .int .i64 l.s, .int .i64 lt] 26 (0, 0)) := by rw [hlt]; exact hy.r0
  have HLT := Lib.hid hlt
  have HY := Lib.hid (hy.on (Kt.balloc (Below.refl _ W4) (.cells #[.slice A1 l.bs.length c1, .int .i64 l.s, .int .i64 lt, .slice FA fs.length fc, .int .i64 0] 96)))
  have hkc := hy.lt
  have HCB : Hid (CB w W4.heap.size A1 c1 FA fc l.next fs 0 (0 : Nat) (W4.alloc (.cells #[.slice A1 l.bs.length c1, .int .i64 l.s, .int .i64 lt, .slice FA fs.length fc, .int .i64 0] 96))) := Lib.hid
    ⟨by rw [hlt]; exact heap_alloc_new W4 _, Kt.Sl.alloc hs _, fun k hk => by have := (hs.lt k hk).2; omega, by simpa using hF0.out, Kt.balloc hy.bel _, by omega, Nat.zero_le _⟩
  have q0 := fun i => cell_of_row _ _ i _ _ _ hrow
  clear hy hs hrow hlt
  obtain ⟨kc, hkce⟩ : ∃ k, k = W4.heap.size := ⟨_, rfl⟩
  go_upto_region 16 with (fail)
  rw [← hkce] at HCB hkc ⊢
  clear hkce q0
  generalize W4.alloc (.cells #[.slice A1 l.bs.length c1, .int .i64 l.s, .int .i64 lt, .slice FA fs.length fc, .int .i64 0] 96) = W5 at *
  have q1 := fun i => cell_of_row _ _ i _ _ _ HY.out.r1
  go_wp2_with fail
  refine (HRU.out _ _ _ _ _ _ HCB.out).mono ?_
  rintro e w5 ⟨rfl, ⟨A2, c2, FA2, fc2, hcb⟩, hu⟩
  have HC2 := Lib.hid hcb
  replace HY := Lib.hid (HY.out.upd hu hkc)
  clear q1 hcb hu HRU HCB
  have qc := fun i => cell_of_row _ _ i _ _ _ HC2.out.row
  have q2 := fun i => cell_of_row _ _ i _ _ _ HY.out.r2
  have f2 := fun i => frozen_of_row _ _ i _ _ HY.out.r2
  have q3 := fun i => cell_of_row _ _ i _ _ _ HY.out.r3
  have f3 := fun i => frozen_of_row _ _ i _ _ HY.out.r3
  go_upto_region 17 with (fail)
  go_region
  have hn := HC2.out.blk
  have hB : Below w.heap.size w _ := HY.out.bel
  have r2 := HY.out.r2
  have r3 := HY.out.r3
  have hu := (((((((Upd.refl (w.heap.size + 1 + 1) w5).set 0 (.slice A2 R.l.bs.length c2)).set 1 (.int .i64 R.l.s)).set 2 (.int .i64 R.l.tag)))))
  have hw2 := row_put3 (x' := .slice A2 R.l.bs.length c2) (y' := .int .i64 R.l.s) (z' := .int .i64 R.l.tag) r2
  have r3' := hu.row r3 (by omega)
  have hs1 : DkS _ (w.heap.size + 4) A2 c2 R.l.bs := Kt.Sl.low (Kt.Sl.low (Kt.Sl.low hn (p := ⟨w.heap.size + 1 + 1, 0, none⟩) (by show w.heap.size + 1 + 1 < w.heap.size + 4; omega) (.slice A2 R.l.bs.length c2)) (p := ⟨w.heap.size + 1 + 1, 1, none⟩) (by show w.heap.size + 1 + 1 < w.heap.size + 4; omega) (.int .i64 R.l.s)) (p := ⟨w.heap.size + 1 + 1, 2, none⟩) (by show w.heap.size + 1 + 1 < w.heap.size + 4; omega) (.int .i64 R.l.tag)
  have hb1 := hu.to hB (by omega)
  generalize (((w5.setCell ⟨w.heap.size + 1 + 1, 0, none⟩ (.slice A2 R.l.bs.length c2)).setCell ⟨w.heap.size + 1 + 1, 1, none⟩ (.int .i64 R.l.s)).setCell ⟨w.heap.size + 1 + 1, 2, none⟩ (.int .i64 R.l.tag)) = W6 at *
  have hu2 := (((((((Upd.refl (w.heap.size + 1 + 1 + 1) W6).set 0 (.int .i64 R.c)).set 1 (.int .i64 0)).set 2 (.int .i64 (R.u : Int))))))
  have hw3 := row_put3 (x' := .int .i64 R.c) (y' := .int .i64 0) (z' := .int .i64 (R.u : Int)) r3'
  have hw2' := hu2.row hw2 (by omega)
  have hs2 : DkS _ (w.heap.size + 4) A2 c2 R.l.bs := Kt.Sl.low (Kt.Sl.low (Kt.Sl.low hs1 (p := ⟨w.heap.size + 1 + 1 + 1, 0, none⟩) (by show w.heap.size + 1 + 1 + 1 < w.heap.size + 4; omega) (.int .i64 R.c)) (p := ⟨w.heap.size + 1 + 1 + 1, 1, none⟩) (by show w.heap.size + 1 + 1 + 1 < w.heap.size + 4; omega) (.int .i64 0)) (p := ⟨w.heap.size + 1 + 1 + 1, 2, none⟩) (by show w.heap.size + 1 + 1 + 1 < w.heap.size + 4; omega) (.int .i64 (R.u : Int))
  have hb2 := hu2.to hb1 (by omega)
  generalize (((W6.setCell ⟨w.heap.size + 1 + 1 + 1, 0, none⟩ (.int .i64 R.c)).setCell ⟨w.heap.size + 1 + 1 + 1, 1, none⟩ (.int .i64 0)).setCell ⟨w.heap.size + 1 + 1 + 1, 2, none⟩ (.int .i64 (R.u : Int))) = W7 at *
  have d2 : W7.drew.heap[w.heap.size + 1 + 1]? = _ := hw2'
  have d3 : W7.drew.heap[w.heap.size + 1 + 1 + 1]? = _ := hw3
  have HB7 := Lib.hid hb2.drew
  have HS7 := Lib.hid (Kt.Sl.drew hs2)
  clear qc q2 f2 q3 f3 hn hB r2 r3 hu hw2 r3' hs1 hb1 hu2 hw3 hw2' hs2 hb2
  go_wp2_with fail
  refine bodyPost_ret (v := .tuple #[.agg #[.slice A2 R.l.bs.length c2, .int .i64 R.l.s, .int .i64 R.l.tag], .string R.t, .agg #[.int .i64 R.c, .int .i64 0, .int .i64 (R.u : Int)]]) (by simp [results, Try.results41, asAddr, ld_lk d2, ld_oc d3]) rfl ?_
  exact ⟨A2, c2, rfl, Kt.Sl.mono HS7.out (by omega), HB7.out⟩
end Go.Proofs.Ytafiedhjjnapoaa
