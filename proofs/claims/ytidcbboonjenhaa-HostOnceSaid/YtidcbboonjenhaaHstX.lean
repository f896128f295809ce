/- plugkeep's taken, walked; a machine in its box. -/
import Derived.Test.YtidcbboonjenhaaHstW
namespace Go.Proofs.Ytidcbboonjenhaa
open Go.RowKit Classical Go.Proofs.Ytidcbboonjenhaa.Slt
def cmd4 (d : Dd) : List Value := [.int .i64 d.k, .int .i64 d.s, .int .i64 d.e, .int .i64 d.a]
def cmv (l : List Dd) : List Value := l.flatMap cmd4
theorem cmv_len (l : List Dd) : (cmv l).length = l.length * 4 := by
  induction l with
  | nil => rfl
  | cons c l ih => simp only [cmv, List.flatMap_cons, List.length_append] at ih ⊢; rw [ih]; simp [cmd4]; omega
theorem cmv_get (l : List Dd) : ∀ (i j : Nat), j < 4 → (cmv l)[i * 4 + j]? = (l[i]?).bind fun c => (cmd4 c)[j]? := by
  induction l with
  | nil => intro i j _; simp [cmv]
  | cons c l ih =>
    intro i j hj
    have e : cmv (c :: l) = cmd4 c ++ cmv l := rfl
    rw [e, List.getElem?_append]
    have hl : (cmd4 c).length = 4 := rfl
    cases i with
    | zero => rw [if_pos (by omega)]; simp
    | succ i => rw [if_neg (by omega), hl, show (i + 1) * 4 + j - 4 = i * 4 + j by omega, ih i j hj]; simp
theorem cmv_snoc (l : List Dd) (v : Dd) : cmv (l ++ [v]) = cmv l ++ cmd4 v := by simp [cmv]
theorem infoCmd : (Try.prog.info? 23).map (fun i => (i.zero, i.size, i.bytes)) = some (some (.agg #[.int .i64 0, .int .i64 0, .int .i64 0, .int .i64 0]), 4, 32) := by kernel_rfl
theorem zip_snoc {d : Dd} : ∀ (A : List Dd) (er : List Int) (h : A.length < er.length), (A ++ [d]).zip er = A.zip er ++ [(d, er[A.length])]
  | [], [], h => absurd h (by simp)
  | [], e :: er, _ => by simp
  | a :: A, [], h => absurd h (by simp)
  | a :: A, e :: er, h => by
    have := zip_snoc (d := d) A er (by simpa using h)
    simp only [List.cons_append, List.zip_cons_cons, this, List.length_cons, List.getElem_cons_succ]
theorem tk_at {A : List Dd} {d : Dd} {er : List Int} (h : d.kd = 1) (hj : (subs A).length < er.length) : tk (A ++ [d]) er = tk A er ++ (if er[(subs A).length] = 0 then [d] else []) := by
  unfold tk
  rw [subs_one h, zip_snoc _ _ hj, List.filterMap_append]
  congr 1
  by_cases he : er[(subs A).length] = 0
  · simp [okd, he]
  · simp [okd, he]
theorem tk_no' {A : List Dd} {d : Dd} {er : List Int} (h : d.kd ≠ 1) : tk (A ++ [d]) er = tk A er := by
  unfold tk; rw [subs_no h]
theorem subs_le {ds : List Dd} (k : Nat) : (subs (ds.take k)).length ≤ (subs ds).length := by
  conv => rhs; rw [← List.take_append_drop k ds]
  unfold subs
  rw [List.filter_append, List.length_append]
  omega
theorem subs_len (ds : List Dd) : (subs ds).length ≤ ds.length := List.length_filter_le _ _
theorem tk_len (ds : List Dd) (er : List Int) : (tk ds er).length ≤ ds.length := by
  unfold tk
  refine Nat.le_trans (List.length_filterMap_le _ _) ?_
  rw [List.length_zip]
  have := subs_len ds
  omega
set_option maxRecDepth 100000 in
set_option maxHeartbeats 3200000 in
theorem taken_calls (U V : Value) (ds : List Dd) (er : List Int) (w : World) (hU : Kt.Ar w U 8 ds.length (dvs ds)) (hV : Kt.Ar w V 1 er.length (ers er)) (hn : er.length = (subs ds).length) (h200 : ds.length ≤ 200) :
    Calls Try.prog 12 #[U, V] w fun e w' => ∃ A c, e = .returned (.tuple #[.slice A (tk ds er).length c, .bool true]) ∧ Kt.Ar w' (.slice A (tk ds er).length c) 4 (tk ds er).length (cmv (tk ds er)) ∧ Below w.heap.size w w' := by
  obtain ⟨A, c, rfl, _, hcells⟩ := hU.form
  obtain ⟨B, c2, rfl, _, hcells2⟩ := hV.form
  have HC1 := Lib.hid hcells
  have HC2 := Lib.hid hcells2
  have her := subs_len ds
  rw [← hn] at her
  have HN := Lib.hid hn
  clear hn hU hV hcells hcells2
  go_enter Try.func12, Try.ntmps12
  go_upto_region 4 with (fail)
  go_loopw [6, 7, 12] (fun o kk i wr => ∃ (k : Nat), k ≤ ds.length ∧ i = .int .i64 (k : Int) ∧ kk = .int .i64 ((subs (ds.take k)).length : Int) ∧ Kt.Sl wr w.heap.size 23 4 o (tk (ds.take k) er).length (cmv (tk (ds.take k) er)) ∧ Below w.heap.size w wr) (fun _ _ i _ => ds.length - (intOf i).toNat)
  case atStart => exact ⟨0, Nat.zero_le _, rfl, rfl, Kt.Sl.nil _ _ _ _, Below.refl _ _⟩
  case round =>
    obtain ⟨k, hk, rfl, rfl, hs, hb⟩ := hrel
    obtain ⟨A1, c1, rfl, _, _⟩ := hs.form
    by_cases hlt : k < ds.length
    · have HTK := Lib.hid (List.take_succ_eq_append_getElem hlt)
      obtain ⟨d, hd⟩ : ∃ d, ds[k] = d := ⟨_, rfl⟩
      have hki : (k : Int) < (ds.length : Int) := by omega
      rw [hd] at HTK
      obtain ⟨g, o, rfl, hg, hcell⟩ := HC1.out (by omega)
      have q : ∀ j (hj : j < 8), wr.cell? ⟨g, o + (k * 8 + j), none⟩ = d.cs[j]? := fun j hj => by
        rw [hb.cell (p := ⟨g, o + (k * 8 + j), none⟩) hg, hcell (k * 8 + j) (by rw [dvs_len]; omega), ← List.getElem?_eq_getElem, dvs_get _ _ _ hj, List.getElem?_eq_getElem hlt, hd]; rfl
      have g0 : wr.cell? ⟨g, o + k * 8, none⟩ = some (.int .i64 d.kd) := q 0 (by omega)
      have g1 : wr.cell? ⟨g, o + k * 8 + 1, none⟩ = some (.int .i64 d.k) := q 1 (by omega)
      have g2 : wr.cell? ⟨g, o + k * 8 + 2, none⟩ = some (.int .i64 d.s) := q 2 (by omega)
      have g3 : wr.cell? ⟨g, o + k * 8 + 3, none⟩ = some (.int .i64 d.e) := q 3 (by omega)
      have g4 : wr.cell? ⟨g, o + k * 8 + 4, none⟩ = some (.int .i64 d.a) := q 4 (by omega)
      have g5 : wr.cell? ⟨g, o + k * 8 + 5, none⟩ = some (.int .i64 d.n) := q 5 (by omega)
      have g6 : wr.cell? ⟨g, o + k * 8 + 6, none⟩ = some (.int .i64 d.sl) := q 6 (by omega)
      have g7 : wr.cell? ⟨g, o + k * 8 + 7, none⟩ = some (.int .i64 d.en) := q 7 (by omega)
      clear hd hcell q
      go_upto_region 6 with (fail)
      have HS5 := Lib.hid (hs.alloc (.cells #[.int .i64 d.kd, .int .i64 d.k, .int .i64 d.s, .int .i64 d.e, .int .i64 d.a, .int .i64 d.n, .int .i64 d.sl, .int .i64 d.en] 66))
      have HB5 := Lib.hid (Kt.balloc hb (.cells #[.int .i64 d.kd, .int .i64 d.k, .int .i64 d.s, .int .i64 d.e, .int .i64 d.a, .int .i64 d.n, .int .i64 d.sl, .int .i64 d.en] 66))
      have hD : (wr.alloc (.cells #[.int .i64 d.kd, .int .i64 d.k, .int .i64 d.s, .int .i64 d.e, .int .i64 d.a, .int .i64 d.n, .int .i64 d.sl, .int .i64 d.en] 66)).heap[wr.heap.size]? = some (.cells #[.int .i64 d.kd, .int .i64 d.k, .int .i64 d.s, .int .i64 d.e, .int .i64 d.a, .int .i64 d.n, .int .i64 d.sl, .int .i64 d.en] 66 (0, 0)) := heap_alloc_new wr _
      obtain ⟨gd, hgd⟩ : ∃ gd, gd = wr.heap.size := ⟨_, rfl⟩
      rw [← hgd] at hD ⊢
      clear g0 g1 g2 g3 g4 g5 g6 g7 hgd hs hb
      generalize wr.alloc (.cells #[.int .i64 d.kd, .int .i64 d.k, .int .i64 d.s, .int .i64 d.e, .int .i64 d.a, .int .i64 d.n, .int .i64 d.sl, .int .i64 d.en] 66) = W5 at *
      have hD5 := fun i => cell_of_row _ _ i _ _ _ hD
      by_cases k1 : d.kd = 1
      · obtain ⟨J, hJ⟩ : ∃ J, J = (subs (ds.take k)).length := ⟨_, rfl⟩
        have hj1 : (subs (ds.take (k + 1))).length = J + 1 := by rw [HTK.out, subs_one k1, List.length_append, hJ]; rfl
        have hjl : J < er.length := by have := subs_le (ds := ds) (k + 1); have := HN.out; omega
        have htk : tk (ds.take (k + 1)) er = tk (ds.take k) er ++ (if er[J] = 0 then [d] else []) := by
          rw [HTK.out, tk_at k1 (by omega)]
          simp only [hJ]
        obtain ⟨gB, oB, rfl, hgB, hcB⟩ := HC2.out (by omega)
        have e0 : W5.cell? ⟨gB, oB + J, none⟩ = some (.int .i64 er[J]) := by
          rw [HB5.out.cell (p := ⟨gB, oB + J, none⟩) hgB, hcB J (by simpa [ers] using hjl)]; simp [ers]
        rw [← hJ]
        have hji : (J : Int) < (er.length : Int) := by omega
        have hji2 : ¬ (er.length : Int) ≤ (J : Int) := by omega
        have hji3 : ¬ er.length ≤ J := by omega
        have hji4 : decide ((er.length : Int) ≤ (J : Int)) = false := decide_eq_false hji2
        have hJ200 : J < 200 := by omega
        obtain ⟨l1, hl1⟩ : ∃ l1, l1 = tk (ds.take k) er := ⟨_, rfl⟩
        have hlen1 : l1.length ≤ 200 := by rw [hl1]; exact Nat.le_trans (tk_len _ _) (by rw [List.length_take]; omega)
        rw [← hl1] at HS5 htk ⊢
        have HJ1 := Lib.hid hj1
        have HTK2 := Lib.hid htk
        have HE := Lib.hid (Eq.refl (er[J]))
        clear hcB hJ hl1 hj1 htk
        obtain ⟨e, he⟩ : ∃ e, e = er[J] := ⟨_, rfl⟩
        rw [← he] at e0 HTK2
        clear he HE
        by_cases he0 : e = 0
        · have hs1 := HS5.out.alloc (.cells #[.int .i64 d.k, .int .i64 d.s, .int .i64 d.e, .int .i64 d.a] 23)
          have hm1 : l1.length + 1 ≤ maxLen := by unfold maxLen; omega
          have hm2 : (l1.length + 1) * 32 ≤ 140737488355328 := by omega
          have hm3 : w.heap.size ≤ (W5.alloc (.cells #[.int .i64 d.k, .int .i64 d.s, .int .i64 d.e, .int .i64 d.a] 23)).heap.size := by have := HB5.out.size; simp; omega
          subst he0
          go_wp2_with (
            at_builtin
            go_loud (refine Kt.append_sl _ (by rfl) (.tmp 28) (.tmp 31) 50 rfl w.heap.size 23 (.agg #[.int .i64 0, .int .i64 0, .int .i64 0, .int .i64 0]) 4 32 infoCmd Try.underlying50 rfl (by decide) _ _ _ rfl hs1 ⟨_, 0, none⟩ 1 1 [.int .i64 d.k, .int .i64 d.s, .int .i64 d.e, .int .i64 d.a] rfl rfl (Kt.new_cells' _ #[.int .i64 d.k, .int .i64 d.s, .int .i64 d.e, .int .i64 d.a] _ _ (by simp)) (by simp [Value.oneCell']) hm1 hm2 hm3 ?_)
            intro A4 c4 w4 hs4 hb4 hz5 hk4 hl4)
          have HS6 := Lib.hid hs4
          have HB6 := Lib.hid ((Kt.balloc HB5.out _).trans hb4)
          clear hs4 hb4 hz5 hk4 hl4 hs1
          go_roundw
          case rel =>
            rw [if_pos rfl] at HTK2
            exact ⟨k + 1, by omega, by go_num, by rw [HJ1.out]; go_num, by rw [HTK2.out, List.length_append, cmv_snoc]; exact HS6.out, HB6.out⟩
          case measure => simp [intOf]; omega
        · go_wp2_with fail
          go_roundw
          case rel =>
            rw [if_neg he0, List.append_nil] at HTK2
            exact ⟨k + 1, by omega, by go_num, by rw [HJ1.out]; go_num, by rw [HTK2.out]; exact HS5.out, HB5.out⟩
          case measure => simp [intOf]; omega
      · have HTN : Hid (tk (ds.take (k + 1)) er = tk (ds.take k) er) := Lib.hid (by rw [HTK.out, tk_no' k1])
        have HSN : Hid (subs (ds.take (k + 1)) = subs (ds.take k)) := Lib.hid (by rw [HTK.out, subs_no k1])
        go_wp2_with fail
        go_roundw
        case rel => exact ⟨k + 1, by omega, by go_num, by rw [HSN.out], by rw [HTN.out]; exact HS5.out, HB5.out⟩
        case measure => simp [intOf]; omega
    · obtain rfl : k = ds.length := by omega
      rw [List.take_length] at hs ⊢
      rw [← HN.out]
      have HS := Lib.hid hs
      have HB := Lib.hid hb
      clear hs hb
      go_wp2_with fail
      refine bodyPost_ret (v := .tuple #[.slice A1 (tk ds er).length c1, .bool true]) (by simp [results, Try.results12]) rfl ?_
      exact ⟨A1, c1, rfl, Kt.Ar.of_sl HS.out, HB.out⟩
/-- a machine of one's own in the box b -/
structure HM (w : World) (b : Nat) (M : Mv) (W : World) : Prop where
  row : Mb b M W
  mo : MO W w.heap.size M
  fc : HOff M.C b
  fe : HOff M.E b
  bel : Below w.heap.size w W
  le : w.heap.size ≤ b
section
variable {w W W' W0 W9 : World} {b B : Nat} {M M1 : Mv}
theorem HM.on (h : HM w b M W) (hb : Below W.heap.size W W') : HM w b M W' := ⟨h.row.on hb, h.mo.on hb, h.fc, h.fe, Kt.bthen h.bel hb, h.le⟩
theorem HM.store (h : HM w b M W0) (hb : Below W0.heap.size W0 W) (hm : MO W W0.heap.size M1) (hr : Mb b M1 W9) (hu : Upd b W W9) : HM w b M1 W9 := by
  have hlt := h.row.lt'
  have hz := h.bel.size
  exact ⟨hr, (hm.upd hu (by omega)).mono hz, fun k hk => by have := (hm.c.lt k hk).1; omega, fun k hk => by have := (hm.e.lt k hk).1; omega, (Kt.bthen h.bel hb).trans (hu.below.mono h.le), h.le⟩
theorem HM.new (hmo : MO W B M) (hB : w.heap.size ≤ B) (hbel : Below w.heap.size w W) (hr : Mb W.heap.size M W9) (hu : Upd W.heap.size (W.alloc (.cells (mA zM) 45)) W9) : HM w W.heap.size M W9 := by
  have hal := Kt.balloc (Below.refl W.heap.size W) (.cells (mA zM) 45)
  exact ⟨hr, MO.mono ⟨hmo.k, (hmo.on hal).c.keep fun k hk => hu.other k (by have := (hmo.c.lt k hk).2; omega) ((hmo.on hal).c.lt k hk).2, (hmo.on hal).e.keep fun k hk => hu.other k (by have := (hmo.e.lt k hk).2; omega) ((hmo.on hal).e.lt k hk).2⟩ hB, fun k hk => by have := (hmo.c.lt k hk).2; omega, fun k hk => by have := (hmo.e.lt k hk).2; omega, hbel.trans ((hal.trans hu.below).mono hbel.size), hbel.size⟩
end
end Go.Proofs.Ytidcbboonjenhaa
