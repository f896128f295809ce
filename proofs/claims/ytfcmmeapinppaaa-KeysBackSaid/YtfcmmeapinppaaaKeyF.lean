/- The walk of keys.Feed. -/
import Derived.Test.YtfcmmeapinppaaaKeyP
import Derived.Test.YtfcmmeapinppaaaApd
import Derived.Test.YtfcmmeapinppaaaStc
namespace Go.Proofs.Ytfcmmeapinppaaa
open Go.RowKit
theorem kv_one (l : List (Fin 256 × Bool)) : ∀ u ∈ kv l, u.oneCell' = true := by
  intro u hu
  simp only [kv, List.mem_flatMap] at hu
  obtain ⟨x, _, hx⟩ := hu
  simp at hx
  rcases hx with rfl | rfl <;> rfl
def feedR (h : Hd) : List ByteArray → Hd × List (Fin 256 × Bool) × Nat
  | [] => (h, [], 0)
  | s :: l => if (readR s.data.toList).2 = 0 then ((feedR (readR s.data.toList).1 l).1, diffR h (readR s.data.toList).1 ++ (feedR (readR s.data.toList).1 l).2.1, (feedR (readR s.data.toList).1 l).2.2)
    else ((feedR h l).1, (feedR h l).2.1, (feedR h l).2.2 + 1)
/-- what was told, and what is told of the rest -/
def more (out : List (Fin 256 × Bool)) (n : Nat) (R : Hd × List (Fin 256 × Bool) × Nat) : Hd × List (Fin 256 × Bool) × Nat := (R.1, out ++ R.2.1, n + R.2.2)
theorem more_ok (h : Hd) (s : ByteArray) (l : List ByteArray) (out : List (Fin 256 × Bool)) (n : Nat) (g : Hd) (hr : readR s.data.toList = (g, 0)) : more out n (feedR h (s :: l)) = more (out ++ diffR h g) n (feedR g l) := by
  have : feedR h (s :: l) = ((feedR g l).1, diffR h g ++ (feedR g l).2.1, (feedR g l).2.2) := by
    show (if _ then _ else _) = _
    rw [hr, if_pos rfl]
  rw [this]
  simp [more]
theorem more_no (h : Hd) (s : ByteArray) (l : List ByteArray) (out : List (Fin 256 × Bool)) (n : Nat) (g : Hd) (e : Int) (he : e ≠ 0) (hr : readR s.data.toList = (g, e)) : more out n (feedR h (s :: l)) = more out (n + 1) (feedR h l) := by
  have : feedR h (s :: l) = ((feedR h l).1, (feedR h l).2.1, (feedR h l).2.2 + 1) := by
    show (if _ then _ else _) = _
    rw [hr, if_neg he]
  rw [this]
  simp [more]
  omega
theorem more_zero (R : Hd × List (Fin 256 × Bool) × Nat) : more [] 0 R = R := by simp [more]
theorem more_nil (h : Hd) (out : List (Fin 256 × Bool)) (n : Nat) : more out n (feedR h []) = (h, out, n) := by simp [more, feedR]
theorem diffR_le (x y : Hd) : (diffR x y).length ≤ 512 := by
  rw [diffR_len]
  have h1 : (lack y (codesL x 256)).length ≤ 256 := Nat.le_trans (List.length_filter_le _ _) (codesL_len x 256)
  have h2 : (lack x (codesL y 256)).length ≤ 256 := Nat.le_trans (List.length_filter_le _ _) (codesL_len y 256)
  omega
/-- Feed at its loop's head -/
structure FeRel (h : Hd) (ss : List ByteArray) (w : World) (k : Nat) (g : Hd) (out : List (Fin 256 × Bool)) (n : Nat) (V : Value) (wr : World) : Prop where
  le : k ≤ ss.length
  law : more out n (feedR g (ss.drop k)) = feedR h ss
  sl : Kt.Sl wr (w.heap.size + 2) 47 2 V out.length (kv out)
  len : out.length ≤ 512 * k
  skip : n ≤ k
  hb : wr.heap[w.heap.size]? = some (.cells g.vs 27 (0, 0))
  zb : wr.heap[w.heap.size + 1]? = some (.cells Hd.zero.vs 27 (0, 0))
  bel : Below w.heap.size w wr
set_option maxRecDepth 100000 in
set_option maxHeartbeats 1600000 in
theorem feed_calls (h : Hd) (ss : List ByteArray) (V : Value) (w : World) (hv : Kt.Ar w V 1 ss.length (sts ss)) (hm : ss.length ≤ 4194304) :
    Calls Try.prog 15 #[h.v, V] w fun e w' => ∃ U, e = .returned (.tuple #[(feedR h ss).1.v, U, .int .i64 ((feedR h ss).2.2 : Nat)]) ∧ Kt.Sl w' w.heap.size 47 2 U (feedR h ss).2.1.length (kv (feedR h ss).2.1) ∧ (feedR h ss).2.1.length ≤ 512 * ss.length ∧ (feedR h ss).2.2 ≤ ss.length ∧ Below w.heap.size w w' := by
  obtain ⟨A0, c0, rfl, hc0, hcell⟩ := hv.form
  have HCELL := Lib.hid hcell
  have HM := Lib.hid hm
  clear hv hcell hm
  have HR0 : Hid (FeRel h ss w 0 h [] 0 (.slice none 0 0) ((w.alloc (.cells h.vs 27)).alloc (.cells Hd.zero.vs 27))) := Lib.hid
    { le := Nat.zero_le _, law := more_zero _, sl := Kt.Sl.nil _ _ _ _, len := Nat.zero_le _, skip := Nat.le_refl _,
      hb := (Below.heap_alloc _ _ _ (by rw [World.size_alloc]; omega)).trans (heap_alloc_new w _),
      zb := by
        have := heap_alloc_new (w.alloc (.cells h.vs 27)) (.cells Hd.zero.vs 27)
        rw [World.size_alloc] at this
        exact this,
      bel := Kt.balloc (Kt.balloc (Below.refl _ _) _) _ }
  obtain ⟨R, hR⟩ : ∃ R, feedR h ss = R := ⟨_, rfl⟩
  have HRR := Lib.hid hR
  rw [hR]
  clear hR
  unfold Hd.v
  go_enter Try.func15, Try.ntmps15
  unfold Hd.vs
  go_wp2_with fail
  refine Kt.fold (fun W => W = ((w.alloc (.cells h.vs 27)).alloc (.cells Hd.zero.vs 27))) rfl (fun W hW => ?_)
  rw [← hW] at HR0
  clear hW
  go_loopw [7, 8, 15] (fun o n i wr => ∃ (k : Nat) (g : Hd) (out : List (Fin 256 × Bool)) (m : Nat) (A : Option Addr) (c : Nat), i = .int .i64 k ∧ o = .slice A out.length c ∧ n = .int .i64 m ∧ Hid (FeRel h ss w k g out m (.slice A out.length c) wr)) (fun _ _ i _ => ss.length - (intOf i).toNat)
  case atStart => exact ⟨0, h, [], 0, none, 0, rfl, rfl, rfl, HR0⟩
  case round =>
    clear HR0
    obtain ⟨k, g, out, m, AV, cV, rfl, rfl, rfl, HR⟩ := hrel
    by_cases hlt : k < ss.length
    · obtain ⟨b, o, rfl, hb0, hc1⟩ := HCELL.out (by omega)
      have x0 : wr.cell? ⟨b, o + k, none⟩ = some (.string ss[k]) := by
        have := hc1 k (by rw [sts_len]; exact hlt)
        simp only [sts, List.getElem_map] at this
        exact (HR.out.bel.cell (p := ⟨b, o + k, none⟩) hb0).trans this
      obtain ⟨s, hs⟩ : ∃ s, ss[k] = s := ⟨_, rfl⟩
      rw [hs] at x0
      obtain ⟨⟨r, e⟩, hr⟩ : ∃ r, readR s.data.toList = r := ⟨_, rfl⟩
      have HRD := Lib.hid (fun W => read_calls s W)
      rw [hr] at HRD
      have hd : ss.drop k = s :: ss.drop (k + 1) := by rw [List.drop_eq_getElem_cons hlt, hs]
      have hbz : b < wr.heap.size := Nat.lt_of_lt_of_le hb0 HR.out.bel.size
      have ek : (k : Int) < ss.length := by omega
      have ek0 : (0 : Int) ≤ k := by omega
      have HSTEP := Lib.hid (And.intro hd hr)
      clear hc1 hs hd hr
      unfold Hd.v Hd.vs at HRD
      go_wp2_with fail
      refine (HRD.out _).mono ?_
      rintro en w1 ⟨rfl, hb1⟩
      have HH1 := Lib.hid (Kt.row_on hb1 HR.out.hb)
      have HZ1 := Lib.hid (Kt.row_on hb1 HR.out.zb)
      have HS1 := Lib.hid (HR.out.sl.on hb1)
      have HB1 := Lib.hid (Kt.bthen HR.out.bel hb1)
      clear hb1 HRD x0 hbz
      have HH2 := Lib.hid (Kt.row_on (Kt.balloc (Below.refl _ w1) (.cells #[.int .u64 (r.a.toNat : Int), .int .u64 (r.b.toNat : Int), .int .u64 (r.c.toNat : Int), .int .u64 (r.d.toNat : Int)] 27)) HH1.out)
      have HZ2 := Lib.hid (Kt.row_on (Kt.balloc (Below.refl _ w1) (.cells #[.int .u64 (r.a.toNat : Int), .int .u64 (r.b.toNat : Int), .int .u64 (r.c.toNat : Int), .int .u64 (r.d.toNat : Int)] 27)) HZ1.out)
      have HS2 := Lib.hid (HS1.out.alloc (.cells #[.int .u64 (r.a.toNat : Int), .int .u64 (r.b.toNat : Int), .int .u64 (r.c.toNat : Int), .int .u64 (r.d.toNat : Int)] 27))
      have HN2 := Lib.hid (heap_alloc_new w1 (.cells #[.int .u64 (r.a.toNat : Int), .int .u64 (r.b.toNat : Int), .int .u64 (r.c.toNat : Int), .int .u64 (r.d.toNat : Int)] 27))
      have HB2 := Lib.hid (Kt.balloc HB1.out (.cells #[.int .u64 (r.a.toNat : Int), .int .u64 (r.b.toNat : Int), .int .u64 (r.c.toNat : Int), .int .u64 (r.d.toNat : Int)] 27))
      have HZ9 := Lib.hid (Array.getElem?_eq_some_iff.1 HZ1.out).1
      by_cases he : e = 0
      · subst he
        have HFN : Hid (more (out ++ diffR g r) m (feedR r (ss.drop (k + 1))) = feedR h ss) := Lib.hid (by rw [← HR.out.law, HSTEP.out.1, more_ok _ _ _ _ _ _ HSTEP.out.2])
        have HLN : Hid ((out ++ diffR g r).length ≤ 512 * (k + 1)) := Lib.hid (by
          have := HR.out.len
          have := diffR_le g r
          rw [List.length_append]; omega)
        have HD := Lib.hid (fun W => diff_calls g r W)
        rw [diffR_kv, ← diffR_len] at HD
        have HSK := Lib.hid HR.out.skip
        have hh := HH2.out
        unfold Hd.vs at hh
        have p1 := fun i => cell_of_row _ _ i _ _ _ hh
        have p2 := fun i => cell_of_row _ _ i _ _ _ HN2.out
        have HKO1 := Lib.hid HS1.out.lt
        have HOL := Lib.hid HR.out.len
        clear hh HH1 HZ1 HS1 HB1 HR
        unfold Hd.v Hd.vs at HD
        go_wp2_with fail
        refine (HD.out _).mono ?_
        rintro en w3 ⟨U, rfl, hrow, hb3⟩
        have har := Kt.Ar.of_sl (Kt.Sl.of_own hrow)
        obtain ⟨A3, c3, hUe, _⟩ := har.form
        subst hUe
        have HU := Lib.hid har
        have HH3 := Lib.hid (Kt.row_on hb3 HH2.out)
        have HZ3 := Lib.hid (Kt.row_on hb3 HZ2.out)
        have HN3 := Lib.hid (Kt.row_on hb3 HN2.out)
        have HS3 := Lib.hid (HS2.out.on hb3)
        have HB3 := Lib.hid (Kt.bthen HB2.out hb3)
        have hle3 : w1.heap.size < w3.heap.size := (Array.getElem?_eq_some_iff.1 HN3.out).1
        have HKO : Hid (∀ k, (Value.slice AV out.length cV).ownBlock = some k → w.heap.size + 2 ≤ k ∧ k < w1.heap.size) := Lib.hid HKO1.out
        have HO2 : Hid (out.length ≤ 512 * k ∧ (diffR g r).length ≤ 512) := Lib.hid ⟨HOL.out, diffR_le g r⟩
        clear hrow har hb3 HH2 HZ2 HN2 HS2 HB2 p1 p2 HD HKO1 HOL
        generalize w1.heap.size = K at *
        go_wp2_with
          (refine Kt.append_ar (by rfl) (.tmp 28) (.tmp 31) 32 rfl (w.heap.size + 2) 47 (.agg #[.int .i64 0, .bool false]) 2 16 infoK Try.underlying32 rfl (by decide) _ _ _ rfl HS3.out _ _ _ rfl HU.out (kv_one _) (by have := HM.out; have := HO2.out; unfold maxLen; omega) (by have := HM.out; have := HO2.out; omega) (by have := HZ9.out; omega) ?_
           intro A4 c4 w4 hs4 hb4 hz4 hk4 hl4
           have HH4 := Lib.hid ((hk4 w.heap.size (by have := HZ9.out; omega) (fun e => by have := HKO.out _ e; omega)).trans HH3.out)
           have HZ4 := Lib.hid ((hk4 (w.heap.size + 1) (by have := HZ9.out; omega) (fun e => by have := HKO.out _ e; omega)).trans HZ3.out)
           have HN4 := Lib.hid ((hk4 K hle3 (fun e => by have := HKO.out _ e; omega)).trans HN3.out)
           have HB4 := Lib.hid (HB3.out.trans (hb4.mono (by omega)))
           have HS4 := Lib.hid hs4
           have hh := HH4.out
           unfold Hd.vs at hh
           have p1 := fun i => cell_of_row _ _ i _ _ _ HN4.out
           have p2 := fun i => cell_of_row _ _ i _ _ _ hh
           have pf := fun i => frozen_of_row _ _ i _ _ hh
           clear hh hs4 hb4 hz4 hk4 hl4)
        have hlen2 : out.length + (diffR g r).length = (out ++ diffR g r).length := by rw [List.length_append]
        have hfill := Kt.fill [.int .u64 (r.a.toNat : Int), .int .u64 (r.b.toNat : Int), .int .u64 (r.c.toNat : Int), .int .u64 (r.d.toNat : Int)] HH4.out rfl
        have hoth : ((((w4.setCell ⟨w.heap.size, 0, none⟩ (.int .u64 (r.a.toNat : Int))).setCell ⟨w.heap.size, 1, none⟩ (.int .u64 (r.b.toNat : Int))).setCell ⟨w.heap.size, 2, none⟩ (.int .u64 (r.c.toNat : Int))).setCell ⟨w.heap.size, 3, none⟩ (.int .u64 (r.d.toNat : Int))).heap[w.heap.size + 1]? = _ :=
          (Kt.setCells_other [.int .u64 (r.a.toNat : Int), .int .u64 (r.b.toNat : Int), .int .u64 (r.c.toNat : Int), .int .u64 (r.d.toNat : Int)] w.heap.size 0 w4 (w.heap.size + 1) (by omega)).trans HZ4.out
        have hsl := HS4.out.sets [.int .u64 (r.a.toNat : Int), .int .u64 (r.b.toNat : Int), .int .u64 (r.c.toNat : Int), .int .u64 (r.d.toNat : Int)] w.heap.size 0 (fun k hk => by have := (HS4.out.lt k hk).1; omega)
        rw [hlen2, ← kv_app] at hsl
        rw [hlen2]
        have hm := HM.out
        go_roundw
        case rel => exact ⟨k + 1, r, out ++ diffR g r, m, A4, c4, by rw [show wrap64 ((k : Int) + 1) = ((k + 1 : Nat) : Int) by unfold wrap64; omega], rfl, rfl, Lib.hid { le := by omega, law := HFN.out, sl := hsl, len := HLN.out, skip := by have := HSK.out; omega, hb := hfill, zb := hoth, bel := store4 HB4.out (Nat.le_refl _) _ _ _ _ }⟩
        case measure =>
          rw [show wrap64 ((k : Int) + 1) = ((k + 1 : Nat) : Int) by unfold wrap64; omega]
          simp [intOf] <;> omega
      · have HFN : Hid (more out (m + 1) (feedR g (ss.drop (k + 1))) = feedR h ss) := Lib.hid (by rw [← HR.out.law, HSTEP.out.1, more_no _ _ _ _ _ _ _ he HSTEP.out.2])
        have HLS := Lib.hid (And.intro HR.out.len HR.out.skip)
        have e1 : (e != 0) = true := by rw [bne_iff_ne]; exact he
        clear he HH1 HZ1 HS1 HB1 HR
        go_wp2_with fail
        have hm := HM.out
        go_roundw
        case rel => exact ⟨k + 1, g, out, m + 1, _, _, by rw [show wrap64 ((k : Int) + 1) = ((k + 1 : Nat) : Int) by unfold wrap64; omega], rfl, by have := HLS.out; rw [show wrap64 ((m : Int) + 1) = ((m + 1 : Nat) : Int) by unfold wrap64; omega], Lib.hid { le := by omega, law := HFN.out, sl := HS2.out, len := by have := HLS.out; omega, skip := by have := HLS.out; omega, hb := HH2.out, zb := HZ2.out, bel := HB2.out }⟩
        case measure =>
          rw [show wrap64 ((k : Int) + 1) = ((k + 1 : Nat) : Int) by unfold wrap64; omega]
          simp [intOf] <;> omega
    · have hk : k = ss.length := by have := HR.out.le; omega
      have hl := HR.out.law
      rw [hk, List.drop_of_length_le (Nat.le_refl _), more_nil, HRR.out] at hl
      have HR2 := Lib.hid HR.out
      subst hl
      clear HRR
      have hh := HR.out.hb
      have hz := HR.out.zb
      rw [zero_vs] at hz
      unfold Hd.vs at hh
      have p1 := fun i => cell_of_row _ _ i _ _ _ hh
      have p3 := fun i => cell_of_row _ _ i _ _ _ hz
      have pf := fun i => frozen_of_row _ _ i _ _ hz
      have hek : (k : Int) = ss.length := by omega
      have HKE := Lib.hid hk
      clear hh hz hk hek hlt HR
      have hk2 : (ss.length : Int) ≤ (k : Int) := by have := HKE.out; omega
      go_wp2_with fail
      refine bodyPost_ret (v := .tuple #[g.v, .slice AV out.length cV, .int .i64 m]) (by simp [Hd.v, Hd.vs, zero_vs, p3, pf, results, Try.results15, go_sem]) rfl ⟨_, rfl, ?_, ?_, ?_, ?_⟩
      · exact (HR2.out.sl.sets [.int .u64 (g.a.toNat : Int), .int .u64 (g.b.toNat : Int), .int .u64 (g.c.toNat : Int), .int .u64 (g.d.toNat : Int)] (w.heap.size + 1) 0 (fun k hk => by have := (HR2.out.sl.lt k hk).1; omega)).mono (by omega)
      · have := HR2.out.len; have := HKE.out; omega
      · have := HR2.out.skip; have := HKE.out; omega
      · exact store4 HR2.out.bel (Nat.le_succ _) _ _ _ _
end Go.Proofs.Ytfcmmeapinppaaa
