/- The law of fates one by one, walked: PipeLaps. -/
import Derived.Test.YtniffnppfpaniaaPipB
namespace Go.Proofs.Ytniffnppfpaniaa
open Go.RowKit
/-- block b is the pipe p; its slices lie in blocks from B on, none of them is pb -/
def PR (wr : World) (b B pb : Nat) (p : St) : Prop := ∃ LA Lc GA Gc, wr.heap[b]? = some (.cells #[.int .i64 p.s, .int .i64 p.t, .slice LA p.ls.length Lc, .slice GA p.gs.length Gc] 25 (0, 0)) ∧
  Kt.Sl wr B 9 1 (.slice LA p.ls.length Lc) p.ls.length (sts p.ls) ∧ Kt.Sl wr B 9 1 (.slice GA p.gs.length Gc) p.gs.length (sts p.gs) ∧
  (∀ k, (Value.slice LA p.ls.length Lc).ownBlock = some k → k ≠ pb) ∧ (∀ k, (Value.slice GA p.gs.length Gc).ownBlock = some k → k ≠ pb)
theorem PR.lt {wr : World} {b B pb : Nat} {p : St} (h : PR wr b B pb p) : b < wr.heap.size := by
  obtain ⟨_, _, _, _, hr, _⟩ := h; exact (Array.getElem?_eq_some_iff.1 hr).1
theorem PR.on {wr w' : World} {b B pb : Nat} {p : St} (h : PR wr b B pb p) (hb : Below wr.heap.size wr w') : PR w' b B pb p := by
  obtain ⟨LA, Lc, GA, Gc, hr, hL, hG, h1, h2⟩ := h
  exact ⟨LA, Lc, GA, Gc, (hb.block _ (Array.getElem?_eq_some_iff.1 hr).1).trans hr, hL.on hb, hG.on hb, h1, h2⟩
theorem PR.setRow {wr : World} {b B pb : Nat} {p : St} (h : PR wr b B pb p) (hne : b ≠ pb) (cs : Array Value) : PR (wr.setRow pb cs) b B pb p := by
  obtain ⟨LA, Lc, GA, Gc, hr, hL, hG, h1, h2⟩ := h
  exact ⟨LA, Lc, GA, Gc, (setRow_other _ _ _ _ hne).trans hr, hL.keep (fun k hk => setRow_other _ _ _ _ (h1 k hk)), hG.keep (fun k hk => setRow_other _ _ _ _ (h2 k hk)), h1, h2⟩
theorem PR.of_new {w1 : World} {B B' : Nat} {LA GA : Option Addr} {Lc Gc : Nat} {p : St} (hL : Kt.Sl w1 B 9 1 (.slice LA p.ls.length Lc) p.ls.length (sts p.ls)) (hG : Kt.Sl w1 B 9 1 (.slice GA p.gs.length Gc) p.gs.length (sts p.gs)) (hB : B' ≤ B) (pb : Nat) (hpb : pb < B ∨ w1.heap.size ≤ pb) :
    PR (w1.alloc (.cells #[.int .i64 p.s, .int .i64 p.t, .slice LA p.ls.length Lc, .slice GA p.gs.length Gc] 25)) w1.heap.size B' pb p :=
  ⟨LA, Lc, GA, Gc, heap_alloc_new w1 _, (hL.mono hB).alloc _, (hG.mono hB).alloc _, fun k hk => by have := hL.lt k hk; omega, fun k hk => by have := hG.lt k hk; omega⟩
theorem run_alls (V U : Value) (ts : List ByteArray) (fs : List Int) : (ts.length ≤ 200 ∧ fs.length ≤ 1000 ∧ (∀ k (hk : k < fs.length), fated fs[k]) ∧ ∀ w, Kt.Ar w V 1 ts.length (sts ts) → Kt.Ar w U 1 fs.length (ics fs) → Calls Try.prog 8 #[V, U] w (Gives w (runF (p0 ts) fs))) ∨
    (∃ n, (n = 1 ∨ n = 2) ∧ (200 < ts.length → n = 2) ∧ ∀ w, Kt.Ar w V 1 ts.length (sts ts) → Kt.Ar w U 1 fs.length (ics fs) → Calls Try.prog 8 #[V, U] w (Fails w n)) := by
  by_cases h1 : ts.length ≤ 200
  · by_cases h2 : fs.length ≤ 1000
    · rcases first_bad fs with h3 | ⟨m, hm, hb, h3⟩
      · exact .inl ⟨h1, h2, h3, fun w hV hU => run_good V U ts fs w hV hU (by omega) (by omega) (inv_of ts fs) h3⟩
      · exact .inr ⟨1, .inl rfl, fun h => by omega, fun w hV hU => run_bad V U ts fs w hV hU (by omega) (by omega) (inv_of ts fs) m hm hb h3⟩
    · exact .inr ⟨2, .inr rfl, fun _ => rfl, fun w hV hU => run_many V U fs.length ts (ics fs) w hV hU (by omega) (by omega)⟩
  · exact .inr ⟨2, .inr rfl, fun _ => rfl, fun w hV hU => run_large V U ts.length fs.length ts (ics fs) w hV hU (by omega)⟩
set_option maxHeartbeats 1600000 in
theorem laps_large (V U : Value) (ts : List ByteArray) (fs : List Int) (w : World) (hV : Kt.Ar w V 1 ts.length (sts ts)) (hU : Kt.Ar w U 1 fs.length (ics fs)) (h1 : (200 : Int) < ts.length) (HR : Hid (∀ w, Kt.Ar w V 1 ts.length (sts ts) → Kt.Ar w U 1 fs.length (ics fs) → Calls Try.prog 8 #[V, U] w (Fails w 2))) :
    Calls Try.prog 5 #[V, U] w fun e w' => e = .returned (.bool true) ∧ Below w.heap.size w w' := by
  have HN := Lib.hid (new_large V _ ts w hV h1)
  have HV := Lib.hid hV; have HU := Lib.hid hU; clear hV hU h1
  go_enter Try.func5, Try.ntmps5
  go_wp2_with fail
  refine HN.out.mono ?_; rintro en w1 ⟨rfl, hb1⟩
  have hB1 := Kt.balloc hb1 (.cells #[.int .i64 0, .int .i64 0, .slice none 0 0, .slice none 0 0] 25)
  unfold zeroP
  go_wp2_with fail
  refine (HR.out _ (HV.out.on hB1) (HU.out.on hB1)).mono ?_; rintro en w2 ⟨rfl, hb2⟩
  have hB2 := Kt.balloc (Kt.bthen hB1 hb2) (.cells #[.int .i64 0, .int .i64 0, .slice none 0 0, .slice none 0 0] 25)
  unfold zeroP
  go_wp2_with fail
  refine (lives_calls _).mono ?_; rintro en w3 ⟨rfl, hb3⟩
  go_wp2_with fail
  refine (lives_calls _).mono ?_; rintro en w4 ⟨rfl, hb4⟩
  go_wp2_with fail
  go_ret
  exact ⟨rfl, Kt.bthen (Kt.bthen hB2 hb3) hb4⟩
set_option maxHeartbeats 1600000 in
theorem laps_no (V U : Value) (ts : List ByteArray) (fs : List Int) (n : Int) (hn : n = 1 ∨ n = 2) (w : World) (hV : Kt.Ar w V 1 ts.length (sts ts)) (hU : Kt.Ar w U 1 fs.length (ics fs)) (h1 : (ts.length : Int) ≤ 200) (HR : Hid (∀ w, Kt.Ar w V 1 ts.length (sts ts) → Kt.Ar w U 1 fs.length (ics fs) → Calls Try.prog 8 #[V, U] w (Fails w n))) :
    Calls Try.prog 5 #[V, U] w fun e w' => e = .returned (.bool true) ∧ Below w.heap.size w w' := by
  have HN := Lib.hid (new_ok V ts w hV h1)
  have HV := Lib.hid hV; have HU := Lib.hid hU; clear hV hU h1
  have hn0 : (n != 0) = true := by rcases hn with rfl | rfl <;> rfl
  clear hn
  go_enter Try.func5, Try.ntmps5
  go_wp2_with fail
  refine HN.out.mono ?_; rintro en w1 ⟨v, rfl, hq, hb1⟩
  obtain ⟨LA, Lc, GA, Gc, rfl⟩ := hq.pa.boxed
  have hB1 := Kt.balloc hb1 (.cells #[.int .i64 0, .int .i64 0, .slice LA ts.length Lc, .slice GA 0 Gc] 25)
  clear hq
  go_wp2_with fail
  refine (HR.out _ (HV.out.on hB1) (HU.out.on hB1)).mono ?_; rintro en w2 ⟨rfl, hb2⟩
  have hB2 := Kt.balloc (Kt.bthen hB1 hb2) (.cells #[.int .i64 0, .int .i64 0, .slice none 0 0, .slice none 0 0] 25)
  unfold zeroP
  go_wp2_with fail
  refine (lives_calls _).mono ?_; rintro en w3 ⟨rfl, hb3⟩
  go_wp2_with fail
  refine (lives_calls _).mono ?_; rintro en w4 ⟨rfl, hb4⟩
  go_wp2_with fail
  go_ret
  exact ⟨rfl, Kt.bthen (Kt.bthen hB2 hb3) hb4⟩
set_option maxHeartbeats 1600000 in
theorem laps_yes (V U : Value) (ts : List ByteArray) (fs : List Int) (w : World) (hV : Kt.Ar w V 1 ts.length (sts ts)) (hU : Kt.Ar w U 1 fs.length (ics fs)) (h1 : (ts.length : Int) ≤ 200) (h2 : fs.length ≤ 1000) (h3 : Hid (∀ k (hk : k < fs.length), fated fs[k])) (HR : Hid (∀ w, Kt.Ar w V 1 ts.length (sts ts) → Kt.Ar w U 1 fs.length (ics fs) → Calls Try.prog 8 #[V, U] w (Gives w (runF (p0 ts) fs)))) :
    Calls Try.prog 5 #[V, U] w fun e w' => e = .returned (.bool true) ∧ Below w.heap.size w w' := by
  have HN := Lib.hid (new_ok V ts w hV h1)
  have HV := Lib.hid hV; have HU := Lib.hid hU
  obtain ⟨A', c', rfl, hAc', hcells⟩ := hU.form
  have HIN := Lib.hid (inv_of ts fs)
  have HIE := Lib.hid (run_from ts fs)
  have h2i : (fs.length : Int) ≤ 1000 := by omega
  have H1 := Lib.hid h1
  clear hV hU h1 h2
  go_enter Try.func5, Try.ntmps5
  go_wp2_with fail
  refine HN.out.mono ?_; rintro en w1 ⟨v, rfl, ⟨L, G, rfl, hL, hG⟩, hb1⟩
  dsimp only at hL hG
  obtain ⟨LA, Lc, rfl, _, _⟩ := hL.form
  obtain ⟨GA, Gc, rfl, _, _⟩ := hG.form
  have hB1 := Kt.balloc hb1 (.cells #[.int .i64 0, .int .i64 0, .slice LA ts.length Lc, .slice GA 0 Gc] 25)
  have P1 : PR (w1.alloc (.cells #[.int .i64 0, .int .i64 0, .slice LA ts.length Lc, .slice GA 0 Gc] 25)) w1.heap.size w.heap.size w1.heap.size (runF (p0 ts) (fs.take 0)) := PR.of_new (p := ⟨0, 0, ts, []⟩) hL hG (Nat.le_refl _) _ (.inr (Nat.le_refl _))
  clear hL hG
  go_wp2_with fail
  generalize (w1.alloc (.cells #[.int .i64 0, .int .i64 0, .slice LA ts.length Lc, .slice GA 0 Gc] 25)) = W1 at *
  have hwpb : w.heap.size ≤ w1.heap.size := hb1.size
  clear hb1
  generalize w1.heap.size = pb at *
  refine (HR.out _ (HV.out.on hB1) (HU.out.on hB1)).mono ?_; rintro en w2 ⟨v, rfl, ⟨L, G, rfl, hL, hG⟩, hb2⟩
  obtain ⟨QA, Qc, rfl, _, _⟩ := hL.form
  obtain ⟨RA, Rc, rfl, _, _⟩ := hG.form
  have hpb := P1.lt
  have P2 := (P1.on hb2).on (Kt.balloc (Below.refl _ w2) (.cells #[.int .i64 (runF (p0 ts) fs).s, .int .i64 (runF (p0 ts) fs).t, .slice QA (runF (p0 ts) fs).ls.length Qc, .slice RA (runF (p0 ts) fs).gs.length Rc] 25))
  have Q2 := PR.of_new (B' := w.heap.size) hL hG hB1.size pb (.inl hpb)
  have hB2 := Kt.balloc (Kt.bthen hB1 hb2) (.cells #[.int .i64 (runF (p0 ts) fs).s, .int .i64 (runF (p0 ts) fs).t, .slice QA (runF (p0 ts) fs).ls.length Qc, .slice RA (runF (p0 ts) fs).gs.length Rc] 25)
  have hne : w2.heap.size ≠ pb := by have := hb2.size; omega
  clear P1 hL hG hb2 hB1
  go_wp2_with fail
  generalize (w2.alloc (.cells #[.int .i64 (runF (p0 ts) fs).s, .int .i64 (runF (p0 ts) fs).t, .slice QA (runF (p0 ts) fs).ls.length Qc, .slice RA (runF (p0 ts) fs).gs.length Rc] 25)) = W2 at *
  generalize w2.heap.size = qb at *
  refine (lives_calls _).mono ?_; rintro en w3 ⟨rfl, hb3⟩
  have P3 := P2.on hb3
  have Q3 := Q2.on hb3
  have hB3 := Kt.bthen hB2 hb3
  clear P2 Q2 hB2 hb3
  go_wp2_with fail
  go_loopw [40] (fun i wr => ∃ k : Nat, k ≤ fs.length ∧ i = .int .i64 k ∧ PR wr pb w.heap.size pb (runF (p0 ts) (fs.take k)) ∧ PR wr qb w.heap.size pb (runF (p0 ts) fs) ∧ Below w.heap.size w wr) (fun i _ => fs.length - (intOf i).toNat)
  case atStart => exact ⟨0, Nat.zero_le _, rfl, P3, Q3, hB3⟩
  case round =>
    clear P3 Q3 hB3
    obtain ⟨k, hk, rfl, hP, hQ, hbel⟩ := hrel
    obtain ⟨told, got, hI⟩ := HIN.out k
    have hll := hI.llen
    have hgl := hI.glen
    have hgn := hI.gn
    have hbits := hI.bits
    have h1 := H1.out
    clear hI
    by_cases hlt : k < fs.length
    · obtain ⟨tb, tq, rfl, htb, htx⟩ := hcells (by omega)
      have hcell : wr.cell? ⟨tb, tq + k, none⟩ = some (.int .i64 fs[k]) := (hbel.cell (p := ⟨tb, tq + k, none⟩) htb).trans ((htx k (by rw [ics_len]; exact hlt)).trans (by simp [ics]))
      have HT := Lib.hid (runF_take (p0 ts) fs k hlt)
      have hft := h3.out k hlt
      have HCELLS := Lib.hid htx; clear htx hcells
      generalize fs[k] = f at *
      generalize runF (p0 ts) (fs.take k) = p at *
      obtain ⟨LA, Lc, GA, Gc, hrow, hL, hG, hLp, hGp⟩ := hP
      have HS := Lib.hid (step_ok (.agg #[.int .i64 p.s, .int .i64 p.t, .slice LA p.ls.length Lc, .slice GA p.gs.length Gc]) p f wr ⟨_, _, rfl, Kt.Ar.of_sl hL, Kt.Ar.of_sl hG⟩ hbits.1 hbits.2 hft (by omega) (by omega))
      have hpw : pb < wr.heap.size := (Array.getElem?_eq_some_iff.1 hrow).1
      clear hll hgl hgn hbits hft h1
      have hc := fun i => cell_of_row _ _ i _ _ _ hrow
      go_wp2_with fail
      refine HS.out.mono ?_
      rintro en w4 ⟨v, rfl, ⟨L', G', rfl, hL', hG'⟩, hb4⟩
      obtain ⟨LA', Lc', rfl, _, _⟩ := hL'.form
      obtain ⟨GA', Gc', rfl, _, _⟩ := hG'.form
      have hrow4 := (hb4.block _ hpw).trans hrow
      have hQ4 := hQ.on hb4
      have hbel4 := Kt.bthen hbel hb4
      clear hc hL hG hLp hGp hQ
      go_wp2_with (refine wpList_store_row rfl 25 (.tmp 5) (.tmp 48) rfl pb #[.int .i64 (stepF p f).s, .int .i64 (stepF p f).t, .slice LA' (stepF p f).ls.length Lc', .slice GA' (stepF p f).gs.length Gc'] rfl rfl 25 _ hrow4 info_pipe rfl (by simp [Value.oneCell']) ?_)
      go_roundw
      case rel =>
        refine ⟨k + 1, by omega, by go_num, ?_, hQ4.setRow hne _, brow hbel4 hwpb _⟩
        rw [HT.out]
        refine ⟨LA', Lc', GA', Gc', setRow_heap _ _ _ _ _ _ hrow4, ?_, ?_, fun j hj => by have := (hL'.lt j hj).1; omega, fun j hj => by have := (hG'.lt j hj).1; omega⟩
        · exact (hL'.mono (by omega)).keep fun j hj => setRow_other _ _ _ _ (by have := (hL'.lt j hj).1; omega)
        · exact (hG'.mono (by omega)).keep fun j hj => setRow_other _ _ _ _ (by have := (hG'.lt j hj).1; omega)
      case measure => simp [intOf]; omega
    · obtain rfl : k = fs.length := by omega
      rw [List.take_length] at *
      have hls : (runF (p0 ts) fs).ls.length ≤ 8796093022208 ∧ (runF (p0 ts) fs).gs.length ≤ 8796093022208 := by omega
      clear hll hgl hgn hbits h1
      have HLS := Lib.hid hls; clear hls
      generalize runF (p0 ts) fs = p at *
      obtain ⟨LA, Lc, GA, Gc, hrow, hL, hG, _, _⟩ := hP
      obtain ⟨LB, Ld, GB, Gd, hrowq, hM, hN, _, _⟩ := hQ
      have hc := fun i => cell_of_row _ _ i _ _ _ hrow
      have hcq := fun i => cell_of_row _ _ i _ _ _ hrowq
      have HA := Lib.hid (show PA wr (.agg #[.int .i64 p.s, .int .i64 p.t, .slice LA p.ls.length Lc, .slice GA p.gs.length Gc]) p from ⟨_, _, rfl, Kt.Ar.of_sl hL, Kt.Ar.of_sl hG⟩)
      have HB := Lib.hid (show PA wr (.agg #[.int .i64 p.s, .int .i64 p.t, .slice LB p.ls.length Ld, .slice GB p.gs.length Gd]) p from ⟨_, _, rfl, Kt.Ar.of_sl hM, Kt.Ar.of_sl hN⟩)
      go_wp2_with fail
      refine (same_true _ _ p wr HA.out HB.out HLS.out.1 HLS.out.2).mono ?_; rintro en w5 ⟨rfl, hb5⟩
      go_wp2_with fail
      go_ret
      exact ⟨rfl, Kt.bthen hbel hb5⟩
theorem laps_walk (v0 v1 : Value) (w : World) (r0 : Fr.RdV w reachBytes (.slice 1 .string) v0) (r1 : Fr.RdV w reachBytes (.slice 1 (.int .i64)) v1) :
    Calls Try.prog 5 #[v0, v1] w fun e w' => e = .returned (.bool true) ∧ Below w.heap.size w w' := by
  obtain ⟨ts, _, _, hV⟩ := Kt.ar_strs r0
  obtain ⟨fs, hb, _, hU⟩ := Kt.ar_ints r1
  rcases run_alls v0 v1 ts fs with ⟨h1, h2, h3, h⟩ | ⟨n, hn, hn2, h⟩
  · exact laps_yes v0 v1 ts fs w hV hU (by omega) h2 (Lib.hid h3) (Lib.hid h)
  · by_cases h1 : ts.length ≤ 200
    · exact laps_no v0 v1 ts fs n hn w hV hU (by omega) (Lib.hid h)
    · have := hn2 (by omega)
      subst this
      exact laps_large v0 v1 ts fs w hV hU (by omega) (Lib.hid h)
end Go.Proofs.Ytniffnppfpaniaa
