/- The walks of package pipe: Run. -/
import Derived.Test.YtniffnppfpaniaaPipU
namespace Go.Proofs.Ytniffnppfpaniaa
open Go.RowKit
def ics (l : List Int) : List Value := l.map (Value.int .i64)
theorem ics_len (a : List Int) : (ics a).length = a.length := by simp [ics]
theorem info_pipe : (Try.prog.info? 25).map (·.size) = some 4 := by kernel_rfl
theorem brow {w a : World} (h : Below w.heap.size w a) {g : Nat} (hg : w.heap.size ≤ g) (cs : Array Value) : Below w.heap.size w (a.setRow g cs) :=
  h.trans ⟨rfl, rfl, rfl, by simp, fun k hk => setRow_other a g k cs (by omega)⟩
def p0 (ts : List ByteArray) : St := ⟨0, 0, ts, []⟩
def RunRel (w : World) (pb : Nat) (p : St) (wr : World) : Prop := ∃ LA Lc GA Gc, wr.heap[pb]? = some (.cells #[.int .i64 p.s, .int .i64 p.t, .slice LA p.ls.length Lc, .slice GA p.gs.length Gc] 25 (0, 0)) ∧
  wr.heap[w.heap.size]? = some (.cells #[.int .i64 0, .int .i64 0, .slice none 0 0, .slice none 0 0] 25 (0, 0)) ∧
  Kt.Sl wr (w.heap.size + 1) 9 1 (.slice LA p.ls.length Lc) p.ls.length (sts p.ls) ∧ Kt.Sl wr (w.heap.size + 1) 9 1 (.slice GA p.gs.length Gc) p.gs.length (sts p.gs) ∧
  (∀ k, (Value.slice LA p.ls.length Lc).ownBlock = some k → k ≠ pb) ∧ (∀ k, (Value.slice GA p.gs.length Gc).ownBlock = some k → k ≠ pb) ∧ Below w.heap.size w wr ∧ w.heap.size < pb
set_option maxHeartbeats 800000 in
theorem run_large (V U : Value) (n m : Nat) (ts : List ByteArray) (fs : List Value) (w : World) (hV : Kt.Ar w V 1 n (sts ts)) (hU : Kt.Ar w U 1 m fs) (hn : (200 : Int) < n) : Calls Try.prog 8 #[V, U] w (Fails w 2) := by
  have h0 := hV
  obtain ⟨A, c, rfl, _, _⟩ := hV.form
  obtain ⟨A', c', rfl, _, _⟩ := hU.form
  go_enter Try.func8, Try.ntmps8
  go_wp2_with fail
  refine (new_large _ _ ts _ (h0.on (Kt.balloc (Below.refl _ w) _)) hn).mono ?_
  rintro en w1 ⟨rfl, hb⟩
  have hrow := (hb.block w.heap.size (by simp)).trans (heap_alloc_new w (.cells #[.int .i64 0, .int .i64 0, .slice none 0 0, .slice none 0 0] 25))
  have hc := fun i => cell_of_row _ _ i _ _ _ hrow
  have hf := fun i => frozen_of_row _ _ i _ _ hrow
  have hbel := Kt.bthen (Kt.balloc (Below.refl _ w) (.cells #[.int .i64 0, .int .i64 0, .slice none 0 0, .slice none 0 0] 25)) hb
  have hz : w.heap.size < w1.heap.size := by have := hb.size; simp at this; omega
  unfold zeroP
  go_wp2_with fail
  refine bodyPost_ret (v := .tuple #[zeroP, .int .i64 2]) (by simp [zeroP, results, Try.results8, go_sem, hc, hz]) rfl ⟨rfl, ?_⟩
  repeat (first | with_reducible exact hbel | with_reducible refine Kt.balloc ?_ _ | with_reducible refine Kt.bset ?_ (by simp) _)
set_option maxHeartbeats 800000 in
theorem run_many (V U : Value) (m : Nat) (ts : List ByteArray) (fs : List Value) (w : World) (hV : Kt.Ar w V 1 ts.length (sts ts)) (hU : Kt.Ar w U 1 m fs) (h1 : (ts.length : Int) ≤ 200) (h2 : (1000 : Int) < m) : Calls Try.prog 8 #[V, U] w (Fails w 2) := by
  have h0 := hV
  obtain ⟨A, c, rfl, _, _⟩ := hV.form
  obtain ⟨A', c', rfl, hAc', hcells⟩ := hU.form
  go_enter Try.func8, Try.ntmps8
  go_wp2_with fail
  refine (new_ok _ ts _ (h0.on (Kt.balloc (Below.refl _ w) _)) h1).mono ?_
  rintro en w1 ⟨v, rfl, ⟨L, G, rfl, hL, hG⟩, hb⟩
  dsimp only at hL hG
  obtain ⟨LA, Lc, rfl, _, _⟩ := hL.form
  obtain ⟨GA, Gc, rfl, _, _⟩ := hG.form
  have hrow := (hb.block w.heap.size (by simp)).trans (heap_alloc_new w (.cells #[.int .i64 0, .int .i64 0, .slice none 0 0, .slice none 0 0] 25))
  have hbel := Kt.bthen (Kt.balloc (Below.refl _ w) (.cells #[.int .i64 0, .int .i64 0, .slice none 0 0, .slice none 0 0] 25)) hb
  have hz : w.heap.size < w1.heap.size := by have := hb.size; simp at this; omega
  have hc := fun i => cell_of_row _ _ i _ _ _ hrow
  have hf := fun i => frozen_of_row _ _ i _ _ hrow
  go_wp2_with fail
  refine bodyPost_ret (v := .tuple #[zeroP, .int .i64 2]) (by simp [zeroP, results, Try.results8, go_sem, hc, hz]) rfl ⟨rfl, ?_⟩
  repeat (first | with_reducible exact hbel | with_reducible refine Kt.balloc ?_ _ | with_reducible refine Kt.bset ?_ (by simp) _)
set_option maxHeartbeats 1600000 in
theorem run_good (V U : Value) (ts : List ByteArray) (fs : List Int) (w : World) (hV : Kt.Ar w V 1 ts.length (sts ts)) (hU : Kt.Ar w U 1 fs.length (ics fs)) (h1 : (ts.length : Int) ≤ 200) (h2 : (fs.length : Int) ≤ 1000) (hin : ∀ k, ∃ told got, Inv ts (runF (p0 ts) (fs.take k)) told got) (h3 : ∀ k (hk : k < fs.length), fated fs[k]) : Calls Try.prog 8 #[V, U] w (Gives w (runF (p0 ts) fs)) := by
  have H3 := Lib.hid h3; have HIN := Lib.hid hin; clear h3 hin
  have h0 := hV
  obtain ⟨A, c, rfl, _, _⟩ := hV.form
  obtain ⟨A', c', rfl, hAc', hcells⟩ := hU.form
  go_enter Try.func8, Try.ntmps8
  go_wp2_with fail
  refine (new_ok _ ts _ (h0.on (Kt.balloc (Below.refl _ w) _)) h1).mono ?_
  rintro en w1 ⟨v, rfl, ⟨L, G, rfl, hL, hG⟩, hb⟩
  dsimp only at hL hG
  obtain ⟨LA, Lc, rfl, _, _⟩ := hL.form
  obtain ⟨GA, Gc, rfl, _, _⟩ := hG.form
  have hrow := (hb.block w.heap.size (by simp)).trans (heap_alloc_new w (.cells #[.int .i64 0, .int .i64 0, .slice none 0 0, .slice none 0 0] 25))
  have hbel := Kt.bthen (Kt.balloc (Below.refl _ w) (.cells #[.int .i64 0, .int .i64 0, .slice none 0 0, .slice none 0 0] 25)) hb
  have hz : w.heap.size < w1.heap.size := by have := hb.size; simp at this; omega
  have HR0 : RunRel w w1.heap.size (runF (p0 ts) (fs.take 0)) (w1.alloc (.cells #[.int .i64 0, .int .i64 0, .slice LA ts.length Lc, .slice GA 0 Gc] 25)) :=
    ⟨LA, Lc, GA, Gc, heap_alloc_new w1 _, (Below.heap_alloc w1 _ _ hz).trans hrow, (hL.mono (by simp)).alloc _, (hG.mono (by simp)).alloc _, fun k hk => by have := (hL.lt k hk).2; omega, fun k hk => by have := (hG.lt k hk).2; omega, Kt.balloc hbel _, hz⟩
  clear hL hG hb hrow hbel h0 hV
  go_wp2_with fail
  go_loopw [25] (fun i wr => ∃ k : Nat, k ≤ fs.length ∧ i = .int .i64 k ∧ RunRel w w1.heap.size (runF (p0 ts) (fs.take k)) wr) (fun i _ => fs.length - (intOf i).toNat)
  case atStart => exact ⟨0, Nat.zero_le _, rfl, HR0⟩
  case round =>
    clear HR0
    obtain ⟨k, hk, rfl, LA, Lc, GA, Gc, hrow, hrowz, hL, hG, hLp, hGp, hbel, hpb⟩ := hrel
    obtain ⟨told, got, hI⟩ := HIN.out k
    have hll := hI.llen
    have hgl := hI.glen
    have hgn := hI.gn
    have hbits := hI.bits
    clear hI
    by_cases hlt : k < fs.length
    · obtain ⟨tb, tq, rfl, htb, htx⟩ := hcells (by omega)
      have hcell : wr.cell? ⟨tb, tq + k, none⟩ = some (.int .i64 fs[k]) := (hbel.cell (p := ⟨tb, tq + k, none⟩) htb).trans ((htx k (by rw [ics_len]; exact hlt)).trans (by simp [ics]))
      have HT := Lib.hid (runF_take (p0 ts) fs k hlt)
      have hft := H3.out k hlt
      have HCELLS := Lib.hid htx; clear htx hcells
      generalize fs[k] = f at *
      generalize runF (p0 ts) (fs.take k) = p at *
      have HS := Lib.hid (step_ok (.agg #[.int .i64 p.s, .int .i64 p.t, .slice LA p.ls.length Lc, .slice GA p.gs.length Gc]) p f wr ⟨_, _, rfl, Kt.Ar.of_sl hL, Kt.Ar.of_sl hG⟩ hbits.1 hbits.2 hft (by omega) (by omega))
      have hpw : w1.heap.size < wr.heap.size := (Array.getElem?_eq_some_iff.1 hrow).1
      clear hll hgl hgn hbits hft
      have hc := fun i => cell_of_row _ _ i _ _ _ hrow
      go_wp2_with fail
      refine HS.out.mono ?_
      rintro en w2 ⟨v, rfl, ⟨L', G', rfl, hL', hG'⟩, hb2⟩
      obtain ⟨LA', Lc', rfl, _, _⟩ := hL'.form
      obtain ⟨GA', Gc', rfl, _, _⟩ := hG'.form
      have hrow2 := (hb2.block _ hpw).trans hrow
      have hrowz2 := (hb2.block _ (by omega)).trans hrowz
      have hbel2 := Kt.bthen hbel hb2
      clear hc hL hG hLp hGp
      go_wp2_with (refine wpList_store_row rfl 25 (.tmp 6) (.tmp 33) rfl w1.heap.size #[.int .i64 (stepF p f).s, .int .i64 (stepF p f).t, .slice LA' (stepF p f).ls.length Lc', .slice GA' (stepF p f).gs.length Gc'] rfl rfl 25 _ hrow2 info_pipe rfl (by simp [Value.oneCell']) ?_)
      go_roundw
      case rel =>
        refine ⟨k + 1, by omega, by go_num, ?_⟩
        rw [HT.out]
        refine ⟨LA', Lc', GA', Gc', setRow_heap _ _ _ _ _ _ hrow2, (setRow_other _ _ _ _ (by omega)).trans hrowz2, ?_, ?_, fun j hj => by have := (hL'.lt j hj).1; omega, fun j hj => by have := (hG'.lt j hj).1; omega, brow hbel2 (by omega) _, hpb⟩
        · exact (hL'.mono (by omega)).keep fun j hj => setRow_other _ _ _ _ (by have := (hL'.lt j hj).1; omega)
        · exact (hG'.mono (by omega)).keep fun j hj => setRow_other _ _ _ _ (by have := (hG'.lt j hj).1; omega)
      case measure => simp [intOf]; omega
    · clear hll hgl hgn hbits
      obtain rfl : k = fs.length := by omega
      rw [List.take_length] at *
      generalize runF (p0 ts) fs = p at *
      have hc := fun i => cell_of_row _ _ i _ _ _ hrow
      have hcz := fun i => cell_of_row _ _ i _ _ _ hrowz
      have hfz := fun i => frozen_of_row _ _ i _ _ hrowz
      go_wp2_with fail
      refine bodyPost_ret (v := .tuple #[.agg #[.int .i64 p.s, .int .i64 p.t, .slice LA p.ls.length Lc, .slice GA p.gs.length Gc], .int .i64 0]) (by simp [results, Try.results8, go_sem, hc, hcz]) rfl ⟨_, rfl, ⟨_, _, rfl, ?_, ?_⟩, ?_⟩
      · have hs1 := hL.mono (B' := w.heap.size) (by omega)
        repeat (first | with_reducible exact hs1 | refine Kt.Sl.set ?_ (fun k hk => by have := (hL.lt k hk).1; simp; omega) _)
      · have hs1 := hG.mono (B' := w.heap.size) (by omega)
        repeat (first | with_reducible exact hs1 | refine Kt.Sl.set ?_ (fun k hk => by have := (hG.lt k hk).1; simp; omega) _)
      · repeat (first | with_reducible exact hbel | refine Kt.bset ?_ (by simp) _)
end Go.Proofs.Ytniffnppfpaniaa
