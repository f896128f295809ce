/- The walks of package pipe: Run with a fate that is none; SamePipe; pipeLives. -/
import Derived.Test.YtniffnppfpaniaaPipR
namespace Go.Proofs.Ytniffnppfpaniaa
open Go.RowKit
theorem equal_true (u v : Value) (n : Nat) (ls : List ByteArray) (w : World) (hn : n = ls.length) (ha : Kt.Ar w u 1 n (sts ls)) (hb : Kt.Ar w v 1 n (sts ls)) (hm : n ≤ 140737488355328) :
    Calls Try.prog 11 #[u, v] w fun e w' => e = .returned (.bool true) ∧ Below w.heap.size w w' := by
  subst hn
  refine (equal_same u v ls ls w ha hb rfl hm).mono fun e w' ⟨h1, h2⟩ => ⟨?_, h2⟩
  rw [h1]; simp
theorem Ar.slice {w : World} {A : Option Addr} {n m c sz : Nat} {xs : List Value} (h : Kt.Ar w (.slice A n c) sz m xs) : n = m := by
  obtain ⟨A', c', e, _⟩ := h.form
  injection e
set_option maxHeartbeats 800000 in
theorem same_true (V U : Value) (p : St) (w : World) (hV : PA w V p) (hU : PA w U p) (h1 : p.ls.length ≤ 8796093022208) (h2 : p.gs.length ≤ 8796093022208) : Calls Try.prog 10 #[V, U] w fun e w' => e = .returned (.bool true) ∧ Below w.heap.size w w' := by
  obtain ⟨L, G, rfl, hL, hG⟩ := hV
  obtain ⟨L', G', rfl, hL', hG'⟩ := hU
  have gL := hL; have gG := hG; have gL' := hL'; have gG' := hG'
  obtain ⟨LA, Lc, rfl, _, _⟩ := hL.form
  obtain ⟨GA, Gc, rfl, _, _⟩ := hG.form
  obtain ⟨LA', Lc', rfl, _, _⟩ := hL'.form
  obtain ⟨GA', Gc', rfl, _, _⟩ := hG'.form
  clear hL hG hL' hG'
  go_enter Try.func10, Try.ntmps10
  go_wp2_with fail
  have hB0 := Kt.balloc (Kt.balloc (Below.refl _ w) (.cells #[.int .i64 p.s, .int .i64 p.t, .slice LA p.ls.length Lc, .slice GA p.gs.length Gc] 25)) (.cells #[.int .i64 p.s, .int .i64 p.t, .slice LA' p.ls.length Lc', .slice GA' p.gs.length Gc'] 25)
  refine (equal_true _ _ _ p.ls _ rfl (gL.on hB0) (gL'.on hB0) (by omega)).mono ?_
  rintro en w1 ⟨rfl, hb1⟩
  obtain ⟨hc1, hf1⟩ := Kt.bcell hb1
  have hz1 : w.heap.size + 1 < w1.heap.size := by have := hb1.size; simp at this; omega
  have hB1 := Kt.bthen hB0 hb1
  go_wp2_with fail
  refine (equal_true _ _ _ p.gs _ rfl (gG.on hB1) (gG'.on hB1) (by omega)).mono ?_
  rintro en w2 ⟨rfl, hb2⟩
  go_wp2_with fail
  go_ret
  exact ⟨rfl, Kt.bthen hB1 hb2⟩
set_option maxHeartbeats 1600000 in
theorem run_bad (V U : Value) (ts : List ByteArray) (fs : List Int) (w : World) (hV : Kt.Ar w V 1 ts.length (sts ts)) (hU : Kt.Ar w U 1 fs.length (ics fs)) (h1 : (ts.length : Int) ≤ 200) (h2 : (fs.length : Int) ≤ 1000) (hin : ∀ k, ∃ told got, Inv ts (runF (p0 ts) (fs.take k)) told got) (m : Nat) (hm : m < fs.length) (hbad : ¬ fated fs[m]) (h3 : ∀ k (hk : k < fs.length), k < m → fated fs[k]) : Calls Try.prog 8 #[V, U] w (Fails w 1) := by
  have HBAD := Lib.hid hbad; clear hbad; have H3 := Lib.hid h3; have HIN := Lib.hid hin; clear h3 hin
  have h0 := hV
  obtain ⟨A, c, rfl, _, _⟩ := hV.form
  obtain ⟨A', c', rfl, hAc', hcells⟩ := hU.form
  go_enter Try.func8, Try.ntmps8
  go_wp2_with fail
  refine (new_ok _ ts _ (h0.on (Kt.balloc (Below.refl _ w) _)) h1).mono ?_
  rintro en w1 ⟨v, rfl, ⟨L, G, rfl, hL, hG⟩, hb⟩
  dsimp only at hL hG
  obtain ⟨LA, Lc, rfl, _, _⟩ := hL.form
  obtain ⟨GA, Gc, rfl, _, _⟩ := hG.form
  have hrow := (hb.block w.heap.size (by simp)).trans (heap_alloc_new w (.cells #[.int .i64 0, .int .i64 0, .slice none 0 0, .slice none 0 0] 25))
  have hbel := Kt.bthen (Kt.balloc (Below.refl _ w) (.cells #[.int .i64 0, .int .i64 0, .slice none 0 0, .slice none 0 0] 25)) hb
  have hz : w.heap.size < w1.heap.size := by have := hb.size; simp at this; omega
  have HR0 : RunRel w w1.heap.size (runF (p0 ts) (fs.take 0)) (w1.alloc (.cells #[.int .i64 0, .int .i64 0, .slice LA ts.length Lc, .slice GA 0 Gc] 25)) :=
    ⟨LA, Lc, GA, Gc, heap_alloc_new w1 _, (Below.heap_alloc w1 _ _ hz).trans hrow, (hL.mono (by simp)).alloc _, (hG.mono (by simp)).alloc _, fun k hk => by have := (hL.lt k hk).2; omega, fun k hk => by have := (hG.lt k hk).2; omega, Kt.balloc hbel _, hz⟩
  clear hL hG hb hrow hbel h0 hV
  go_wp2_with fail
  go_loopw [25] (fun i wr => ∃ k : Nat, k ≤ m ∧ i = .int .i64 k ∧ RunRel w w1.heap.size (runF (p0 ts) (fs.take k)) wr) (fun i _ => fs.length - (intOf i).toNat)
  case atStart => exact ⟨0, Nat.zero_le _, rfl, HR0⟩
  case round =>
    clear HR0
    obtain ⟨k, hk, rfl, LA, Lc, GA, Gc, hrow, hrowz, hL, hG, hLp, hGp, hbel, hpb⟩ := hrel
    obtain ⟨told, got, hI⟩ := HIN.out k
    have hll := hI.llen
    have hgl := hI.glen
    have hgn := hI.gn
    have hbits := hI.bits
    clear hI
    have hlt : k < fs.length := by omega
    by_cases hkm : k < m
    · obtain ⟨tb, tq, rfl, htb, htx⟩ := hcells (by omega)
      have hcell : wr.cell? ⟨tb, tq + k, none⟩ = some (.int .i64 fs[k]) := (hbel.cell (p := ⟨tb, tq + k, none⟩) htb).trans ((htx k (by rw [ics_len]; exact hlt)).trans (by simp [ics]))
      have HT := Lib.hid (runF_take (p0 ts) fs k hlt)
      have hft := H3.out k hlt hkm
      have HCELLS := Lib.hid htx; clear htx hcells
      generalize fs[k] = f at *
      generalize runF (p0 ts) (fs.take k) = p at *
      have HS := Lib.hid (step_ok (.agg #[.int .i64 p.s, .int .i64 p.t, .slice LA p.ls.length Lc, .slice GA p.gs.length Gc]) p f wr ⟨_, _, rfl, Kt.Ar.of_sl hL, Kt.Ar.of_sl hG⟩ hbits.1 hbits.2 hft (by omega) (by omega))
      have hpw : w1.heap.size < wr.heap.size := (Array.getElem?_eq_some_iff.1 hrow).1
      clear hll hgl hgn hbits hft
      have hc := fun i => cell_of_row _ _ i _ _ _ hrow
      go_wp2_with fail
      refine HS.out.mono ?_
      rintro en w2 ⟨v, rfl, ⟨L', G', rfl, hL', hG'⟩, hb2⟩
      obtain ⟨LA', Lc', rfl, _, _⟩ := hL'.form
      obtain ⟨GA', Gc', rfl, _, _⟩ := hG'.form
      have hrow2 := (hb2.block _ hpw).trans hrow
      have hrowz2 := (hb2.block _ (by omega)).trans hrowz
      have hbel2 := Kt.bthen hbel hb2
      clear hc hL hG hLp hGp
      go_wp2_with (refine wpList_store_row rfl 25 (.tmp 6) (.tmp 33) rfl w1.heap.size #[.int .i64 (stepF p f).s, .int .i64 (stepF p f).t, .slice LA' (stepF p f).ls.length Lc', .slice GA' (stepF p f).gs.length Gc'] rfl rfl 25 _ hrow2 info_pipe rfl (by simp [Value.oneCell']) ?_)
      go_roundw
      case rel =>
        refine ⟨k + 1, by omega, by go_num, ?_⟩
        rw [HT.out]
        refine ⟨LA', Lc', GA', Gc', setRow_heap _ _ _ _ _ _ hrow2, (setRow_other _ _ _ _ (by omega)).trans hrowz2, ?_, ?_, fun j hj => by have := (hL'.lt j hj).1; omega, fun j hj => by have := (hG'.lt j hj).1; omega, brow hbel2 (by omega) _, hpb⟩
        · exact (hL'.mono (by omega)).keep fun j hj => setRow_other _ _ _ _ (by have := (hL'.lt j hj).1; omega)
        · exact (hG'.mono (by omega)).keep fun j hj => setRow_other _ _ _ _ (by have := (hG'.lt j hj).1; omega)
      case measure => simp [intOf]; omega
    · obtain rfl : k = m := by omega
      obtain ⟨tb, tq, rfl, htb, htx⟩ := hcells (by omega)
      have hcell : wr.cell? ⟨tb, tq + k, none⟩ = some (.int .i64 fs[k]) := (hbel.cell (p := ⟨tb, tq + k, none⟩) htb).trans ((htx k (by rw [ics_len]; exact hlt)).trans (by simp [ics]))
      have hft := HBAD.out
      clear htx hcells HBAD H3
      generalize fs[k] = f at *
      generalize runF (p0 ts) (fs.take k) = p at *
      have HS := Lib.hid (step_arg (.agg #[.int .i64 p.s, .int .i64 p.t, .slice LA p.ls.length Lc, .slice GA p.gs.length Gc]) p f wr ⟨_, _, rfl, Kt.Ar.of_sl hL, Kt.Ar.of_sl hG⟩ (.inr ⟨hbits.1, hbits.2, by unfold fated at hft; omega⟩))
      have hpw : w1.heap.size < wr.heap.size := (Array.getElem?_eq_some_iff.1 hrow).1
      clear hll hgl hgn hbits hft
      have hc := fun i => cell_of_row _ _ i _ _ _ hrow
      go_wp2_with fail
      refine HS.out.mono ?_
      rintro en w2 ⟨rfl, hb2⟩
      have hrow2 := (hb2.block _ hpw).trans hrow
      have hrowz2 := (hb2.block _ (by omega)).trans hrowz
      have hbel2 := Kt.bthen hbel hb2
      clear hc hL hG hLp hGp
      unfold zeroP
      go_wp2_with (refine wpList_store_row rfl 25 (.tmp 6) (.tmp 33) rfl w1.heap.size #[.int .i64 0, .int .i64 0, .slice none 0 0, .slice none 0 0] rfl rfl 25 _ hrow2 info_pipe rfl (by simp [Value.oneCell']) ?_; have rz3 := (setRow_other w2 w1.heap.size w.heap.size #[.int .i64 0, .int .i64 0, .slice none 0 0, .slice none 0 0] (by omega)).trans hrowz2; have hcz := fun i => cell_of_row _ _ i _ _ _ rz3; have hfz := fun i => frozen_of_row _ _ i _ _ rz3)
      refine bodyPost_ret (v := .tuple #[zeroP, .int .i64 1]) (by simp [zeroP, results, Try.results8, go_sem, hcz]) rfl ⟨rfl, ?_⟩
      have hbel3 := brow hbel2 (g := w1.heap.size) (by omega) #[.int .i64 0, .int .i64 0, .slice none 0 0, .slice none 0 0]
      repeat (first | with_reducible exact hbel3 | refine Kt.bset ?_ (by simp) _)
def endP : St := ⟨1, 0, [⟨#[98]⟩], [⟨#[97]⟩, ⟨#[98]⟩]⟩
theorem lives_run : runF (p0 [⟨#[97]⟩, ⟨#[98]⟩]) [3, 1, 2, 3] = endP := by rfl
theorem lives_inv : ∀ k, ∃ told got, Inv [⟨#[97]⟩, ⟨#[98]⟩] (runF (p0 [⟨#[97]⟩, ⟨#[98]⟩]) (([3, 1, 2, 3] : List Int).take k)) told got := fun k => by
  obtain ⟨g, h⟩ := run_from [⟨#[97]⟩, ⟨#[98]⟩] (([3, 1, 2, 3] : List Int).take k)
  exact ⟨_, g, h⟩
theorem fated_of {fs : List Int} (h : fs.all (fun f => decide (1 ≤ f ∧ f ≤ 5)) = true) : ∀ k (hk : k < fs.length), fated fs[k] := fun k hk => by
  have := List.all_eq_true.1 h fs[k] (List.getElem_mem hk)
  simpa [fated] using this
theorem ar_new {w' : World} {cs : Array Value} {e : TypeId} {n : Nat} {b c : Nat} (hw : w'.heap[b]? = some (.cells cs e (0, 0))) (hn : cs.size = n) (hc : n ≤ c) : Kt.Ar w' (.slice (some ⟨b, 0, none⟩) n c) 1 n cs.toList := by
  subst hn
  refine ⟨by simp, _, c, rfl, hc, fun _ => ⟨b, 0, rfl, (Array.getElem?_eq_some_iff.1 hw).1, fun j hj => ?_⟩⟩
  rw [cell_of_row w' b (0 + j) cs e (0, 0) hw]
  simp at hj
  simp [hj]
set_option maxHeartbeats 1600000 in
theorem lives_calls (w : World) : Calls Try.prog 9 #[] w fun e w' => e = .returned (.bool true) ∧ Below w.heap.size w w' := by
  go_enter Try.func9, Try.ntmps9
  go_wp2_with fail
  have hB0 := Kt.balloc (Kt.balloc (Below.refl _ w) (.cells #[.string ⟨#[97]⟩, .string ⟨#[98]⟩] 9)) (.cells #[.int .i64 3, .int .i64 1, .int .i64 2, .int .i64 3] 3)
  have a0 := ar_new (heap_alloc2_old w (.cells #[.string ⟨#[97]⟩, .string ⟨#[98]⟩] 9) (.cells #[.int .i64 3, .int .i64 1, .int .i64 2, .int .i64 3] 3)) rfl (Nat.le_refl 2)
  have a1 := ar_new (heap_alloc2_new w (.cells #[.string ⟨#[97]⟩, .string ⟨#[98]⟩] 9) (.cells #[.int .i64 3, .int .i64 1, .int .i64 2, .int .i64 3] 3)) rfl (Nat.le_refl 4)
  have HR := Lib.hid (run_good _ _ [⟨#[97]⟩, ⟨#[98]⟩] [3, 1, 2, 3] _ a0 a1 (by simp) (by simp) lives_inv (fated_of (by decide)))
  rw [lives_run] at HR
  clear a0 a1
  refine HR.out.mono ?_
  rintro en w1 ⟨v, rfl, ⟨L, G, rfl, hL, hG⟩, hb1⟩
  dsimp only [endP] at hL hG ⊢
  obtain ⟨LA, Lc, rfl, _, _⟩ := hL.form
  obtain ⟨GA, Gc, rfl, _, _⟩ := hG.form
  have hB1 := Kt.bthen hB0 hb1
  go_wp2_with fail
  have hB2 := Kt.balloc (Kt.balloc (Below.refl _ w1) (.cells #[.int .i64 1, .int .i64 0, .slice LA 1 Lc, .slice GA 2 Gc] 25)) (.cells #[.string ⟨#[98]⟩] 9)
  have hBB := Kt.bthen hB1 hB2
  have a2 := ar_new (heap_alloc2_new w1 (.cells #[.int .i64 1, .int .i64 0, .slice LA 1 Lc, .slice GA 2 Gc] 25) (.cells #[.string ⟨#[98]⟩] 9)) rfl (Nat.le_refl 1)
  have hrow := heap_alloc2_old w1 (.cells #[.int .i64 1, .int .i64 0, .slice LA 1 Lc, .slice GA 2 Gc] 25) (.cells #[.string ⟨#[98]⟩] 9)
  refine (equal_true _ _ 1 [⟨#[98]⟩] _ rfl ((Kt.Ar.of_sl hL).on hB2) a2 (by omega)).mono ?_
  rintro en w2 ⟨rfl, hb2⟩
  have hrow2 := (hb2.block w1.heap.size (by simp; omega)).trans hrow
  have hc := fun i => cell_of_row _ _ i _ _ _ hrow2
  have hB3 := Kt.bthen hB2 hb2
  have hBB3 := Kt.bthen hB1 hB3
  clear a2 hrow hB2 hb2 hBB
  go_wp2_with fail
  have a3 := ar_new (heap_alloc_new w2 (.cells #[.string ⟨#[97]⟩, .string ⟨#[98]⟩] 9)) rfl (Nat.le_refl 2)
  refine (equal_true _ _ 2 [⟨#[97]⟩, ⟨#[98]⟩] _ rfl ((Kt.Ar.of_sl hG).on (Kt.balloc hB3 _)) a3 (by omega)).mono ?_
  rintro en w4 ⟨rfl, hb4⟩
  go_wp2_with fail
  go_ret
  exact ⟨rfl, Kt.bthen (Kt.balloc hBB3 _) hb4⟩
end Go.Proofs.Ytniffnppfpaniaa
