/- The walks of package strike: Carry. -/
import Derived.Test.YtafiedhjjnapoaaStkA
import Derived.Test.YtafiedhjjnapoaaSlm
import Derived.Deep.CutBlock
import Derived.Deep.CutRange
import Derived.Outline
namespace Go.Proofs.Ytafiedhjjnapoaa
open Go.RowKit
def errs (e f : Int) : Int := if f = 2 ∨ f = 3 then e + 1 else if f = 1 then 0 else e
/-- what comes of the fates: the code, the pipe, how many were used -/
def carF (p : St) (e : Int) (n : Nat) : List Int → Int × St × Nat
  | [] => (10, p, n)
  | f :: r => if f = 5 then (8, p, n + 1) else if (stepF p f).ls = [] then (0, stepF p f, n + 1) else if errs e f = 3 then (9, stepF p f, n + 1) else carF (stepF p f) (errs e f) (n + 1) r
theorem carF_stall (p : St) (e : Int) (n : Nat) (r : List Int) : carF p e n (5 :: r) = (8, p, n + 1) := by unfold carF; rw [if_pos rfl]
theorem carF_ok (p : St) (e : Int) (n : Nat) (f : Int) (r : List Int) (h : f ≠ 5) (h1 : (stepF p f).ls = []) : carF p e n (f :: r) = (0, stepF p f, n + 1) := by
  unfold carF; rw [if_neg h, if_pos h1]
theorem carF_bus (p : St) (e : Int) (n : Nat) (f : Int) (r : List Int) (h : f ≠ 5) (h1 : (stepF p f).ls ≠ []) (h2 : errs e f = 3) : carF p e n (f :: r) = (9, stepF p f, n + 1) := by
  unfold carF; rw [if_neg h, if_neg h1, if_pos h2]
theorem carF_on (p : St) (e : Int) (n : Nat) (f : Int) (r : List Int) (h : f ≠ 5) (h1 : (stepF p f).ls ≠ []) (h2 : errs e f ≠ 3) : carF p e n (f :: r) = carF (stepF p f) (errs e f) (n + 1) r := by
  conv => lhs; unfold carF
  rw [if_neg h, if_neg h1, if_neg h2]
theorem info_pipe : (Try.prog.info? 121).map (·.size) = some 4 := by kernel_rfl
theorem brow {B : Nat} {w a : World} (h : Below B w a) {g : Nat} (hg : B ≤ g) (cs : Array Value) : Below B w (a.setRow g cs) :=
  h.trans ⟨rfl, rfl, rfl, by simp, fun k hk => setRow_other a g k cs (by omega)⟩
def CarRel (w1 : World) (pb : Nat) (code : Int) (p : St) (used : Nat) (wr : World) : Prop := ∃ LA Lc GA Gc,
  wr.heap[pb]? = some (.cells #[.int .i64 p.s, .int .i64 p.t, .slice LA p.ls.length Lc, .slice GA p.gs.length Gc] 121 (0, 0)) ∧
  wr.heap[pb + 1]? = some (.cells #[.int .i64 code, .string ⟨#[]⟩, .int .i64 0, .int .i64 used] 111 (0, 0)) ∧
  Kt.Sl wr w1.heap.size 9 1 (.slice LA p.ls.length Lc) p.ls.length (sts p.ls) ∧ Kt.Sl wr w1.heap.size 9 1 (.slice GA p.gs.length Gc) p.gs.length (sts p.gs) ∧
  (∀ k, (Value.slice LA p.ls.length Lc).ownBlock = some k → k ≠ pb ∧ k ≠ pb + 1) ∧ (∀ k, (Value.slice GA p.gs.length Gc).ownBlock = some k → k ≠ pb ∧ k ≠ pb + 1) ∧ Below w1.heap.size w1 wr ∧ w1.heap.size ≤ pb
def carV (code : Int) (got : List UInt8) (done used : Nat) : Value := .agg #[.int .i64 code, .string ⟨got.toArray⟩, .int .i64 done, .int .i64 used]
def doneOf (l : List ByteArray) (p : St) : Nat := (cat (l.take (l.length - p.ls.length))).length
def carOf (l : List ByteArray) (r : Int × St × Nat) : Value := carV r.1 (cat r.2.1.gs) (doneOf l r.2.1) r.2.2
def p0 (ts : List ByteArray) : St := ⟨0, 0, ts, []⟩
def Car (t : ByteArray) (s : Int) (fs : List Int) (w : World) (e : Ending) (w' : World) : Prop :=
  (OkArgs t s fs ∧ e = .returned (.tuple #[carOf (chop s.toNat t) (carF (p0 (chop s.toNat t)) 0 0 fs), .int .i64 0]) ∧ Below w.heap.size w w') ∨
  (¬ OkArgs t s fs ∧ ∃ n : Int, (n ≠ 0 ∧ n = errC t s fs) ∧ e = .returned (.tuple #[carV 0 [] 0 0, .int .i64 n]) ∧ Below w.heap.size w w')
theorem join_calls (V : Value) (xs : List ByteArray) (w : World) (h : Kt.Ar w V 1 xs.length (sts xs)) (hn : xs.length ≤ 140737488355328) (hl : (cat xs).length ≤ 140737488355328) : Calls Try.prog 13 #[V, .string ⟨#[]⟩] w fun e w' => e = .returned (.string ⟨(cat xs).toArray⟩) ∧ Below w.heap.size w w' := by
  obtain ⟨A, c, rfl, hc, hx⟩ := h.form
  by_cases h0 : 0 < xs.length
  · obtain ⟨b, o, rfl, hb, hx⟩ := hx h0
    have hj := Try.strings_Join b o c xs ⟨#[]⟩ w (fun j x hj => by
      have hlt : j < xs.length := (List.getElem?_eq_some_iff.1 hj).1
      rw [hx j (by rw [sts_len]; exact hlt)]
      have := (List.getElem?_eq_some_iff.1 hj).2
      simp [sts, this]) hb hn hc (by rw [join_cat]; exact hl)
    rw [join_cat] at hj
    exact hj
  · obtain rfl : xs = [] := List.eq_nil_of_length_eq_zero (by omega)
    exact (Try.strings_Join_none A c ⟨#[]⟩ w).mono fun e w' ⟨h1, h2⟩ => ⟨h1, h2 ▸ Below.refl _ _⟩
theorem car_next {w1 wr w3 : World} {pb k : Nat} {q p : St} {LA LA' GA GA' : Option Addr} {Lc Lc' Gc Gc' : Nat} {x : Value} (hrow : wr.heap[pb]? = some (.cells #[.int .i64 p.s, .int .i64 p.t, .slice LA p.ls.length Lc, .slice GA p.gs.length Gc] 121 (0, 0)))
    (hrowc : wr.heap[pb + 1]? = some (.cells #[.int .i64 10, .string ⟨#[]⟩, .int .i64 0, x] 111 (0, 0))) (hbel : Below w1.heap.size w1 wr) (hpb : w1.heap.size ≤ pb)
    (hb : Below (wr.setCell ⟨pb + 1, 3, none⟩ (.int .i64 ((k : Int) + 1))).heap.size (wr.setCell ⟨pb + 1, 3, none⟩ (.int .i64 ((k : Int) + 1))) w3)
    (hL : Kt.Sl w3 (wr.setCell ⟨pb + 1, 3, none⟩ (.int .i64 ((k : Int) + 1))).heap.size 9 1 (.slice LA' q.ls.length Lc') q.ls.length (sts q.ls))
    (hG : Kt.Sl w3 (wr.setCell ⟨pb + 1, 3, none⟩ (.int .i64 ((k : Int) + 1))).heap.size 9 1 (.slice GA' q.gs.length Gc') q.gs.length (sts q.gs)) :
    CarRel w1 pb 10 q (k + 1) (w3.setRow pb #[.int .i64 q.s, .int .i64 q.t, .slice LA' q.ls.length Lc', .slice GA' q.gs.length Gc']) := by
  have hz : pb + 1 < wr.heap.size := (Array.getElem?_eq_some_iff.1 hrowc).1
  have hz2 : (wr.setCell ⟨pb + 1, 3, none⟩ (.int .i64 ((k : Int) + 1))).heap.size = wr.heap.size := by simp [World.setCell]
  rw [hz2] at hL hG
  have hr : w3.heap[pb]? = _ := (hb.block pb (by rw [hz2]; omega)).trans ((heap_setCell_other _ _ _ _ (by simp)).trans hrow)
  have hrc : w3.heap[pb + 1]? = _ := (hb.block (pb + 1) (by rw [hz2]; omega)).trans (heap_setCell_same _ _ 3 _ _ (.int .i64 ((k : Int) + 1)) hrowc)
  have hb2 : Below w1.heap.size w1 w3 := (Kt.bset hbel (by simp; omega) _).trans (hb.mono (by rw [hz2]; exact hbel.size))
  refine ⟨LA', Lc', GA', Gc', setRow_heap _ _ _ _ _ _ hr, (setRow_other _ _ _ _ (by omega)).trans ?_, ?_, ?_, fun j hj => by have := (hL.lt j hj).1; omega, fun j hj => by have := (hG.lt j hj).1; omega, brow hb2 (by omega) _, hpb⟩
  · rw [hrc]; simp
  · exact (hL.mono (by have := hbel.size; omega)).keep fun j hj => setRow_other _ _ _ _ (by have := (hL.lt j hj).1; omega)
  · exact (hG.mono (by have := hbel.size; omega)).keep fun j hj => setRow_other _ _ _ _ (by have := (hG.lt j hj).1; omega)
theorem CarRel.code {w1 W : World} {pb n : Nat} {c : Int} {q : St} (h : CarRel w1 pb c q n W) (d : Int) : CarRel w1 pb d q n (W.setCell ⟨pb + 1, 0, none⟩ (.int .i64 d)) := by
  obtain ⟨LA, Lc, GA, Gc, h1, h2, h3, h4, h5, h6, h7, h8⟩ := h
  refine ⟨LA, Lc, GA, Gc, (heap_setCell_other _ _ _ _ (by simp)).trans h1, (heap_setCell_same _ _ 0 _ _ (.int .i64 d) h2).trans (by simp), h3.set (fun k hk => (h5 k hk).2) _, h4.set (fun k hk => (h6 k hk).2) _, h5, h6, Kt.bset h7 (by simp; omega) _, h8⟩
theorem car_used {w1 wr : World} {pb k : Nat} {p : St} (h : CarRel w1 pb 10 p k wr) : CarRel w1 pb 10 p (k + 1) (wr.setCell ⟨pb + 1, 3, none⟩ (.int .i64 ((k : Int) + 1))) := by
  obtain ⟨LA, Lc, GA, Gc, h1, h2, h3, h4, h5, h6, h7, h8⟩ := h
  refine ⟨LA, Lc, GA, Gc, (heap_setCell_other _ _ _ _ (by simp)).trans h1, (heap_setCell_same _ _ 3 _ _ (.int .i64 ((k : Int) + 1)) h2).trans (by simp), h3.set (fun k hk => (h5 k hk).2) _, h4.set (fun k hk => (h6 k hk).2) _, h5, h6, Kt.bset h7 (by simp; omega) _, h8⟩
theorem Kt.foldL {P : Program} {ops : Array Oper} {Q : Exit → Act → World → Prop} {rest : List Oper} {a : Act} {w : World} (R : World → Prop) (h : R w) (k : ∀ W, R W → wpList P ops Q rest a W) : wpList P ops Q rest a w := k w h
set_option maxRecDepth 100000 in
set_option maxHeartbeats 1600000 in
theorem carry_calls (t : ByteArray) (s : Int) (fs : List Int) (U : Value) (w : World) (hU : Kt.Ar w U 1 fs.length (ics fs)) : Calls Try.prog 66 #[.string t, .int .i64 s, U] w (Car t s fs w) := by
  have hU0 := hU
  obtain ⟨UA, uc, rfl, huc, hcells⟩ := hU.form
  have HC := Lib.hid hcells
  clear hU hcells
  go_enter Try.func66, Try.ntmps66
  go_wp2_with fail
  refine (args_calls t s fs _ _ (hU0.on (Kt.balloc (Below.refl _ w) _))).mono ?_
  rintro en w1 (⟨hok, V, rfl, hs, hb⟩ | ⟨hno, n, hn, rfl, hb⟩)
  · have HOK := Lib.hid hok; clear hok
    have hrow0 := Kt.box1 hb
    have hbel0 := Kt.bthen (Kt.balloc (Below.refl _ w) _) hb
    have hz0 : w.heap.size < w1.heap.size := by have := hb.size; rw [World.size_alloc] at this; omega
    have HAR := Lib.hid (Kt.Ar.of_sl hs)
    obtain ⟨VA, vc, rfl, _, _⟩ := hs.form
    obtain ⟨l, hl⟩ : ∃ l, l = chop s.toNat t := ⟨_, rfl⟩
    rw [← hl] at hs HAR
    have h200 : l.length ≤ 200 := by rw [hl]; exact HOK.out.n
    rw [← hl]
    have HL := Lib.hid hl; clear hl hb hs
    go_wp2_with fail
    refine (new_ok _ l _ HAR.out (by omega)).mono ?_
    rintro en w2 ⟨v, rfl, ⟨L, G, rfl, hL, hG⟩, hb⟩
    dsimp only at hL hG
    obtain ⟨LA, Lc, rfl, _, _⟩ := hL.form
    obtain ⟨GA, Gc, rfl, _, _⟩ := hG.form
    go_upto_block 0 with (fail)
    have hz2 := hb.size
    have HREL : CarRel w1 w2.heap.size 10 (p0 l) 0 ((w2.alloc (.cells #[.int .i64 0, .int .i64 0, .slice LA l.length Lc, .slice GA 0 Gc] 121)).alloc (.cells #[.int .i64 10, .string ⟨#[]⟩, .int .i64 0, .int .i64 0] 111)) :=
      ⟨LA, Lc, GA, Gc, heap_alloc2_old w2 _ _, heap_alloc2_new w2 _ _, (hL.alloc _).alloc _, (hG.alloc _).alloc _, fun k hk => by have := (hL.lt k hk).2; omega, fun k hk => by have := (hG.lt k hk).2; omega, Kt.balloc (Kt.balloc hb _) _, hz2⟩
    clear hb hL hG
    obtain ⟨R, hR⟩ : ∃ R, R = carF (p0 l) 0 0 fs := ⟨_, rfl⟩
    have HRR := Lib.hid hR; clear hR
    go_cut [13, 15] from 37 to 70 (fun _ _ wx => CarRel w1 w2.heap.size R.1 R.2.1 R.2.2 wx ∧ ∃ told got, Inv l R.2.1 told got)
    case first =>
      go_wp2_with fail
      go_loopw [13, 37] (fun ee i wr => ∃ (k : Nat) (p : St) (e : Int), k ≤ fs.length ∧ i = .int .i64 k ∧ ee = .int .i64 e ∧ 0 ≤ e ∧ e ≤ 2 ∧ CarRel w1 w2.heap.size 10 p k wr ∧ (∃ told got, Inv l p told got) ∧ Hid (carF p e k (fs.drop k) = R)) (fun _ i _ => fs.length - (intOf i).toNat)
      case atStart => exact ⟨0, p0 l, 0, Nat.zero_le _, rfl, rfl, by omega, by omega, HREL, ⟨0, 0, inv_start l⟩, Lib.hid HRR.out.symm⟩
      case round =>
        clear HREL
        obtain ⟨k, p, e, hk, rfl, rfl, he0, he2, ⟨LA, Lc, GA, Gc, hrow, hrowc, hL, hG, hLp, hGp, hbel, hpb⟩, ⟨told, got, hI⟩, HRES⟩ := hrel
        have HI := Lib.hid hI
        have hll := hI.llen
        have hgl := hI.glen
        have hgn := hI.gn
        have hbits := hI.bits
        clear hI
        by_cases hlt : k < fs.length
        · obtain ⟨tb, tq, rfl, htb, htx⟩ := HC.out (by omega)
          have hcell : wr.cell? ⟨tb, tq + k, none⟩ = some (.int .i64 fs[k]) := (hbel.cell (p := ⟨tb, tq + k, none⟩) (by show tb < _; omega)).trans ((hbel0.cell (p := ⟨tb, tq + k, none⟩) htb).trans ((htx k (by rw [ics_len]; exact hlt)).trans (by simp [ics])))
          clear htx
          have HD := Lib.hid (show fs.drop k = fs[k] :: fs.drop (k + 1) from (List.getElem_cons_drop hlt).symm)
          have hft := HOK.out.all k hlt
          have hrel0 : CarRel w1 w2.heap.size 10 p k wr := ⟨LA, Lc, GA, Gc, hrow, hrowc, hL, hG, hLp, hGp, hbel, hpb⟩
          generalize fs[k] = f at *
          have hc := fun i => cell_of_row _ _ i _ _ _ hrow
          have hcc := fun i => cell_of_row _ _ i _ _ _ hrowc
          have hfc := fun i => frozen_of_row _ _ i _ _ hrowc
          have hk1000 : k ≤ 1000 := by have := HOK.out.f; omega
          by_cases hf5 : f = 5
          · subst hf5
            clear hft hll hgl hgn hbits
            go_wp2_with fail
            go_meet
            refine ⟨?_, told, got, ?_⟩
            · have h := (car_used hrel0).code 8
              rw [← HRES.out, HD.out, carF_stall]
              exact h
            · rw [← HRES.out, HD.out, carF_stall]; exact HI.out
          · have hf4 : f = 1 ∨ f = 2 ∨ f = 3 ∨ f = 4 := by obtain ⟨a, b⟩ := hft; omega
            have HS := Lib.hid (step_ok (.agg #[.int .i64 p.s, .int .i64 p.t, .slice LA p.ls.length Lc, .slice GA p.gs.length Gc]) p f (wr.setCell ⟨w2.heap.size + 1, 3, none⟩ (.int .i64 ((k : Int) + 1))) ⟨_, _, rfl, Kt.Ar.of_sl (hL.set (fun k hk => (hLp k hk).2) _), Kt.Ar.of_sl (hG.set (fun k hk => (hGp k hk).2) _)⟩ hbits.1 hbits.2 hft (by omega) (by omega))
            have HT := Lib.hid (show ∃ told got, Inv l (stepF p f) told got by obtain ⟨g, h⟩ := HI.out.step f; exact ⟨_, g, h⟩)
            clear hft hll hgl hgn hbits hL hG hLp hGp hrel0
            rcases hf4 with rfl | rfl | rfl | rfl
            · clear hf5
              go_wp2_with fail
              refine HS.out.mono ?_
              rintro en w3 ⟨v, rfl, ⟨L', G', rfl, hL', hG'⟩, hb2⟩
              have HN : Hid (errs e 1 = 0) := Lib.hid (by simp [errs])
              obtain ⟨LA', Lc', rfl, _, _⟩ := hL'.form
              obtain ⟨GA', Gc', rfl, _, _⟩ := hG'.form
              have hz : w2.heap.size + 1 < wr.heap.size := (Array.getElem?_eq_some_iff.1 hrowc).1
              have hrow3 : w3.heap[w2.heap.size]? = _ := (hb2.block w2.heap.size (by simp [World.setCell]; omega)).trans ((heap_setCell_other _ _ _ _ (by simp)).trans hrow)
              have hnx := car_next hrow hrowc hbel hpb hb2 hL' hG'
              clear hb2 hL' hG' hc hcc hfc hrow hrowc hbel
              generalize hq0 : stepF p 1 = q at *
              have HQ := Lib.hid hq0; clear hq0
              by_cases hq : q.ls = []
              · have hq0 : ((q.ls.length : Int) == 0) = true := by rw [beq_iff_eq, hq]; rfl
                have HR2 : Hid ((0, q, k + 1) = R) := Lib.hid (by rw [← HRES.out, HD.out]; rw [carF_ok p e k 1 _ (by omega) (by rw [HQ.out]; exact hq), HQ.out])
                clear hq
                go_wp2_with (
                  refine wpList_store_row rfl 121 (.tmp 10) (.tmp 52) rfl w2.heap.size #[.int .i64 q.s, .int .i64 q.t, .slice LA' q.ls.length Lc', .slice GA' q.gs.length Gc'] rfl rfl 121 _ hrow3 info_pipe rfl (by simp [Value.oneCell']) ?_
                  refine Kt.foldL (fun W => CarRel w1 w2.heap.size 10 q (k + 1) W) hnx (fun W hW => ?_)
                  clear hnx hrow3
                  have hW0 := hW
                  obtain ⟨LA2, Lc2, GA2, Gc2, r1, r2, -, -, -, -, -, -⟩ := hW
                  have hc := fun i => cell_of_row _ _ i _ _ _ r1
                  have hcc := fun i => cell_of_row _ _ i _ _ _ r2
                  have hfc := fun i => frozen_of_row _ _ i _ _ r2
                  clear r1 r2)
                go_meet
                rw [← HR2.out]; exact ⟨hW0.code 0, HT.out⟩
              · have hq0 : ((q.ls.length : Int) == 0) = false := by rw [beq_eq_false_iff_ne]; intro h; exact hq (List.eq_nil_of_length_eq_zero (by omega))
                have HR2 : Hid (carF q 0 (k + 1) (fs.drop (k + 1)) = R) := Lib.hid (by rw [← HRES.out, HD.out, carF_on p e k 1 _ (by omega) (by rw [HQ.out]; exact hq) (by rw [HN.out]; omega), HQ.out, HN.out])
                clear hq
                go_wp2_with (
                  refine wpList_store_row rfl 121 (.tmp 10) (.tmp 52) rfl w2.heap.size #[.int .i64 q.s, .int .i64 q.t, .slice LA' q.ls.length Lc', .slice GA' q.gs.length Gc'] rfl rfl 121 _ hrow3 info_pipe rfl (by simp [Value.oneCell']) ?_
                  refine Kt.foldL (fun W => CarRel w1 w2.heap.size 10 q (k + 1) W) hnx (fun W hW => ?_)
                  clear hnx hrow3
                  have hW0 := hW
                  obtain ⟨LA2, Lc2, GA2, Gc2, r1, r2, -, -, -, -, -, -⟩ := hW
                  have hc := fun i => cell_of_row _ _ i _ _ _ r1
                  have hcc := fun i => cell_of_row _ _ i _ _ _ r2
                  have hfc := fun i => frozen_of_row _ _ i _ _ r2
                  clear r1 r2)
                go_roundw
                case rel => exact ⟨k + 1, q, 0, by omega, by go_num, rfl, by omega, by omega, hW0, HT.out, HR2⟩
                case measure => simp [intOf]; omega
            · clear hf5
              go_wp2_with fail
              refine HS.out.mono ?_
              rintro en w3 ⟨v, rfl, ⟨L', G', rfl, hL', hG'⟩, hb2⟩
              have HN : Hid (errs e 2 = (e + 1)) := Lib.hid (by simp [errs])
              obtain ⟨LA', Lc', rfl, _, _⟩ := hL'.form
              obtain ⟨GA', Gc', rfl, _, _⟩ := hG'.form
              have hz : w2.heap.size + 1 < wr.heap.size := (Array.getElem?_eq_some_iff.1 hrowc).1
              have hrow3 : w3.heap[w2.heap.size]? = _ := (hb2.block w2.heap.size (by simp [World.setCell]; omega)).trans ((heap_setCell_other _ _ _ _ (by simp)).trans hrow)
              have hnx := car_next hrow hrowc hbel hpb hb2 hL' hG'
              clear hb2 hL' hG' hc hcc hfc hrow hrowc hbel
              generalize hq0 : stepF p 2 = q at *
              have HQ := Lib.hid hq0; clear hq0
              by_cases hq : q.ls = []
              · have hq0 : ((q.ls.length : Int) == 0) = true := by rw [beq_iff_eq, hq]; rfl
                have HR2 : Hid ((0, q, k + 1) = R) := Lib.hid (by rw [← HRES.out, HD.out]; rw [carF_ok p e k 2 _ (by omega) (by rw [HQ.out]; exact hq), HQ.out])
                clear hq
                go_wp2_with (
                  refine wpList_store_row rfl 121 (.tmp 10) (.tmp 52) rfl w2.heap.size #[.int .i64 q.s, .int .i64 q.t, .slice LA' q.ls.length Lc', .slice GA' q.gs.length Gc'] rfl rfl 121 _ hrow3 info_pipe rfl (by simp [Value.oneCell']) ?_
                  refine Kt.foldL (fun W => CarRel w1 w2.heap.size 10 q (k + 1) W) hnx (fun W hW => ?_)
                  clear hnx hrow3
                  have hW0 := hW
                  obtain ⟨LA2, Lc2, GA2, Gc2, r1, r2, -, -, -, -, -, -⟩ := hW
                  have hc := fun i => cell_of_row _ _ i _ _ _ r1
                  have hcc := fun i => cell_of_row _ _ i _ _ _ r2
                  have hfc := fun i => frozen_of_row _ _ i _ _ r2
                  clear r1 r2)
                go_meet
                rw [← HR2.out]; exact ⟨hW0.code 0, HT.out⟩
              · have hq0 : ((q.ls.length : Int) == 0) = false := by rw [beq_eq_false_iff_ne]; intro h; exact hq (List.eq_nil_of_length_eq_zero (by omega))
                by_cases he3 : e = 2
                · subst he3
                  have HR2 : Hid ((9, q, k + 1) = R) := Lib.hid (by rw [← HRES.out, HD.out, carF_bus p 2 k 2 _ (by omega) (by rw [HQ.out]; exact hq) (by rw [HN.out]; rfl), HQ.out])
                  clear hq
                  go_wp2_with (
                    refine wpList_store_row rfl 121 (.tmp 10) (.tmp 52) rfl w2.heap.size #[.int .i64 q.s, .int .i64 q.t, .slice LA' q.ls.length Lc', .slice GA' q.gs.length Gc'] rfl rfl 121 _ hrow3 info_pipe rfl (by simp [Value.oneCell']) ?_
                    refine Kt.foldL (fun W => CarRel w1 w2.heap.size 10 q (k + 1) W) hnx (fun W hW => ?_)
                    clear hnx hrow3
                    have hW0 := hW
                    obtain ⟨LA2, Lc2, GA2, Gc2, r1, r2, -, -, -, -, -, -⟩ := hW
                    have hc := fun i => cell_of_row _ _ i _ _ _ r1
                    have hcc := fun i => cell_of_row _ _ i _ _ _ r2
                    have hfc := fun i => frozen_of_row _ _ i _ _ r2
                    clear r1 r2)
                  go_meet
                  rw [← HR2.out]; exact ⟨hW0.code 9, HT.out⟩
                · have he4 : (e + 1 == 3) = false := by rw [beq_eq_false_iff_ne]; omega
                  have HR2 : Hid (carF q (e + 1) (k + 1) (fs.drop (k + 1)) = R) := Lib.hid (by rw [← HRES.out, HD.out, carF_on p e k 2 _ (by omega) (by rw [HQ.out]; exact hq) (by rw [HN.out]; omega), HQ.out, HN.out])
                  clear hq
                  go_wp2_with (
                    refine wpList_store_row rfl 121 (.tmp 10) (.tmp 52) rfl w2.heap.size #[.int .i64 q.s, .int .i64 q.t, .slice LA' q.ls.length Lc', .slice GA' q.gs.length Gc'] rfl rfl 121 _ hrow3 info_pipe rfl (by simp [Value.oneCell']) ?_
                    refine Kt.foldL (fun W => CarRel w1 w2.heap.size 10 q (k + 1) W) hnx (fun W hW => ?_)
                    clear hnx hrow3
                    have hW0 := hW
                    obtain ⟨LA2, Lc2, GA2, Gc2, r1, r2, -, -, -, -, -, -⟩ := hW
                    have hc := fun i => cell_of_row _ _ i _ _ _ r1
                    have hcc := fun i => cell_of_row _ _ i _ _ _ r2
                    have hfc := fun i => frozen_of_row _ _ i _ _ r2
                    clear r1 r2)
                  go_roundw
                  case rel => exact ⟨k + 1, q, (e + 1), by omega, by go_num, rfl, by omega, by omega, hW0, HT.out, HR2⟩
                  case measure => simp [intOf]; omega
            · clear hf5
              go_wp2_with fail
              refine HS.out.mono ?_
              rintro en w3 ⟨v, rfl, ⟨L', G', rfl, hL', hG'⟩, hb2⟩
              have HN : Hid (errs e 3 = (e + 1)) := Lib.hid (by simp [errs])
              obtain ⟨LA', Lc', rfl, _, _⟩ := hL'.form
              obtain ⟨GA', Gc', rfl, _, _⟩ := hG'.form
              have hz : w2.heap.size + 1 < wr.heap.size := (Array.getElem?_eq_some_iff.1 hrowc).1
              have hrow3 : w3.heap[w2.heap.size]? = _ := (hb2.block w2.heap.size (by simp [World.setCell]; omega)).trans ((heap_setCell_other _ _ _ _ (by simp)).trans hrow)
              have hnx := car_next hrow hrowc hbel hpb hb2 hL' hG'
              clear hb2 hL' hG' hc hcc hfc hrow hrowc hbel
              generalize hq0 : stepF p 3 = q at *
              have HQ := Lib.hid hq0; clear hq0
              by_cases hq : q.ls = []
              · have hq0 : ((q.ls.length : Int) == 0) = true := by rw [beq_iff_eq, hq]; rfl
                have HR2 : Hid ((0, q, k + 1) = R) := Lib.hid (by rw [← HRES.out, HD.out]; rw [carF_ok p e k 3 _ (by omega) (by rw [HQ.out]; exact hq), HQ.out])
                clear hq
                go_wp2_with (
                  refine wpList_store_row rfl 121 (.tmp 10) (.tmp 52) rfl w2.heap.size #[.int .i64 q.s, .int .i64 q.t, .slice LA' q.ls.length Lc', .slice GA' q.gs.length Gc'] rfl rfl 121 _ hrow3 info_pipe rfl (by simp [Value.oneCell']) ?_
                  refine Kt.foldL (fun W => CarRel w1 w2.heap.size 10 q (k + 1) W) hnx (fun W hW => ?_)
                  clear hnx hrow3
                  have hW0 := hW
                  obtain ⟨LA2, Lc2, GA2, Gc2, r1, r2, -, -, -, -, -, -⟩ := hW
                  have hc := fun i => cell_of_row _ _ i _ _ _ r1
                  have hcc := fun i => cell_of_row _ _ i _ _ _ r2
                  have hfc := fun i => frozen_of_row _ _ i _ _ r2
                  clear r1 r2)
                go_meet
                rw [← HR2.out]; exact ⟨hW0.code 0, HT.out⟩
              · have hq0 : ((q.ls.length : Int) == 0) = false := by rw [beq_eq_false_iff_ne]; intro h; exact hq (List.eq_nil_of_length_eq_zero (by omega))
                by_cases he3 : e = 2
                · subst he3
                  have HR2 : Hid ((9, q, k + 1) = R) := Lib.hid (by rw [← HRES.out, HD.out, carF_bus p 2 k 3 _ (by omega) (by rw [HQ.out]; exact hq) (by rw [HN.out]; rfl), HQ.out])
                  clear hq
                  go_wp2_with (
                    refine wpList_store_row rfl 121 (.tmp 10) (.tmp 52) rfl w2.heap.size #[.int .i64 q.s, .int .i64 q.t, .slice LA' q.ls.length Lc', .slice GA' q.gs.length Gc'] rfl rfl 121 _ hrow3 info_pipe rfl (by simp [Value.oneCell']) ?_
                    refine Kt.foldL (fun W => CarRel w1 w2.heap.size 10 q (k + 1) W) hnx (fun W hW => ?_)
                    clear hnx hrow3
                    have hW0 := hW
                    obtain ⟨LA2, Lc2, GA2, Gc2, r1, r2, -, -, -, -, -, -⟩ := hW
                    have hc := fun i => cell_of_row _ _ i _ _ _ r1
                    have hcc := fun i => cell_of_row _ _ i _ _ _ r2
                    have hfc := fun i => frozen_of_row _ _ i _ _ r2
                    clear r1 r2)
                  go_meet
                  rw [← HR2.out]; exact ⟨hW0.code 9, HT.out⟩
                · have he4 : (e + 1 == 3) = false := by rw [beq_eq_false_iff_ne]; omega
                  have HR2 : Hid (carF q (e + 1) (k + 1) (fs.drop (k + 1)) = R) := Lib.hid (by rw [← HRES.out, HD.out, carF_on p e k 3 _ (by omega) (by rw [HQ.out]; exact hq) (by rw [HN.out]; omega), HQ.out, HN.out])
                  clear hq
                  go_wp2_with (
                    refine wpList_store_row rfl 121 (.tmp 10) (.tmp 52) rfl w2.heap.size #[.int .i64 q.s, .int .i64 q.t, .slice LA' q.ls.length Lc', .slice GA' q.gs.length Gc'] rfl rfl 121 _ hrow3 info_pipe rfl (by simp [Value.oneCell']) ?_
                    refine Kt.foldL (fun W => CarRel w1 w2.heap.size 10 q (k + 1) W) hnx (fun W hW => ?_)
                    clear hnx hrow3
                    have hW0 := hW
                    obtain ⟨LA2, Lc2, GA2, Gc2, r1, r2, -, -, -, -, -, -⟩ := hW
                    have hc := fun i => cell_of_row _ _ i _ _ _ r1
                    have hcc := fun i => cell_of_row _ _ i _ _ _ r2
                    have hfc := fun i => frozen_of_row _ _ i _ _ r2
                    clear r1 r2)
                  go_roundw
                  case rel => exact ⟨k + 1, q, (e + 1), by omega, by go_num, rfl, by omega, by omega, hW0, HT.out, HR2⟩
                  case measure => simp [intOf]; omega
            · clear hf5
              go_wp2_with fail
              refine HS.out.mono ?_
              rintro en w3 ⟨v, rfl, ⟨L', G', rfl, hL', hG'⟩, hb2⟩
              have HN : Hid (errs e 4 = e) := Lib.hid (by simp [errs])
              obtain ⟨LA', Lc', rfl, _, _⟩ := hL'.form
              obtain ⟨GA', Gc', rfl, _, _⟩ := hG'.form
              have hz : w2.heap.size + 1 < wr.heap.size := (Array.getElem?_eq_some_iff.1 hrowc).1
              have hrow3 : w3.heap[w2.heap.size]? = _ := (hb2.block w2.heap.size (by simp [World.setCell]; omega)).trans ((heap_setCell_other _ _ _ _ (by simp)).trans hrow)
              have hnx := car_next hrow hrowc hbel hpb hb2 hL' hG'
              clear hb2 hL' hG' hc hcc hfc hrow hrowc hbel
              generalize hq0 : stepF p 4 = q at *
              have HQ := Lib.hid hq0; clear hq0
              by_cases hq : q.ls = []
              · have hq0 : ((q.ls.length : Int) == 0) = true := by rw [beq_iff_eq, hq]; rfl
                have HR2 : Hid ((0, q, k + 1) = R) := Lib.hid (by rw [← HRES.out, HD.out]; rw [carF_ok p e k 4 _ (by omega) (by rw [HQ.out]; exact hq), HQ.out])
                clear hq
                go_wp2_with (
                  refine wpList_store_row rfl 121 (.tmp 10) (.tmp 52) rfl w2.heap.size #[.int .i64 q.s, .int .i64 q.t, .slice LA' q.ls.length Lc', .slice GA' q.gs.length Gc'] rfl rfl 121 _ hrow3 info_pipe rfl (by simp [Value.oneCell']) ?_
                  refine Kt.foldL (fun W => CarRel w1 w2.heap.size 10 q (k + 1) W) hnx (fun W hW => ?_)
                  clear hnx hrow3
                  have hW0 := hW
                  obtain ⟨LA2, Lc2, GA2, Gc2, r1, r2, -, -, -, -, -, -⟩ := hW
                  have hc := fun i => cell_of_row _ _ i _ _ _ r1
                  have hcc := fun i => cell_of_row _ _ i _ _ _ r2
                  have hfc := fun i => frozen_of_row _ _ i _ _ r2
                  clear r1 r2)
                go_meet
                rw [← HR2.out]; exact ⟨hW0.code 0, HT.out⟩
              · have hq0 : ((q.ls.length : Int) == 0) = false := by rw [beq_eq_false_iff_ne]; intro h; exact hq (List.eq_nil_of_length_eq_zero (by omega))
                have he4 : (e == 3) = false := by rw [beq_eq_false_iff_ne]; omega
                have HR2 : Hid (carF q e (k + 1) (fs.drop (k + 1)) = R) := Lib.hid (by rw [← HRES.out, HD.out, carF_on p e k 4 _ (by omega) (by rw [HQ.out]; exact hq) (by rw [HN.out]; omega), HQ.out, HN.out])
                clear hq
                go_wp2_with (
                  refine wpList_store_row rfl 121 (.tmp 10) (.tmp 52) rfl w2.heap.size #[.int .i64 q.s, .int .i64 q.t, .slice LA' q.ls.length Lc', .slice GA' q.gs.length Gc'] rfl rfl 121 _ hrow3 info_pipe rfl (by simp [Value.oneCell']) ?_
                  refine Kt.foldL (fun W => CarRel w1 w2.heap.size 10 q (k + 1) W) hnx (fun W hW => ?_)
                  clear hnx hrow3
                  have hW0 := hW
                  obtain ⟨LA2, Lc2, GA2, Gc2, r1, r2, -, -, -, -, -, -⟩ := hW
                  have hc := fun i => cell_of_row _ _ i _ _ _ r1
                  have hcc := fun i => cell_of_row _ _ i _ _ _ r2
                  have hfc := fun i => frozen_of_row _ _ i _ _ r2
                  clear r1 r2)
                go_roundw
                case rel => exact ⟨k + 1, q, e, by omega, by go_num, rfl, by omega, by omega, hW0, HT.out, HR2⟩
                case measure => simp [intOf]; omega
        · obtain rfl : k = fs.length := by omega
          rw [List.drop_length] at HRES
          have hrel0 : CarRel w1 w2.heap.size 10 p fs.length wr := ⟨LA, Lc, GA, Gc, hrow, hrowc, hL, hG, hLp, hGp, hbel, hpb⟩
          clear hll hgl hgn hbits hL hG hLp hGp
          go_wp2_with fail
          go_meet
          rw [← HRES.out]
          exact ⟨hrel0, told, got, HI.out⟩
    case rest =>
      clear HREL
      obtain ⟨hcar, told, got, hI⟩ := hcut
      obtain ⟨code, p, used⟩ := R
      obtain ⟨LA, Lc, GA, Gc, hrow, hrowc, hL, hG, hLp, hGp, hbel, hpb⟩ := hcar
      dsimp only at hrow hrowc hL hG hLp hGp hI
      have hg200 : p.gs.length ≤ 200 := by have := hI.glen; have := hI.gn; omega
      have hm : p.ls.length ≤ l.length := by have := hI.llen; omega
      have hgc : (cat p.gs).length ≤ 140737488355328 := by
        rw [hI.gs]
        have := HOK.out.tz
        have h2 := congrArg List.length (cat_app (l.take got) (l.drop got))
        rw [List.take_append_drop, List.length_append, HL.out, chop_cat (by have := HOK.out.s1; omega), blen, ← HL.out] at h2
        omega
      clear hI
      have HJ := Lib.hid (join_calls _ p.gs wc (Kt.Ar.of_sl hG) (by omega) hgc)
      have hc := fun i => cell_of_row _ _ i _ _ _ hrow
      go_wp2_with fail
      refine HJ.out.mono ?_
      rintro en w4 ⟨rfl, hb4⟩
      have hz4 := hb4.size
      have hz1 : w2.heap.size + 1 < wc.heap.size := (Array.getElem?_eq_some_iff.1 hrowc).1
      have hrow4 : w4.heap[w2.heap.size]? = _ := (hb4.block _ (by omega)).trans hrow
      have hrowc4 : w4.heap[w2.heap.size + 1]? = _ := (hb4.block _ (by omega)).trans hrowc
      have hbel4 : Below w1.heap.size w1 w4 := hbel.trans (hb4.mono hbel.size)
      have hcc := fun i => cell_of_row _ _ i _ _ _ hrowc4
      have hfc := fun i => frozen_of_row _ _ i _ _ hrowc4
      clear hc hb4 hrow hrowc hL hG hLp hGp hbel
      have hc := fun i => cell_of_row _ _ i _ _ _ hrow4
      have hl0 : 0 < l.length := by rw [HL.out, chop_len (by have := HOK.out.s1; omega)]; exact Nat.succ_pos _
      have HSUM : Hid (∀ k, (cat (l.take k)).length ≤ 4096) := Lib.hid fun k => by
        have := HOK.out.tz
        have h2 := congrArg List.length (cat_app (l.take k) (l.drop k))
        rw [List.take_append_drop, List.length_append, HL.out, chop_cat (by have := HOK.out.s1; omega), blen, ← HL.out] at h2
        omega
      have har := HAR.out
      obtain ⟨_, _, e1, hvc, hvx⟩ := har.form
      obtain ⟨vb, vo, rfl, hvb, hvx⟩ := hvx hl0
      cases e1
      have HV := Lib.hid hvx; clear hvx har
      have HGOT : Hid (∀ k, (doneOf l p = k) → carOf l (code, p, used) = .agg #[.int .i64 code, .string ⟨(cat p.gs).toArray⟩, .int .i64 k, .int .i64 used]) := Lib.hid fun k hk => by rw [← hk]; rfl
      have HDO : Hid (doneOf l p = (cat (l.take (l.length - p.ls.length))).length) := Lib.hid rfl
      generalize p.ls.length = m at *
      generalize (⟨(cat p.gs).toArray⟩ : ByteArray) = got at *
      go_wp2_with fail
      go_loopw [84] (fun i wr => ∃ k : Nat, k ≤ l.length - m ∧ i = .int .i64 k ∧ wr.heap[w2.heap.size + 1]? = some (.cells #[.int .i64 code, .string got, .int .i64 (cat (l.take k)).length, .int .i64 used] 111 (0, 0)) ∧ Below w1.heap.size w1 wr) (fun i _ => l.length - (intOf i).toNat)
      case atStart =>
        refine ⟨0, Nat.zero_le _, rfl, (heap_setCell_same _ _ 1 _ _ (.string got) hrowc4).trans (by simp [cat]), Kt.bset hbel4 (by simp; omega) _⟩
      case round =>
        clear hcc hfc hc hrow4 hrowc4 hbel4
        obtain ⟨k, hk, rfl, hr, hb⟩ := hrel
        have hcc := fun i => cell_of_row _ _ i _ _ _ hr
        have hfc := fun i => frozen_of_row _ _ i _ _ hr
        have hs1 := HSUM.out k
        have hs2 := HSUM.out (k + 1)
        by_cases hlt : k < l.length - m
        · have hkl : k < l.length := by omega
          have hcell : wr.cell? ⟨vb, vo + k, none⟩ = some (.string l[k]) := (hb.cell (p := ⟨vb, vo + k, none⟩) hvb).trans ((HV.out k (by rw [sts_len]; exact hkl)).trans (by simp [sts]))
          have HT : Hid ((cat (l.take (k + 1))).length = (cat (l.take k)).length + l[k].size) := Lib.hid (by rw [List.take_succ_eq_append_getElem hkl, cat_app, cat_one, List.length_append, blen])
          have hz : l[k].size ≤ 4096 := by have := HT.out; omega
          generalize l[k] = x at *
          obtain ⟨d, hd⟩ : ∃ d, (cat (l.take k)).length = d := ⟨_, rfl⟩
          have HR3 := Lib.hid hr
          rw [hd] at hcc hs1 HT HR3
          clear hs2 hd hr
          go_wp2_with fail
          go_roundw
          case rel =>
            refine ⟨k + 1, by omega, by go_num, (heap_setCell_same _ _ 2 _ _ (.int .i64 ((d : Int) + x.size)) HR3.out).trans ?_, Kt.bset hb (by simp; omega) _⟩
            rw [HT.out]; simp
          case measure => simp [intOf]; omega
        · obtain rfl : k = l.length - m := by omega
          have hr0 := (hb.block w.heap.size (by omega)).trans hrow0
          have hc0 := fun i => cell_of_row _ _ i _ _ _ hr0
          have hf0 := fun i => frozen_of_row _ _ i _ _ hr0
          have hbw : Below w.heap.size w wr := hbel0.trans (hb.mono (by omega))
          have HG2 : Hid (carOf l (code, p, used) = .agg #[.int .i64 code, .string got, .int .i64 (cat (l.take (l.length - m))).length, .int .i64 used]) := Lib.hid (HGOT.out _ HDO.out)
          generalize (cat (l.take (l.length - m))).length = d at *
          clear hs2 hr hr0
          have hw0 : w.heap.size < wr.heap.size := by have := hb.size; omega
          have HRR2 : Hid (carOf (chop s.toNat t) (carF (p0 (chop s.toNat t)) 0 0 fs) = carOf l (code, p, used)) := Lib.hid (by rw [← HL.out, ← HRR.out])
          go_wp2_with fail
          refine bodyPost_ret (v := .tuple #[.agg #[.int .i64 code, .string got, .int .i64 d, .int .i64 used], .int .i64 0]) (by simp [results, Try.results66, go_sem, hc0]) rfl (.inl ⟨HOK.out, ?_, ?_⟩)
          · rw [HRR2.out, HG2.out]
          · repeat (first | with_reducible exact hbw | with_reducible refine Kt.balloc ?_ _ | with_reducible refine Kt.bset ?_ (by simp) _)
  · have HNO := Lib.hid hno; have HN := Lib.hid hn
    have hne : (n != 0) = true := by rw [bne_iff_ne]; exact hn.1
    clear hno hn
    have hrow0 := Kt.box1 hb
    have hbel0 := Kt.bthen (Kt.balloc (Below.refl _ w) _) hb
    have hz0 : w.heap.size < w1.heap.size := by have := hb.size; rw [World.size_alloc] at this; omega
    have hc0 := fun i => cell_of_row _ _ i _ _ _ hrow0
    have hf0 := fun i => frozen_of_row _ _ i _ _ hrow0
    clear hb
    go_wp2_with fail
    refine bodyPost_ret (v := .tuple #[carV 0 [] 0 0, .int .i64 n]) (by simp [carV, results, Try.results66, go_sem, hc0]) rfl (.inr ⟨HNO.out, n, HN.out, rfl, ?_⟩)
    repeat (first | with_reducible exact hbel0 | with_reducible refine Kt.balloc ?_ _ | with_reducible refine Kt.bset ?_ (by simp) _)
end Go.Proofs.Ytafiedhjjnapoaa
