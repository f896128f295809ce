/- RingRoom, walked. -/
import Derived.Test.YtmgjgajpgjfaiaaRngG
namespace Go.Proofs.Ytmgjgajpgjfaiaa
open Go.RowKit
theorem turns_of {w : World} {B : Nat} : ∀ (els : List (List Value)), (∀ x ∈ els, x.length = 2 ∧ Fr.Rd w B (.cat 1 (.int .i64) (.cat 1 (.int .u64) .nil)) x) → ∃ ts : List (Int × Int), ts.length = els.length ∧ els.flatten = tvs ts
  | [], _ => ⟨[], rfl, rfl⟩
  | x :: els, h => by
    obtain ⟨ts, h1, h2⟩ := turns_of els (fun y hy => h y (by simp [hy]))
    obtain ⟨_, hx⟩ := h x (by simp)
    obtain ⟨l, r, rfl, _, ⟨n, rfl, _⟩, hr⟩ := Fr.cat_open hx
    obtain ⟨l2, r2, rfl, _, ⟨n2, rfl, _⟩, hr2⟩ := Fr.cat_open hr
    obtain rfl : r2 = [] := hr2
    exact ⟨(n, n2) :: ts, by simp [h1], by simp [h2, tvs, tv]⟩
theorem ar_turns {w : World} {B : Nat} {v : Value} (r : Fr.RdV w B (.slice 2 (.cat 1 (.int .i64) (.cat 1 (.int .u64) .nil))) v) : ∃ ts : List (Int × Int), ts.length ≤ B ∧ Kt.Ar w v 2 ts.length (tvs ts) := by
  obtain ⟨els, h1, h2, h3⟩ := Kt.ar_open r (by omega)
  obtain ⟨ts, t1, t2⟩ := turns_of els h1
  rw [← t1, t2] at h3
  exact ⟨ts, by omega, h3⟩
def nilV : Value := .slice none 0 0
def RoomRel (w : World) (b m : Nat) (st : List Int × Nat × Nat) (wr : World) : Prop := ∃ C r, InvS m st r ∧ PS w.heap.size b C r nilV [] nilV [] wr ∧ Below w.heap.size w wr ∧ w.heap.size ≤ b
section
variable {w : World} {b m : Nat} {st st' : List Int × Nat × Nat} {C C' : Value} {r r' : Rg} {wr w3 : World}
theorem RoomRel.store0 (hi : InvS m st' r') (hps : PS w.heap.size b C r nilV [] nilV [] wr) (hbel : Below w.heap.size w wr) (hz : w.heap.size ≤ b)
    (hb : Below wr.heap.size wr w3) (hs : Kt.Sl w3 wr.heap.size 47 3 C' r'.cs.length (cvs r'.cs)) : RoomRel w b m st' (w3.setCells b 0 (boxed C' r')) :=
  ⟨C', r', hi, PS.store hps hb hs hbel.size, Kt.below_setCells _ _ _ _ _ hz (Kt.bthen hbel hb), hz⟩
theorem RoomRel.keep (hi : InvS m st' r) (hps : PS w.heap.size b C r nilV [] nilV [] wr) (hbel : Below w.heap.size w wr) (hz : w.heap.size ≤ b) (hb : Below wr.heap.size wr w3) : RoomRel w b m st' w3 :=
  ⟨C, r, hi, hps.on hb, Kt.bthen hbel hb, hz⟩
theorem RoomRel.alloc (h : RoomRel w b m st wr) (o : Obj) : RoomRel w b m st (wr.alloc o) := by
  obtain ⟨C, r, h1, h2, h3, h4⟩ := h
  exact ⟨C, r, h1, h2.alloc o, Kt.balloc h3 o, h4⟩
end
theorem turn_one {m : Nat} {ins : List Int} {g s : Nat} {x : Int} (h : ins.length < s + (m - 1)) : turn m (ins, g, s) (1, x) = (ins ++ [x], g, s) := by unfold turn; rw [if_pos rfl, if_pos h]
theorem turn_full {m : Nat} {ins : List Int} {g s : Nat} {x : Int} (h : ¬ ins.length < s + (m - 1)) : turn m (ins, g, s) (1, x) = (ins, g, s) := by unfold turn; rw [if_pos rfl, if_neg h]
theorem turn_get {m : Nat} {ins : List Int} {g s : Nat} {x : Int} (h : g < ins.length) : turn m (ins, g, s) (2, x) = (ins, g + 1, s) := by unfold turn; rw [if_neg (show ¬ (2 : Int) = 1 by decide), if_pos rfl, if_pos h]
theorem turn_none {m : Nat} {ins : List Int} {g s : Nat} {x : Int} (h : ¬ g < ins.length) : turn m (ins, g, s) (2, x) = (ins, g, s) := by unfold turn; rw [if_neg (show ¬ (2 : Int) = 1 by decide), if_pos rfl, if_neg h]
theorem turn_learn {m : Nat} {ins : List Int} {g s : Nat} {x : Int} : turn m (ins, g, s) (3, x) = (ins, g, g) := by unfold turn; rw [if_neg (show ¬ (3 : Int) = 1 by decide), if_neg (show ¬ (3 : Int) = 2 by decide), if_pos rfl]
theorem turn_other {m : Nat} {ins : List Int} {g s : Nat} {t x : Int} (h1 : t ≠ 1) (h2 : t ≠ 2) (h3 : t ≠ 3) : turn m (ins, g, s) (t, x) = (ins, g, s) := by unfold turn; rw [if_neg h1, if_neg h2, if_neg h3]
set_option maxHeartbeats 6400000 in
theorem room_main (m : Nat) (U : Value) (ts : List (Int × Int)) (w : World) (h2 : 2 ≤ m) (h63 : m ≤ 63) (hU : Kt.Ar w U 2 ts.length (tvs ts)) (hn : ts.length ≤ 500) :
    Calls Try.prog 4 #[.int .i64 (m + 1 : Nat), U] w fun e w' => e = .returned (.bool true) ∧ Below w.heap.size w w' := by
  obtain ⟨A, c, rfl, hcl, hcells⟩ := hU.form
  have HCELLS := Lib.hid hcells; clear hU hcells
  have d1 : (ts.length : Int) ≤ 500 := by omega
  have d3 : (m : Int) ≤ 63 := by omega
  have d4 : (2 : Int) ≤ m := by omega
  go_enter Try.func4, Try.ntmps4
  go_wp2_with fail
  refine (new_ok (m + 1) _ (by omega) (by omega)).mono ?_
  rintro en w1 ⟨v, rfl, ⟨C, rfl, hs⟩, hbel⟩
  have hinv := Inv.new m h2 h63
  generalize newR (m + 1) = r at *
  obtain ⟨CA, Cc, rfl, _, _⟩ := hs.form
  have hps : PS w.heap.size w1.heap.size (.slice CA r.cs.length Cc) r nilV [] nilV [] (w1.alloc (.cells (boxed (.slice CA r.cs.length Cc) r).toArray 27)) :=
    ⟨heap_alloc_new w1 _, hs.alloc _, Kt.Sl.nil _ _ _ _, Kt.Sl.nil _ _ _ _, fun k hk => by have := (hs.lt k hk).2; omega, fun k hk => by simp [nilV, Value.ownBlock] at hk, fun k hk => by simp [nilV, Value.ownBlock] at hk, fun k _ hk => by simp [nilV, Value.ownBlock] at hk, fun k _ hk => by simp [nilV, Value.ownBlock] at hk, fun k _ hk => by simp [nilV, Value.ownBlock] at hk⟩
  have hb0 := Kt.balloc hbel (.cells (boxed (.slice CA r.cs.length Cc) r).toArray 27)
  have hzb := hbel.size
  unfold rgV
  go_wp2_with fail
  refine (lives_calls _).mono ?_
  rintro en w2 ⟨rfl, hb2⟩
  have HREL : RoomRel w w1.heap.size m ([], 0, 0) w2 := ⟨_, r, hinv, hps.on hb2, Kt.bthen hb0 hb2, hzb⟩
  clear hps hb0 hinv hs hb2 hbel
  go_wp2_with fail
  go_loopw [7, 8, 9, 37] (fun a b d i wr => ∃ k : Nat, k ≤ ts.length ∧ i = .int .i64 k ∧ a = .int .i64 (turns m (ts.take k)).1.length ∧ b = .int .i64 (turns m (ts.take k)).2.1 ∧ d = .int .i64 (turns m (ts.take k)).2.2 ∧ RoomRel w w1.heap.size m (turns m (ts.take k)) wr) (fun _ _ _ i _ => ts.length - (intOf i).toNat)
  case atStart => exact ⟨0, Nat.zero_le _, rfl, rfl, rfl, rfl, HREL⟩
  case round =>
    clear HREL
    obtain ⟨k, hk, rfl, rfl, rfl, rfl, C', r', hinv, hps, hbel, hz0⟩ := hrel
    obtain ⟨CA', Cc', rfl, _, _⟩ := hps.cs.form
    have hlen := turns_len m ts k hk
    by_cases hlt : k < ts.length
    · have hst := turns_succ m ts k hlt
      obtain ⟨x, hx⟩ : ∃ x, ts[k] = x := ⟨_, rfl⟩
      rw [hx] at hst
      obtain ⟨x1, x2⟩ := x
      obtain ⟨b, o, rfl, hb, hcell⟩ := HCELLS.out (by omega)
      have g : ∀ j (hj : j < 2), wr.cell? ⟨b, o + (k * 2 + j), none⟩ = (tv (x1, x2))[j]? := fun j hj => by
        rw [hbel.cell (p := ⟨b, o + (k * 2 + j), none⟩) hb, hcell (k * 2 + j) (by rw [tvs_len]; omega), ← List.getElem?_eq_getElem, tvs_get _ _ _ hj, List.getElem?_eq_getElem hlt, hx]; rfl
      have g0 : wr.cell? ⟨b, o + k * 2, none⟩ = some (.int .i64 x1) := g 0 (by omega)
      have g1 : wr.cell? ⟨b, o + k * 2 + 1, none⟩ = some (.int .u64 x2) := g 1 (by omega)
      have HX := Lib.hid hx; clear hx hcell g
      obtain ⟨st, hst0⟩ : ∃ st, turns m (ts.take k) = st := ⟨_, rfl⟩
      rw [hst0] at hst hinv hlen ⊢
      have HST0 := Lib.hid hst0; clear hst0
      obtain ⟨ins, gt, sn⟩ := st
      dsimp only at hlen ⊢
      have hsg : sn ≤ gt := hinv.sg
      have hgp : gt ≤ ins.length := hinv.gp
      have hrow := hps.row
      have q := fun i => cell_of_row _ _ i _ _ _ hrow
      have qf := fun i => frozen_of_row _ _ i _ _ hrow
      have hz2 : w1.heap.size < wr.heap.size := (Array.getElem?_eq_some_iff.1 hrow).1
      unfold boxed at q hrow
      have HINV := Lib.hid hinv
      have HST := Lib.hid hst; clear hst
      by_cases hroom : ins.length < sn + (m - 1)
      · have hf := hinv.full
        rw [decide_eq_false (by dsimp only; omega)] at hf
        clear hinv
        have t1 : decide ((ins.length : Int) - sn < (m : Int) + 1 - 2) = true := decide_eq_true (by omega)
        go_wp2_with fail
        refine (put_ok _ r' x2 _ (RA.on hps.ra (Kt.balloc (Below.refl _ wr) _)) HINV.out.right hf).mono ?_
        rintro en w3 ⟨v, rfl, ⟨C3, rfl, hs3⟩, hb3⟩
        have hnx : InvS m (ins ++ [x2], gt, sn) (putR r' x2) := HINV.out.putI x2 hroom
        have HNX := Lib.hid hnx; clear hnx
        generalize putR r' x2 = r3 at *
        obtain ⟨C3A, C3c, rfl, _, _⟩ := hs3.form
        have hb3' := Kt.bthen (Kt.balloc (Below.refl _ wr) _) hb3
        have q3 := fun i => cell_of_row _ _ i _ _ _ (hps.on hb3').row
        have qf3 := fun i => frozen_of_row _ _ i _ _ (hps.on hb3').row
        have hz4 : w1.heap.size < w3.heap.size := (Array.getElem?_eq_some_iff.1 (hps.on hb3').row).1
        have q11 := fun i => cell_of_row _ _ i _ _ _ (Kt.box1 hb3)
        have qf11 := fun i => frozen_of_row _ _ i _ _ (Kt.box1 hb3)
        have hz11 : wr.heap.size < w3.heap.size := (Array.getElem?_eq_some_iff.1 (Kt.box1 hb3)).1
        unfold boxed at q3
        unfold rgV
        by_cases k1 : x1 = 1
        · subst k1
          go_wp2_with fail
          go_roundw
          case rel =>
            refine ⟨k + 1, by omega, by go_num, ?_, ?_, ?_, ?_⟩
            · rw [HST.out, turn_one hroom]; simp
            · rw [HST.out, turn_one hroom]; skip
            · rw [HST.out, turn_one hroom]
            · rw [HST.out, turn_one hroom]; exact (RoomRel.store0 (C' := .slice C3A r3.cs.length C3c) (r' := r3) HNX.out hps hbel hz0 hb3' (hs3.mono (by simp))).alloc _
          case measure => simp [intOf]; omega
        · by_cases k2 : x1 = 2
          · subst k2
            clear k1
            by_cases hgot0 : gt < ins.length
            · have hnx : InvS m (ins, gt + 1, sn) (getR r') := HINV.out.getI hgot0
              have HNX5 := Lib.hid hnx; clear hnx
              have hg1 := (HINV.out.get_yes hgot0).1
              go_wp2_with fail
              refine (get_yes _ r' _ (RA.on hps.ra (Kt.balloc hb3' _)) HINV.out.right hg1).mono ?_
              rintro en w5 ⟨v, rfl, ⟨C5, rfl, hs5⟩, hb5⟩
              generalize getR r' = r5 at *
              generalize (cellAt r').1 = y at *
              obtain ⟨C5A, C5c, rfl, _, _⟩ := hs5.form
              have hb5' := Kt.bthen (Kt.balloc hb3' _) hb5
              have q5 := fun i => cell_of_row _ _ i _ _ _ (hps.on hb5').row
              have qf5 := fun i => frozen_of_row _ _ i _ _ (hps.on hb5').row
              have hz5 : w1.heap.size < w5.heap.size := (Array.getElem?_eq_some_iff.1 (hps.on hb5').row).1
              unfold boxed at q5
              unfold rgV
              go_wp2_with fail
              go_roundw
              case rel =>
                refine ⟨k + 1, by omega, by go_num, ?_, ?_, ?_, ?_⟩
                · rw [HST.out, turn_get hgot0]; skip
                · rw [HST.out, turn_get hgot0]; go_num
                · rw [HST.out, turn_get hgot0]
                · rw [HST.out, turn_get hgot0]; exact (RoomRel.store0 (C' := .slice C5A r5.cs.length C5c) (r' := r5) HNX5.out hps hbel hz0 hb5' (hs5.mono (by have := hb3'.size; simp; omega))).alloc _
              case measure => simp [intOf]; omega
            · have hg1 := HINV.out.get_no hgot0
              go_wp2_with fail
              refine (get_no _ r' _ (RA.on hps.ra (Kt.balloc hb3' _)) HINV.out.right hg1).mono ?_
              rintro en w5 ⟨v, rfl, ⟨C5, rfl, hs5⟩, hb5⟩
              obtain ⟨C5A, C5c, rfl, _, _⟩ := hs5.form
              have hb5' := Kt.bthen (Kt.balloc hb3' _) hb5
              have q5 := fun i => cell_of_row _ _ i _ _ _ (hps.on hb5').row
              have qf5 := fun i => frozen_of_row _ _ i _ _ (hps.on hb5').row
              have hz5 : w1.heap.size < w5.heap.size := (Array.getElem?_eq_some_iff.1 (hps.on hb5').row).1
              unfold boxed at q5
              unfold rgV
              go_wp2_with fail
              go_roundw
              case rel =>
                refine ⟨k + 1, by omega, by go_num, ?_, ?_, ?_, ?_⟩
                · rw [HST.out, turn_none hgot0]; skip
                · rw [HST.out, turn_none hgot0]; skip
                · rw [HST.out, turn_none hgot0]
                · rw [HST.out, turn_none hgot0]; exact RoomRel.keep HINV.out hps hbel hz0 (Kt.balloc hb5' _)
              case measure => simp [intOf]; omega
          · by_cases k3 : x1 = 3
            · subst k3
              clear k1 k2
              have hnx : InvS m (ins, gt, gt) (learnR r') := HINV.out.learnI
              have HNX5 := Lib.hid hnx; clear hnx
              go_wp2_with fail
              refine (learn_ok _ r' _ (RA.on hps.ra (Kt.balloc hb3' _)) HINV.out.right).mono ?_
              rintro en w5 ⟨v, rfl, ⟨C5, rfl, hs5⟩, hb5⟩
              generalize learnR r' = r5 at *
              obtain ⟨C5A, C5c, rfl, _, _⟩ := hs5.form
              have hb5' := Kt.bthen (Kt.balloc hb3' _) hb5
              have q5 := fun i => cell_of_row _ _ i _ _ _ (hps.on hb5').row
              have qf5 := fun i => frozen_of_row _ _ i _ _ (hps.on hb5').row
              have hz5 : w1.heap.size < w5.heap.size := (Array.getElem?_eq_some_iff.1 (hps.on hb5').row).1
              unfold boxed at q5
              unfold rgV
              go_wp2_with fail
              go_roundw
              case rel =>
                refine ⟨k + 1, by omega, by go_num, ?_, ?_, ?_, ?_⟩
                · rw [HST.out, turn_learn]; skip
                · rw [HST.out, turn_learn]; skip
                · rw [HST.out, turn_learn]
                · rw [HST.out, turn_learn]; exact RoomRel.store0 (C' := .slice C5A r5.cs.length C5c) (r' := r5) HNX5.out hps hbel hz0 hb5' (hs5.mono (by have := hb3'.size; simp; omega))
              case measure => simp [intOf]; omega
            · have e1 : (x1 == 1) = false := beq_eq_false_iff_ne.2 k1
              have e2 : (x1 == 2) = false := beq_eq_false_iff_ne.2 k2
              have e3 : (x1 == 3) = false := beq_eq_false_iff_ne.2 k3
              go_wp2_with fail
              go_roundw
              case rel =>
                refine ⟨k + 1, by omega, by go_num, ?_, ?_, ?_, ?_⟩
                · rw [HST.out, turn_other k1 k2 k3]; skip
                · rw [HST.out, turn_other k1 k2 k3]; skip
                · rw [HST.out, turn_other k1 k2 k3]
                · rw [HST.out, turn_other k1 k2 k3]; exact RoomRel.keep HINV.out hps hbel hz0 (Kt.balloc hb3' _)
              case measure => simp [intOf]; omega
      · have hf := hinv.full
        have hrm : ins.length ≤ sn + (m - 1) := hinv.room
        rw [decide_eq_true (by dsimp only; omega)] at hf
        clear hinv
        have t1 : decide ((ins.length : Int) - sn < (m : Int) + 1 - 2) = false := decide_eq_false (by omega)
        go_wp2_with fail
        refine (put_full _ r' x2 _ (RA.on hps.ra (Kt.balloc (Below.refl _ wr) _)) HINV.out.right hf).mono ?_
        rintro en w3 ⟨n3, rfl, rfl, hb3⟩
        have hb3' := Kt.bthen (Kt.balloc (Below.refl _ wr) _) hb3
        have q3 := fun i => cell_of_row _ _ i _ _ _ (hps.on hb3').row
        have qf3 := fun i => frozen_of_row _ _ i _ _ (hps.on hb3').row
        have hz4 : w1.heap.size < w3.heap.size := (Array.getElem?_eq_some_iff.1 (hps.on hb3').row).1
        have q11 := fun i => cell_of_row _ _ i _ _ _ (Kt.box1 hb3)
        have qf11 := fun i => frozen_of_row _ _ i _ _ (Kt.box1 hb3)
        have hz11 : wr.heap.size < w3.heap.size := (Array.getElem?_eq_some_iff.1 (Kt.box1 hb3)).1
        unfold boxed at q3
        unfold zeroR rgV
        by_cases k1 : x1 = 1
        · subst k1
          go_wp2_with fail
          go_roundw
          case rel =>
            refine ⟨k + 1, by omega, by go_num, ?_, ?_, ?_, ?_⟩
            · rw [HST.out, turn_full hroom]; skip
            · rw [HST.out, turn_full hroom]; skip
            · rw [HST.out, turn_full hroom]
            · rw [HST.out, turn_full hroom]; exact RoomRel.keep HINV.out hps hbel hz0 (Kt.balloc hb3' _)
          case measure => simp [intOf]; omega
        · by_cases k2 : x1 = 2
          · subst k2
            clear k1
            by_cases hgot0 : gt < ins.length
            · have hnx : InvS m (ins, gt + 1, sn) (getR r') := HINV.out.getI hgot0
              have HNX5 := Lib.hid hnx; clear hnx
              have hg1 := (HINV.out.get_yes hgot0).1
              go_wp2_with fail
              refine (get_yes _ r' _ (RA.on hps.ra (Kt.balloc hb3' _)) HINV.out.right hg1).mono ?_
              rintro en w5 ⟨v, rfl, ⟨C5, rfl, hs5⟩, hb5⟩
              generalize getR r' = r5 at *
              generalize (cellAt r').1 = y at *
              obtain ⟨C5A, C5c, rfl, _, _⟩ := hs5.form
              have hb5' := Kt.bthen (Kt.balloc hb3' _) hb5
              have q5 := fun i => cell_of_row _ _ i _ _ _ (hps.on hb5').row
              have qf5 := fun i => frozen_of_row _ _ i _ _ (hps.on hb5').row
              have hz5 : w1.heap.size < w5.heap.size := (Array.getElem?_eq_some_iff.1 (hps.on hb5').row).1
              unfold boxed at q5
              unfold rgV
              go_wp2_with fail
              go_roundw
              case rel =>
                refine ⟨k + 1, by omega, by go_num, ?_, ?_, ?_, ?_⟩
                · rw [HST.out, turn_get hgot0]; skip
                · rw [HST.out, turn_get hgot0]; go_num
                · rw [HST.out, turn_get hgot0]
                · rw [HST.out, turn_get hgot0]; exact (RoomRel.store0 (C' := .slice C5A r5.cs.length C5c) (r' := r5) HNX5.out hps hbel hz0 hb5' (hs5.mono (by have := hb3'.size; simp; omega))).alloc _
              case measure => simp [intOf]; omega
            · have hg1 := HINV.out.get_no hgot0
              go_wp2_with fail
              refine (get_no _ r' _ (RA.on hps.ra (Kt.balloc hb3' _)) HINV.out.right hg1).mono ?_
              rintro en w5 ⟨v, rfl, ⟨C5, rfl, hs5⟩, hb5⟩
              obtain ⟨C5A, C5c, rfl, _, _⟩ := hs5.form
              have hb5' := Kt.bthen (Kt.balloc hb3' _) hb5
              have q5 := fun i => cell_of_row _ _ i _ _ _ (hps.on hb5').row
              have qf5 := fun i => frozen_of_row _ _ i _ _ (hps.on hb5').row
              have hz5 : w1.heap.size < w5.heap.size := (Array.getElem?_eq_some_iff.1 (hps.on hb5').row).1
              unfold boxed at q5
              unfold rgV
              go_wp2_with fail
              go_roundw
              case rel =>
                refine ⟨k + 1, by omega, by go_num, ?_, ?_, ?_, ?_⟩
                · rw [HST.out, turn_none hgot0]; skip
                · rw [HST.out, turn_none hgot0]; skip
                · rw [HST.out, turn_none hgot0]
                · rw [HST.out, turn_none hgot0]; exact RoomRel.keep HINV.out hps hbel hz0 (Kt.balloc hb5' _)
              case measure => simp [intOf]; omega
          · by_cases k3 : x1 = 3
            · subst k3
              clear k1 k2
              have hnx : InvS m (ins, gt, gt) (learnR r') := HINV.out.learnI
              have HNX5 := Lib.hid hnx; clear hnx
              go_wp2_with fail
              refine (learn_ok _ r' _ (RA.on hps.ra (Kt.balloc hb3' _)) HINV.out.right).mono ?_
              rintro en w5 ⟨v, rfl, ⟨C5, rfl, hs5⟩, hb5⟩
              generalize learnR r' = r5 at *
              obtain ⟨C5A, C5c, rfl, _, _⟩ := hs5.form
              have hb5' := Kt.bthen (Kt.balloc hb3' _) hb5
              have q5 := fun i => cell_of_row _ _ i _ _ _ (hps.on hb5').row
              have qf5 := fun i => frozen_of_row _ _ i _ _ (hps.on hb5').row
              have hz5 : w1.heap.size < w5.heap.size := (Array.getElem?_eq_some_iff.1 (hps.on hb5').row).1
              unfold boxed at q5
              unfold rgV
              go_wp2_with fail
              go_roundw
              case rel =>
                refine ⟨k + 1, by omega, by go_num, ?_, ?_, ?_, ?_⟩
                · rw [HST.out, turn_learn]; skip
                · rw [HST.out, turn_learn]; skip
                · rw [HST.out, turn_learn]
                · rw [HST.out, turn_learn]; exact RoomRel.store0 (C' := .slice C5A r5.cs.length C5c) (r' := r5) HNX5.out hps hbel hz0 hb5' (hs5.mono (by have := hb3'.size; simp; omega))
              case measure => simp [intOf]; omega
            · have e1 : (x1 == 1) = false := beq_eq_false_iff_ne.2 k1
              have e2 : (x1 == 2) = false := beq_eq_false_iff_ne.2 k2
              have e3 : (x1 == 3) = false := beq_eq_false_iff_ne.2 k3
              go_wp2_with fail
              go_roundw
              case rel =>
                refine ⟨k + 1, by omega, by go_num, ?_, ?_, ?_, ?_⟩
                · rw [HST.out, turn_other k1 k2 k3]; skip
                · rw [HST.out, turn_other k1 k2 k3]; skip
                · rw [HST.out, turn_other k1 k2 k3]
                · rw [HST.out, turn_other k1 k2 k3]; exact RoomRel.keep HINV.out hps hbel hz0 (Kt.balloc hb3' _)
              case measure => simp [intOf]; omega
    · obtain rfl : k = ts.length := by omega
      have hsg : _ ≤ _ := hinv.sg
      have hgp : _ ≤ _ := hinv.gp
      have hrm : _ ≤ _ := hinv.room
      rw [List.take_length] at *
      generalize turns m ts = st at *
      obtain ⟨ins, gt, sn⟩ := st
      dsimp only at *
      have t1 : decide ((ins.length : Int) - gt < (m : Int) + 1 - 1) = true := decide_eq_true (by omega)
      have t2 : decide ((gt : Int) ≤ ins.length) = true := decide_eq_true (by omega)
      clear hinv hps
      go_wp2_with fail
      go_ret
      exact ⟨rfl, hbel⟩
set_option maxHeartbeats 800000 in
theorem room_bad (n : Int) (A : Option Addr) (k c : Nat) (w : World) (h : n < 3 ∨ 64 < n) : Calls Try.prog 4 #[.int .i64 n, .slice A k c] w fun e w' => e = .returned (.bool true) ∧ Below w.heap.size w w' := by
  go_enter Try.func4, Try.ntmps4
  go_wp2_with fail
  refine (new_bad n _ h).mono ?_
  rintro en w1 ⟨n1, hn, rfl, hbel⟩
  have hn1 : (n1 != 0) = true := by rw [bne_iff_ne]; exact hn
  unfold zeroR rgV
  go_wp2_with fail
  refine (lives_calls _).mono ?_
  rintro en w2 ⟨rfl, hb2⟩
  replace hb2 := Kt.bthen (Kt.balloc hbel _) hb2
  go_wp2_with fail
  refine (lives_calls _).mono ?_
  rintro en w3 ⟨rfl, hb3⟩
  replace hb3 := Kt.bthen hb2 hb3
  go_wp2_with fail
  go_ret
  exact ⟨rfl, hb3⟩
set_option maxHeartbeats 800000 in
theorem room_long (m : Nat) (U : Value) (ts : List (Int × Int)) (w : World) (h2 : 2 ≤ m) (h63 : m ≤ 63) (hU : Kt.Ar w U 2 ts.length (tvs ts)) (hn : (500 : Int) < ts.length) :
    Calls Try.prog 4 #[.int .i64 (m + 1 : Nat), U] w fun e w' => e = .returned (.bool true) ∧ Below w.heap.size w w' := by
  obtain ⟨A, c, rfl, hcl, _⟩ := hU.form
  clear hU
  go_enter Try.func4, Try.ntmps4
  go_wp2_with fail
  refine (new_ok (m + 1) _ (by omega) (by omega)).mono ?_
  rintro en w1 ⟨v, rfl, ⟨C, rfl, hs⟩, hbel⟩
  generalize newR (m + 1) = r at *
  obtain ⟨CA, Cc, rfl, _, _⟩ := hs.form
  clear hs
  unfold rgV
  go_wp2_with fail
  refine (lives_calls _).mono ?_
  rintro en w2 ⟨rfl, hb2⟩
  replace hb2 := Kt.bthen (Kt.balloc hbel _) hb2
  go_wp2_with fail
  refine (lives_calls _).mono ?_
  rintro en w3 ⟨rfl, hb3⟩
  replace hb3 := Kt.bthen hb2 hb3
  go_wp2_with fail
  go_ret
  exact ⟨rfl, hb3⟩
theorem room_walk (v0 v1 : Value) (w : World) (r0 : Fr.RdV w reachBytes (.int .i64) v0) (r1 : Fr.RdV w reachBytes (.slice 2 (.cat 1 (.int .i64) (.cat 1 (.int .u64) .nil))) v1) :
    Calls Try.prog 4 #[v0, v1] w fun e w' => e = .returned (.bool true) ∧ Below w.heap.size w w' := by
  obtain ⟨n, h, _⟩ := r0
  simp only [List.cons.injEq, and_true] at h
  subst h
  obtain ⟨ts, _, hU⟩ := ar_turns r1
  by_cases hn : n < 3 ∨ 64 < n
  · obtain ⟨A, c, rfl, _⟩ := hU.form
    exact room_bad n A _ c w hn
  · obtain ⟨m, rfl⟩ : ∃ m : Nat, n = (m + 1 : Nat) := ⟨n.toNat - 1, by omega⟩
    by_cases hl : ts.length ≤ 500
    · exact room_main m v1 ts w (by omega) (by omega) hU hl
    · exact room_long m v1 ts w (by omega) (by omega) hU (by omega)
end Go.Proofs.Ytmgjgajpgjfaiaa
