/- Sorting in place, walked: the comparison's contract, insertions. -/
import Derived.Test.YthmcnopogahffaaBudT
import Derived.Test.YthmcnopogahffaaSlm
import Derived.Test.YthmcnopogahffaaFv
namespace Go.Proofs.Ythmcnopogahffaa
open Go.RowKit Go.Proofs.Ythmcnopogahffaa.Bud
def iz (l : List Nat) : List Value := l.map fun (x : Nat) => Value.int .i64 (x : Int)
/-- block g holds just these numbers -/
def Hd (g : Nat) (l : List Nat) (W : World) : Prop := W.heap[g]? = some (.cells (iz l).toArray 3 (0, 0))
theorem Hd.lt {g : Nat} {l : List Nat} {W : World} (h : Hd g l W) : g < W.heap.size := (Array.getElem?_eq_some_iff.1 h).1
theorem Hd.cell {g : Nat} {l : List Nat} {W : World} (h : Hd g l W) (i : Nat) (hi : i < l.length) : W.cell? ⟨g, i, none⟩ = some (.int .i64 (at' l i : Nat)) := by
  refine (cell_of_row _ _ _ _ _ _ h).trans ?_
  unfold iz at'
  simp [hi, List.getD_eq_getElem?_getD]
theorem Hd.free {g : Nat} {l : List Nat} {W : World} (h : Hd g l W) (i : Nat) : W.frozen? ⟨g, i, none⟩ = false := frozen_of_row _ _ _ _ _ h
theorem Hd.drew {g : Nat} {l : List Nat} {W : World} (h : Hd g l W) (n : Nat) : Hd g l (W.drewN n) := h
theorem Hd.set {g : Nat} {l : List Nat} {W : World} (h : Hd g l W) (i x : Nat) : Hd g (l.set i x) (W.setCell ⟨g, i, none⟩ (.int .i64 (x : Int))) := by
  have : (W.setCell ⟨g, i, none⟩ (.int .i64 (x : Int))).heap[g]? = some (.cells ((iz l).toArray.setIfInBounds i (.int .i64 (x : Int))) 3 (0, 0)) := heap_setCell_same _ _ _ _ _ _ h
  unfold Hd
  rw [this]
  unfold iz
  simp
theorem Hd.swp {g : Nat} {l : List Nat} {W : World} (h : Hd g l W) (i j : Nat) : Hd g (swp l i j) ((W.setCell ⟨g, i, none⟩ (.int .i64 (at' l j : Nat))).setCell ⟨g, j, none⟩ (.int .i64 (at' l i : Nat))) := (h.set i _).set j _
theorem swp_comm (l : List Nat) (i j : Nat) (h : i ≠ j) : swp l i j = swp l j i := by
  unfold swp
  rw [List.set_comm _ _ h]
/-- all of it is below n -/
def Lo (n : Nat) (l : List Nat) : Prop := l.length = n ∧ ∀ x ∈ l, x < n
theorem Lo.at {n : Nat} {l : List Nat} (h : Lo n l) (i : Nat) (hi : i < n) : at' l i < n := by
  unfold at'
  rw [List.getD_eq_getElem?_getD, List.getElem?_eq_getElem (by rw [h.1]; exact hi)]
  exact h.2 _ (List.getElem_mem _)
theorem Lo.perm {n : Nat} {l l' : List Nat} (h : Lo n l) (p : l'.Perm l) : Lo n l' := ⟨p.length_eq.trans h.1, fun x hx => h.2 x (p.mem_iff.1 hx)⟩
theorem Lo.swp {n : Nat} {l : List Nat} (h : Lo n l) (i j : Nat) (hi : i < n) (hj : j < n) : Lo n (swp l i j) := h.perm (swp_perm l i j (by rw [h.1]; exact hi) (by rw [h.1]; exact hj))
def cmpV (b : Nat) : Value := .func (.func 21) #[] #[.pointer (some ⟨b, 0, none⟩)]
/-- the comparison tells k x - k y in all worlds whose blocks below g are those of w0 -/
def CmpOk (w0 : World) (g b n : Nat) (k : Nat → Int) : Prop := (∀ x, x < n → 1 ≤ k x ∧ k x ≤ 32) ∧ ∀ W, Below g w0 W → ∀ x y, x < n → y < n →
  Calls Try.prog 21 #[.int .i64 (x : Int), .int .i64 (y : Int), .pointer (some ⟨b, 0, none⟩)] W fun e w' => e = .returned (.int .i64 (k x - k y)) ∧ ∃ m, w' = W.drewN m
theorem bub_stop (k : Nat → Int) (a : Nat) : ∀ (j : Nat) (l : List Nat), j ≤ a → bub k a j l = l
  | 0, _, _ => rfl
  | j + 1, l, h => by unfold bub; rw [if_neg (by omega)]
theorem bub_no (k : Nat → Int) (a j : Nat) (l : List Nat) (h : ¬ k (at' l (j + 1)) < k (at' l j)) : bub k a (j + 1) l = l := by unfold bub; rw [if_neg (fun x => h x.2)]
theorem bub_yes (k : Nat → Int) (a j : Nat) (l : List Nat) (h1 : a < j + 1) (h : k (at' l (j + 1)) < k (at' l j)) : bub k a (j + 1) l = bub k a j (swp l (j + 1) j) := by
  conv => lhs; unfold bub
  rw [if_pos ⟨h1, h⟩]
theorem wrap_i {i : Int} (h : -1000 ≤ i ∧ i ≤ 1000) : wrap64 i = i := by unfold wrap64; omega
theorem wrap_k {i : Int} (h : -1000 ≤ i ∧ i ≤ 1000) : IntKind.i64.wrap i = i := IntWalk.i64_in _ (by omega)
theorem insl_end (k : Nat → Int) (a i bb : Nat) (l : List Nat) (h : bb ≤ i) : insl k a i (bb - i) l = l := by rw [show bb - i = 0 by omega]; rfl
theorem insl_next (k : Nat → Int) (a i bb : Nat) (l : List Nat) (h : i < bb) : insl k a i (bb - i) l = insl k a (i + 1) (bb - (i + 1)) (bub k a i l) := by
  rw [show bb - i = bb - (i + 1) + 1 by omega]; rfl
theorem i_next {i n : Nat} (h : i < n) (hn : n ≤ 64) : wrap64 ((i : Int) + 1) = ((i + 1 : Nat) : Int) := by rw [wrap_i (by omega)]; omega
theorem lt_cast1 {a q : Nat} (h : a < q + 1) : (a : Int) < (q : Int) + 1 := by omega
theorem q_facts {q n : Nat} (h : q + 1 < n) (hn : n ≤ 64) : wrap64 ((q : Int) + 1 - 1) = (q : Int) ∧ IntKind.i64.wrap ((q : Int) + 1 - 1) = (q : Int) ∧ wrap64 (q : Int) = (q : Int) ∧ IntKind.i64.wrap (q : Int) = (q : Int) ∧ (q : Int) + 1 < n ∧ (q : Int) < n ∧ (0 : Int) ≤ (q : Int) + 1 := by
  have e : (q : Int) + 1 - 1 = q := by omega
  rw [e]
  exact ⟨wrap_i (by omega), wrap_k (by omega), wrap_i (by omega), wrap_k (by omega), by omega, by omega, by omega⟩
set_option maxRecDepth 100000 in
set_option maxHeartbeats 3200000 in
theorem ins_calls (w0 : World) (g b n : Nat) (k : Nat → Int) (HC : CmpOk w0 g b n k) (l : List Nat) (a bb : Nat) (hl : Lo n l) (hn : n ≤ 64) (ha : a ≤ n) (hb : bb ≤ n) (W : World) (hH : Hd g l W) (hB : Below g w0 W) :
    Calls Try.prog 28 #[.slice (some ⟨g, 0, none⟩) n n, .int .i64 (a : Int), .int .i64 (bb : Int), cmpV b] W fun e w' => e = .returned (.tuple #[]) ∧ Hd g (insl k a (a + 1) (bb - (a + 1)) l) w' ∧ Below g w0 w' := by
  have HCM := Lib.hid HC
  have HL := Lib.hid hl; have HN := Lib.hid hn; have HA := Lib.hid ha; have HBB := Lib.hid hb; have HH := Lib.hid hH; have HB := Lib.hid hB
  have hw1 : wrap64 ((a : Int) + 1) = (a : Int) + 1 := wrap_i (by omega)
  clear HC hl hn ha hb hH hB
  unfold cmpV
  go_enter Try.func28, Try.ntmps28
  go_wp2_with fail
  go_loopw [8] (fun vi wr => ∃ (i : Nat) (l' : List Nat), a + 1 ≤ i ∧ i ≤ n + 1 ∧ vi = .int .i64 i ∧ Hid (Hd g l' wr) ∧ Hid (Below g w0 wr) ∧ Hid (Lo n l') ∧ Hid (insl k a i (bb - i) l' = insl k a (a + 1) (bb - (a + 1)) l)) (fun vi _ => bb - (intOf vi).toNat)
  case atStart => exact ⟨a + 1, l, Nat.le_refl _, by have := HA.out; omega, by rw [hw1]; rfl, HH, HB, HL, Lib.hid rfl⟩
  case round =>
    clear HH HB HL hw1
    obtain ⟨i, l', hai, hin, rfl, HH, HB, HL, HE⟩ := hrel
    by_cases hlt : i < bb
    · have HEN := Lib.hid ((insl_next k a i bb l' hlt).symm.trans HE.out)
      have HIB : Hid (i < n) := Lib.hid (by have := HBB.out; omega)
      clear HE
      go_wp2_with fail
      go_loopw [9] (fun vj ws => ∃ (j : Nat) (l2 : List Nat), j ≤ i ∧ vj = .int .i64 j ∧ Hid (Hd g l2 ws) ∧ Hid (Below g w0 ws) ∧ Hid (Lo n l2) ∧ Hid (bub k a j l2 = bub k a i l')) (fun vj _ => (intOf vj).toNat)
      case atStart => exact ⟨i, l', Nat.le_refl _, rfl, HH, HB, HL, Lib.hid rfl⟩
      case round =>
        clear HH HB HL
        obtain ⟨j, l2, hji, rfl, HH, HB, HL, HE⟩ := hrel
        by_cases hja : a < j
        · obtain ⟨q, rfl⟩ : ∃ q, j = q + 1 := ⟨j - 1, by omega⟩
          have hq : q + 1 < n := Nat.lt_of_le_of_lt hji HIB.out
          have hn64 := HN.out
          have HQ := Lib.hid hq
          have HX : Hid (at' l2 (q + 1) < n) := Lib.hid (HL.out.at _ hq)
          have HY : Hid (at' l2 q < n) := Lib.hid (HL.out.at _ (Nat.lt_of_succ_lt hq))
          have c1 := HH.out.cell (q + 1) (by rw [HL.out.1]; exact hq)
          have c2 := HH.out.cell q (by rw [HL.out.1]; exact Nat.lt_of_succ_lt hq)
          have HCC := Lib.hid (fun m => HCM.out.2 (wr.drewN m) (bdrewN HB.out m) (at' l2 (q + 1)) (at' l2 q) HX.out HY.out)
          have hk1 := HCM.out.1 _ HX.out
          have hk2 := HCM.out.1 _ HY.out
          have HNO := Lib.hid (bub_no k a q l2)
          have HYS := Lib.hid (bub_yes k a q l2 hja)
          have e1 : (a : Int) < (q : Int) + 1 := lt_cast1 hja
          obtain ⟨w1, w2, w3, w4, b1, b2, b3⟩ := q_facts hq hn64
          obtain ⟨x, hx⟩ : ∃ x, x = at' l2 (q + 1) := ⟨_, rfl⟩
          obtain ⟨y, hy⟩ : ∃ y, y = at' l2 q := ⟨_, rfl⟩
          rw [← hx] at HX c1 HCC HNO HYS hk1
          rw [← hy] at HY c2 HCC HNO HYS hk2
          obtain ⟨kx, hkx⟩ : ∃ z, z = k x := ⟨_, rfl⟩
          obtain ⟨ky, hky⟩ : ∃ z, z = k y := ⟨_, rfl⟩
          rw [← hkx] at HCC HNO HYS hk1
          rw [← hky] at HCC HNO HYS hk2
          have HXE := Lib.hid hx; have HYE := Lib.hid hy
          have HJI := Lib.hid hji
          clear hq hja hn64 hji hx hy hkx hky
          go_upto_region 4 with (fail)
          go_quiet (exact Calls.quiet_of (HCC.out _))
          have HH2 := Lib.hid (HH.out.drew nq)
          have HB2 := Lib.hid (bdrewN HB.out nq)
          have f1 := HH2.out.free (q + 1)
          have f2 := HH2.out.free q
          have c3 : (wr.drewN nq).cell? ⟨g, q + 1, none⟩ = some (.int .i64 (x : Int)) := c1
          have c4 : (wr.drewN nq).cell? ⟨g, q, none⟩ = some (.int .i64 (y : Int)) := c2
          generalize wr.drewN nq = ws at *
          by_cases hc : kx < ky
          · have hc2 : kx - ky < 0 := Int.sub_neg_of_lt hc
            have HS := Lib.hid (HYS.out hc)
            clear hc c1 c2
            go_wp2_with fail
            go_region
            have hh := HH2.out.swp (q + 1) q
            rw [← HXE.out, ← HYE.out] at hh
            have hbb := (HB2.out.setCell (p := ⟨g, q + 1, none⟩) (Nat.le_refl _) (.int .i64 (y : Int))).setCell (p := ⟨g, q, none⟩) (Nat.le_refl _) (.int .i64 (x : Int))
            have HHN : Hid (Hd g (swp l2 (q + 1) q) (((ws.setCell ⟨g, q + 1, none⟩ (.int .i64 (y : Int))).setCell ⟨g, q, none⟩ (.int .i64 (x : Int))).drew)) := Lib.hid hh
            have HBN : Hid (Below g w0 (((ws.setCell ⟨g, q + 1, none⟩ (.int .i64 (y : Int))).setCell ⟨g, q, none⟩ (.int .i64 (x : Int))).drew)) := Lib.hid ⟨hbb.os, hbb.tape, hbb.output, hbb.size, hbb.block⟩
            clear hh hbb f1 f2 c3 c4
            go_wp2_with fail
            go_roundw
            case rel => exact ⟨q, swp l2 (q + 1) q, Nat.le_of_succ_le HJI.out, by first | rfl | (rw [w4]) | (rw [w1]), HHN, HBN, Lib.hid (HL.out.swp _ _ HQ.out (Nat.lt_of_succ_lt HQ.out)), Lib.hid (HS.out.symm.trans HE.out)⟩
            case measure => simp [intOf]
          · have hc2 : ¬ kx - ky < 0 := fun h => hc (Int.lt_of_sub_neg h)
            have HS := Lib.hid (HNO.out hc)
            clear hc
            have hw9 := i_next HIB.out HN.out
            have HW9 := Lib.hid hw9
            clear hw9 f1 f2 c3 c4 c1 c2
            go_wp2_with fail
            go_roundw
            case rel => exact ⟨i + 1, l2, Nat.le_succ_of_le hai, Nat.succ_le_succ (Nat.le_of_lt HIB.out), congrArg _ HW9.out, HH2, HB2, HL, Lib.hid ((congrArg _ (HS.out.symm.trans HE.out)).trans HEN.out)⟩
            case measure => rw [HW9.out]; exact Nat.sub_lt_sub_left hlt (Nat.lt_succ_self i)
        · have HS := Lib.hid (bub_stop k a j l2 (Nat.not_lt.1 hja))
          have hja2 : ¬ (a : Int) < j := fun h => hja (by exact_mod_cast h)
          clear hja
          go_upto_region 4 with (fail)
          go_quiet (fail)
          have HH2 := Lib.hid (HH.out.drew nq)
          have HB2 := Lib.hid (bdrewN HB.out nq)
          generalize wr.drewN nq = ws at *
          have hw9 := i_next HIB.out HN.out
          have HW9 := Lib.hid hw9
          clear hw9
          go_wp2_with fail
          go_roundw
          case rel => exact ⟨i + 1, l2, Nat.le_succ_of_le hai, Nat.succ_le_succ (Nat.le_of_lt HIB.out), congrArg _ HW9.out, HH2, HB2, HL, Lib.hid ((congrArg _ (HS.out.symm.trans HE.out)).trans HEN.out)⟩
          case measure => rw [HW9.out]; exact Nat.sub_lt_sub_left hlt (Nat.lt_succ_self i)
    · have HE2 := Lib.hid ((insl_end k a i bb l' (by omega)).symm.trans HE.out)
      go_wp2_with fail
      go_end0
      exact ⟨rfl, by rw [← HE2.out]; exact HH.out, HB.out⟩
end Go.Proofs.Ythmcnopogahffaa
