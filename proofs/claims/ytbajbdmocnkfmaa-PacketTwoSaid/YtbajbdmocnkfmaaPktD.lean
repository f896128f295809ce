/- The laws of packets, walked: two turned bits. -/
import Derived.Test.YtbajbdmocnkfmaaPktF
namespace Go.Proofs.Ytbajbdmocnkfmaa
open Go.RowKit Go.Proofs.Ytbajbdmocnkfmaa.CrcP Go.Proofs.Ytbajbdmocnkfmaa.PktP
theorem PktD.turn8 (l : List UInt8) (i : Nat) : turnBit l (8 + i) = l.set (i / 8 + 1) ((l.getD (i / 8 + 1) 0) ^^^ UInt8.ofNat (1 <<< (i % 8))) := by
  unfold turnBit
  have e1 : (8 + i) / 8 = i / 8 + 1 := by omega
  have e2 : (8 + i) % 8 = i % 8 := by omega
  rw [e1, e2]
set_option maxHeartbeats 1600000 in
theorem two_bad (k a e f : Int) (d : ByteArray) (i j x : Int) (T : ByteArray) (W1 : Hid (∀ W : World, Calls Try.prog 10 #[.agg #[.int .i64 k, .int .i64 a, .int .i64 e, .int .i64 f, .string d]] W fun en w' => en = .returned (.tuple #[.string T, .int .i64 x]) ∧ Below W.heap.size W w'))
    (c : ((x != 0) = true) ∨ ((x != 0) = false ∧ ((T.size : Int) != 3) = true) ∨ ((x != 0) = false ∧ ((T.size : Int) != 3) = false ∧ i < 0) ∨ ((x != 0) = false ∧ ((T.size : Int) != 3) = false ∧ 0 ≤ i ∧ j ≤ i) ∨ ((x != 0) = false ∧ ((T.size : Int) != 3) = false ∧ 0 ≤ i ∧ i < j ∧ 15 < j)) (w : World) :
    Calls Try.prog 7 #[.agg #[.int .i64 k, .int .i64 a, .int .i64 e, .int .i64 f, .string d], .int .i64 i, .int .i64 j] w fun en w' => en = .returned (.bool true) ∧ Below w.heap.size w w' := by
  rcases c with c1 | ⟨c1, c2⟩ | ⟨c1, c2, c3⟩ | ⟨c1, c2, c3, c4⟩ | ⟨c1, c2, c3, c4, c5⟩
  all_goals
    go_enter Try.func7, Try.ntmps7
    go_wp2_with fail
    refine (W1.out _).mono ?_; rintro en w1 ⟨rfl, hb1⟩
    obtain ⟨hc1, hf1⟩ := Kt.bcell hb1
    have hz1 : w.heap.size < w1.heap.size := by have := hb1.size; simp at this; omega
    go_wp2_with fail
    refine (lives_calls _).mono ?_; rintro en w2 ⟨rfl, hb2⟩
    obtain ⟨hc2, hf2⟩ := Kt.bcell hb2
    have hz2 : w.heap.size < w2.heap.size := by have := hb2.size; omega
    go_wp2_with fail
    refine (lives_calls _).mono ?_; rintro en w3 ⟨rfl, hb3⟩
    go_wp2
    go_ret
    exact ⟨rfl, Kt.bthen (Kt.bthen (Kt.bthen (Kt.balloc (Below.refl _ w) _) hb1) hb2) hb3⟩
set_option maxHeartbeats 1600000 in
theorem two_data (k a e f : Int) (d : ByteArray) (i j : Int) (T : ByteArray) (W1 : Hid (∀ W : World, Calls Try.prog 10 #[.agg #[.int .i64 k, .int .i64 a, .int .i64 e, .int .i64 f, .string d]] W fun en w' => en = .returned (.tuple #[.string T, .int .i64 0]) ∧ Below W.heap.size W w')) (hk : k = 3 ∨ k = 11) (c2 : ((T.size : Int) != 3) = false) (c3 : 0 ≤ i) (c4 : i < j) (c5 : j ≤ 15) (w : World) :
    Calls Try.prog 7 #[.agg #[.int .i64 k, .int .i64 a, .int .i64 e, .int .i64 f, .string d], .int .i64 i, .int .i64 j] w fun en w' => en = .returned (.bool true) ∧ Below w.heap.size w w' := by
  rcases hk with rfl | rfl
  all_goals
    go_enter Try.func7, Try.ntmps7
    go_wp2_with fail
    refine (W1.out _).mono ?_; rintro en w1 ⟨rfl, hb1⟩
    obtain ⟨hc1, hf1⟩ := Kt.bcell hb1
    have hz1 : w.heap.size < w1.heap.size := by have := hb1.size; simp at this; omega
    go_wp2_with fail
    refine (lives_calls _).mono ?_; rintro en w2 ⟨rfl, hb2⟩
    obtain ⟨hc2, hf2⟩ := Kt.bcell hb2
    have hz2 : w.heap.size < w2.heap.size := by have := hb2.size; omega
    go_wp2
    go_ret
    exact ⟨rfl, Kt.bthen (Kt.bthen (Kt.balloc (Below.refl _ w) _) hb1) hb2⟩
set_option maxHeartbeats 3200000 in
theorem two_good (k a e f : Int) (d : ByteArray) (i j : Nat) (T : ByteArray) (W1 : Hid (∀ W : World, Calls Try.prog 10 #[.agg #[.int .i64 k, .int .i64 a, .int .i64 e, .int .i64 f, .string d]] W fun en w' => en = .returned (.tuple #[.string T, .int .i64 0]) ∧ Below W.heap.size W w')) (hk3 : (k == 3) = false) (hk11 : (k == 11) = false) (hT : T.size = 3) (c4 : i < j) (c5 : j ≤ 15)
    (hlaw : (rd (turnBit (turnBit T.data.toList (8 + i)) (8 + j))).2 = 5) (w : World) :
    Calls Try.prog 7 #[.agg #[.int .i64 k, .int .i64 a, .int .i64 e, .int .i64 f, .string d], .int .i64 i, .int .i64 j] w fun en w' => en = .returned (.bool true) ∧ Below w.heap.size w w' := by
  have hk0 := fun wx : World => run_bytes_of_string (P := Try.prog) wx 9 34 5 T Try.underlying9 Try.underlying34 Try.underlying5
  have hlen : T.data.toList.length = 3 := by rw [len_size, hT]
  have HLEN := Lib.hid hlen; clear hlen
  have HLAW := Lib.hid hlaw; clear hlaw
  go_enter Try.func7, Try.ntmps7
  go_wp2_with fail
  refine (W1.out _).mono ?_; rintro en w1 ⟨rfl, hb1⟩
  obtain ⟨hc1, hf1⟩ := Kt.bcell hb1
  have hz1 : w.heap.size < w1.heap.size := by have := hb1.size; simp at this; omega
  go_wp2_with fail
  refine (lives_calls _).mono ?_; rintro en w2 ⟨rfl, hb2⟩
  obtain ⟨hc2, hf2⟩ := Kt.bcell hb2
  have hz2 : w.heap.size < w2.heap.size := by have := hb2.size; omega
  have hB2 := Kt.bthen (Kt.bthen (Kt.balloc (Below.refl _ w) _) hb1) hb2
  have hby := (Kt.Byt.of_string w2 T (grownCap w2 T.size 0 5) 5).drew
  have hbel := (Kt.balloc hB2 (.cells (bytesRow T (grownCap w2 T.size 0 5)) 5 ((bytesRow T (grownCap w2 T.size 0 5)).size, (bytesRow T (grownCap w2 T.size 0 5)).size + 1))).drew
  have hgg := hz2
  rw [hT] at hby hbel
  clear hB2 hb1 hb2
  go_wp2_with fail
  clear hk0 hc1 hf1 hz1 hc2 hf2 hz2
  generalize grownCap w2 3 0 5 = cap at *
  generalize w2.heap.size = g at *
  generalize (w2.alloc (.cells (bytesRow T cap) 5 ((bytesRow T cap).size, (bytesRow T cap).size + 1))).drew = wA1 at *
  generalize T.data.toList = l1 at *
  have hll := HLEN.out
  have hq11 : i / 8 + 1 < l1.length := by omega
  have hcell := hby.1 (i / 8 + 1) hq11
  have hfz := hby.2 (i / 8 + 1) hq11
  have hx : l1.getD (i / 8 + 1) 0 = l1[i / 8 + 1]'hq11 := by
    rw [List.getD_eq_getElem?_getD, List.getElem?_eq_getElem hq11]; rfl
  generalize l1[i / 8 + 1]'hq11 = x1 at *
  have HQ1 := Lib.hid (PktD.turn8 l1 i)
  have HXX1 := Lib.hid hx; clear hx
  have HY := Lib.hid hby; clear hby
  have hr81 : i % 8 < 8 := by omega
  have hw2 : (i : Int).tdiv 8 = ((i / 8 : Nat) : Int) := by
    rw [Int.tdiv_eq_ediv_of_nonneg (by omega)]; omega
  have hw4 : IntKind.i64.wrap ((i / 8 : Nat) : Int) = ((i / 8 : Nat) : Int) := IntWalk.i64_in _ (by omega)
  have hw5 : IntKind.i64.wrap (1 + ((i / 8 : Nat) : Int)) = ((i / 8 + 1 : Nat) : Int) := by rw [IntWalk.i64_in _ (by omega)]; omega
  have hw3 : (i : Int).tmod 8 = ((i % 8 : Nat) : Int) := by
    rw [Int.tmod_eq_emod_of_nonneg (by omega)]; omega
  generalize hq1 : i / 8 + 1 = q1 at *
  generalize i / 8 = p1 at *
  generalize i % 8 = r1 at *
  have hq0 : (0 : Int) ≤ (q1 : Int) := by omega
  have hq2 : (q1 : Int) < 3 := by omega
  have HVAL1 := Lib.hid (PktF.turn x1 r1 hr81)
  refine wp_region_still_tail 11 (by kernel_rfl) (by kernel_rfl) ?_
  simp only [List.take_succ_cons, List.take_zero, List.drop_succ_cons, List.drop_zero]
  change wpStill _ _ wA1.drew _ _ _
  iterate 11 still_step
  refine wpStill_nil ?_
  change wpList _ _ _ _ _ wA1.drew
  have hcell2 : wA1.drew.cell? ⟨g, q1, none⟩ = some (.int .u8 (x1.toNat : Int)) := hcell
  have hfz2 : wA1.drew.frozen? ⟨g, q1, none⟩ = false := hfz
  have HY2 : Hid (Kt.Byt wA1.drew g l1) := HY
  have hbel2 : Below w.heap.size w wA1.drew := hbel.drew
  have hcz : w.heap.size < g := hgg
  clear hcell hfz HY hbel
  generalize wA1.drew = wB1 at *
  have hby : Kt.Byt (wB1.setCell ⟨g, q1, none⟩ (.int .u8 (Go.bits BinOp.xor IntKind.u8 (x1.toNat : Int) (2 ^ r1 % 256)))) g (turnBit l1 (8 + i)) := by
    rw [HVAL1.out, HQ1.out, HXX1.out]
    exact HY2.out.set q1 hq11 _
  have hbel := hbel2.setCell (p := ⟨g, q1, none⟩) (Nat.le_of_lt hcz) (.int .u8 (Go.bits BinOp.xor IntKind.u8 (x1.toNat : Int) (2 ^ r1 % 256)))
  have hlt : (turnBit l1 (8 + i)).length = 3 := by rw [turn_len, hll]
  clear HY2 hbel2 hw2 hw3 hw4 hw5 hq0 hq2
  go_wp2_with fail
  generalize (wB1.setCell ⟨g, q1, none⟩ (.int .u8 (Go.bits BinOp.xor IntKind.u8 (x1.toNat : Int) (2 ^ r1 % 256)))) = wA2 at *
  generalize turnBit l1 (8 + i) = l2 at *
  clear hcell2 hfz2 HVAL1 HQ1 HXX1 hcz
  have hq12 : j / 8 + 1 < l2.length := by omega
  have hcell := hby.1 (j / 8 + 1) hq12
  have hfz := hby.2 (j / 8 + 1) hq12
  have hx : l2.getD (j / 8 + 1) 0 = l2[j / 8 + 1]'hq12 := by
    rw [List.getD_eq_getElem?_getD, List.getElem?_eq_getElem hq12]; rfl
  generalize l2[j / 8 + 1]'hq12 = x2 at *
  have HQ2 := Lib.hid (PktD.turn8 l2 j)
  have HXX2 := Lib.hid hx; clear hx
  have HY := Lib.hid hby; clear hby
  have hr82 : j % 8 < 8 := by omega
  have hw2 : (j : Int).tdiv 8 = ((j / 8 : Nat) : Int) := by
    rw [Int.tdiv_eq_ediv_of_nonneg (by omega)]; omega
  have hw4 : IntKind.i64.wrap ((j / 8 : Nat) : Int) = ((j / 8 : Nat) : Int) := IntWalk.i64_in _ (by omega)
  have hw5 : IntKind.i64.wrap (1 + ((j / 8 : Nat) : Int)) = ((j / 8 + 1 : Nat) : Int) := by rw [IntWalk.i64_in _ (by omega)]; omega
  have hw3 : (j : Int).tmod 8 = ((j % 8 : Nat) : Int) := by
    rw [Int.tmod_eq_emod_of_nonneg (by omega)]; omega
  generalize hq2 : j / 8 + 1 = q2 at *
  generalize j / 8 = p2 at *
  generalize j % 8 = r2 at *
  have hq0 : (0 : Int) ≤ (q2 : Int) := by omega
  have hq2 : (q2 : Int) < 3 := by omega
  have HVAL2 := Lib.hid (PktF.turn x2 r2 hr82)
  refine wp_region_still_tail 11 (by kernel_rfl) (by kernel_rfl) ?_
  simp only [List.take_succ_cons, List.take_zero, List.drop_succ_cons, List.drop_zero]
  change wpStill _ _ wA2.drew _ _ _
  iterate 11 still_step
  refine wpStill_nil ?_
  change wpList _ _ _ _ _ wA2.drew
  have hcell2 : wA2.drew.cell? ⟨g, q2, none⟩ = some (.int .u8 (x2.toNat : Int)) := hcell
  have hfz2 : wA2.drew.frozen? ⟨g, q2, none⟩ = false := hfz
  have HY2 : Hid (Kt.Byt wA2.drew g l2) := HY
  have hbel2 : Below w.heap.size w wA2.drew := hbel.drew
  have hcz : w.heap.size < g := hgg
  clear hcell hfz HY hbel
  generalize wA2.drew = wB2 at *
  have hBy : Kt.Byt (wB2.setCell ⟨g, q2, none⟩ (.int .u8 (Go.bits BinOp.xor IntKind.u8 (x2.toNat : Int) (2 ^ r2 % 256)))) g (turnBit l2 (8 + j)) := by
    rw [HVAL2.out, HQ2.out, HXX2.out]
    exact HY2.out.set q2 hq12 _
  have hc := hBy.back (P := Try.prog) 34 9 5 3 cap (by rw [turn_len, hlt]) Try.underlying34 Try.underlying5 Try.underlying9
  clear hBy
  have hsz : (turnBit l2 (8 + j)).length = 3 := by rw [turn_len, hlt]
  go_wp2_with fail
  generalize turnBit l2 (8 + j) = l3 at *
  refine (read_calls ⟨l3.toArray⟩ (by unfold maxLen; show l3.toArray.size ≤ _; simp; omega) _).mono ?_; rintro en w5 ⟨rfl, hb5⟩
  have hE : (⟨l3.toArray⟩ : ByteArray).data.toList = l3 := by simp
  rw [hE]
  clear hE
  have hB5 : Below w.heap.size w w5 := Kt.bthen (hbel2.setCell (Nat.le_of_lt hcz) _) hb5
  have hl3 := HLAW.out
  generalize (rd l3).1 = p at *
  unfold rdV
  rw [hl3]
  clear hc hb5 hl3
  go_wp2
  go_ret
  exact ⟨rfl, hB5⟩
theorem two_walk (v0 v1 v2 : Value) (w : World) (r0 : Fr.RdV w reachBytes (.cat 1 (.int .i64) (.cat 1 (.int .i64) (.cat 1 (.int .i64) (.cat 1 (.int .i64) (.cat 1 .string .nil))))) v0) (r1 : Fr.RdV w reachBytes (.int .i64) v1) (r2 : Fr.RdV w reachBytes (.int .i64) v2) :
    Calls Try.prog 7 #[v0, v1, v2] w fun e w' => e = .returned (.bool true) ∧ Below w.heap.size w w' := by
  obtain ⟨k, a, e, f, d, rfl, _⟩ := parg r0
  obtain ⟨i, e1, _⟩ := r1; cases e1
  obtain ⟨j, e2, _⟩ := r2; cases e2
  by_cases h : Okp ⟨k, a, e, f, d.data.toList⟩
  · have hl := text_len _ h
    have hs : (⟨(text ⟨k, a, e, f, d.data.toList⟩).toArray⟩ : ByteArray).size = (text ⟨k, a, e, f, d.data.toList⟩).length := by show Array.size _ = _; simp
    have hW := Lib.hid (write_good k a e f d h)
    by_cases h3 : (text ⟨k, a, e, f, d.data.toList⟩).length = 3
    · have hs3 : (((⟨(text ⟨k, a, e, f, d.data.toList⟩).toArray⟩ : ByteArray).size : Int) != 3) = false := by rw [hs, h3]; rfl
      by_cases c3 : i < 0
      · exact two_bad k a e f d i j 0 _ hW (Or.inr (Or.inr (Or.inl ⟨rfl, hs3, c3⟩))) w
      by_cases c4 : j ≤ i
      · exact two_bad k a e f d i j 0 _ hW (Or.inr (Or.inr (Or.inr (Or.inl ⟨rfl, hs3, by omega, c4⟩)))) w
      by_cases c5 : 15 < j
      · exact two_bad k a e f d i j 0 _ hW (Or.inr (Or.inr (Or.inr (Or.inr ⟨rfl, hs3, by omega, by omega, c5⟩)))) w
      by_cases hk : isData k
      · exact two_data k a e f d i j _ hW hk hs3 (by omega) (by omega) (by omega) w
      obtain ⟨i, rfl⟩ := Int.eq_ofNat_of_zero_le (show 0 ≤ i by omega)
      obtain ⟨j, rfl⟩ := Int.eq_ofNat_of_zero_le (show 0 ≤ j by omega)
      refine two_good k a e f d i j _ hW (PktW.bne (by unfold isData at hk; omega)) (PktW.bne (by unfold isData at hk; omega)) (by rw [hs, h3]) (by omega) (by omega) ?_ w
      have := two _ h i j (by omega) (by omega) h3 hk
      simpa using this
    · exact two_bad k a e f d i j 0 _ hW (Or.inr (Or.inl ⟨rfl, by rw [hs, bne_iff_ne]; omega⟩)) w
  · exact two_bad k a e f d i j _ ByteArray.empty (Lib.hid (write_bad k a e f d h)) (Or.inl (by rw [bne_iff_ne]; unfold chk; rw [if_neg h]; split <;> decide)) w
end Go.Proofs.Ytbajbdmocnkfmaa
