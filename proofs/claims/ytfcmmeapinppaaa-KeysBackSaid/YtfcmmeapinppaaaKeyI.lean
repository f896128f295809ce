/- keys.codes: the iterator's contract. -/
import Derived.RangeFuncBox
import Derived.RangeFuncNested
import Derived.RangeFuncBound
import Derived.RangeFuncCalls
import Derived.RangeFuncLeaves
import Derived.Shelf.Abstract
import Derived.Shelf.RegionOpen
import Derived.OwnWalkIn
import Derived.TacticsInMore
import Derived.LoopNIn
import Derived.LoopIn
import Derived.Maps.AppendAt
import Derived.Test.YtfcmmeapinppaaaKeyR
namespace Go.Proofs.Ytfcmmeapinppaaa
open Go.RowKit Go.Shelf
attribute [local go_sem] Oper.semAt_some
/-- the codes of a set below n -/
def codesL (h : Hd) : Nat → List (Fin 256)
  | 0 => []
  | n + 1 => if hn : n < 256 then (if h.has n then codesL h n ++ [⟨n, hn⟩] else codesL h n) else codesL h n
theorem codesL_succ (h : Hd) (n : Nat) (hn : n < 256) : codesL h (n + 1) = if h.has n then codesL h n ++ [⟨n, hn⟩] else codesL h n := dif_pos hn
theorem codesL_len (h : Hd) : ∀ n : Nat, (codesL h n).length ≤ n
  | 0 => Nat.le_refl _
  | n + 1 => by
    have ih := codesL_len h n
    unfold codesL
    split
    · split
      · rw [List.length_append, List.length_singleton]; omega
      · omega
    · omega
theorem codesL_pre (h : Hd) {n m : Nat} (hnm : n ≤ m) : codesL h n <+: codesL h m := by
  induction m with
  | zero => obtain rfl : n = 0 := by omega
            exact List.prefix_refl _
  | succ m ih =>
    by_cases e : n = m + 1
    · rw [e]; exact List.prefix_refl _
    · refine List.IsPrefix.trans (ih (by omega)) ?_
      show codesL h m <+: codesL h (m + 1)
      rw [codesL]
      split
      · split
        · exact ⟨_, rfl⟩
        · exact List.prefix_refl _
      · exact List.prefix_refl _
/-- what a round keeps: the box that the iterator reads -/
def KeepB (B : Nat) (W W' : World) : Prop := W'.heap[B]? = W.heap[B]? ∧ W.heap.size ≤ W'.heap.size
theorem KeepB.trans {B : Nat} {a b c : World} (h : KeepB B a b) (h2 : KeepB B b c) : KeepB B a c := ⟨h2.1.trans h.1, Nat.le_trans h.2 h2.2⟩
theorem KeepB.putObj {B n : Nat} (hB : B < n) (W : World) (l : Nat) (o o' : Obj) (hl : n ≤ l) (h : W.heap[l]? = some o) (_ : o.isCells = false) (_ : o.isWalk = false) : KeepB B W (W.putObj l o') :=
  ⟨World.putObj_heap_other (by omega), by simp⟩
theorem KeepB.of_below {B n : Nat} {W W' : World} (hB : B < n) (h : Below n W W') : KeepB B W W' := ⟨h.block B hB, h.size⟩
set_option maxRecDepth 100000 in
set_option maxHeartbeats 1000000 in
theorem codes1_in (n : Nat) (hn : 2 ≤ n) (l Bn : Nat) (h : Hd) (J Jx : List (Fin 256) → World → Prop)
    (W : World) (hJ : AbidesFrom W.heap.size J)
    (hY : ∀ pre (x : Fin 256) W1, J pre W1 → pre.length < 256 → YieldAt Fence.wide (n - 1) Try.prog l #[.int .i64 (x.val : Int)] W1 fun e W' =>
      (e = .returned (.bool true) ∧ J (pre ++ [x]) W' ∧ KeepB Bn W1 W') ∨ (e = .returned (.bool false) ∧ Jx (pre ++ [x]) W'))
    (hrow : W.heap[Bn]? = some (.cells h.vs 27 (0, 0))) (h0 : J [] W) :
    CallsIn Fence.wide n Try.prog 27 #[.func (.yield l) #[] #[], .pointer (some ⟨Bn, 0, none⟩)] W fun e W' => (∃ v, e = .returned v) ∧
      ((∃ ys, ys = codesL h 256 ∧ J ys W') ∨ (∃ pre, pre <+: codesL h 256 ∧ Jx pre W')) := by
  refine callsIn_of_wp Try.func27 rfl trivial ?_ rfl
  simp only [Try.ntmps27, List.size_toArray, List.length_cons, List.length_nil, Nat.reduceAdd, Nat.reduceSub, Array.replicate_succ, Array.replicate_zero, List.push_toArray, List.append_toArray, List.nil_append, List.cons_append]
  have HJ := Lib.hid hJ
  have HY := Lib.hid hY
  have HROW := Lib.hid hrow
  have H0 := Lib.hid h0
  clear hJ hY hrow h0
  gi_wp2
  gi_loopw [4] (fun c wr => ∃ k : Nat, k ≤ 256 ∧ c = .int .i64 k ∧ Hid (wr.heap[Bn]? = some (.cells h.vs 27 (0, 0))) ∧ Hid (J (codesL h k) wr) ∧ Hid (W.heap.size ≤ wr.heap.size)) (fun c _ => 256 - (intOf c).toNat)
  case atStart => exact ⟨0, Nat.zero_le _, rfl, HROW, Lib.hid (by simpa [codesL] using H0.out), Lib.hid (Nat.le_refl _)⟩
  case round =>
    clear HROW H0
    obtain ⟨k, hk, rfl, HROW, HJK, HSZ⟩ := hrel
    by_cases hlt : k < 256
    · have hh := HROW.out
      unfold Hd.vs at hh
      have p := fun i => cell_of_row _ _ i _ _ _ hh
      have pf := fun i => frozen_of_row _ _ i _ _ hh
      clear hh
      have HC := Lib.hid (fun m => callsIn_wide (n := m).2 (has_calls h k hlt wr))
      have h1 : 1 ≤ n := by omega
      have HJ2 := Lib.hid (HJ.out _ _ _ none HJK.out (World.grownBy_alloc wr (.cells h.vs 27) none) (fun r e => by cases e))
      have HROW2 := Lib.hid ((Below.heap_alloc wr (.cells h.vs 27) Bn (Array.getElem?_eq_some_iff.1 HROW.out).1).trans HROW.out)
      by_cases hhas : h.has k = true
      · rw [hhas] at HC
        obtain ⟨fn, tmps, assign, body, hy, hR⟩ := HY.out (codesL h k) ⟨k, hlt⟩ _ HJ2.out (by have := codesL_len h k; omega)
        have HRND := Lib.hid hR
        clear hR
        have HCS : Hid (codesL h (k + 1) = codesL h k ++ [⟨k, hlt⟩]) := Lib.hid (by rw [codesL_succ _ _ hlt, if_pos hhas])
        gi_wp2_with fail
        refine ⟨trivial, (HC.out _).mono ?_⟩
        rintro e w2 ⟨rfl, rfl⟩
        gi_wp2_with fail
        refine HRND.out.mono ?_
        rintro e W3 (⟨rfl, hJ3, hk3⟩ | ⟨rfl, hJx3⟩)
        · have HJ3 := Lib.hid hJ3
          have HROW3 := Lib.hid (hk3.1.trans HROW2.out)
          have HSZ3 := Lib.hid (Nat.le_trans HSZ.out (Nat.le_trans (by rw [World.size_alloc]; omega) hk3.2))
          clear hJ3 hk3 hy HRND HROW HROW2 HJK HJ2 HC p pf
          gi_wp2
          go_roundw
          case rel => exact ⟨k + 1, by omega, by go_num, HROW3, Lib.hid (by rw [HCS.out]; exact HJ3.out), HSZ3⟩
          case measure => (simp [intOf] <;> omega)
        · have HJX := Lib.hid hJx3
          clear hJx3 hy HRND HROW HROW2 HJK HJ2 HC p pf
          gi_wp2
          refine bodyPost_ret (results_none rfl _ _ _) rfl ?_
          exact ⟨⟨_, rfl⟩, .inr ⟨codesL h k ++ [⟨k, hlt⟩], by rw [← HCS.out]; exact codesL_pre h (by omega), HJX.out⟩⟩
      · have hf : h.has k = false := by simpa using hhas
        rw [hf] at HC
        have HCS : Hid (codesL h (k + 1) = codesL h k) := Lib.hid (by rw [codesL_succ _ _ hlt, if_neg hhas])
        have HSZ2 := Lib.hid (Nat.le_trans HSZ.out (show wr.heap.size ≤ (wr.alloc (.cells h.vs 27)).heap.size by rw [World.size_alloc]; omega))
        gi_wp2_with fail
        refine ⟨trivial, (HC.out _).mono ?_⟩
        rintro e w2 ⟨rfl, rfl⟩
        clear HC p pf HROW HJK HSZ
        gi_wp2_with fail
        refine ⟨fun _ h => (by cases h), ?_⟩
        gi_wp2
        go_roundw
        case rel => exact ⟨k + 1, by omega, by go_num, HROW2, Lib.hid (by rw [HCS.out]; exact HJ2.out), HSZ2⟩
        case measure => (simp [intOf] <;> omega)
    · obtain rfl : k = 256 := by omega
      gi_wp2
      go_end0
      exact ⟨⟨_, rfl⟩, .inl ⟨_, rfl, HJK.out⟩⟩
/-- the maker: its parameter is boxed, the function value captures the box -/
theorem codes_in (n : Nat) (h : Hd) (w : World) : CallsIn Fence.wide n Try.prog 23 #[h.v] w fun e w' => e = .returned (.func (.func 27) #[] #[.pointer (some ⟨w.heap.size, 0, none⟩)]) ∧ w' = w.alloc (.cells h.vs 27) := by
  unfold Hd.v Hd.vs
  refine callsIn_of_wp Try.func23 rfl trivial ?_ rfl
  simp only [Try.ntmps23, List.size_toArray, List.length_cons, List.length_nil, Nat.reduceAdd, Nat.reduceSub, Array.replicate_succ, Array.replicate_zero, List.push_toArray, List.append_toArray, List.nil_append, List.cons_append]
  gi_wp2
  go_ret
  exact ⟨rfl, rfl⟩
theorem codes_stops (n : Nat) (hn : 2 ≤ n) (Bn : Nat) (h : Hd) (w : World) (hBw : Bn < w.heap.size) (hrow : w.heap[Bn]? = some (.cells h.vs 27 (0, 0))) :
    SeqStopsK Fence.wide n Try.prog 27 #[.pointer (some ⟨Bn, 0, none⟩)] (fun x : Fin 256 => #[Value.int .i64 (x.val : Int)]) (KeepB Bn) (fun ys => ys = codesL h 256) (fun pre => pre <+: codesL h 256) 256 w := fun l J Jx W hW hJ _ hY h0 =>
  codes1_in n hn l Bn h J Jx W hJ hY ((hW.block Bn hBw).trans hrow) h0
end Go.Proofs.Ytfcmmeapinppaaa
