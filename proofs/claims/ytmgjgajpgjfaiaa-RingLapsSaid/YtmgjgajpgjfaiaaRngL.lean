/- RingLaps, walked. -/
import Derived.Test.YtmgjgajpgjfaiaaRngR
namespace Go.Proofs.Ytmgjgajpgjfaiaa
open Go.RowKit
def words (x : Int) (k : Nat) : List Int := (List.range k).map fun (j : Nat) => IntKind.u64.wrap (x + (j : Int))
theorem words_succ (x : Int) (k : Nat) : words x (k + 1) = words x k ++ [IntKind.u64.wrap (x + k)] := by simp [words, List.range_succ]
theorem words_get (x : Int) (k : Nat) (h : k < (words x (k + 1)).length) : (words x (k + 1))[k] = IntKind.u64.wrap (x + k) := by simp [words]
theorem mark_back (m k : Nat) (h2 : 2 ≤ m) (hk : k < 2 * m) : (((k + 1) % m : Nat) : Int) = 0 ∧ bitOf m (k + 1) = 1 ↔ k + 1 = 2 * m := by
  unfold bitOf
  have hd := Nat.div_add_mod (k + 1) m
  have hq : (k + 1) / m ≤ 2 := by
    have := Nat.div_le_div_right (c := m) (show k + 1 ≤ 2 * m by omega)
    rw [Nat.mul_div_cancel _ (by omega)] at this
    exact this
  constructor
  · rintro ⟨h1, h3⟩
    have h1' : (k + 1) % m = 0 := by omega
    rw [h1', Nat.add_zero] at hd
    clear h1 h1'
    generalize (k + 1) / m = d at *
    have hc : d = 0 ∨ d = 1 ∨ d = 2 := by omega
    rcases hc with rfl | rfl | rfl
    · omega
    · simp at h3
    · omega
  · intro e
    rw [e, Nat.mul_mod_left, Nat.mul_div_cancel _ (by omega)]
    exact ⟨rfl, rfl⟩
def LapRel (w : World) (b b7 b8 : Nat) (a0 b0 c0 d0 : Int) (m : Nat) (x : Int) (k : Nat) (wr : World) : Prop :=
  ∃ C r, InvS m (words x k, k, k) r ∧ PS w.heap.size b C r nilV [] nilV [] wr ∧ wr.heap[b7]? = some (.cells #[.int .i64 a0, .int .i64 b0] 25 (0, 0)) ∧ wr.heap[b8]? = some (.cells #[.int .i64 c0, .int .i64 d0] 25 (0, 0)) ∧ Below w.heap.size w wr
set_option maxHeartbeats 12800000 in
set_option maxRecDepth 100000 in
theorem laps_main (m : Nat) (x : Int) (w : World) (h2 : 2 ≤ m) (h63 : m ≤ 63) :
    Calls Try.prog 5 #[.int .i64 (m + 1 : Nat), .int .u64 x] w fun e w' => e = .returned (.bool true) ∧ Below w.heap.size w w' := by
  have d3 : (m : Int) ≤ 63 := by omega
  have d4 : (2 : Int) ≤ m := by omega
  go_enter Try.func5, Try.ntmps5
  go_wp2_with fail
  refine (new_ok (m + 1) _ (by omega) (by omega)).mono ?_
  rintro en w1 ⟨v, rfl, ⟨C, rfl, hs⟩, hbel⟩
  have hinv := Inv.new m h2 h63
  have HM := Lib.hid (show (newR (m + 1)).pa = 0 ∧ (newR (m + 1)).pb = 1 ∧ (newR (m + 1)).ga = 0 ∧ (newR (m + 1)).gb = 1 from ⟨rfl, rfl, rfl, rfl⟩)
  generalize newR (m + 1) = r at *
  obtain ⟨CA, Cc, rfl, _, _⟩ := hs.form
  have hps : PS w.heap.size w1.heap.size (.slice CA r.cs.length Cc) r nilV [] nilV [] (w1.alloc (.cells (boxed (.slice CA r.cs.length Cc) r).toArray 27)) :=
    ⟨heap_alloc_new w1 _, hs.alloc _, Kt.Sl.nil _ _ _ _, Kt.Sl.nil _ _ _ _, fun k hk => by have := (hs.lt k hk).2; omega, fun k hk => by simp [nilV, Value.ownBlock] at hk, fun k hk => by simp [nilV, Value.ownBlock] at hk, fun k _ hk => by simp [nilV, Value.ownBlock] at hk, fun k _ hk => by simp [nilV, Value.ownBlock] at hk, fun k _ hk => by simp [nilV, Value.ownBlock] at hk⟩
  have hb0 := Kt.balloc hbel (.cells (boxed (.slice CA r.cs.length Cc) r).toArray 27)
  have hzb := hbel.size
  unfold rgV
  go_wp2_with fail
  refine (lives_calls _).mono ?_
  rintro en w2 ⟨rfl, hb2⟩
  replace hps := hps.on hb2
  have hb3 := Kt.bthen hb0 hb2
  have hrow := hps.row
  have hz : w1.heap.size < w2.heap.size := (Array.getElem?_eq_some_iff.1 hrow).1
  have q := fun i => cell_of_row _ _ i _ _ _ hrow
  unfold boxed at q
  have HPS := Lib.hid hps; have HINV0 := Lib.hid hinv
  clear hb0 hs hb2 hbel hrow hps hinv
  go_wp2_with fail
  go_region
  · have r7 : ((w2.alloc (.cells #[.int .i64 r.pa, .int .i64 r.pb] 25)).alloc (.cells #[.int .i64 r.ga, .int .i64 r.gb] 25)).drew.heap[w2.heap.size]? = some (.cells #[.int .i64 r.pa, .int .i64 r.pb] 25 (0, 0)) := (Kt.box2 (Below.refl _ _)).1
    have r8 : ((w2.alloc (.cells #[.int .i64 r.pa, .int .i64 r.pb] 25)).alloc (.cells #[.int .i64 r.ga, .int .i64 r.gb] 25)).drew.heap[(w2.heap.size + 1)]? = some (.cells #[.int .i64 r.ga, .int .i64 r.gb] 25 (0, 0)) := (Kt.box2 (Below.refl _ _)).2
    have hps := ((HPS.out.alloc (.cells #[.int .i64 r.pa, .int .i64 r.pb] 25)).alloc (.cells #[.int .i64 r.ga, .int .i64 r.gb] 25)).on (Below.refl _ _).drew
    have hbel := (Kt.balloc (Kt.balloc hb3 (.cells #[.int .i64 r.pa, .int .i64 r.pb] 25)) (.cells #[.int .i64 r.ga, .int .i64 r.gb] 25)).drew
    generalize ((w2.alloc (.cells #[.int .i64 r.pa, .int .i64 r.pb] 25)).alloc (.cells #[.int .i64 r.ga, .int .i64 r.gb] 25)).drew = w4 at *
    obtain ⟨a0, b0, c0, d0, HA⟩ : ∃ a b c d, Hid (r.pa = a ∧ r.pb = b ∧ r.ga = c ∧ r.gb = d ∧ a = 0 ∧ b = 1 ∧ c = 0 ∧ d = 1) := ⟨_, _, _, _, Lib.hid ⟨rfl, rfl, rfl, rfl, HM.out⟩⟩
    rw [HA.out.1, HA.out.2.1] at r7
    rw [HA.out.2.2.1, HA.out.2.2.2.1] at r8
    have HREL : LapRel w w1.heap.size w2.heap.size (w2.heap.size + 1) a0 b0 c0 d0 m x 0 w4 := ⟨_, r, HINV0.out, hps, r7, r8, hbel⟩
    clear r7 r8 hps hbel hb3 q
    have hz7 : w1.heap.size ≠ w2.heap.size := by omega
    have hz8 : w1.heap.size ≠ (w2.heap.size + 1) := by omega
    go_wp2_with fail
    go_loopw [31] (fun i wr => ∃ k : Nat, k ≤ 2 * m ∧ i = .int .i64 k ∧ LapRel w w1.heap.size w2.heap.size (w2.heap.size + 1) a0 b0 c0 d0 m x k wr) (fun i _ => 2 * m - (intOf i).toNat)
    case atStart => exact ⟨0, Nat.zero_le _, rfl, HREL⟩
    case round =>
      clear HREL
      obtain ⟨k, hk, rfl, C', r', hinv, hps, r7, r8, hbel⟩ := hrel
      obtain ⟨CA', Cc', rfl, _, _⟩ := hps.cs.form
      by_cases hlt : k < 2 * m
      · have hf := hinv.full
        rw [decide_eq_false (by simp [words]; omega)] at hf
        have hi1 : InvS m (words x k ++ [IntKind.u64.wrap (x + k)], k, k) (putR r' (IntKind.u64.wrap (x + k))) := hinv.putI _ (by simp [words]; omega)
        rw [← words_succ] at hi1
        obtain ⟨hg1, hg2⟩ := hi1.get_yes (show k < (words x (k + 1)).length by simp [words])
        rw [words_get] at hg2
        have hi2 : InvS m (words x (k + 1), k + 1, k) (getR (putR r' (IntKind.u64.wrap (x + k)))) := hi1.getI (show k < (words x (k + 1)).length by simp [words])
        have hi3 : InvS m (words x (k + 1), k + 1, k + 1) (learnR (getR (putR r' (IntKind.u64.wrap (x + k))))) := hi2.learnI
        have HINV := Lib.hid hinv; have H1 := Lib.hid hi1; have H2 := Lib.hid hi2; have H3 := Lib.hid hi3
        have d5 : (k : Int) < 2 * m := by omega
        clear hinv hi1 hi2 hi3
        have q1 := fun i => cell_of_row _ _ i _ _ _ hps.row
        have qf1 := fun i => frozen_of_row _ _ i _ _ hps.row
        have q7 := fun i => cell_of_row _ _ i _ _ _ r7
        have q8 := fun i => cell_of_row _ _ i _ _ _ r8
        unfold boxed at q1
        go_wp2_with fail
        refine (put_ok _ r' _ _ hps.ra HINV.out.right hf).mono ?_
        rintro en w3 ⟨v, rfl, ⟨C3, rfl, hs3⟩, hb3⟩
        generalize putR r' (IntKind.u64.wrap (x + k)) = r3 at *
        have hb3' := Kt.bthen (Below.refl _ _) hb3
        have HR7 := Lib.hid (Kt.row_on hb3 r7); have HR8 := Lib.hid (Kt.row_on hb3 r8)
        obtain ⟨C3A, C3c, rfl, _, _⟩ := hs3.form
        have HPS3 := Lib.hid (PS.store hps hb3 hs3 hbel.size); have HB3 := Lib.hid (Kt.bthen hbel hb3)
        clear q1 qf1 q7 q8
        have q3 := fun i => cell_of_row _ _ i _ _ _ (hps.on hb3).row
        have qf3 := fun i => frozen_of_row _ _ i _ _ (hps.on hb3).row
        unfold boxed at q3
        have q7 := fun i => cell_of_row _ _ i _ _ _ (Kt.row_on hb3 r7)
        have q8 := fun i => cell_of_row _ _ i _ _ _ (Kt.row_on hb3 r8)
        clear hps r7 r8 hbel hb3 hb3' hs3
        unfold rgV
        go_wp2_with fail
        refine Kt.foldC (fun W => PS w.heap.size w1.heap.size (.slice C3A r3.cs.length C3c) r3 nilV [] nilV [] W ∧ W.heap[w2.heap.size]? = some (.cells #[.int .i64 a0, .int .i64 b0] 25 (0, 0)) ∧ W.heap[(w2.heap.size + 1)]? = some (.cells #[.int .i64 c0, .int .i64 d0] 25 (0, 0)) ∧ Below w.heap.size w W)
          ⟨HPS3.out, (Kt.setCells_other (boxed (.slice C3A r3.cs.length C3c) r3) w1.heap.size 0 _ _ (Ne.symm hz7)).trans HR7.out, (Kt.setCells_other (boxed (.slice C3A r3.cs.length C3c) r3) w1.heap.size 0 _ _ (Ne.symm hz8)).trans HR8.out, Kt.below_setCells (boxed (.slice C3A r3.cs.length C3c) r3) w1.heap.size 0 _ _ hzb HB3.out⟩ ?_
        clear HPS3 HR7 HR8 HB3 q3 qf3 q7 q8
        rintro W ⟨hps, r7, r8, hbel⟩
        refine (get_yes _ r3 _ hps.ra H1.out.right hg1).mono ?_
        rintro en w5 ⟨v, rfl, ⟨C3, rfl, hs3⟩, hb3⟩
        rw [hg2]
        have HG2 := Lib.hid hg2; clear hg2
        generalize getR r3 = r4 at *
        have q1 := fun i => cell_of_row _ _ i _ _ _ hps.row
        have qf1 := fun i => frozen_of_row _ _ i _ _ hps.row
        have q7 := fun i => cell_of_row _ _ i _ _ _ r7
        have q8 := fun i => cell_of_row _ _ i _ _ _ r8
        unfold boxed at q1
        have hb3' := Kt.bthen (Below.refl _ _) hb3
        have HR7 := Lib.hid (Kt.row_on hb3 r7); have HR8 := Lib.hid (Kt.row_on hb3 r8)
        obtain ⟨C3A, C3c, rfl, _, _⟩ := hs3.form
        have HPS3 := Lib.hid (PS.store hps hb3 hs3 hbel.size); have HB3 := Lib.hid (Kt.bthen hbel hb3)
        clear q1 qf1 q7 q8
        have q3 := fun i => cell_of_row _ _ i _ _ _ (hps.on hb3).row
        have qf3 := fun i => frozen_of_row _ _ i _ _ (hps.on hb3).row
        unfold boxed at q3
        have q7 := fun i => cell_of_row _ _ i _ _ _ (Kt.row_on hb3 r7)
        have q8 := fun i => cell_of_row _ _ i _ _ _ (Kt.row_on hb3 r8)
        clear hps r7 r8 hbel hb3 hb3' hs3
        unfold rgV
        go_wp2_with fail
        refine Kt.foldC (fun W => PS w.heap.size w1.heap.size (.slice C3A r4.cs.length C3c) r4 nilV [] nilV [] W ∧ W.heap[w2.heap.size]? = some (.cells #[.int .i64 a0, .int .i64 b0] 25 (0, 0)) ∧ W.heap[(w2.heap.size + 1)]? = some (.cells #[.int .i64 c0, .int .i64 d0] 25 (0, 0)) ∧ Below w.heap.size w W)
          ⟨HPS3.out, (Kt.setCells_other (boxed (.slice C3A r4.cs.length C3c) r4) w1.heap.size 0 _ _ (Ne.symm hz7)).trans HR7.out, (Kt.setCells_other (boxed (.slice C3A r4.cs.length C3c) r4) w1.heap.size 0 _ _ (Ne.symm hz8)).trans HR8.out, Kt.below_setCells (boxed (.slice C3A r4.cs.length C3c) r4) w1.heap.size 0 _ _ hzb HB3.out⟩ ?_
        clear HPS3 HR7 HR8 HB3 q3 qf3 q7 q8
        rintro W ⟨hps, r7, r8, hbel⟩
        refine (learn_ok _ r4 _ hps.ra H2.out.right).mono ?_
        rintro en w7 ⟨v, rfl, ⟨C3, rfl, hs3⟩, hb3⟩
        generalize learnR r4 = r5 at *
        have hpa : r5.pa = (((k + 1) % m : Nat) : Int) := by have := H3.out.pa; simpa [words] using this
        have hpb : r5.pb = bitOf m (k + 1) := by have := H3.out.pb; simpa [words] using this
        have hmb := mark_back m k h2 hlt
        rw [← hpa, ← hpb] at hmb
        have m1 := HA.out.2.2.2.2.1
        have m2 := HA.out.2.2.2.2.2.1
        rw [← m1, ← m2] at hmb
        by_cases hlast : k + 1 = 2 * m
        · obtain ⟨p1, p2⟩ := hmb.2 hlast
          have p1' := p1.symm; have p2' := p2.symm
          have p3 : ((k : Int) == 2 * (m : Int) - 1) = true := by rw [beq_iff_eq]; omega
          clear hpa hpb hmb m1 m2 p1 p2
          have q1 := fun i => cell_of_row _ _ i _ _ _ hps.row
          have qf1 := fun i => frozen_of_row _ _ i _ _ hps.row
          have q7 := fun i => cell_of_row _ _ i _ _ _ r7
          have q8 := fun i => cell_of_row _ _ i _ _ _ r8
          unfold boxed at q1
          have hb3' := Kt.bthen (Below.refl _ _) hb3
          have HR7 := Lib.hid (Kt.row_on hb3 r7); have HR8 := Lib.hid (Kt.row_on hb3 r8)
          obtain ⟨C3A, C3c, rfl, _, _⟩ := hs3.form
          have HPS3 := Lib.hid (PS.store hps hb3 hs3 hbel.size); have HB3 := Lib.hid (Kt.bthen hbel hb3)
          clear q1 qf1 q7 q8
          have q3 := fun i => cell_of_row _ _ i _ _ _ (hps.on hb3).row
          have qf3 := fun i => frozen_of_row _ _ i _ _ (hps.on hb3).row
          unfold boxed at q3
          have q7 := fun i => cell_of_row _ _ i _ _ _ (Kt.row_on hb3 r7)
          have q8 := fun i => cell_of_row _ _ i _ _ _ (Kt.row_on hb3 r8)
          clear hps r7 r8 hbel hb3 hb3' hs3
          unfold rgV
          go_wp2_with fail
          go_roundw
          case rel => exact ⟨k + 1, by omega, by go_num, .slice C3A r5.cs.length C3c, r5, H3.out, HPS3.out, (Kt.setCells_other (boxed (.slice C3A r5.cs.length C3c) r5) w1.heap.size 0 _ _ (Ne.symm hz7)).trans HR7.out, (Kt.setCells_other (boxed (.slice C3A r5.cs.length C3c) r5) w1.heap.size 0 _ _ (Ne.symm hz8)).trans HR8.out, Kt.below_setCells (boxed (.slice C3A r5.cs.length C3c) r5) w1.heap.size 0 _ _ hzb HB3.out⟩
          case measure => simp [intOf]; omega
        · have hne : ¬ (r5.pa = a0 ∧ r5.pb = b0) := fun h => hlast (hmb.1 h)
          have p3 : ((k : Int) == 2 * (m : Int) - 1) = false := by rw [beq_eq_false_iff_ne]; omega
          clear hpa hpb hmb m1 m2
          by_cases p1 : a0 = r5.pa
          · have p2 : ¬ r5.pb = b0 := fun h => hne ⟨p1.symm, h⟩
            clear hne
            have q1 := fun i => cell_of_row _ _ i _ _ _ hps.row
            have qf1 := fun i => frozen_of_row _ _ i _ _ hps.row
            have q7 := fun i => cell_of_row _ _ i _ _ _ r7
            have q8 := fun i => cell_of_row _ _ i _ _ _ r8
            unfold boxed at q1
            have hb3' := Kt.bthen (Below.refl _ _) hb3
            have HR7 := Lib.hid (Kt.row_on hb3 r7); have HR8 := Lib.hid (Kt.row_on hb3 r8)
            obtain ⟨C3A, C3c, rfl, _, _⟩ := hs3.form
            have HPS3 := Lib.hid (PS.store hps hb3 hs3 hbel.size); have HB3 := Lib.hid (Kt.bthen hbel hb3)
            clear q1 qf1 q7 q8
            have q3 := fun i => cell_of_row _ _ i _ _ _ (hps.on hb3).row
            have qf3 := fun i => frozen_of_row _ _ i _ _ (hps.on hb3).row
            unfold boxed at q3
            have q7 := fun i => cell_of_row _ _ i _ _ _ (Kt.row_on hb3 r7)
            have q8 := fun i => cell_of_row _ _ i _ _ _ (Kt.row_on hb3 r8)
            clear hps r7 r8 hbel hb3 hb3' hs3
            unfold rgV
            go_wp2_with fail
            go_roundw
            case rel => exact ⟨k + 1, by omega, by go_num, .slice C3A r5.cs.length C3c, r5, H3.out, HPS3.out, (Kt.setCells_other (boxed (.slice C3A r5.cs.length C3c) r5) w1.heap.size 0 _ _ (Ne.symm hz7)).trans HR7.out, (Kt.setCells_other (boxed (.slice C3A r5.cs.length C3c) r5) w1.heap.size 0 _ _ (Ne.symm hz8)).trans HR8.out, Kt.below_setCells (boxed (.slice C3A r5.cs.length C3c) r5) w1.heap.size 0 _ _ hzb HB3.out⟩
            case measure => simp [intOf]; omega
          · have p1' : ¬ r5.pa = a0 := fun h => p1 h.symm
            clear hne p1
            have q1 := fun i => cell_of_row _ _ i _ _ _ hps.row
            have qf1 := fun i => frozen_of_row _ _ i _ _ hps.row
            have q7 := fun i => cell_of_row _ _ i _ _ _ r7
            have q8 := fun i => cell_of_row _ _ i _ _ _ r8
            unfold boxed at q1
            have hb3' := Kt.bthen (Below.refl _ _) hb3
            have HR7 := Lib.hid (Kt.row_on hb3 r7); have HR8 := Lib.hid (Kt.row_on hb3 r8)
            obtain ⟨C3A, C3c, rfl, _, _⟩ := hs3.form
            have HPS3 := Lib.hid (PS.store hps hb3 hs3 hbel.size); have HB3 := Lib.hid (Kt.bthen hbel hb3)
            clear q1 qf1 q7 q8
            have q3 := fun i => cell_of_row _ _ i _ _ _ (hps.on hb3).row
            have qf3 := fun i => frozen_of_row _ _ i _ _ (hps.on hb3).row
            unfold boxed at q3
            have q7 := fun i => cell_of_row _ _ i _ _ _ (Kt.row_on hb3 r7)
            have q8 := fun i => cell_of_row _ _ i _ _ _ (Kt.row_on hb3 r8)
            clear hps r7 r8 hbel hb3 hb3' hs3
            unfold rgV
            go_wp2_with fail
            go_roundw
            case rel => exact ⟨k + 1, by omega, by go_num, .slice C3A r5.cs.length C3c, r5, H3.out, HPS3.out, (Kt.setCells_other (boxed (.slice C3A r5.cs.length C3c) r5) w1.heap.size 0 _ _ (Ne.symm hz7)).trans HR7.out, (Kt.setCells_other (boxed (.slice C3A r5.cs.length C3c) r5) w1.heap.size 0 _ _ (Ne.symm hz8)).trans HR8.out, Kt.below_setCells (boxed (.slice C3A r5.cs.length C3c) r5) w1.heap.size 0 _ _ hzb HB3.out⟩
            case measure => simp [intOf]; omega
      · obtain rfl : k = 2 * m := by omega
        have hpa : r'.pa = (((2 * m) % m : Nat) : Int) := by have := hinv.pa; simpa [words] using this
        have hpb : r'.pb = bitOf m (2 * m) := by have := hinv.pb; simpa [words] using this
        have hga : r'.ga = (((2 * m) % m : Nat) : Int) := hinv.ga
        have hgb : r'.gb = bitOf m (2 * m) := hinv.gb
        rw [Nat.mul_mod_left] at hpa hga
        have e2 : bitOf m (2 * m) = 1 := by unfold bitOf; rw [Nat.mul_div_cancel _ (by omega)]; rfl
        rw [e2] at hpb hgb
        obtain ⟨a1, a2, a3, a4⟩ : a0 = r'.pa ∧ b0 = r'.pb ∧ c0 = r'.ga ∧ d0 = r'.gb := by
          have h := HA.out
          exact ⟨h.2.2.2.2.1.trans hpa.symm, h.2.2.2.2.2.1.trans hpb.symm, h.2.2.2.2.2.2.1.trans hga.symm, h.2.2.2.2.2.2.2.trans hgb.symm⟩
        clear hpa hpb hga hgb e2 hinv
        have q1 := fun i => cell_of_row _ _ i _ _ _ hps.row
        have qf1 := fun i => frozen_of_row _ _ i _ _ hps.row
        have q7 := fun i => cell_of_row _ _ i _ _ _ r7
        have q8 := fun i => cell_of_row _ _ i _ _ _ r8
        unfold boxed at q1
        go_wp2_with fail
        go_ret
        exact ⟨rfl, hbel⟩
  · have r7 : ((w2.alloc (.cells #[.int .i64 r.ga, .int .i64 r.gb] 25)).alloc (.cells #[.int .i64 r.pa, .int .i64 r.pb] 25)).drew.heap[(w2.heap.size + 1)]? = some (.cells #[.int .i64 r.pa, .int .i64 r.pb] 25 (0, 0)) := (Kt.box2 (Below.refl _ _)).2
    have r8 : ((w2.alloc (.cells #[.int .i64 r.ga, .int .i64 r.gb] 25)).alloc (.cells #[.int .i64 r.pa, .int .i64 r.pb] 25)).drew.heap[w2.heap.size]? = some (.cells #[.int .i64 r.ga, .int .i64 r.gb] 25 (0, 0)) := (Kt.box2 (Below.refl _ _)).1
    have hps := ((HPS.out.alloc (.cells #[.int .i64 r.ga, .int .i64 r.gb] 25)).alloc (.cells #[.int .i64 r.pa, .int .i64 r.pb] 25)).on (Below.refl _ _).drew
    have hbel := (Kt.balloc (Kt.balloc hb3 (.cells #[.int .i64 r.ga, .int .i64 r.gb] 25)) (.cells #[.int .i64 r.pa, .int .i64 r.pb] 25)).drew
    generalize ((w2.alloc (.cells #[.int .i64 r.ga, .int .i64 r.gb] 25)).alloc (.cells #[.int .i64 r.pa, .int .i64 r.pb] 25)).drew = w4 at *
    obtain ⟨a0, b0, c0, d0, HA⟩ : ∃ a b c d, Hid (r.pa = a ∧ r.pb = b ∧ r.ga = c ∧ r.gb = d ∧ a = 0 ∧ b = 1 ∧ c = 0 ∧ d = 1) := ⟨_, _, _, _, Lib.hid ⟨rfl, rfl, rfl, rfl, HM.out⟩⟩
    rw [HA.out.1, HA.out.2.1] at r7
    rw [HA.out.2.2.1, HA.out.2.2.2.1] at r8
    have HREL : LapRel w w1.heap.size (w2.heap.size + 1) w2.heap.size a0 b0 c0 d0 m x 0 w4 := ⟨_, r, HINV0.out, hps, r7, r8, hbel⟩
    clear r7 r8 hps hbel hb3 q
    have hz7 : w1.heap.size ≠ (w2.heap.size + 1) := by omega
    have hz8 : w1.heap.size ≠ w2.heap.size := by omega
    go_wp2_with fail
    go_loopw [31] (fun i wr => ∃ k : Nat, k ≤ 2 * m ∧ i = .int .i64 k ∧ LapRel w w1.heap.size (w2.heap.size + 1) w2.heap.size a0 b0 c0 d0 m x k wr) (fun i _ => 2 * m - (intOf i).toNat)
    case atStart => exact ⟨0, Nat.zero_le _, rfl, HREL⟩
    case round =>
      clear HREL
      obtain ⟨k, hk, rfl, C', r', hinv, hps, r7, r8, hbel⟩ := hrel
      obtain ⟨CA', Cc', rfl, _, _⟩ := hps.cs.form
      by_cases hlt : k < 2 * m
      · have hf := hinv.full
        rw [decide_eq_false (by simp [words]; omega)] at hf
        have hi1 : InvS m (words x k ++ [IntKind.u64.wrap (x + k)], k, k) (putR r' (IntKind.u64.wrap (x + k))) := hinv.putI _ (by simp [words]; omega)
        rw [← words_succ] at hi1
        obtain ⟨hg1, hg2⟩ := hi1.get_yes (show k < (words x (k + 1)).length by simp [words])
        rw [words_get] at hg2
        have hi2 : InvS m (words x (k + 1), k + 1, k) (getR (putR r' (IntKind.u64.wrap (x + k)))) := hi1.getI (show k < (words x (k + 1)).length by simp [words])
        have hi3 : InvS m (words x (k + 1), k + 1, k + 1) (learnR (getR (putR r' (IntKind.u64.wrap (x + k))))) := hi2.learnI
        have HINV := Lib.hid hinv; have H1 := Lib.hid hi1; have H2 := Lib.hid hi2; have H3 := Lib.hid hi3
        have d5 : (k : Int) < 2 * m := by omega
        clear hinv hi1 hi2 hi3
        have q1 := fun i => cell_of_row _ _ i _ _ _ hps.row
        have qf1 := fun i => frozen_of_row _ _ i _ _ hps.row
        have q7 := fun i => cell_of_row _ _ i _ _ _ r7
        have q8 := fun i => cell_of_row _ _ i _ _ _ r8
        unfold boxed at q1
        go_wp2_with fail
        refine (put_ok _ r' _ _ hps.ra HINV.out.right hf).mono ?_
        rintro en w3 ⟨v, rfl, ⟨C3, rfl, hs3⟩, hb3⟩
        generalize putR r' (IntKind.u64.wrap (x + k)) = r3 at *
        have hb3' := Kt.bthen (Below.refl _ _) hb3
        have HR7 := Lib.hid (Kt.row_on hb3 r7); have HR8 := Lib.hid (Kt.row_on hb3 r8)
        obtain ⟨C3A, C3c, rfl, _, _⟩ := hs3.form
        have HPS3 := Lib.hid (PS.store hps hb3 hs3 hbel.size); have HB3 := Lib.hid (Kt.bthen hbel hb3)
        clear q1 qf1 q7 q8
        have q3 := fun i => cell_of_row _ _ i _ _ _ (hps.on hb3).row
        have qf3 := fun i => frozen_of_row _ _ i _ _ (hps.on hb3).row
        unfold boxed at q3
        have q7 := fun i => cell_of_row _ _ i _ _ _ (Kt.row_on hb3 r7)
        have q8 := fun i => cell_of_row _ _ i _ _ _ (Kt.row_on hb3 r8)
        clear hps r7 r8 hbel hb3 hb3' hs3
        unfold rgV
        go_wp2_with fail
        refine Kt.foldC (fun W => PS w.heap.size w1.heap.size (.slice C3A r3.cs.length C3c) r3 nilV [] nilV [] W ∧ W.heap[(w2.heap.size + 1)]? = some (.cells #[.int .i64 a0, .int .i64 b0] 25 (0, 0)) ∧ W.heap[w2.heap.size]? = some (.cells #[.int .i64 c0, .int .i64 d0] 25 (0, 0)) ∧ Below w.heap.size w W)
          ⟨HPS3.out, (Kt.setCells_other (boxed (.slice C3A r3.cs.length C3c) r3) w1.heap.size 0 _ _ (Ne.symm hz7)).trans HR7.out, (Kt.setCells_other (boxed (.slice C3A r3.cs.length C3c) r3) w1.heap.size 0 _ _ (Ne.symm hz8)).trans HR8.out, Kt.below_setCells (boxed (.slice C3A r3.cs.length C3c) r3) w1.heap.size 0 _ _ hzb HB3.out⟩ ?_
        clear HPS3 HR7 HR8 HB3 q3 qf3 q7 q8
        rintro W ⟨hps, r7, r8, hbel⟩
        refine (get_yes _ r3 _ hps.ra H1.out.right hg1).mono ?_
        rintro en w5 ⟨v, rfl, ⟨C3, rfl, hs3⟩, hb3⟩
        rw [hg2]
        have HG2 := Lib.hid hg2; clear hg2
        generalize getR r3 = r4 at *
        have q1 := fun i => cell_of_row _ _ i _ _ _ hps.row
        have qf1 := fun i => frozen_of_row _ _ i _ _ hps.row
        have q7 := fun i => cell_of_row _ _ i _ _ _ r7
        have q8 := fun i => cell_of_row _ _ i _ _ _ r8
        unfold boxed at q1
        have hb3' := Kt.bthen (Below.refl _ _) hb3
        have HR7 := Lib.hid (Kt.row_on hb3 r7); have HR8 := Lib.hid (Kt.row_on hb3 r8)
        obtain ⟨C3A, C3c, rfl, _, _⟩ := hs3.form
        have HPS3 := Lib.hid (PS.store hps hb3 hs3 hbel.size); have HB3 := Lib.hid (Kt.bthen hbel hb3)
        clear q1 qf1 q7 q8
        have q3 := fun i => cell_of_row _ _ i _ _ _ (hps.on hb3).row
        have qf3 := fun i => frozen_of_row _ _ i _ _ (hps.on hb3).row
        unfold boxed at q3
        have q7 := fun i => cell_of_row _ _ i _ _ _ (Kt.row_on hb3 r7)
        have q8 := fun i => cell_of_row _ _ i _ _ _ (Kt.row_on hb3 r8)
        clear hps r7 r8 hbel hb3 hb3' hs3
        unfold rgV
        go_wp2_with fail
        refine Kt.foldC (fun W => PS w.heap.size w1.heap.size (.slice C3A r4.cs.length C3c) r4 nilV [] nilV [] W ∧ W.heap[(w2.heap.size + 1)]? = some (.cells #[.int .i64 a0, .int .i64 b0] 25 (0, 0)) ∧ W.heap[w2.heap.size]? = some (.cells #[.int .i64 c0, .int .i64 d0] 25 (0, 0)) ∧ Below w.heap.size w W)
          ⟨HPS3.out, (Kt.setCells_other (boxed (.slice C3A r4.cs.length C3c) r4) w1.heap.size 0 _ _ (Ne.symm hz7)).trans HR7.out, (Kt.setCells_other (boxed (.slice C3A r4.cs.length C3c) r4) w1.heap.size 0 _ _ (Ne.symm hz8)).trans HR8.out, Kt.below_setCells (boxed (.slice C3A r4.cs.length C3c) r4) w1.heap.size 0 _ _ hzb HB3.out⟩ ?_
        clear HPS3 HR7 HR8 HB3 q3 qf3 q7 q8
        rintro W ⟨hps, r7, r8, hbel⟩
        refine (learn_ok _ r4 _ hps.ra H2.out.right).mono ?_
        rintro en w7 ⟨v, rfl, ⟨C3, rfl, hs3⟩, hb3⟩
        generalize learnR r4 = r5 at *
        have hpa : r5.pa = (((k + 1) % m : Nat) : Int) := by have := H3.out.pa; simpa [words] using this
        have hpb : r5.pb = bitOf m (k + 1) := by have := H3.out.pb; simpa [words] using this
        have hmb := mark_back m k h2 hlt
        rw [← hpa, ← hpb] at hmb
        have m1 := HA.out.2.2.2.2.1
        have m2 := HA.out.2.2.2.2.2.1
        rw [← m1, ← m2] at hmb
        by_cases hlast : k + 1 = 2 * m
        · obtain ⟨p1, p2⟩ := hmb.2 hlast
          have p1' := p1.symm; have p2' := p2.symm
          have p3 : ((k : Int) == 2 * (m : Int) - 1) = true := by rw [beq_iff_eq]; omega
          clear hpa hpb hmb m1 m2 p1 p2
          have q1 := fun i => cell_of_row _ _ i _ _ _ hps.row
          have qf1 := fun i => frozen_of_row _ _ i _ _ hps.row
          have q7 := fun i => cell_of_row _ _ i _ _ _ r7
          have q8 := fun i => cell_of_row _ _ i _ _ _ r8
          unfold boxed at q1
          have hb3' := Kt.bthen (Below.refl _ _) hb3
          have HR7 := Lib.hid (Kt.row_on hb3 r7); have HR8 := Lib.hid (Kt.row_on hb3 r8)
          obtain ⟨C3A, C3c, rfl, _, _⟩ := hs3.form
          have HPS3 := Lib.hid (PS.store hps hb3 hs3 hbel.size); have HB3 := Lib.hid (Kt.bthen hbel hb3)
          clear q1 qf1 q7 q8
          have q3 := fun i => cell_of_row _ _ i _ _ _ (hps.on hb3).row
          have qf3 := fun i => frozen_of_row _ _ i _ _ (hps.on hb3).row
          unfold boxed at q3
          have q7 := fun i => cell_of_row _ _ i _ _ _ (Kt.row_on hb3 r7)
          have q8 := fun i => cell_of_row _ _ i _ _ _ (Kt.row_on hb3 r8)
          clear hps r7 r8 hbel hb3 hb3' hs3
          unfold rgV
          go_wp2_with fail
          go_roundw
          case rel => exact ⟨k + 1, by omega, by go_num, .slice C3A r5.cs.length C3c, r5, H3.out, HPS3.out, (Kt.setCells_other (boxed (.slice C3A r5.cs.length C3c) r5) w1.heap.size 0 _ _ (Ne.symm hz7)).trans HR7.out, (Kt.setCells_other (boxed (.slice C3A r5.cs.length C3c) r5) w1.heap.size 0 _ _ (Ne.symm hz8)).trans HR8.out, Kt.below_setCells (boxed (.slice C3A r5.cs.length C3c) r5) w1.heap.size 0 _ _ hzb HB3.out⟩
          case measure => simp [intOf]; omega
        · have hne : ¬ (r5.pa = a0 ∧ r5.pb = b0) := fun h => hlast (hmb.1 h)
          have p3 : ((k : Int) == 2 * (m : Int) - 1) = false := by rw [beq_eq_false_iff_ne]; omega
          clear hpa hpb hmb m1 m2
          by_cases p1 : a0 = r5.pa
          · have p2 : ¬ r5.pb = b0 := fun h => hne ⟨p1.symm, h⟩
            clear hne
            have q1 := fun i => cell_of_row _ _ i _ _ _ hps.row
            have qf1 := fun i => frozen_of_row _ _ i _ _ hps.row
            have q7 := fun i => cell_of_row _ _ i _ _ _ r7
            have q8 := fun i => cell_of_row _ _ i _ _ _ r8
            unfold boxed at q1
            have hb3' := Kt.bthen (Below.refl _ _) hb3
            have HR7 := Lib.hid (Kt.row_on hb3 r7); have HR8 := Lib.hid (Kt.row_on hb3 r8)
            obtain ⟨C3A, C3c, rfl, _, _⟩ := hs3.form
            have HPS3 := Lib.hid (PS.store hps hb3 hs3 hbel.size); have HB3 := Lib.hid (Kt.bthen hbel hb3)
            clear q1 qf1 q7 q8
            have q3 := fun i => cell_of_row _ _ i _ _ _ (hps.on hb3).row
            have qf3 := fun i => frozen_of_row _ _ i _ _ (hps.on hb3).row
            unfold boxed at q3
            have q7 := fun i => cell_of_row _ _ i _ _ _ (Kt.row_on hb3 r7)
            have q8 := fun i => cell_of_row _ _ i _ _ _ (Kt.row_on hb3 r8)
            clear hps r7 r8 hbel hb3 hb3' hs3
            unfold rgV
            go_wp2_with fail
            go_roundw
            case rel => exact ⟨k + 1, by omega, by go_num, .slice C3A r5.cs.length C3c, r5, H3.out, HPS3.out, (Kt.setCells_other (boxed (.slice C3A r5.cs.length C3c) r5) w1.heap.size 0 _ _ (Ne.symm hz7)).trans HR7.out, (Kt.setCells_other (boxed (.slice C3A r5.cs.length C3c) r5) w1.heap.size 0 _ _ (Ne.symm hz8)).trans HR8.out, Kt.below_setCells (boxed (.slice C3A r5.cs.length C3c) r5) w1.heap.size 0 _ _ hzb HB3.out⟩
            case measure => simp [intOf]; omega
          · have p1' : ¬ r5.pa = a0 := fun h => p1 h.symm
            clear hne p1
            have q1 := fun i => cell_of_row _ _ i _ _ _ hps.row
            have qf1 := fun i => frozen_of_row _ _ i _ _ hps.row
            have q7 := fun i => cell_of_row _ _ i _ _ _ r7
            have q8 := fun i => cell_of_row _ _ i _ _ _ r8
            unfold boxed at q1
            have hb3' := Kt.bthen (Below.refl _ _) hb3
            have HR7 := Lib.hid (Kt.row_on hb3 r7); have HR8 := Lib.hid (Kt.row_on hb3 r8)
            obtain ⟨C3A, C3c, rfl, _, _⟩ := hs3.form
            have HPS3 := Lib.hid (PS.store hps hb3 hs3 hbel.size); have HB3 := Lib.hid (Kt.bthen hbel hb3)
            clear q1 qf1 q7 q8
            have q3 := fun i => cell_of_row _ _ i _ _ _ (hps.on hb3).row
            have qf3 := fun i => frozen_of_row _ _ i _ _ (hps.on hb3).row
            unfold boxed at q3
            have q7 := fun i => cell_of_row _ _ i _ _ _ (Kt.row_on hb3 r7)
            have q8 := fun i => cell_of_row _ _ i _ _ _ (Kt.row_on hb3 r8)
            clear hps r7 r8 hbel hb3 hb3' hs3
            unfold rgV
            go_wp2_with fail
            go_roundw
            case rel => exact ⟨k + 1, by omega, by go_num, .slice C3A r5.cs.length C3c, r5, H3.out, HPS3.out, (Kt.setCells_other (boxed (.slice C3A r5.cs.length C3c) r5) w1.heap.size 0 _ _ (Ne.symm hz7)).trans HR7.out, (Kt.setCells_other (boxed (.slice C3A r5.cs.length C3c) r5) w1.heap.size 0 _ _ (Ne.symm hz8)).trans HR8.out, Kt.below_setCells (boxed (.slice C3A r5.cs.length C3c) r5) w1.heap.size 0 _ _ hzb HB3.out⟩
            case measure => simp [intOf]; omega
      · obtain rfl : k = 2 * m := by omega
        have hpa : r'.pa = (((2 * m) % m : Nat) : Int) := by have := hinv.pa; simpa [words] using this
        have hpb : r'.pb = bitOf m (2 * m) := by have := hinv.pb; simpa [words] using this
        have hga : r'.ga = (((2 * m) % m : Nat) : Int) := hinv.ga
        have hgb : r'.gb = bitOf m (2 * m) := hinv.gb
        rw [Nat.mul_mod_left] at hpa hga
        have e2 : bitOf m (2 * m) = 1 := by unfold bitOf; rw [Nat.mul_div_cancel _ (by omega)]; rfl
        rw [e2] at hpb hgb
        obtain ⟨a1, a2, a3, a4⟩ : a0 = r'.pa ∧ b0 = r'.pb ∧ c0 = r'.ga ∧ d0 = r'.gb := by
          have h := HA.out
          exact ⟨h.2.2.2.2.1.trans hpa.symm, h.2.2.2.2.2.1.trans hpb.symm, h.2.2.2.2.2.2.1.trans hga.symm, h.2.2.2.2.2.2.2.trans hgb.symm⟩
        clear hpa hpb hga hgb e2 hinv
        have q1 := fun i => cell_of_row _ _ i _ _ _ hps.row
        have qf1 := fun i => frozen_of_row _ _ i _ _ hps.row
        have q7 := fun i => cell_of_row _ _ i _ _ _ r7
        have q8 := fun i => cell_of_row _ _ i _ _ _ r8
        unfold boxed at q1
        go_wp2_with fail
        go_ret
        exact ⟨rfl, hbel⟩
set_option maxHeartbeats 800000 in
theorem laps_bad (n : Int) (x : Int) (w : World) (h : n < 3 ∨ 64 < n) : Calls Try.prog 5 #[.int .i64 n, .int .u64 x] w fun e w' => e = .returned (.bool true) ∧ Below w.heap.size w w' := by
  go_enter Try.func5, Try.ntmps5
  go_wp2_with fail
  refine (new_bad n _ h).mono ?_
  rintro en w1 ⟨n1, hn, rfl, hbel⟩
  have hn1 : (n1 != 0) = true := by rw [bne_iff_ne]; exact hn
  unfold zeroR rgV
  go_wp2_with fail
  refine (lives_calls _).mono ?_
  rintro en w2 ⟨rfl, hb2⟩
  replace hb2 := Kt.bthen (Kt.balloc hbel _) hb2
  go_wp2_with fail
  refine (lives_calls _).mono ?_
  rintro en w3 ⟨rfl, hb3⟩
  replace hb3 := Kt.bthen hb2 hb3
  go_wp2_with fail
  go_ret
  exact ⟨rfl, hb3⟩
theorem laps_walk (v0 v1 : Value) (w : World) (r0 : Fr.RdV w reachBytes (.int .i64) v0) (r1 : Fr.RdV w reachBytes (.int .u64) v1) :
    Calls Try.prog 5 #[v0, v1] w fun e w' => e = .returned (.bool true) ∧ Below w.heap.size w w' := by
  obtain ⟨n, h, _⟩ := r0
  simp only [List.cons.injEq, and_true] at h
  subst h
  obtain ⟨x, h, _⟩ := r1
  simp only [List.cons.injEq, and_true] at h
  subst h
  by_cases hn : n < 3 ∨ 64 < n
  · exact laps_bad n x w hn
  · obtain ⟨m, rfl⟩ : ∃ m : Nat, n = (m + 1 : Nat) := ⟨n.toNat - 1, by omega⟩
    exact laps_main m x w (by omega) (by omega)
end Go.Proofs.Ytmgjgajpgjfaiaa
