/- The walks of package slots: slot. -/
import Derived.Test.YtidcbboonjenhaaSltP
namespace Go.Proofs.Ytidcbboonjenhaa
open Go.RowKit Classical Go.Proofs.Ytidcbboonjenhaa.Slt
def intTy : Fr.Ty := .int .i64
def slotTy : Fr.Ty := .cat 1 intTy (.cat 1 intTy (.cat 32 (.arr 32 1 intTy) (.cat 32 (.arr 32 1 intTy) .nil)))
def boardTy : Fr.Ty := .cat 594 (.arr 9 66 slotTy) .nil
theorem fit_slot : Fr.fits Try.prog 12 40 slotTy = true := by kernel_rfl
theorem ok_slot : Fr.eqOk Try.prog 12 40 = true := by kernel_rfl
theorem fit_board : Fr.fits Try.prog 12 43 boardTy = true := by kernel_rfl
theorem ok_board : Fr.eqOk Try.prog 12 43 = true := by kernel_rfl
theorem cells_slot : Try.prog.cellsOf 40 = 66 := by kernel_rfl
theorem size_slot : (Try.prog.info? 40).map (·.size) = some 66 := by kernel_rfl
theorem size_board : (Try.prog.info? 43).map (·.size) = some 594 := by kernel_rfl
theorem size_ends : (Try.prog.info? 38).map (·.size) = some 32 := by kernel_rfl
/-- a box that holds a struct of numbers -/
def Bx (t : TypeId) (b : Nat) (l : List Int) (w : World) : Prop := w.heap[b]? = some (.cells (Kt.ia .i64 l) t (0, 0))
theorem Bx.cell {t : TypeId} {b : Nat} {l : List Int} {w : World} (h : Bx t b l w) (i : Nat) (hi : i < l.length) : w.cell? ⟨b, i, none⟩ = some (.int .i64 (G l i)) := (cell_of_row _ _ i _ _ _ h).trans (by rw [G_get _ _ hi]; exact Kt.ia_at _ _ _ hi)
theorem Bx.free {t : TypeId} {b : Nat} {l : List Int} {w : World} (h : Bx t b l w) (i : Nat) : w.frozen? ⟨b, i, none⟩ = false := frozen_of_row _ _ i _ _ h
theorem Bx.on {t : TypeId} {b : Nat} {l : List Int} {w w' : World} (h : Bx t b l w) (hb : Below w.heap.size w w') : Bx t b l w' := Kt.row_on hb h
theorem Bx.lt {t : TypeId} {b : Nat} {l : List Int} {w : World} (h : Bx t b l w) : b < w.heap.size := (Array.getElem?_eq_some_iff.1 h).1
theorem Bx.set {t : TypeId} {b : Nat} {l : List Int} {w : World} (h : Bx t b l w) (i : Nat) (v : Int) : Bx t b (l.set i v) (w.setCell ⟨b, i, none⟩ (.int .i64 v)) := by
  have := heap_setCell_same w b i _ t (.int .i64 v) h
  rwa [Kt.ia_set] at this
theorem built_slot (v : Int) : Try.prog.built 40 [(0, .int .i64 v)] = some (Kt.ia .i64 (v :: zs)) := by kernel_rfl
theorem zero_slot (w : World) : (zeroValue 40).run Try.prog w = .ok (.agg (Kt.ia .i64 (0 :: zs))) w := by kernel_rfl
theorem ia_ne (v : Int) : ((Kt.ia .i64 (v :: zs)) = #[]) = False := by
  apply eq_false
  intro h
  have := congrArg Array.size h
  rw [Kt.ia_size] at this
  simp at this
theorem ia_st (u v : Int) : (Kt.ia .i64 (u :: zs)).setIfInBounds 0 (.int .i64 v) = Kt.ia .i64 (v :: zs) := Kt.ia_set _ _ _ _
theorem built_none : Try.prog.built 40 [] = some (Kt.ia .i64 (0 :: zs)) := by kernel_rfl
theorem slot_iff (s : List Int) (hl : s.length = 66) (h : G s 0 ≤ 1) : SlotOk s ↔ (s = G s 0 :: zs ∧ 0 ≤ G s 0) := by
  unfold SlotOk
  rw [zero_iff s hl]
  constructor
  · rintro (⟨_, h2, h3⟩ | ⟨h2, _⟩)
    · exact ⟨h3, h2⟩
    · omega
  · rintro ⟨h2, h3⟩
    exact .inl ⟨h, h3, h2⟩
theorem eq_slot (x y : List Int) (hx : x.length = 66) (hy : y.length = 66) : (x = y → ∀ w, (binOp .eql 40 (.agg (Kt.ia .i64 x)) (.agg (Kt.ia .i64 y))).run Try.prog w = .ok (.bool true) w ∧ (binOp .neq 40 (.agg (Kt.ia .i64 x)) (.agg (Kt.ia .i64 y))).run Try.prog w = .ok (.bool false) w) ∧
      (x ≠ y → ∀ w, (binOp .eql 40 (.agg (Kt.ia .i64 x)) (.agg (Kt.ia .i64 y))).run Try.prog w = .ok (.bool false) w ∧ (binOp .neq 40 (.agg (Kt.ia .i64 x)) (.agg (Kt.ia .i64 y))).run Try.prog w = .ok (.bool true) w) :=
  Kt.eq_ia (P := Try.prog) .i64 40 slotTy 12 (by omega) fit_slot ok_slot rfl rfl rfl (fun _ => rfl) x y (by rw [hx]; rfl) (by rw [hy]; rfl)
theorem guard_slotT : Program.eqGuardType Try.prog Try.prog.depth 40 = false := by kernel_rfl
theorem guard_slot (op : BinOp) (x y : Operand) (a b : List Int) (w : World) : (eqGuard op 40 x y (.agg (Kt.ia .i64 a)) (.agg (Kt.ia .i64 b))).run Try.prog w = .ok () w := run_eqGuard_agg w op 40 x y _ _ guard_slotT
def SlotIs (b : Bool) (w : World) (e : Ending) (w' : World) : Prop := e = .returned (.bool b) ∧ Below w.heap.size w w'
set_option maxHeartbeats 1600000 in
theorem slot_low (s : List Int) (hl : s.length = 66) (w : World) (h : G s 0 ≤ 1) : Calls Try.prog 49 #[.agg (Kt.ia .i64 s)] w (SlotIs (decide (SlotOk s)) w) := by
  have hb : Bx 40 w.heap.size s (w.alloc (.cells (Kt.ia .i64 s) 40)) := heap_alloc_new w _
  have h0 := hb.cell 0 (by omega)
  have HI := Lib.hid (slot_iff s hl h)
  have EG := fun x y a b w => guard_slot .eql x y a b w
  have Z0 := zero_slot
  have Z1 := ia_ne 0
  have Z2 := ia_st 0
  by_cases he : s = G s 0 :: zs
  · have EQ := fun w => ((eq_slot s (G s 0 :: zs) hl (by rw [List.length_cons, zs_len])).1 he w).1
    have HE := Lib.hid he
    generalize G s 0 = v at *
    clear he
    by_cases h1 : 0 ≤ v
    · have ea : decide (SlotOk s) = true := decide_eq_true (HI.out.2 ⟨HE.out, h1⟩)
      rw [ea]
      go_enter Try.func49, Try.ntmps49
      go_wp2_with (refine wpList_load_row rfl 40 (.tmp 1) rfl w.heap.size rfl 40 (Kt.ia .i64 s) (0, 0) _ hb Try.underlying40 rfl (by rw [Kt.ia_size, hl]; exact size_slot) ?_)
      go_ret
      exact ⟨rfl, Kt.balloc (Below.refl _ _) _⟩
    · have ea : decide (SlotOk s) = false := decide_eq_false fun k => h1 (HI.out.1 k).2
      rw [ea]
      have h1 : v < 0 := by omega
      go_enter Try.func49, Try.ntmps49
      go_wp2_with (refine wpList_load_row rfl 40 (.tmp 1) rfl w.heap.size rfl 40 (Kt.ia .i64 s) (0, 0) _ hb Try.underlying40 rfl (by rw [Kt.ia_size, hl]; exact size_slot) ?_)
      go_ret
      exact ⟨rfl, Kt.balloc (Below.refl _ _) _⟩
  · have EQ := fun w => ((eq_slot s (G s 0 :: zs) hl (by rw [List.length_cons, zs_len])).2 he w).1
    have ea : decide (SlotOk s) = false := decide_eq_false fun k => he (HI.out.1 k).1
    rw [ea]
    clear he
    generalize G s 0 = v at *
    go_enter Try.func49, Try.ntmps49
    go_wp2_with (refine wpList_load_row rfl 40 (.tmp 1) rfl w.heap.size rfl 40 (Kt.ia .i64 s) (0, 0) _ hb Try.underlying40 rfl (by rw [Kt.ia_size, hl]; exact size_slot) ?_)
    go_ret
    exact ⟨rfl, Kt.balloc (Below.refl _ _) _⟩
noncomputable def more (s : List Int) (k : Nat) : Bool := decide (∃ j, 2 ≤ j ∧ j < k ∧ G s (2 + j) ≠ 0)
theorem more_one (s : List Int) : more s 1 = false := decide_eq_false fun ⟨j, h1, h2, _⟩ => by omega
theorem more_next {s : List Int} {k : Nat} {b : Bool} (h : more s k = b) (hb : b = true ∨ k ≤ 1 ∨ G s (2 + k) = 0) : more s (k + 1) = b := by
  rw [← h]
  unfold more
  rw [decide_eq_decide]
  constructor
  · rintro ⟨j, h1, h2, h3⟩
    by_cases e : j = k
    · subst e
      rcases hb with rfl | h4 | h4
      · exact of_decide_eq_true h
      · omega
      · exact absurd h4 h3
    · exact ⟨j, h1, by omega, h3⟩
  · rintro ⟨j, h1, h2, h3⟩
    exact ⟨j, h1, by omega, h3⟩
theorem more_now {s : List Int} {k : Nat} (h1 : 1 < k) (h : G s (2 + k) ≠ 0) : more s (k + 1) = true := decide_eq_true ⟨k, by omega, by omega, h⟩
theorem high_iff (s : List Int) (h : 1 < G s 0) : SlotOk s ↔ Called s := ⟨fun h2 => h2.elim (fun a => absurd a.1 (by omega)) (·.2), fun a => .inr ⟨h, a⟩⟩
theorem slot_end {s : List Int} (h : 1 < G s 0 ∧ G s 0 ≤ 3 ∧ 1 ≤ G s 1 ∧ G s 1 ≤ 127 ∧ G s 3 ≠ 0 ∧ G s 2 = 0 ∧ G s 34 = 0) (hf : ∀ j, 1 ≤ j → j < 32 → EndOk (G s (2 + j)) (G s (34 + j))) : (more s 32 == (G s 0 == 3)) = decide (SlotOk s) := by
  obtain ⟨a, b, c, d, e, f, g⟩ := h
  have key : SlotOk s ↔ ((∃ j : Nat, 2 ≤ j ∧ j < 32 ∧ G s (2 + j) ≠ 0) ↔ G s 0 = 3) :=
    (high_iff s a).trans ⟨fun h => h.more, fun h => ⟨b, c, d, e, f, g, hf, h⟩⟩
  rw [show decide (SlotOk s) = decide ((∃ j : Nat, 2 ≤ j ∧ j < 32 ∧ G s (2 + j) ≠ 0) ↔ G s 0 = 3) from decide_eq_decide.2 key]
  unfold more
  by_cases p : ∃ j, 2 ≤ j ∧ j < 32 ∧ G s (2 + j) ≠ 0
  · by_cases q : G s 0 = 3
    · simp only [p, q, decide_true]; rfl
    · rw [beq_eq_false_iff_ne.2 q]; simp only [p, q, decide_true]; rfl
  · by_cases q : G s 0 = 3
    · simp only [p, q]; rfl
    · rw [beq_eq_false_iff_ne.2 q]; simp only [p, q]; rfl
set_option maxHeartbeats 1600000 in
theorem slot_high (s : List Int) (hl : s.length = 66) (w : World) (h : 1 < G s 0) (g1 : G s 0 ≤ 3) (g2 : 1 ≤ G s 1) (g3 : G s 1 ≤ 127) (g4 : G s 3 ≠ 0) (g5 : G s 2 = 0) (g6 : G s 34 = 0) : Calls Try.prog 49 #[.agg (Kt.ia .i64 s)] w (SlotIs (decide (SlotOk s)) w) := by
  have hb : Bx 40 w.heap.size s (w.alloc (.cells (Kt.ia .i64 s) 40)) := heap_alloc_new w _
  have h0 := hb.cell 0 (by omega)
  have h1 := hb.cell 1 (by omega)
  have h2 := hb.cell 2 (by omega)
  have h3 := hb.cell 3 (by omega)
  have h34 := hb.cell 34 (by omega)
  have HB := Lib.hid hb
  have HI := Lib.hid (high_iff s h)
  have e1 : decide (G s 0 ≤ 1) = false := decide_eq_false (by omega)
  have e2 : decide (3 < G s 0) = false := decide_eq_false (by omega)
  have e3 : decide (G s 1 < 1) = false := decide_eq_false (by omega)
  have e4 : decide (127 < G s 1) = false := decide_eq_false (by omega)
  have e5 : (G s 3 == 0) = false := beq_eq_false_iff_ne.2 g4
  rw [g5] at h2
  rw [g6] at h34
  have HG := Lib.hid (And.intro h (And.intro g1 (And.intro g2 (And.intro g3 (And.intro g4 (And.intro g5 g6))))))
  clear h g1 g2 g3 g4 g5 g6 hb
  go_enter Try.func49, Try.ntmps49
  go_wp2_with fail
  go_loopw [3, 4] (fun m i wr => ∃ k : Nat, Hid (1 ≤ k ∧ k ≤ 32) ∧ i = .int .i64 k ∧ m = .bool (more s k) ∧ Hid (∀ j, 1 ≤ j → j < k → EndOk (G s (2 + j)) (G s (34 + j))) ∧ wr = w.alloc (.cells (Kt.ia .i64 s) 40)) (fun _ i _ => 32 - (intOf i).toNat)
  case atStart => exact ⟨1, Lib.hid ⟨by omega, by omega⟩, rfl, by rw [more_one], Lib.hid fun j _ _ => absurd ‹_› (by omega), rfl⟩
  case round =>
    obtain ⟨k, HK, rfl, rfl, HF, rfl⟩ := hrel
    by_cases hlt : k < 32
    · have c1 := HB.out.cell (2 + k) (by omega)
      have c2 := HB.out.cell (34 + k) (by omega)
      have hlt' : (k : Int) < 32 := by omega
      have HK1 := Lib.hid HK.out.1
      by_cases hE : EndOk (G s (2 + k)) (G s (34 + k))
      · have HE := Lib.hid hE
        have HN : Hid (∀ j, 1 ≤ j → j < k + 1 → EndOk (G s (2 + j)) (G s (34 + j))) := Lib.hid fun j h1 h2 => by
          by_cases e : j = k
          · subst e; exact HE.out
          · exact HF.out j h1 (by omega)
        have HM := Lib.hid (fun b (hb : more s k = b) => more_next (k := k) hb)
        have HM2 := Lib.hid (more_now (s := s) (k := k))
        obtain ⟨x1, x2, x3, x4, x5⟩ := hE
        generalize more s k = b at *
        generalize G s (2 + k) = e at *
        generalize G s (34 + k) = m at *
        have f1 : decide (e < 0) = false := decide_eq_false (by omega)
        have f2 : decide (3 < e) = false := decide_eq_false (by omega)
        have f3 : decide (m < 0) = false := decide_eq_false (by omega)
        have f4 : decide (65535 < m) = false := decide_eq_false (by omega)
        clear HE x1 x2 x3 x4
        have hgo : ∀ r : Bool, more s (k + 1) = r → (∃ k_1 : Nat, Hid (1 ≤ k_1 ∧ k_1 ≤ 32) ∧ Value.int .i64 ((k : Int) + 1) = .int .i64 k_1 ∧ Value.bool r = .bool (more s k_1) ∧ Hid (∀ j, 1 ≤ j → j < k_1 → EndOk (G s (2 + j)) (G s (34 + j))) ∧ True) ∧ 32 - (intOf (.int .i64 ((k : Int) + 1))).toNat < 32 - (intOf (.int .i64 (k : Int))).toNat := by
          intro r hr
          refine ⟨⟨k + 1, Lib.hid ⟨by omega, by omega⟩, rfl, by rw [hr], HN, trivial⟩, ?_⟩
          simp only [intOf]
          omega
        have HGO := Lib.hid hgo
        clear hgo
        by_cases he : e = 0
        · have hm := x5 he
          subst he hm
          have HR := Lib.hid (HM.out b rfl (.inr (.inr rfl)))
          clear x5 HM HM2 f1 f2 f3 f4
          by_cases hk : 1 < k
          · have hk' : (1 : Int) < k := by omega
            cases b
            all_goals
              go_wp2_with fail
              exact HGO.out _ HR.out
          · have hk' : ¬ (1 : Int) < k := by omega
            cases b
            all_goals
              go_wp2_with fail
              exact HGO.out _ HR.out
        · have f5 : (e == 0) = false := beq_eq_false_iff_ne.2 he
          have f6 : (e != 0) = true := bne_iff_ne.2 he
          clear x5
          by_cases hk : 1 < k
          · have hk' : (1 : Int) < k := by omega
            have HR := Lib.hid (HM2.out hk he)
            clear HM HM2 he
            cases b
            all_goals
              go_wp2_with fail
              exact HGO.out _ HR.out
          · have hk' : ¬ (1 : Int) < k := by omega
            have HR := Lib.hid (HM.out b rfl (.inr (.inl (by omega))))
            clear HM HM2 he
            cases b
            all_goals
              go_wp2_with fail
              exact HGO.out _ HR.out
      · have HN : Hid (decide (SlotOk s) = false) := Lib.hid (decide_eq_false fun a => hE ((HI.out.1 a).ends k HK1.out hlt))
        rw [HN.out]
        have hbad : G s (2 + k) < 0 ∨ (0 ≤ G s (2 + k) ∧ 3 < G s (2 + k)) ∨ (0 ≤ G s (2 + k) ∧ G s (2 + k) ≤ 3 ∧ G s (34 + k) < 0) ∨ (0 ≤ G s (2 + k) ∧ G s (2 + k) ≤ 3 ∧ 0 ≤ G s (34 + k) ∧ 65535 < G s (34 + k)) ∨ (0 ≤ G s (34 + k) ∧ G s (34 + k) ≤ 65535 ∧ G s (2 + k) = 0 ∧ G s (34 + k) ≠ 0) := by
          unfold EndOk at hE
          omega
        clear hE HN
        generalize more s k = b at *
        generalize G s (2 + k) = e at *
        generalize G s (34 + k) = m at *
        rcases hbad with h | ⟨h1, h2⟩ | ⟨h1, h2, h3⟩ | ⟨h1, h2, h3, h4⟩ | ⟨h1, h2, h3, h4⟩
        rotate_right 1
        · subst h3
          have f3 : decide (m < 0) = false := decide_eq_false (by omega)
          have f4 : decide (65535 < m) = false := decide_eq_false (by omega)
          have f5 : (m == 0) = false := beq_eq_false_iff_ne.2 h4
          go_wp2_with fail
          go_ret
          exact ⟨rfl, Kt.balloc (Below.refl _ _) _⟩
        all_goals
          go_wp2_with fail
          go_ret
          exact ⟨rfl, Kt.balloc (Below.refl _ _) _⟩
    · have hlt' : ¬ (k : Int) < 32 := by omega
      obtain rfl : k = 32 := by have := HK.out; omega
      go_wp2_with fail
      go_ret
      exact ⟨congrArg (fun b => Ending.returned (.bool b)) (slot_end HG.out HF.out), Kt.balloc (Below.refl _ _) _⟩
set_option maxHeartbeats 1600000 in
theorem slot_early (s : List Int) (hl : s.length = 66) (w : World) (h : 1 < G s 0) (hn : ¬ (G s 0 ≤ 3 ∧ 1 ≤ G s 1 ∧ G s 1 ≤ 127 ∧ G s 3 ≠ 0 ∧ G s 2 = 0 ∧ G s 34 = 0)) : Calls Try.prog 49 #[.agg (Kt.ia .i64 s)] w (SlotIs (decide (SlotOk s)) w) := by
  have hb : Bx 40 w.heap.size s (w.alloc (.cells (Kt.ia .i64 s) 40)) := heap_alloc_new w _
  rw [show decide (SlotOk s) = false from decide_eq_false fun k => hn (by have c := (high_iff s h).1 k; exact ⟨c.st, c.a1, c.a2, c.e1, c.e0, c.m0⟩)]
  have h0 := hb.cell 0 (by omega)
  have h1 := hb.cell 1 (by omega)
  have h2 := hb.cell 2 (by omega)
  have h3 := hb.cell 3 (by omega)
  have h34 := hb.cell 34 (by omega)
  clear hb
  have hc : 3 < G s 0 ∨ (G s 0 ≤ 3 ∧ G s 1 < 1) ∨ (G s 0 ≤ 3 ∧ 1 ≤ G s 1 ∧ 127 < G s 1) ∨ (G s 0 ≤ 3 ∧ 1 ≤ G s 1 ∧ G s 1 ≤ 127 ∧ G s 3 = 0) ∨ (G s 0 ≤ 3 ∧ 1 ≤ G s 1 ∧ G s 1 ≤ 127 ∧ G s 3 ≠ 0 ∧ G s 2 ≠ 0) ∨ (G s 0 ≤ 3 ∧ 1 ≤ G s 1 ∧ G s 1 ≤ 127 ∧ G s 3 ≠ 0 ∧ G s 2 = 0 ∧ G s 34 ≠ 0) := by omega
  clear hn
  generalize G s 0 = a at *
  generalize G s 1 = b at *
  generalize G s 2 = c at *
  generalize G s 3 = d at *
  generalize G s 34 = e at *
  have d1 : decide (a ≤ 1) = false := decide_eq_false (by omega)
  rcases hc with g1 | ⟨g1, g2⟩ | ⟨g1, g2, g3⟩ | ⟨g1, g2, g3, g4⟩ | ⟨g1, g2, g3, g4, g5⟩ | ⟨g1, g2, g3, g4, g5, g6⟩
  · go_enter Try.func49, Try.ntmps49
    go_wp2_with fail
    go_ret
    exact ⟨rfl, Kt.balloc (Below.refl _ _) _⟩
  all_goals have d2 : decide (3 < a) = false := decide_eq_false (by omega)
  · go_enter Try.func49, Try.ntmps49
    go_wp2_with fail
    go_ret
    exact ⟨rfl, Kt.balloc (Below.refl _ _) _⟩
  all_goals have d3 : decide (b < 1) = false := decide_eq_false (by omega)
  · go_enter Try.func49, Try.ntmps49
    go_wp2_with fail
    go_ret
    exact ⟨rfl, Kt.balloc (Below.refl _ _) _⟩
  all_goals have d4 : decide (127 < b) = false := decide_eq_false (by omega)
  · subst g4
    go_enter Try.func49, Try.ntmps49
    go_wp2_with fail
    go_ret
    exact ⟨rfl, Kt.balloc (Below.refl _ _) _⟩
  all_goals have d5 : (d == 0) = false := beq_eq_false_iff_ne.2 g4
  · have d6 : (c == 0) = false := beq_eq_false_iff_ne.2 g5
    have d7 : (c != 0) = true := bne_iff_ne.2 g5
    go_enter Try.func49, Try.ntmps49
    go_wp2_with fail
    go_ret
    exact ⟨rfl, Kt.balloc (Below.refl _ _) _⟩
  · subst g5
    have d6 : (e == 0) = false := beq_eq_false_iff_ne.2 g6
    have d7 : (e != 0) = true := bne_iff_ne.2 g6
    go_enter Try.func49, Try.ntmps49
    go_wp2_with fail
    go_ret
    exact ⟨rfl, Kt.balloc (Below.refl _ _) _⟩
theorem slot_calls (s : List Int) (hl : s.length = 66) (w : World) : Calls Try.prog 49 #[.agg (Kt.ia .i64 s)] w (SlotIs (decide (SlotOk s)) w) := by
  by_cases h : G s 0 ≤ 1
  · exact slot_low s hl w h
  · by_cases g : G s 0 ≤ 3 ∧ 1 ≤ G s 1 ∧ G s 1 ≤ 127 ∧ G s 3 ≠ 0 ∧ G s 2 = 0 ∧ G s 34 = 0
    · exact slot_high s hl w (by omega) g.1 g.2.1 g.2.2.1 g.2.2.2.1 g.2.2.2.2.1 g.2.2.2.2.2
    · exact slot_early s hl w (by omega) g
end Go.Proofs.Ytidcbboonjenhaa
