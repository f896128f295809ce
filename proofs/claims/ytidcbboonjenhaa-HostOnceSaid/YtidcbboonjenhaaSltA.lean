/- The walks of package slots: address. -/
import Derived.Test.YtidcbboonjenhaaSltB
namespace Go.Proofs.Ytidcbboonjenhaa
open Go.RowKit Classical Go.Proofs.Ytidcbboonjenhaa.Slt
theorem cells_board : Try.prog.cellsOf 41 = 594 := by kernel_rfl
theorem size_slots : (Try.prog.info? 41).map (·.size) = some 594 := by kernel_rfl
theorem slots_size (l : List Int) (hl : l.length = 594) : (Try.prog.info? 41).map (·.size) = some (Kt.ia .i64 l).toList.length := by
  rw [Kt.ia_list, List.length_map, hl]; exact size_slots
theorem slot_index (l : List Int) (hl : l.length = 594) (i : Nat) (hi : i < 9) (w : World) : (Instr.index 41 (.agg (Kt.ia .i64 l)) (.int .i64 i)).run Try.prog w = .ok (.agg (Kt.ia .i64 (at_ l i))) w :=
  Kt.run_index_ia (P := Try.prog) .i64 .i64 41 40 9 slotTy 12 Try.underlying41 fit_slot ok_slot rfl rfl rfl cells_slot l hl i hi w
theorem Bx.slots {b : Nat} {l : List Int} {w : World} (h : Bx 43 b l w) (hl : l.length = 594) : w.rangeAt b 0 (Kt.ia .i64 l).toList := by
  have h2 := World.rangeAt_of_block h 0 594
  rw [Kt.ia_extract] at h2
  have e : (l.drop 0).take (0 + 594 - 0) = l := by
    rw [List.drop_zero]; exact List.take_of_length_le (by omega)
  rw [e] at h2
  exact h2
/-- no slot ahead of i has the address, or it has been raised; all below it are had -/
def Hit (l : List Int) (a : Nat) : Prop := ∀ b : Nat, 1 ≤ b → b < a → ∃ i, i < 9 ∧ G l (i * 66 + 1) = b
theorem Hit.one (l : List Int) : Hit l 1 := fun b h1 h2 => absurd h2 (by omega)
theorem Hit.next {l : List Int} {a i : Nat} (h : Hit l a) (hi : i < 9) (he : G l (i * 66 + 1) = a) : Hit l (a + 1) := fun b h1 h2 => by
  by_cases e : b = a
  · subst e; exact ⟨i, hi, he⟩
  · exact h b h1 (by omega)
def Free (l : List Int) (a i : Nat) : Prop := ∀ j, j < i → G l (j * 66 + 1) ≠ a
theorem Free.next {l : List Int} {a i : Nat} (h : Free l a i) (he : G l (i * 66 + 1) ≠ a) : Free l a (i + 1) := fun j hj => by
  by_cases e : j = i
  · subst e; exact he
  · exact h j (by omega)
theorem goes_on {l : List Int} {a a' i : Nat} {t : Bool} (hq : Free l a' i → Free l a' (i + 1)) (h : (t = false ∧ a' = a ∧ Free l a i) ∨ (t = true ∧ a < a')) : (t = false ∧ a' = a ∧ Free l a (i + 1)) ∨ (t = true ∧ a < a') := by
  rcases h with ⟨h1, h2, h3⟩ | h
  · subst h2; exact .inl ⟨h1, rfl, hq h3⟩
  · exact .inr h
theorem called_set (l : List Int) (hl : l.length = 594) (n : Nat) (hn : n < 9) (a : Int) : ((l.set (n * 66) 2).set (n * 66 + 1) a).set (n * 66 + 2 + 1) 1 = put l n (called (at_ l n) a) := by
  have hx := at_len l hl n hn
  have h0 := put_set l hl n hn (at_ l n) hx 0 (by omega) 2
  have h1 := put_set l hl n hn ((at_ l n).set 0 2) (by simp [hx]) 1 (by omega) a
  have h3 := put_set l hl n hn (((at_ l n).set 0 2).set 1 a) (by simp [hx]) 3 (by omega) 1
  rw [put_at l hl n hn] at h0
  rw [Nat.add_zero] at h0
  rw [h0, h1]
  exact h3
theorem Upd.drew {g : Nat} {w w' : World} (h : Upd g w w') : Upd g w w'.drew := ⟨h.below.drew, h.other⟩
def AdIs (g : Nat) (l : List Int) (n : Nat) (w : World) (e : Ending) (w' : World) : Prop :=
  (G l (n * 66) = 1 ∧ ∃ a : Nat, Least l a ∧ e = .returned (.int .i64 1) ∧ Bx 43 g (put l n (called (at_ l n) a)) w' ∧ Upd g w w') ∨ (G l (n * 66) ≠ 1 ∧ e = .returned (.int .i64 19) ∧ w' = w)
set_option maxRecDepth 100000 in
set_option maxHeartbeats 1600000 in
theorem address_calls (l : List Int) (hl : l.length = 594) (n : Nat) (hn : n < 9) (g : Nat) (w : World) (hb : Bx 43 g l w) : Calls Try.prog 35 #[.pointer (some ⟨g, 0, none⟩), .int .i64 n] w (AdIs g l n w) := by
  have HB := Lib.hid hb
  have HG := Lib.hid hb.lt
  have c1 := hb.cell (n * 66) (by omega)
  have hn' : (n : Int) < 9 := by omega
  clear hb
  go_enter Try.func35, Try.ntmps35
  by_cases h1 : G l (n * 66) = 1
  · rw [h1] at c1
    go_wp2_with fail
    go_loopw [5, 6] (fun ad tk wr => ∃ a : Nat, ∃ t : Bool, Hid (1 ≤ a) ∧ ad = .int .i64 a ∧ tk = .bool t ∧ Hid (Hit l a) ∧ Hid (t = false → Free l a 9) ∧ Hid (Bx 43 g l wr) ∧ Hid (Upd g w wr)) (fun ad tk _ => 2 * (11 - (intOf ad).toNat) + (if tk = .bool true then 1 else 0))
    case atStart => exact ⟨1, true, Lib.hid (by omega), rfl, rfl, Lib.hid (Hit.one l), Lib.hid (fun h => absurd h (by decide)), HB, Lib.hid (Upd.refl _ _)⟩
    case round =>
      clear HB c1
      obtain ⟨a, t, HA, rfl, rfl, HT, HF, HB, HU⟩ := hrel
      cases t
      · have HL := Lib.hid (show Least l a from ⟨HA.out, HF.out rfl, HT.out⟩)
        clear HF HT
        go_wp2_with fail
        have fz0 := HB.out.free (n * 66)
        have fz1 := HB.out.free (n * 66 + 1)
        have fz3 := HB.out.free (n * 66 + 2 + 1)
        have z0 := HB.out.cell (n * 66) (by omega)
        have z1 := HB.out.cell (n * 66 + 1) (by omega)
        have z3 := HB.out.cell (n * 66 + 2 + 1) (by omega)
        go_region
        all_goals go_wp2_with fail
        all_goals refine bodyPost_ret (v := .int .i64 1) (by simp [results, Try.results35, go_sem]) rfl ?_
        exact .inl ⟨h1, a, HL.out, rfl, by rw [← called_set l hl n hn a]; exact (((HB.out.set _ 2).set _ a).set _ 1), (((HU.out.set _ _).set _ _).set _ _).drew⟩
      · have hr := HB.out.slots hl
        have hs := slots_size l hl
        clear HF
        go_wp2_with (refine wpList_load_mid rfl 41 (.tmp 21) rfl g 0 rfl _ _ hr Try.underlying41 rfl hs ?_)
        clear hr hs
        go_loopw [5, 6, 8, 23] (fun ad tk _ ii wr => ∃ a' : Nat, ∃ t : Bool, ∃ i : Nat, Hid (1 ≤ a') ∧ ad = .int .i64 a' ∧ tk = .bool t ∧ ii = .int .i64 i ∧ Hid (i ≤ 9) ∧ Hid (Hit l a') ∧ Hid ((t = false ∧ a' = a ∧ Free l a i) ∨ (t = true ∧ a < a')) ∧ Hid (Bx 43 g l wr) ∧ Hid (Upd g w wr)) (fun _ _ _ ii _ => 9 - (intOf ii).toNat)
        case atStart => exact ⟨a, false, 0, HA, rfl, rfl, rfl, Lib.hid (by omega), HT, Lib.hid (.inl ⟨rfl, rfl, fun _ h => absurd h (by omega)⟩), HB, HU⟩
        case round =>
          clear HB HU HT
          obtain ⟨a', t, i, HA', rfl, rfl, rfl, HI, HT, HF, HB, HU⟩ := hrel
          by_cases hi : i < 9
          · have hi' : (i : Int) < 9 := by omega
            have ix := fun W => slot_index l hl i hi W
            have Z0 := zero_slot
            have hla := at_len l hl i hi
            have hsz : (Try.prog.info? 40).map (·.size) = some (at_ l i).length := by rw [hla]; exact size_slot
            have nb : Bx 40 wr.heap.size (at_ l i) (wr.alloc (.cells (Kt.ia .i64 (at_ l i)) 40)) := heap_alloc_new _ _
            have k1 := nb.cell 1 (by omega)
            rw [G_at l i 1 (by omega)] at k1
            have HB2 := Lib.hid (HB.out.on (Kt.balloc (Below.refl _ _) (.cells (Kt.ia .i64 (at_ l i)) 40)))
            have HU2 := Lib.hid (HU.out.alloc HG.out (.cells (Kt.ia .i64 (at_ l i)) 40))
            have HQ := Lib.hid (fun e h => Free.next (l := l) (a := a') (i := i) h e)
            have HH := Lib.hid (fun e => HT.out.next (l := l) hi e)
            have HL10 := hit_le HT.out
            have ha' : (a' : Int) ≤ 10 := by omega
            clear nb HB HU hi HL10
            generalize G l (i * 66 + 1) = x at k1 HH HQ
            by_cases hx : x = a'
            · have f1 : (x == (a' : Int)) = true := beq_iff_eq.2 hx
              have HX := Lib.hid (HH.out hx)
              clear hx
              go_wp2_with (refine store_new rfl 40 (.tmp 8) (.tmp 25) rfl wr.heap.size rfl rfl (at_ l i) rfl _ (by rw [Kt.ia_size, hla]; rfl) hsz ?_)
              exact ⟨⟨a' + 1, true, i + 1, Lib.hid (by omega), rfl, rfl, rfl, Lib.hid (by omega), HX, Lib.hid (.inr ⟨rfl, by rcases HF.out with ⟨_, h, _⟩ | ⟨_, h⟩ <;> omega⟩), HB2, HU2⟩, next_i (by omega)⟩
            · have f1 : (x == (a' : Int)) = false := beq_eq_false_iff_ne.2 hx
              have HX := Lib.hid (HQ.out hx)
              clear hx
              go_wp2_with (refine store_new rfl 40 (.tmp 8) (.tmp 25) rfl wr.heap.size rfl rfl (at_ l i) rfl _ (by rw [Kt.ia_size, hla]; rfl) hsz ?_)
              exact ⟨⟨a', t, i + 1, HA', rfl, rfl, rfl, Lib.hid (by omega), HT, Lib.hid (goes_on HX.out HF.out), HB2, HU2⟩, next_i (by omega)⟩
          · obtain rfl : i = 9 := by have := HI.out; omega
            go_wp2_with fail
            have h10 := hit_le HT.out
            refine ⟨⟨a', t, HA', rfl, rfl, HT, Lib.hid (fun h => ?_), HB, HU⟩, ?_⟩
            · rcases HF.out with ⟨_, h2, h3⟩ | ⟨h2, _⟩
              · subst h2; exact h3
              · rw [h] at h2; cases h2
            · simp only [intOf, Int.toNat_natCast]
              rcases HF.out with ⟨rfl, rfl, h3⟩ | ⟨rfl, h2⟩
              · simp
              · simp; omega
  · go_wp2_with fail
    refine bodyPost_ret (v := .int .i64 19) (by simp [results, Try.results35, go_sem]) rfl ?_
    exact .inr ⟨h1, rfl, rfl⟩
end Go.Proofs.Ytidcbboonjenhaa
