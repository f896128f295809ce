/- slotsLives walked; how a board and a command come in. -/
import Derived.Test.YtmnfajndklmpbaaSltR
namespace Go.Proofs.Ytmnfajndklmpbaa
open Go.RowKit Classical Go.Proofs.Ytmnfajndklmpbaa.Slt
section
variable {ops : Array Oper} {rest : List Oper} {o : Oper} {a : Act} {w : World} {Q : Exit → Act → World → Prop}
theorem load_mid_g (hgd : Region.wanted o (yielded ops a.tmps) = true) (ty : TypeId) (x : Operand) (ho : o.op = .load ty x)
    (b off : Nat) (hx : a.eval x = .pointer (some ⟨b, off, none⟩)) (cs : List Value) (d : TypeDesc) (hc : w.rangeAt b off cs)
    (hu : Try.prog.underlying ty = some d) (hd : d.isRow = true) (hi : (Try.prog.info? ty).map (·.size) = some cs.length)
    (h : wpList Try.prog ops Q rest (a.put o.dst (.agg cs.toArray)) w) : wpList Try.prog ops Q (o :: rest) a w := by
  refine BigFrame.wpList_want hgd fun K hK => ?_
  exact wp_load_mid ty x ho b off hx cs d hc hu hd hi (hK _ _ h)
end
theorem G_zb (i : Nat) : G zb i = 0 := by
  unfold G zb
  rw [List.getD_eq_getElem?_getD, List.getElem?_replicate]; split <;> rfl
theorem ok_zb : Ok zb := by
  have h : ∀ i j, G (at_ zb i) j = 0 := fun i j => by
    by_cases hj : j < 66
    · rw [G_at _ _ _ hj, G_zb]
    · rw [G_out _ _ (by unfold at_; rw [List.length_take]; omega)]
  refine ⟨fun j _ => G_zb j, fun i _ _ => .inl ⟨by rw [h]; decide, by rw [h]; decide, fun j _ _ => h i j⟩, fun i k _ _ _ => .inl (G_zb _)⟩
theorem first_zb {i : Nat} (h : FirstOff zb i) : i = 1 := by
  obtain ⟨h1, h2, h3, h4⟩ := h
  apply Classical.byContradiction
  intro hne
  exact h4 1 (by omega) (by omega) (G_zb _)
theorem did_zb {l : List Int} {c n : Int} (h : Did zb 2 0 0 0 l c n) : l = zb.set 66 1 ∧ c = 1 ∧ n = 1 := by
  cases h with
  | bad h => exact absurd ok_zb h
  | noop _ h => omega
  | enable i _ _ hF => obtain rfl := first_zb hF; exact ⟨rfl, rfl, rfl⟩
  | full _ _ hN => exact absurd (G_zb _) (hN 1 (by omega) (by omega))
  | trb _ _ h _ => omega
  | done _ _ _ h => omega
  | refused _ _ h => omega
theorem at_zb1 : at_ (zb.set 66 1) 1 = 1 :: zs := by
  have hl : zb.length = 594 := zb_len
  have e := zero_iff (at_ (zb.set 66 1) 1) (at_len _ (by rw [List.length_set, hl]) 1 (by omega))
  have g : ∀ j, j < 66 → G (at_ (zb.set 66 1) 1) j = if j = 0 then 1 else 0 := fun j hj => by
    rw [G_at _ _ _ hj, G_set _ _ _ _ (by omega), G_zb]
    by_cases h : j = 0
    · subst h; rfl
    · rw [if_neg (by omega), if_neg h]
  have h2 := e.2 fun j h1 h2 => by rw [g j h2, if_neg (by omega)]
  rw [g 0 (by omega), if_pos rfl] at h2
  exact h2
theorem ia_ne_zb : (Kt.ia .i64 zb = #[]) = False := by
  apply eq_false
  intro h
  have := congrArg Array.size h
  rw [Kt.ia_size, zb_len] at this
  simp at this
set_option maxRecDepth 100000 in
set_option maxHeartbeats 1600000 in
theorem lives_calls (w : World) : Calls Try.prog 10 #[] w fun e w' => e = .returned (.bool true) ∧ Below w.heap.size w w' := by
  have Z0 := zero_board
  have Z1 := ia_ne_zb
  have HD := Lib.hid (fun W => do_calls zb zb_len 2 0 0 0 W)
  go_enter Try.func10, Try.ntmps10
  go_wp2_with fail
  refine (HD.out _).mono ?_
  rintro en w1 ⟨l', c, n, hd, rfl, hb⟩
  obtain ⟨rfl, rfl, rfl⟩ := did_zb hd
  clear hd
  have hl : (zb.set 66 1).length = 594 := by rw [List.length_set, zb_len]
  have hsz : (Try.prog.info? 27).map (·.size) = some (zb.set 66 1).length := by rw [hl]; exact size_board
  have hnb : Bx 27 w1.heap.size (zb.set 66 1) (w1.alloc (.cells (Kt.ia .i64 (zb.set 66 1)) 27)) := heap_alloc_new _ _
  have hr := hnb.slot 1
  have hs := at_size _ hl 1 (by omega)
  rw [at_zb1] at hr hs
  have Z3 := zero_slot
  have Z4 := ia_ne 0
  have Z5 := ia_st 0
  have EQ := fun w => ((eq_slot (1 :: zs) (1 :: zs) rfl rfl).1 rfl w).1
  have EG := fun x y a b w => guard_slot .eql x y a b w
  clear hnb
  generalize zb.set 66 1 = l at *
  go_wp2_with (first
    | (refine store_new rfl 27 (.tmp 1) (.tmp 8) rfl w1.heap.size rfl rfl l rfl _ (by rw [Kt.ia_size, zb_len, hl]) hsz ?_)
    | (refine load_mid_g rfl 24 (.tmp 19) rfl w1.heap.size 66 rfl _ _ hr Try.underlying24 rfl hs ?_))
  go_ret
  exact ⟨rfl, Kt.balloc hb _⟩
end Go.Proofs.Ytmnfajndklmpbaa
