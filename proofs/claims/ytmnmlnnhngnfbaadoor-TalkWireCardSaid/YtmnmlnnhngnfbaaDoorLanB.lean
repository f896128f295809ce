/- strings.Builder at this dump: copyCheck and WriteByte. -/
import Derived.Test.YtmnmlnnhngnfbaaDoorSlm
import Derived.Test.YtmnmlnnhngnfbaaDoorShelf
import Derived.Lib.Builder
import Derived.Lib.OthersKept
namespace Go.Proofs.YtmnmlnnhngnfbaaDoor
open Go.RowKit
theorem builder_size : (Tryd.prog.info? 51).map (·.size) = some 2 := by kernel_rfl
theorem builder_info : ∃ j, Tryd.prog.info? 51 = some j ∧ j.size ≠ 0 := by
  obtain ⟨j, h1, h2⟩ := Option.map_eq_some_iff.1 builder_size
  exact ⟨j, h1, by rw [h2]; decide⟩
theorem builder_lies : liesAt Tryd.prog Tryd.prog.depth 51 (2 / Tryd.prog.cellsOf 51) 0 51 1 = true := by kernel_rfl
set_option maxRecDepth 100000 in
theorem copy_fresh (b : Nat) (w : World) (h0 : w.cell? ⟨b, 0, none⟩ = some (.pointer none)) (hsh : w.shape? b = some (51, 2)) (hfz : w.frozen? ⟨b, 0, none⟩ = false) :
    Calls Tryd.prog 26 #[.pointer (some ⟨b, 0, none⟩)] w fun e w' => e = .returned (.tuple #[]) ∧ w' = w.setCell ⟨b, 0, none⟩ (.pointer (some ⟨b, 0, none⟩)) := by
  obtain ⟨j, hj, hj0⟩ := builder_info
  go_enter Tryd.func26, Tryd.ntmps26
  go_wp2
  rw [Lib.run_to_unsafe w ⟨b, 0, none⟩ Tryd.underlying48 Tryd.underlying85 hj hj0 hsh (Nat.zero_lt_succ 1)]
  simp only [Result.andThen]
  rw [Oper.upon_value]
  go_wp2
  rw [run_callFunc_extern Tryd.func40 (by kernel_rfl) (by kernel_rfl) (by kernel_rfl) (e := Extern.AbiNoEscape.same) (by kernel_rfl)]
  rw [Lib.run_noEscape]
  simp only [Result.andThen]
  rw [Oper.upon_value]
  go_wp2
  rw [Lib.run_from_unsafe w ⟨b, 0, none⟩ Tryd.underlying85 Tryd.underlying48 hj hsh builder_lies]
  simp only [Result.andThen]
  rw [Oper.upon_value]
  go_wp2
  go_end0
  exact ⟨rfl, rfl⟩
set_option maxRecDepth 100000 in
theorem copy_used (b : Nat) (w : World) (h0 : w.cell? ⟨b, 0, none⟩ = some (.pointer (some ⟨b, 0, none⟩))) :
    Calls Tryd.prog 26 #[.pointer (some ⟨b, 0, none⟩)] w fun e w' => e = .returned (.tuple #[]) ∧ w' = w := by
  go_enter Tryd.func26, Tryd.ntmps26
  obtain ⟨j, hj, _⟩ := builder_info
  go_wp2
  rw [Lib.run_neq_ptr_same w _ Tryd.underlying48 hj]
  go_wp2
  go_end0
  exact ⟨rfl, rfl⟩
/-- a builder of the call's own in block b, that holds some bytes; its row lies behind it -/
def Bd (b : Nat) (bs : List Value) (w : World) : Prop := ∃ p v, (p = .pointer none ∨ p = .pointer (some ⟨b, 0, none⟩)) ∧ w.heap[b]? = some (.cells #[p, v] 51 (0, 0)) ∧ w.ownsRow (b + 1) 5 1 v bs.length bs
theorem Bd.fresh (w : World) : Bd w.heap.size [] (w.alloc (.cells #[.pointer none, .slice none 0 0] 51)) := ⟨_, _, .inl rfl, heap_alloc_new w _, World.ownsRow_nil _ _ _ _⟩
theorem Bd.lt {b : Nat} {bs : List Value} {w : World} (h : Bd b bs w) : b < w.heap.size := by
  obtain ⟨p, v, _, hb, _⟩ := h
  exact (Array.getElem?_eq_some_iff.1 hb).1
theorem Bd.is {B b : Nat} {bs : List Value} {w : World} (h : Bd b bs w) (hB : B ≤ b) : Lib.IsBuilder 51 5 B b bs w := by
  obtain ⟨p, v, hp, hb, ho⟩ := h
  have hne : v.ownBlock ≠ some b := fun e => by have := (ho.lt b e).1; omega
  have ho2 : w.ownsRow B 5 1 v bs.length bs := ⟨ho.1, ho.2.imp id fun ⟨g, cap, cur, h1, h2, h3⟩ => ⟨g, cap, cur, h1, by omega, h3⟩⟩
  rcases hp with rfl | rfl
  · exact .inl ⟨hB, v, hb, ho2, hne⟩
  · exact .inr ⟨hB, v, hb, ho2, hne⟩
theorem copy_calls (b : Nat) (bs : List Value) (w : World) (h : Bd b bs w) :
    Calls Tryd.prog 26 #[.pointer (some ⟨b, 0, none⟩)] w fun e w' => e = .returned (.tuple #[]) ∧ (∃ v, w'.heap[b]? = some (.cells #[.pointer (some ⟨b, 0, none⟩), v] 51 (0, 0)) ∧ w'.ownsRow (b + 1) 5 1 v bs.length bs) ∧ Below b w w' := by
  obtain ⟨p, v, hp, hb, ho⟩ := h
  rcases hp with rfl | rfl
  · refine (copy_fresh b w (cell_of_row _ _ 0 _ _ _ hb) (by simp [World.shape?, hb]) (frozen_of_row _ _ _ _ _ hb)).mono ?_
    rintro e w' ⟨rfl, rfl⟩
    refine ⟨rfl, ⟨v, (heap_setCell_same _ _ _ _ _ _ hb).trans rfl, ho.1, ?_⟩, (Below.refl b w).setCell (p := ⟨b, 0, none⟩) (Nat.le_refl _) _⟩
    rcases ho.2 with h0 | ⟨g, cap, cur, h1, h2, h3, h4⟩
    · exact .inl h0
    · exact .inr ⟨g, cap, cur, h1, h2, (heap_setCell_other _ _ _ _ (by show g ≠ b; omega)).trans h3, h4⟩
  · refine (copy_used b w (cell_of_row _ _ 0 _ _ _ hb)).mono ?_
    rintro e w' ⟨rfl, rfl⟩
    exact ⟨rfl, ⟨v, hb, ho⟩, Below.refl _ _⟩
theorem infoB : (Tryd.prog.info? 5).map (fun i => (i.zero, i.size, i.bytes)) = some (some (.int .u8 0), 1, 1) := by kernel_rfl
theorem append_byte {P : Program} (w1 : World) {ops : Array Oper} {rest : List Oper} {o : Oper} {a : Act} {Q : Exit → Act → World → Prop} (hgd : o.guard = none) (s x : Operand) (t : TypeId)
    (ho : o.op = .call { callee := .builtin .append, args := #[s, x], argTypes := #[t, t] })
    (base : Nat) (e : TypeId) (z : Value) (size bytes : Nat) (hinfo : (P.info? e).map (fun i => (i.zero, i.size, i.bytes)) = some (some z, size, bytes)) (ht : P.underlying t = some (.slice e)) (hzs : z.cells.size = size) (hsz : 0 < size)
    (v : Value) (n : Nat) (xs : List Value) (cs : Array Value) (b m c : Nat) (hs : a.eval s = v) (hx : a.eval x = .slice (some ⟨b, 0, none⟩) m c) (hb : b = w1.heap.size) (hm : m = 1) (hcs : cs.size = size) (h1 : ∀ u ∈ cs.toList, u.oneCell' = true)
    (hown : w1.ownsRow base e size v n xs) (h63 : n + 1 ≤ maxLen) (hbytes : (n + 1) * bytes ≤ 140737488355328) (hbase : base ≤ w1.heap.size)
    (h : ∀ g cap w', w'.ownsRow base e size (.slice (some ⟨g, 0, none⟩) (n + 1) cap) (n + 1) (xs ++ cs.toList) → Below base w1 w' → wpList P ops Q rest (a.put o.dst (.slice (some ⟨g, 0, none⟩) (n + 1) cap)) w') : wpList P ops Q (o :: rest) a (w1.alloc (.cells cs e)) :=
  Kt.append_one w1 hgd s x t ho base e z size bytes hinfo ht hzs hsz v n xs cs b m c hs hx hb hm hcs h1 hown h63 hbytes hbase (fun v' w' hw hb' => by
    obtain ⟨g, cap, rfl⟩ : ∃ g cap, v' = .slice (some ⟨g, 0, none⟩) (n + 1) cap := by
      rcases hw.2 with ⟨_, h0⟩ | ⟨g, cap, cur, hv, _⟩
      · omega
      · exact ⟨g, cap, hv⟩
    exact h g cap w' hw hb')
set_option maxRecDepth 100000 in
set_option maxHeartbeats 1600000 in
theorem write_byte (b : Nat) (bs : List Value) (c : Int) (w : World) (h : Bd b bs w) (hlen : bs.length + 1 ≤ 140737488355328) :
    Calls Tryd.prog 66 #[.pointer (some ⟨b, 0, none⟩), .int .u8 c] w fun e w' => e = .returned .nilIface ∧ Bd b (bs ++ [.int .u8 c]) w' ∧ Below b w w' := by
  have HC := Lib.hid (copy_calls b bs w h)
  clear h
  go_enter Tryd.func66, Tryd.ntmps66
  go_wp2_with fail
  refine HC.out.mono ?_
  rintro e w1 ⟨rfl, ⟨v, hbk, hown⟩, hb1⟩
  have HB1 := Lib.hid hb1
  have HOWN := Lib.hid hown
  have hbz : b < w1.heap.size := (Array.getElem?_eq_some_iff.1 hbk).1
  have c0 := cell_of_row _ _ 0 _ _ _ hbk
  have c1 := cell_of_row _ _ 1 _ _ _ hbk
  have HBK := Lib.hid hbk
  clear hb1 hown hbk HC
  go_upto_region 2 with (fail)
  refine Kt.fold (fun W => W = w1) rfl (fun W hW => ?_)
  subst hW
  go_wp2_with
    (refine append_byte W rfl (.tmp 11) (.tmp 13) 49 rfl (b + 1) 5 (.int .u8 0) 1 1 infoB Tryd.underlying49 rfl (by decide) v bs.length bs #[.int .u8 c] W.heap.size 1 1 rfl rfl rfl rfl rfl (by simp [Value.oneCell']) HOWN.out (by unfold maxLen; omega) (by omega) (by omega) ?_
     intro g2 cap2 w2 hown2 hb2
     have d1 := cell_of_row _ _ 1 _ _ _ ((hb2.block b (by omega)).trans HBK.out)
     have f1 := frozen_of_row _ _ 1 _ _ ((hb2.block b (by omega)).trans HBK.out)
     have hb3 : b < w2.heap.size := Nat.lt_of_lt_of_le hbz hb2.size)
  go_ret
  refine ⟨rfl, ⟨_, _, .inr rfl, (heap_setCell_same _ _ _ _ _ _ ((hb2.block b (by omega)).trans HBK.out)).trans rfl, ?_⟩, (HB1.out.trans (hb2.mono (by omega))).setCell (p := ⟨b, 1, none⟩) (Nat.le_refl _) _⟩
  refine ⟨by simp, ?_⟩
  rcases hown2.2 with ⟨h0, h00⟩ | ⟨g, cap, cur, h1, h2, h3, h4⟩
  · omega
  · refine .inr ⟨g, cap, cur, by simpa using h1, h2, (heap_setCell_other _ _ _ _ (by show g ≠ b; omega)).trans h3, by simpa using h4⟩
end Go.Proofs.YtmnmlnnhngnfbaaDoor
