/- Builder.WriteString; wired. -/
import Derived.Test.YtmnmlnnhngnfbaaDoorPhyH
import Derived.Shelf.Strings.BuilderK
namespace Go.Proofs.YtmnmlnnhngnfbaaDoor
open Go.RowKit Go.Proofs.YtmnmlnnhngnfbaaDoor.Lan Go.Proofs.YtmnmlnnhngnfbaaDoor.Phy
theorem copy_calls2 (b : Nat) (bs : List Value) (w : World) (h : Bd b bs w) :
    Calls Tryd.prog 26 #[.pointer (some ⟨b, 0, none⟩)] w fun e w' => e = .returned (.tuple #[]) ∧ (∃ v, w'.heap[b]? = some (.cells #[.pointer (some ⟨b, 0, none⟩), v] 51 (0, 0)) ∧ w'.ownsRow (b + 1) 5 1 v bs.length bs) ∧ Below b w w' ∧ Lib.OthersKept 5 (some b) w w' := by
  obtain ⟨p, v, hp, hb, ho⟩ := h
  rcases hp with rfl | rfl
  · refine (copy_fresh b w (cell_of_row _ _ 0 _ _ _ hb) (by simp [World.shape?, hb]) (frozen_of_row _ _ _ _ _ hb)).mono ?_
    rintro e w' ⟨rfl, rfl⟩
    refine ⟨rfl, ⟨v, (heap_setCell_same _ _ _ _ _ _ hb).trans rfl, ho.1, ?_⟩, (Below.refl b w).setCell (p := ⟨b, 0, none⟩) (Nat.le_refl _) _, (Lib.OthersKept.refl _ _ w).setCell ⟨b, 0, none⟩ rfl _⟩
    rcases ho.2 with h0 | ⟨g, cap, cur, h1, h2, h3, h4⟩
    · exact .inl h0
    · exact .inr ⟨g, cap, cur, h1, h2, (heap_setCell_other _ _ _ _ (by show g ≠ b; omega)).trans h3, h4⟩
  · refine (copy_used b w (cell_of_row _ _ 0 _ _ _ hb)).mono ?_
    rintro e w' ⟨rfl, rfl⟩
    exact ⟨rfl, ⟨v, hb, ho⟩, Below.refl _ _, Lib.OthersKept.refl _ _ _⟩
theorem owns_kind {w : World} {B e n : Nat} {v : Value} {xs : List Value} (h : w.ownsRow B e 1 v n xs) : ∀ g, v.ownBlock = some g → ∃ c fz, w.heap[g]? = some (.cells c e fz) := Lib.ownsRowF_kind (World.ownsRowF_of h)
set_option maxRecDepth 100000 in
set_option maxHeartbeats 1600000 in
theorem write_str (b : Nat) (bs : List Value) (s : ByteArray) (w : World) (h : Bd b bs w) (hlen : bs.length + s.size ≤ 140737488355328) :
    Calls Tryd.prog 13 #[.pointer (some ⟨b, 0, none⟩), .string s] w fun e w' => e = .returned (.tuple #[.int .i64 s.size, .nilIface]) ∧ Bd b (bs ++ Lib.strCells s) w' ∧ Below b w w' ∧ Lib.OthersKept 5 (some b) w w' := by
  have HC := Lib.hid (copy_calls2 b bs w h)
  clear h
  obtain ⟨i0, hi, hz0, hz1, hz2⟩ := info_parts infoB
  go_enter Tryd.func13, Tryd.ntmps13
  go_wp2_with fail
  refine HC.out.mono ?_
  rintro e w1 ⟨rfl, ⟨v, hbk, hown⟩, hb1, hk1⟩
  have HB1 := Lib.hid hb1
  have HK1 := Lib.hid hk1
  have HOWN := Lib.hid hown
  have hbz : b < w1.heap.size := (Array.getElem?_eq_some_iff.1 hbk).1
  have c0 := cell_of_row _ _ 0 _ _ _ hbk
  have c1 := cell_of_row _ _ 1 _ _ _ hbk
  have HBK := Lib.hid hbk
  clear hb1 hown hbk HC hk1
  go_upto_region 2 with (fail)
  refine Kt.fold (fun W => W = w1) rfl (fun W hW => ?_)
  subst hW
  go_wp2_with
    (refine Lib.wpList_append_own_string W rfl (.tmp 12) (.tmp 13) 49 9 rfl (b + 1) 5 i0 Tryd.underlying49 Tryd.underlying9 hi hz0 hz1 hz2 v bs.length bs rfl HOWN.out s rfl (by unfold maxLen; omega) (by omega) (by omega) ?_
     intro v2 w2 hown2 hgr _
     have hb2 : Below (b + 1) W w2 := (Below.refl (b + 1) W).grown hgr (by omega) (fun k hk => (HOWN.out.lt k hk).1)
     have HK2 := Lib.hid (HK1.out.grown hgr (owns_kind HOWN.out))
     have d1 := cell_of_row _ _ 1 _ _ _ ((hb2.block b (by omega)).trans HBK.out)
     have f1 := frozen_of_row _ _ 1 _ _ ((hb2.block b (by omega)).trans HBK.out)
     have hb3 : b < w2.heap.size := Nat.lt_of_lt_of_le hbz hb2.size
     obtain ⟨A2, n2, c2, rfl⟩ : ∃ ao n' cap, v2 = .slice ao n' cap := by
       rcases hown2.2 with ⟨hv, _⟩ | ⟨g, cap, cur, hv, _⟩
       · exact ⟨_, _, _, hv⟩
       · exact ⟨_, _, _, hv⟩)
  go_ret2
  refine ⟨rfl, ⟨_, _, .inr rfl, (heap_setCell_same _ _ _ _ _ _ ((hb2.block b (by omega)).trans HBK.out)).trans rfl, ?_⟩, (HB1.out.trans (hb2.mono (by omega))).setCell (p := ⟨b, 1, none⟩) (Nat.le_refl _) _, HK2.out.setCell ⟨b, 1, none⟩ rfl _⟩
  rw [List.length_append, Lib.strCells_length]
  refine ⟨hown2.1, ?_⟩
  rcases hown2.2 with h0 | ⟨g, cap, cur, h1, h2, h3, h4⟩
  · exact .inl h0
  · exact .inr ⟨g, cap, cur, h1, h2, (heap_setCell_other _ _ _ _ (by show g ≠ b; omega)).trans h3, h4⟩
theorem write_s (b : Nat) (l x : List UInt8) (w : World) (h : BdB b l w) (hlen : l.length + x.length ≤ 140737488355328) :
    Calls Tryd.prog 13 #[.pointer (some ⟨b, 0, none⟩), .string (bt x)] w fun e w' => e = .returned (.tuple #[.int .i64 (bt x).size, .nilIface]) ∧ BdB b (l ++ x) w' ∧ Below b w w' ∧ Lib.OthersKept 5 (some b) w w' := by
  refine (write_str b (Lib.byteCells l) (bt x) w h (by rw [bt_size, byte_cells_len]; exact hlen)).mono ?_
  rintro e w' ⟨rfl, hb, hw, hk⟩
  refine ⟨rfl, ?_, hw, hk⟩
  have e : Lib.byteCells (l ++ x) = Lib.byteCells l ++ Lib.strCells (bt x) := by
    unfold Lib.byteCells Lib.strCells
    rw [List.map_append, bt_list]
  unfold BdB
  rw [e]
  exact hb
theorem string_k (b : Nat) (l : List UInt8) (w : World) (h : BdB b l w) :
    Calls Tryd.prog 17 #[.pointer (some ⟨b, 0, none⟩)] w fun e w' => e = .returned (.string (bt l)) ∧ Below b w w' ∧ Lib.OthersKept 5 (some b) w w' := by
  have hi := Bd.is h (Nat.le_refl _)
  refine (Any.Builder_String_any_k Tryd.lays169 Tryd.Builder_Extra_169 b b l w (hi.imp Lib.BuilderAtF.of Lib.BuilderAtF.of) (Nat.le_of_lt h.lt)).mono ?_
  rintro e w' ⟨rfl, _, hb, hk⟩
  exact ⟨rfl, hb, hk⟩
theorem sl_others {w w' : World} {b B e sz n : Nat} {v : Value} {xs : List Value} (h : Kt.Sl w B e sz v n xs) (hB : b < B) (he : e ≠ 5) (hk : Lib.OthersKept 5 (some b) w w') : Kt.Sl w' B e sz v n xs :=
  h.keep fun k hv => by
    rcases h.2 with ⟨rfl, _⟩ | ⟨g, o, c, cur, rfl, hBg, hg, _⟩
    · cases hv
    · have hgk : g = k := by simpa [Value.ownBlock] using hv
      subst hgk
      exact (hk g _ hg (fun q => by injection q with q; omega) (fun c' fz' q => by injection q with _ q _; exact he q)).trans hg.symm
theorem bd_keep {w w' : World} {b B e sz n : Nat} {bs : List Value} {v : Value} {xs : List Value} (h : Bd b bs w) (hs : Kt.Sl w B e sz v n xs) (hB : b < B) (he : e ≠ 5) (hk : ∀ k, k < w.heap.size → v.ownBlock ≠ some k → w'.heap[k]? = w.heap[k]?) : Bd b bs w' := by
  obtain ⟨p, u, hp, hb, ho⟩ := h
  refine ⟨p, u, hp, (hk b (Array.getElem?_eq_some_iff.1 hb).1 (fun q => by have := (hs.lt _ q).1; omega)).trans hb, ho.1, ?_⟩
  rcases ho.2 with h0 | ⟨g, cap, cur, h1, h2, h3, h4⟩
  · exact .inl h0
  · refine .inr ⟨g, cap, cur, h1, h2, (hk g (Array.getElem?_eq_some_iff.1 h3).1 (fun q => ?_)).trans h3, h4⟩
    rcases hs.2 with ⟨rfl, _⟩ | ⟨g', o, c, cur', rfl, _, hg', _⟩
    · cases q
    · have : g' = g := by simpa [Value.ownBlock] using q
      subst this
      rw [h3] at hg'
      injection hg' with q'
      injection q' with _ q' _
      exact he q'.symm
theorem bd_alloc {w : World} {b : Nat} {bs : List Value} (h : Bd b bs w) (o : Obj) : Bd b bs (w.alloc o) := by
  obtain ⟨p, u, hp, hb, ho⟩ := h
  exact ⟨p, u, hp, (Below.heap_alloc w o b (Array.getElem?_eq_some_iff.1 hb).1).trans hb, ho.alloc o⟩
theorem bd_on {w w' : World} {b : Nat} {bs : List Value} (h : Bd b bs w) (hb : Below w.heap.size w w') : Bd b bs w' := by
  obtain ⟨p, u, hp, hk, ho⟩ := h
  refine ⟨p, u, hp, (hb.block b (Array.getElem?_eq_some_iff.1 hk).1).trans hk, ho.1, ?_⟩
  rcases ho.2 with h0 | ⟨g, cap, cur, h1, h2, h3, h4⟩
  · exact .inl h0
  · exact .inr ⟨g, cap, cur, h1, h2, (hb.block g (Array.getElem?_eq_some_iff.1 h3).1).trans h3, h4⟩
theorem wire_snoc (n : Nat) (l : List (List UInt8)) (s : List UInt8) : wire n (l ++ [s]) = wire n l ++ (if okS s then List.replicate n 74 ++ (levs s ++ endL) else []) := by
  induction l with
  | nil => show wire n [s] = _; unfold wire; split <;> simp [wire]
  | cons a l ih =>
    rw [List.cons_append]
    unfold wire
    split
    · rw [ih]; simp only [List.append_assoc]
    · exact ih
theorem wire_len (n : Nat) (l : List (List UInt8)) : (wire n l).length ≤ l.length * (n + 759) := by
  induction l with
  | nil => simp [wire]
  | cons a l ih =>
    unfold wire
    split
    next h =>
      have h' := h
      unfold okS at h'
      simp only [Bool.and_eq_true, decide_eq_true_eq] at h'
      have h2 := levs_len h'.2
      have h3 : endL.length = 3 := rfl
      rw [List.length_append, List.length_append, List.length_append, List.length_replicate, List.length_cons, Nat.succ_mul, h3]
      clear h3 h h'
      generalize l.length * (n + 759) = X at *
      generalize (levs a).length = Y at *
      generalize (wire n l).length = Z at *
      omega
    next h =>
      rw [List.length_cons, Nat.succ_mul]
      exact Nat.le_trans ih (Nat.le_add_right _ _)
def want (l : List (List UInt8)) : List (List UInt8 × Int) := (l.filter okS).map fun s => (s, 0)
theorem want_snoc (l : List (List UInt8)) (s : List UInt8) : want (l ++ [s]) = want l ++ (if okS s then [(s, 0)] else []) := by
  unfold want
  rw [List.filter_append, List.map_append]
  congr 1
  cases h : okS s <;> simp [h]
theorem want_len (l : List (List UInt8)) : (want l).length ≤ l.length := by
  unfold want
  rw [List.length_map]
  exact List.length_filter_le _ _
theorem okS_send {s : List UInt8} (h : okS s = true) : sendP s = (levs s ++ endL, 0) := by
  unfold okS at h
  simp only [Bool.and_eq_true, decide_eq_true_eq] at h
  unfold sendP
  rw [if_neg h.1, if_neg (by omega)]
theorem okS_not {s : List UInt8} (h : okS s = false) : (sendP s).2 ≠ 0 := by
  unfold okS at h
  simp only [Bool.and_eq_false_iff, decide_eq_false_iff_not] at h
  unfold sendP
  split
  · decide
  · split
    · decide
    · exfalso
      rcases h with h | h
      · exact h (by assumption)
      · omega
end Go.Proofs.YtmnmlnnhngnfbaaDoor
