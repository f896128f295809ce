/- host: machines as boxes of 606 cells: loaded and stored whole and in part. -/
import Derived.Test.YtidcbboonjenhaaHstA
import Derived.Test.YtidcbboonjenhaaSltD
import Derived.Deep.MidRow
namespace Go.Proofs.Ytidcbboonjenhaa
open Go.RowKit Classical Go.Proofs.Ytidcbboonjenhaa.Slt
structure Mv where
  C : Value
  r : Rg
  E : Value
  v : Rg
  l : List Int
def rc (C : Value) (r : Rg) : List Value := [C, .int .i64 r.pa, .int .i64 r.pb, .int .i64 r.ga, .int .i64 r.gb, .int .i64 r.sn]
theorem rgV_rc (C : Value) (r : Rg) : rgV C r = .agg (rc C r).toArray := rfl
def mc (M : Mv) : List Value := rc M.C M.r ++ (rc M.E M.v ++ M.l.map (Value.int .i64))
def mA (M : Mv) : Array Value := (mc M).toArray
structure Mk (M : Mv) : Prop where
  l : M.l.length = 594
  c : M.C.oneCell' = true
  e : M.E.oneCell' = true
theorem mA_size {M : Mv} (h : Mk M) : (mA M).size = 606 := by simp [mA, mc, rc, h.l]
theorem rc_one {C : Value} {r : Rg} (h : C.oneCell' = true) : (rc C r).toArray.all (·.oneCell') = true := by
  have hi : ∀ k n, (Value.int k n).oneCell' = true := fun _ _ => rfl
  simp [rc, h, hi]
theorem mA_one {M : Mv} (h : Mk M) : (mA M).all (·.oneCell') = true := by
  have hi : ∀ k n, (Value.int k n).oneCell' = true := fun _ _ => rfl
  simp [mA, mc, rc, h.c, h.e, hi]
def Mb (b : Nat) (M : Mv) (W : World) : Prop := W.heap[b]? = some (.cells (mA M) 45 (0, 0))
theorem Mb.on {b : Nat} {M : Mv} {w w' : World} (h : Mb b M w) (hb : Below w.heap.size w w') : Mb b M w' := Kt.row_on hb h
theorem Mb.lt {b : Nat} {M : Mv} {w : World} (h : Mb b M w) : b < w.heap.size := (Array.getElem?_eq_some_iff.1 h).1
theorem Mb.cell {b : Nat} {M : Mv} {w : World} (h : Mb b M w) (i : Nat) : w.cell? ⟨b, i, none⟩ = (mc M)[i]? := (cell_of_row _ _ i _ _ _ h).trans (by simp [mA])
theorem Mb.free {b : Nat} {M : Mv} {w : World} (h : Mb b M w) (i : Nat) : w.frozen? ⟨b, i, none⟩ = false := frozen_of_row _ _ i _ _ h
theorem Upd.mb {g : Nat} {w w' : World} (h : Upd g w w') {b : Nat} {M : Mv} (hm : Mb b M w) (hne : b ≠ g) : Mb b M w' := (h.other b hne hm.lt).trans hm
theorem size_machine : (Try.prog.info? 45).map (·.size) = some 606 := by kernel_rfl
theorem size_ring : (Try.prog.info? 37).map (·.size) = some 6 := by kernel_rfl
def zr : Rg := ⟨[], 0, 0, 0, 0, 0⟩
def zM : Mv := ⟨.slice none 0 0, zr, .slice none 0 0, zr, zb⟩
theorem zM_ok : Mk zM := ⟨zb_len, rfl, rfl⟩
theorem zero_machine (w : World) : (zeroValue 45).run Try.prog w = .ok (.agg (mA zM)) w := by kernel_rfl
theorem ld_mb {W : World} {g : Nat} {M : Mv} (h : Mb g M W) (hk : Mk M) {d : _} (hu : Try.prog.underlying 45 = some (.struct d)) : (loadVar 45 ⟨g, 0, none⟩).run Try.prog W = .ok (.agg (mA M)) W :=
  run_loadVar_row W g 45 45 (mA M) (0, 0) _ h hu rfl (by rw [mA_size hk]; exact size_machine)
theorem setCells_mid {t : TypeId} : ∀ (new pre old post : List Value) (w : World) (g : Nat), w.heap[g]? = some (.cells (pre ++ (old ++ post)).toArray t (0, 0)) → new.length = old.length → (w.setCells g pre.length new).heap[g]? = some (.cells (pre ++ (new ++ post)).toArray t (0, 0))
  | [], pre, [], post, w, g, h, _ => h
  | [], pre, _ :: _, post, w, g, _, hl => by cases hl
  | _ :: _, pre, [], post, w, g, _, hl => by cases hl
  | x :: new, pre, y :: old, post, w, g, h, hl => by
    have h1 : (w.setCell ⟨g, pre.length, none⟩ x).heap[g]? = some (.cells ((pre ++ ((y :: old) ++ post)).toArray.setIfInBounds pre.length x) t (0, 0)) := heap_setCell_same _ _ _ _ _ _ h
    have e : (pre ++ ((y :: old) ++ post)).toArray.setIfInBounds pre.length x = ((pre ++ [x]) ++ (old ++ post)).toArray := by simp
    rw [e] at h1
    have h2 := setCells_mid new (pre ++ [x]) old post _ g h1 (by simpa using hl)
    rw [List.length_append] at h2
    show ((w.setCell ⟨g, pre.length, none⟩ x).setCells g (pre.length + 1) new).heap[g]? = _
    simpa using h2
theorem Upd.cells {g : Nat} (w : World) (off : Nat) (news : List Value) : Upd g w (w.setCells g off news) :=
  ⟨Kt.below_setCells _ _ _ _ _ (Nat.le_refl _) (Below.refl _ _), fun k hk _ => Kt.setCells_other news g off w k hk⟩
theorem range_of {w : World} {b : Nat} {pre cs post : List Value} {t : TypeId} (h : w.heap[b]? = some (.cells (pre ++ (cs ++ post)).toArray t (0, 0))) : w.rangeAt b pre.length cs := fun j v hv => by
  rw [cell_of_row _ _ _ _ _ _ h]
  have hj := (List.getElem?_eq_some_iff.1 hv).1
  rw [List.getElem?_toArray, List.getElem?_append_right (by omega), Nat.add_sub_cancel_left, List.getElem?_append_left hj]
  exact hv
theorem there_of {w : World} {b : Nat} {pre cs post : List Value} {t : TypeId} (h : w.heap[b]? = some (.cells (pre ++ (cs ++ post)).toArray t (0, 0))) : w.there b pre.length cs.length := fun j hj => by
  have hc : w.cell? ⟨b, pre.length + j, none⟩ = some (cs[j]'hj) := range_of h j _ (List.getElem?_eq_getElem hj)
  exact ⟨by rw [hc]; rfl, frozen_of_row _ _ _ _ _ h⟩
theorem Mb.r0 {b : Nat} {M : Mv} {w : World} (h : Mb b M w) : w.heap[b]? = some (.cells ([] ++ (rc M.C M.r ++ (rc M.E M.v ++ M.l.map (Value.int .i64)))).toArray 45 (0, 0)) := h
theorem Mb.r1 {b : Nat} {M : Mv} {w : World} (h : Mb b M w) : w.heap[b]? = some (.cells (rc M.C M.r ++ (rc M.E M.v ++ M.l.map (Value.int .i64))).toArray 45 (0, 0)) := h
theorem Mb.bd {b : Nat} {M : Mv} {w : World} (h : Mb b M w) : w.heap[b]? = some (.cells ((rc M.C M.r ++ rc M.E M.v) ++ (M.l.map (Value.int .i64) ++ [])).toArray 45 (0, 0)) := by rw [List.append_nil, List.append_assoc]; exact h
section
variable {ops : Array Oper} {rest : List Oper} {o : Oper} {a : Act} {w : World} {Q : Exit → Act → World → Prop}
theorem load_mb (hgd : o.guard = none) (x : Operand) (ho : o.op = .load 45 x) (g : Nat) (hx : a.eval x = .pointer (some ⟨g, 0, none⟩)) (M : Mv) (hb : Mb g M w) (hk : Mk M)
    (h : wpList Try.prog ops Q rest (a.put o.dst (.agg (mA M))) w) : wpList Try.prog ops Q (o :: rest) a w :=
  wpList_load_row hgd 45 x ho g hx 45 (mA M) (0, 0) _ hb Try.underlying45 rfl (by rw [mA_size hk]; exact size_machine) h
theorem store_mb (hgd : o.guard = none) (x y : Operand) (ho : o.op = .store 45 x y) (g : Nat) (hx : a.eval x = .pointer (some ⟨g, 0, none⟩)) (M : Mv) (hy : a.eval y = .agg (mA M)) (hk : Mk M) (old : Mv) (hb : Mb g old w) (ho2 : Mk old)
    (h : ∀ W, Mb g M W → Upd g w W → wpList Try.prog ops Q rest (a.put o.dst undef) W) : wpList Try.prog ops Q (o :: rest) a w :=
  wpList_store_row hgd 45 x y ho g (mA M) hx hy 45 (mA old) hb (by rw [mA_size hk]; exact size_machine) (by rw [mA_size hk, mA_size ho2]) (mA_one hk)
    (h _ (setRow_heap w g _ _ _ _ hb) (Upd.row w g _))
theorem load_r0 (hgd : o.guard = none) (x : Operand) (ho : o.op = .load 37 x) (g : Nat) (hx : a.eval x = .pointer (some ⟨g, 0, none⟩)) (M : Mv) (hb : Mb g M w)
    (h : wpList Try.prog ops Q rest (a.put o.dst (rgV M.C M.r)) w) : wpList Try.prog ops Q (o :: rest) a w :=
  wpList_load_mid hgd 37 x ho g 0 hx (rc M.C M.r) _ (range_of hb.r0) Try.underlying37 rfl size_ring h
theorem load_r1 (hgd : o.guard = none) (x : Operand) (ho : o.op = .load 37 x) (g : Nat) (hx : a.eval x = .pointer (some ⟨g, 6, none⟩)) (M : Mv) (hb : Mb g M w)
    (h : wpList Try.prog ops Q rest (a.put o.dst (rgV M.E M.v)) w) : wpList Try.prog ops Q (o :: rest) a w :=
  wpList_load_mid hgd 37 x ho g 6 hx (rc M.E M.v) _ (range_of hb.r1) Try.underlying37 rfl size_ring h
theorem load_bd (hgd : o.guard = none) (x : Operand) (ho : o.op = .load 43 x) (g : Nat) (hx : a.eval x = .pointer (some ⟨g, 12, none⟩)) (M : Mv) (hb : Mb g M w) (hk : Mk M)
    (h : wpList Try.prog ops Q rest (a.put o.dst (.agg (Kt.ia .i64 M.l))) w) : wpList Try.prog ops Q (o :: rest) a w :=
  wpList_load_mid hgd 43 x ho g 12 hx (M.l.map (Value.int .i64)) _ (range_of hb.bd) Try.underlying43 rfl (by rw [List.length_map, hk.l]; exact size_board) h
theorem store_r0 (hgd : o.guard = none) (x y : Operand) (ho : o.op = .store 37 x y) (g : Nat) (hx : a.eval x = .pointer (some ⟨g, 0, none⟩)) (M : Mv) (hb : Mb g M w) (C : Value) (r : Rg) (hy : a.eval y = rgV C r) (hC : C.oneCell' = true)
    (h : ∀ W, Mb g { M with C := C, r := r } W → Upd g w W → wpList Try.prog ops Q rest (a.put o.dst undef) W) : wpList Try.prog ops Q (o :: rest) a w :=
  wpList_store_mid hgd 37 x y ho g 0 (rc C r).toArray hx hy (show w.there g 0 6 from there_of hb.r0) size_ring (rc_one hC) (h (w.setCells g 0 (rc C r)) (setCells_mid (t := 45) (rc C r) [] (rc M.C M.r) (rc M.E M.v ++ M.l.map (Value.int .i64)) w g hb.r0 rfl) (Upd.cells w 0 (rc C r)))
theorem store_r1 (hgd : o.guard = none) (x y : Operand) (ho : o.op = .store 37 x y) (g : Nat) (hx : a.eval x = .pointer (some ⟨g, 6, none⟩)) (M : Mv) (hb : Mb g M w) (E : Value) (v : Rg) (hy : a.eval y = rgV E v) (hE : E.oneCell' = true)
    (h : ∀ W, Mb g { M with E := E, v := v } W → Upd g w W → wpList Try.prog ops Q rest (a.put o.dst undef) W) : wpList Try.prog ops Q (o :: rest) a w :=
  wpList_store_mid hgd 37 x y ho g 6 (rc E v).toArray hx hy (show w.there g 6 6 from there_of hb.r1) size_ring (rc_one hE) (h (w.setCells g 6 (rc E v)) (setCells_mid (t := 45) (rc E v) (rc M.C M.r) (rc M.E M.v) (M.l.map (Value.int .i64)) w g hb.r1 rfl) (Upd.cells w 6 (rc E v)))
theorem store_bd (hgd : o.guard = none) (x y : Operand) (ho : o.op = .store 43 x y) (g : Nat) (hx : a.eval x = .pointer (some ⟨g, 12, none⟩)) (M : Mv) (hb : Mb g M w) (hk : Mk M) (l : List Int) (hy : a.eval y = .agg (Kt.ia .i64 l)) (hl : l.length = 594)
    (h : ∀ W, Mb g { M with l := l } W → Upd g w W → wpList Try.prog ops Q rest (a.put o.dst undef) W) : wpList Try.prog ops Q (o :: rest) a w := by
  refine wpList_store_mid hgd 43 x y ho g 12 (Kt.ia .i64 l) hx hy (by rw [Kt.ia_size, hl]; have := there_of hb.bd; rwa [List.length_map, hk.l] at this) (by rw [Kt.ia_size, hl]; exact size_board) (Kt.ia_one _ _) ?_
  rw [Kt.ia_list]
  refine h _ ?_ (Upd.cells _ _ _)
  have := setCells_mid (l.map (Value.int .i64)) _ _ _ _ _ hb.bd (by rw [List.length_map, List.length_map, hl, hk.l])
  rw [List.append_nil, List.append_assoc] at this
  exact this
end
theorem Mb.seen {b : Nat} {M : Mv} {w : World} (h : Mb b M w) (x : Int) : Mb b { M with r := { M.r with sn := x } } (w.setCell ⟨b, 5, none⟩ (.int .i64 x)) := by
  have h1 : (w.setCell ⟨b, 5, none⟩ (.int .i64 x)).heap[b]? = some (.cells ((mA M).setIfInBounds 5 (.int .i64 x)) 45 (0, 0)) := heap_setCell_same _ _ _ _ _ _ h
  exact h1.trans (by simp [mA, mc, rc])
theorem Mb.setC {b : Nat} {M : Mv} {w : World} (h : Mb b M w) (C : Value) : Mb b { M with C := C } (w.setCell ⟨b, 0, none⟩ C) := by
  have h1 : (w.setCell ⟨b, 0, none⟩ C).heap[b]? = some (.cells ((mA M).setIfInBounds 0 C) 45 (0, 0)) := heap_setCell_same _ _ _ _ _ _ h
  exact h1.trans (by simp [mA, mc, rc])
theorem Mb.setE {b : Nat} {M : Mv} {w : World} (h : Mb b M w) (E : Value) : Mb b { M with E := E } (w.setCell ⟨b, 6, none⟩ E) := by
  have h1 : (w.setCell ⟨b, 6, none⟩ E).heap[b]? = some (.cells ((mA M).setIfInBounds 6 E) 45 (0, 0)) := heap_setCell_same _ _ _ _ _ _ h
  exact h1.trans (by simp [mA, mc, rc])
end Go.Proofs.Ytidcbboonjenhaa
