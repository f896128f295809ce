/- Boxes of numbers alone: loaded whole, stored whole. -/
import Derived.Test.YtidcbboonjenhaaSltE
import Derived.Deep.WholeRow
namespace Go.Proofs.Ytidcbboonjenhaa
open Go.RowKit Classical Go.Proofs.Ytidcbboonjenhaa.Slt
theorem brow {B : Nat} {w a : World} (h : Below B w a) {g : Nat} (hg : B ≤ g) (cs : Array Value) : Below B w (a.setRow g cs) :=
  ⟨h.os, h.tape, h.output, (by rw [setRow_size]; exact h.size), fun b hb => (setRow_other a g b cs (by omega)).trans (h.block b hb)⟩
theorem Upd.row (w : World) (g : Nat) (cs : Array Value) : Upd g w (w.setRow g cs) := ⟨brow (Below.refl _ _) (Nat.le_refl _) _, fun k hk _ => setRow_other w g k _ hk⟩
theorem Upd.alloc {g : Nat} {w w' : World} (h : Upd g w w') (hg : g < w.heap.size) (o : Obj) : Upd g w (w'.alloc o) :=
  ⟨h.below.alloc (Nat.le_of_lt (Nat.lt_of_lt_of_le hg h.below.size)) o, fun k hk hs => ((Kt.balloc (Below.refl _ _) o : Below w'.heap.size w' (w'.alloc o)).block k (Nat.lt_of_lt_of_le hs h.below.size)).trans (h.other k hk hs)⟩
theorem ld_bx {W : World} {g : Nat} {t t0 : TypeId} {l : List Int} (h : Bx t0 g l W) {d : _} (hu : Try.prog.underlying t = some (.struct d)) (hs : (Try.prog.info? t).map (·.size) = some l.length) : (loadVar t ⟨g, 0, none⟩).run Try.prog W = .ok (.agg (Kt.ia .i64 l)) W :=
  run_loadVar_row W g t0 t (Kt.ia .i64 l) (0, 0) _ h hu rfl (by rw [Kt.ia_size]; exact hs)
section
variable {ops : Array Oper} {rest : List Oper} {o : Oper} {a : Act} {w : World} {Q : Exit → Act → World → Prop}
theorem load_bx (hgd : o.guard = none) (t : TypeId) (x : Operand) (ho : o.op = .load t x) (g : Nat) (hx : a.eval x = .pointer (some ⟨g, 0, none⟩)) {t0 : TypeId} (l : List Int) (hb : Bx t0 g l w) {d : _} (hu : Try.prog.underlying t = some (.struct d)) (hs : (Try.prog.info? t).map (·.size) = some l.length)
    (h : wpList Try.prog ops Q rest (a.put o.dst (.agg (Kt.ia .i64 l))) w) : wpList Try.prog ops Q (o :: rest) a w :=
  wpList_load_row hgd t x ho g hx t0 (Kt.ia .i64 l) (0, 0) _ hb hu rfl (by rw [Kt.ia_size]; exact hs) h
theorem store_bx (hgd : o.guard = none) (t : TypeId) (x y : Operand) (ho : o.op = .store t x y) (g : Nat) (hx : a.eval x = .pointer (some ⟨g, 0, none⟩)) (l : List Int) (hy : a.eval y = .agg (Kt.ia .i64 l)) {t0 : TypeId} (old : List Int) (hb : Bx t0 g old w) (hl : old.length = l.length) (hs : (Try.prog.info? t).map (·.size) = some l.length)
    (h : ∀ W, Bx t0 g l W → Upd g w W → wpList Try.prog ops Q rest (a.put o.dst undef) W) : wpList Try.prog ops Q (o :: rest) a w :=
  wpList_store_row hgd t x y ho g (Kt.ia .i64 l) hx hy t0 (Kt.ia .i64 old) hb (by rw [Kt.ia_size]; exact hs) (by rw [Kt.ia_size, Kt.ia_size]; exact hl) (Kt.ia_one _ _)
    (h _ (setRow_heap w g _ _ _ _ hb) (Upd.row w g _))
/-- into a box made just now -/
theorem store_new (hgd : o.guard = none) (t : TypeId) (x y : Operand) (ho : o.op = .store t x y) (g : Nat) (hg : w.heap.size = g) (hx : a.eval x = .pointer (some ⟨g, 0, none⟩)) (l : List Int) (hy : a.eval y = .agg (Kt.ia .i64 l)) {t0 : TypeId} (old : Array Value) (hl : old.size = l.length) (hs : (Try.prog.info? t).map (·.size) = some l.length)
    (h : wpList Try.prog ops Q rest (a.put o.dst undef) (w.alloc (.cells (Kt.ia .i64 l) t0))) : wpList Try.prog ops Q (o :: rest) a (w.alloc (.cells old t0)) := by
  subst hg
  refine wpList_store_row hgd t x y ho w.heap.size (Kt.ia .i64 l) hx hy t0 old (heap_alloc_new w _) (by rw [Kt.ia_size]; exact hs) (by rw [Kt.ia_size]; exact hl) (Kt.ia_one _ _) ?_
  rw [World.setRow_alloc_new]; exact h
/-- a part of a box stored anew -/
theorem store_part (hgd : o.guard = none) (t : TypeId) (x y : Operand) (ho : o.op = .store t x y) (g off : Nat) (hx : a.eval x = .pointer (some ⟨g, off, none⟩)) (l : List Int) (hy : a.eval y = .agg (Kt.ia .i64 l)) (ht : w.there g off l.length) (hs : (Try.prog.info? t).map (·.size) = some l.length)
    (h : wpList Try.prog ops Q rest (a.put o.dst undef) (w.setCells g off (l.map (Value.int .i64)))) : wpList Try.prog ops Q (o :: rest) a w :=
  wpList_store_mid hgd t x y ho g off (Kt.ia .i64 l) hx hy (by rw [Kt.ia_size]; exact ht) (by rw [Kt.ia_size]; exact hs) (Kt.ia_one _ _) (by rw [Kt.ia_list]; exact h)
end
end Go.Proofs.Ytidcbboonjenhaa
