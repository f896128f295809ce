/- Lists of a reader that grow; the walks of 'global' that push and pop. -/
import Derived.Test.YtinhnlfhgfmagaaRepF
namespace Go.Proofs.Ytinhnlfhgfmagaa
open Go.RowKit Go.Proofs.Ytinhnlfhgfmagaa.Rep
theorem pushed_1 {W w' : World} {B b : Nat} {s : RS} {vs vu vo v' : Value} (_ : RdB W B b s vs vu vo) (x : St5) (hsl : Kt.Sl w' B 50 5 v' (s.stk.length + 1) ((s.stk.flatMap St5.cells) ++ St5.cells x)) : Kt.Sl w' B 50 5 v' (s.stk ++ [x]).length ((s.stk ++ [x]).flatMap St5.cells) := by
  rw [List.length_append]
  have e : (s.stk ++ [x]).flatMap St5.cells = (s.stk.flatMap St5.cells) ++ St5.cells x := by simp
  rw [e]
  exact hsl
theorem RdB.push1 {W w' : World} {B b : Nat} {s : RS} {vs vu vo v' : Value} {o : Obj} (h : RdB W B b s vs vu vo) (x : St5) (hsl : Kt.Sl w' B 50 5 v' (s.stk.length + 1) ((s.stk.flatMap St5.cells) ++ St5.cells x))
    (hk : ∀ k, k < (W.alloc o).heap.size → vs.ownBlock ≠ some k → w'.heap[k]? = (W.alloc o).heap[k]?) (ho : ∀ k, v'.ownBlock = some k → vs.ownBlock = some k ∨ (W.alloc o).heap.size ≤ k) (ok : ({ s with stk := s.stk ++ [x] } : RS).Ok) :
    RdB (w'.setCell ⟨b, 5, none⟩ v') B b { s with stk := s.stk ++ [x] } v' vu vo := by
  have hz : (W.alloc o).heap.size = W.heap.size + 1 := World.size_alloc _ _
  have hlt := h.lt
  have old : ∀ k, k < W.heap.size → vs.ownBlock ≠ some k → w'.heap[k]? = W.heap[k]? := fun k hk1 hk2 => (hk k (by omega) hk2).trans (Below.heap_alloc _ _ _ hk1)
  have hnb : ∀ k, v'.ownBlock = some k → k ≠ b := fun k hk1 => by
    rcases ho k hk1 with h1 | h1
    · exact h.n1 k h1
    · omega
  refine ⟨h.bB, (heap_setCell_same _ _ _ _ _ _ ((old b hlt (fun e => h.n1 b e rfl)).trans h.row)).trans rfl, pushed_1 h x (hsl.set (p := ⟨b, 5, none⟩) (fun k hk1 => hnb k hk1) v'), (h.s2.keep fun k hk1 => old k (h.s2.lt k hk1).2 (fun e => h.d12 k e hk1)).set (fun k hk1 => h.n2 k hk1) _, (h.s3.keep fun k hk1 => old k (h.s3.lt k hk1).2 (fun e => h.d13 k e hk1)).set (fun k hk1 => h.n3 k hk1) _, hnb, h.n2, h.n3, fun k hk1 e => by
    rcases ho k hk1 with h1 | h1
    · exact h.d12 k h1 e
    · have := (h.s2.lt k e).2; omega, fun k hk1 e => by
    rcases ho k hk1 with h1 | h1
    · exact h.d13 k h1 e
    · have := (h.s3.lt k e).2; omega, h.d23, ok⟩

theorem pushed_2 {W w' : World} {B b : Nat} {s : RS} {vs vu vo v' : Value} (_ : RdB W B b s vs vu vo) (x : Int) (hsl : Kt.Sl w' B 3 1 v' (s.us.length + 1) ((s.us.map (Value.int .i64)) ++ [.int .i64 x])) : Kt.Sl w' B 3 1 v' (s.us ++ [x]).length ((s.us ++ [x]).map (Value.int .i64)) := by
  rw [List.length_append]
  have e : (s.us ++ [x]).map (Value.int .i64) = (s.us.map (Value.int .i64)) ++ [.int .i64 x] := by simp
  rw [e]
  exact hsl
theorem RdB.push2 {W w' : World} {B b : Nat} {s : RS} {vs vu vo v' : Value} {o : Obj} (h : RdB W B b s vs vu vo) (x : Int) (hsl : Kt.Sl w' B 3 1 v' (s.us.length + 1) ((s.us.map (Value.int .i64)) ++ [.int .i64 x]))
    (hk : ∀ k, k < (W.alloc o).heap.size → vu.ownBlock ≠ some k → w'.heap[k]? = (W.alloc o).heap[k]?) (ho : ∀ k, v'.ownBlock = some k → vu.ownBlock = some k ∨ (W.alloc o).heap.size ≤ k) (ok : ({ s with us := s.us ++ [x] } : RS).Ok) :
    RdB (w'.setCell ⟨b, 6, none⟩ v') B b { s with us := s.us ++ [x] } vs v' vo := by
  have hz : (W.alloc o).heap.size = W.heap.size + 1 := World.size_alloc _ _
  have hlt := h.lt
  have old : ∀ k, k < W.heap.size → vu.ownBlock ≠ some k → w'.heap[k]? = W.heap[k]? := fun k hk1 hk2 => (hk k (by omega) hk2).trans (Below.heap_alloc _ _ _ hk1)
  have hnb : ∀ k, v'.ownBlock = some k → k ≠ b := fun k hk1 => by
    rcases ho k hk1 with h1 | h1
    · exact h.n2 k h1
    · omega
  refine ⟨h.bB, (heap_setCell_same _ _ _ _ _ _ ((old b hlt (fun e => h.n2 b e rfl)).trans h.row)).trans rfl, (h.s1.keep fun k hk1 => old k (h.s1.lt k hk1).2 (fun e => h.d12 k hk1 e)).set (fun k hk1 => h.n1 k hk1) _, pushed_2 h x (hsl.set (p := ⟨b, 6, none⟩) (fun k hk1 => hnb k hk1) v'), (h.s3.keep fun k hk1 => old k (h.s3.lt k hk1).2 (fun e => h.d23 k e hk1)).set (fun k hk1 => h.n3 k hk1) _, h.n1, hnb, h.n3, fun k hk1 e => by
    rcases ho k e with h1 | h1
    · exact h.d12 k hk1 h1
    · have := (h.s1.lt k hk1).2; omega, h.d13, fun k hk1 e => by
    rcases ho k hk1 with h1 | h1
    · exact h.d23 k h1 e
    · have := (h.s3.lt k e).2; omega, ok⟩

theorem pushed_3 {W w' : World} {B b : Nat} {s : RS} {vs vu vo v' : Value} (_ : RdB W B b s vs vu vo) (x : Fld) (hsl : Kt.Sl w' B 29 7 v' (s.out.length + 1) ((s.out.flatMap Fld.cells) ++ Fld.cells x)) : Kt.Sl w' B 29 7 v' (s.out ++ [x]).length ((s.out ++ [x]).flatMap Fld.cells) := by
  rw [List.length_append]
  have e : (s.out ++ [x]).flatMap Fld.cells = (s.out.flatMap Fld.cells) ++ Fld.cells x := by simp
  rw [e]
  exact hsl
theorem RdB.push3 {W w' : World} {B b : Nat} {s : RS} {vs vu vo v' : Value} {o : Obj} (h : RdB W B b s vs vu vo) (x : Fld) (hsl : Kt.Sl w' B 29 7 v' (s.out.length + 1) ((s.out.flatMap Fld.cells) ++ Fld.cells x))
    (hk : ∀ k, k < (W.alloc o).heap.size → vo.ownBlock ≠ some k → w'.heap[k]? = (W.alloc o).heap[k]?) (ho : ∀ k, v'.ownBlock = some k → vo.ownBlock = some k ∨ (W.alloc o).heap.size ≤ k) (ok : ({ s with out := s.out ++ [x] } : RS).Ok) :
    RdB (w'.setCell ⟨b, 9, none⟩ v') B b { s with out := s.out ++ [x] } vs vu v' := by
  have hz : (W.alloc o).heap.size = W.heap.size + 1 := World.size_alloc _ _
  have hlt := h.lt
  have old : ∀ k, k < W.heap.size → vo.ownBlock ≠ some k → w'.heap[k]? = W.heap[k]? := fun k hk1 hk2 => (hk k (by omega) hk2).trans (Below.heap_alloc _ _ _ hk1)
  have hnb : ∀ k, v'.ownBlock = some k → k ≠ b := fun k hk1 => by
    rcases ho k hk1 with h1 | h1
    · exact h.n3 k h1
    · omega
  refine ⟨h.bB, (heap_setCell_same _ _ _ _ _ _ ((old b hlt (fun e => h.n3 b e rfl)).trans h.row)).trans rfl, (h.s1.keep fun k hk1 => old k (h.s1.lt k hk1).2 (fun e => h.d13 k hk1 e)).set (fun k hk1 => h.n1 k hk1) _, (h.s2.keep fun k hk1 => old k (h.s2.lt k hk1).2 (fun e => h.d23 k hk1 e)).set (fun k hk1 => h.n2 k hk1) _, pushed_3 h x (hsl.set (p := ⟨b, 9, none⟩) (fun k hk1 => hnb k hk1) v'), h.n1, h.n2, hnb, h.d12, fun k hk1 e => by
    rcases ho k e with h1 | h1
    · exact h.d13 k hk1 h1
    · have := (h.s1.lt k hk1).2; omega, fun k hk1 e => by
    rcases ho k e with h1 | h1
    · exact h.d23 k hk1 h1
    · have := (h.s2.lt k hk1).2; omega, ok⟩

end Go.Proofs.Ytinhnlfhgfmagaa
