/- append onto a slice of the call's own, of a block that was just made; what else it leaves as it was. -/
import Derived.Test.YtmddfpmchcmgiaaGen
namespace Go.Proofs.Ytmddfpmchcmgiaa.Kt
open Go.RowKit
section
variable {P : Program}
theorem append_new (w1 : World) {ops : Array Oper} {rest : List Oper} {o : Oper} {a : Act} {Q : Exit → Act → World → Prop} (hgd : o.guard = none) (s x : Operand) (t : TypeId)
    (ho : o.op = .call { callee := .builtin .append, args := #[s, x], argTypes := #[t, t] })
    (base : Nat) (e : TypeId) (z : Value) (size bytes : Nat) (hinfo : (P.info? e).map (fun i => (i.zero, i.size, i.bytes)) = some (some z, size, bytes)) (ht : P.underlying t = some (.slice e)) (hzs : z.cells.size = size) (hsz : 0 < size)
    (v : Value) (n : Nat) (xs : List Value) (cs : Array Value) (b m c : Nat) (hs : a.eval s = v) (hx : a.eval x = .slice (some ⟨b, 0, none⟩) m c) (hb : b = w1.heap.size) (hm : 0 < m) (hcs : cs.size = m * size) (h1 : ∀ u ∈ cs.toList, u.oneCell' = true)
    (hown : w1.ownsRow base e size v n xs) (h63 : n + m ≤ maxLen) (hbytes : (n + m) * bytes ≤ 140737488355328) (hbase : base ≤ w1.heap.size)
    (h : ∀ v' w', w'.ownsRow base e size v' (n + m) (xs ++ cs.toList) → Below base w1 w' → (∀ k, k < w1.heap.size → v.ownBlock ≠ some k → w'.heap[k]? = w1.heap[k]? ∧ v'.ownBlock ≠ some k) → wpList P ops Q rest (a.put o.dst v') w') : wpList P ops Q (o :: rest) a (w1.alloc (.cells cs e)) := by
  obtain ⟨i, hi, hz, hz1, hz2⟩ := info_parts hinfo
  subst hb
  refine wpList_append_lies _ hgd s x t ho base e i z size bytes ht hi hz hz1 hz2 hzs hsz v n xs hs (hown.alloc _) ⟨w1.heap.size, 0, none⟩ m c cs.toList hx (by simp [hcs]) (fun j u hj => ?_) h1 hm h63 hbytes (by rw [World.size_alloc]; omega) (w1.heap.size + 1) (World.size_alloc _ _) ?_
  · unfold Addr.add
    split
    · rename_i h0; subst h0; simpa using hj
    · simpa using hj
  · intro g cap w' ho' hg hat hlt
    refine h _ w' ho' ?_ (fun k hk hne => ⟨?_, ?_⟩)
    · refine ((Below.refl base w1).alloc hbase _).grown hg (by rw [World.size_alloc]; omega) (fun k hk => ?_)
      rcases hown.2 with ⟨rfl, _⟩ | ⟨g, cap, cur, rfl, hbg, _⟩
      · cases hk
      · simp [Value.ownBlock] at hk; omega
    · exact (hg.block k (by rw [World.size_alloc]; omega) (fun e => hne e.symm)).trans (Below.heap_alloc _ _ _ hk)
    · intro e
      have e2 : g = k := by simpa [Value.ownBlock] using e
      rcases hat with hat | hat
      · exact hne (by rw [hat, e2])
      · omega
end
end Go.Proofs.Ytmddfpmchcmgiaa.Kt
