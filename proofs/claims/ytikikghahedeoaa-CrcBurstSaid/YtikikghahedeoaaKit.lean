/- Small laws for walks, over any program: conversions, endings, numbers. -/
import Derived.WalkKit
import Derived.WalkSpells
import Derived.WalkLawsBesides
import Derived.Laws.BitsAllLaws
import Derived.Lib.Hide
import Derived.Below
import Derived.Deep.AppendLies
namespace Go.Proofs.Ytikikghahedeoaa.Kt
open Go.RowKit

theorem ret_true {b : Bool} (h : b = true) : Ending.returned (.bool b) = Ending.returned (.bool true) := by rw [h]
theorem ret_int {k : IntKind} {a b : Int} (h : a = b) : Ending.returned (.int k a) = Ending.returned (.int k b) := by rw [h]
theorem eqb {a b : Nat} (h : a = b) : ((a : Int) == (b : Int)) = true := by rw [h]; simp
theorem str_app (a b : ByteArray) : (a ++ b).data.toList = a.data.toList ++ b.data.toList := by simp
theorem u8n (n : Nat) (h : n < 256) : (UInt8.ofNat n).toNat = n := by simp; omega
theorem take_snoc (s : ByteArray) (k : Nat) (h : k < s.size) : s.data.toList.take (k + 1) = s.data.toList.take k ++ [s[k]] := by
  rw [List.take_succ_eq_append_getElem (by simpa using h)]; rfl

section
variable {P : Program}
/-- 'string(b)' where the cells of b are known -/
theorem conv_back (w : World) (src dst e : TypeId) (b o len cap : Nat) (l : List UInt8) (hl : len = l.length) (hs : P.underlying src = some (.slice e)) (he : P.underlying e = some (.int .u8)) (hd : P.underlying dst = some .string)
    (hc : ∀ j (hj : j < l.length), w.cell? ⟨b, o + j, none⟩ = some (.int .u8 (l[j].toNat : Int))) :
    (convert src dst (.slice (some ⟨b, o, none⟩) len cap)).run P w = .ok (.string ⟨l.toArray⟩) w := by
  subst hl
  refine run_convert_bytes_back w src dst e ⟨b, o, none⟩ cap l hs he hd (fun j hj => ?_)
  rw [← hc j hj]; unfold Addr.add; split
  · rename_i h; subst h; rfl
  · rfl
/-- 'append(v, x)', v nil or the call's own: the element lies in a new block of its own -/
theorem append_one (w1 : World) {ops : Array Oper} {rest : List Oper} {o : Oper} {a : Act} {Q : Exit → Act → World → Prop} (hgd : o.guard = none) (s x : Operand) (t : TypeId)
    (ho : o.op = .call { callee := .builtin .append, args := #[s, x], argTypes := #[t, t] })
    (base : Nat) (e : TypeId) (z : Value) (size bytes : Nat) (hinfo : (P.info? e).map (fun i => (i.zero, i.size, i.bytes)) = some (some z, size, bytes)) (ht : P.underlying t = some (.slice e)) (hzs : z.cells.size = size) (hsz : 0 < size)
    (v : Value) (n : Nat) (xs : List Value) (cs : Array Value) (b m c : Nat) (hs : a.eval s = v) (hx : a.eval x = .slice (some ⟨b, 0, none⟩) m c) (hb : b = w1.heap.size) (hm : m = 1) (hcs : cs.size = size) (h1 : ∀ u ∈ cs.toList, u.oneCell' = true)
    (hown : w1.ownsRow base e size v n xs) (h63 : n + 1 ≤ maxLen) (hbytes : (n + 1) * bytes ≤ 140737488355328) (hbase : base ≤ w1.heap.size)
    (h : ∀ v' w', w'.ownsRow base e size v' (n + 1) (xs ++ cs.toList) → Below base w1 w' → wpList P ops Q rest (a.put o.dst v') w') : wpList P ops Q (o :: rest) a (w1.alloc (.cells cs e)) := by
  obtain ⟨i, hi, hz, hz1, hz2⟩ := info_parts hinfo
  subst hb hm
  refine wpList_append_own _ hgd s x t ho base e i z size bytes ht hi hz hz1 hz2 hzs hsz v n xs hs (hown.alloc _) ⟨w1.heap.size, 0, none⟩ 1 c cs.toList hx (by simp [hcs]) (fun j u hj => ?_) h1 h63 hbytes (by rw [World.size_alloc]; omega) ?_
  · unfold Addr.add
    split
    · rename_i h0; subst h0; simpa using hj
    · simpa using hj
  · intro v' w' ho' hg _
    refine h v' w' ho' ?_
    refine ((Below.refl base w1).alloc hbase _).grown hg (by rw [World.size_alloc]; omega) (fun k hk => ?_)
    rcases hown.2 with ⟨rfl, _⟩ | ⟨g, cap, cur, rfl, hbg, _⟩
    · cases hk
    · simp [Value.ownBlock] at hk; omega
/-- the same inside a region that draws its order -/
theorem step_one (w1 : World) {ops : Array Oper} {o : Oper} {a : Act} {K : Act → World → Prop} {Q : Exit → Act → World → Prop} {E : Prop} (hgd : o.guard = none) (s x : Operand) (t : TypeId)
    (ho : o.op = .call { callee := .builtin .append, args := #[s, x], argTypes := #[t, t] })
    (base : Nat) (e : TypeId) (z : Value) (size bytes : Nat) (hinfo : (P.info? e).map (fun i => (i.zero, i.size, i.bytes)) = some (some z, size, bytes)) (ht : P.underlying t = some (.slice e)) (hzs : z.cells.size = size) (hsz : 0 < size)
    (v : Value) (n : Nat) (xs : List Value) (cs : Array Value) (b m c : Nat) (hs : a.eval s = v) (hx : a.eval x = .slice (some ⟨b, 0, none⟩) m c) (hb : b = w1.heap.size) (hm : m = 1) (hcs : cs.size = size) (h1 : ∀ u ∈ cs.toList, u.oneCell' = true)
    (hown : w1.ownsRow base e size v n xs) (h63 : n + 1 ≤ maxLen) (hbytes : (n + 1) * bytes ≤ 140737488355328) (hbase : base ≤ w1.heap.size)
    (h : ∀ v' w', w'.ownsRow base e size v' (n + 1) (xs ++ cs.toList) → Below base w1 w' → K (a.put o.dst v') w') :
    if Region.wanted o (yielded ops a.tmps) = true then Oper.wp P o a (w1.alloc (.cells cs e)).drew K Q else E := by
  obtain ⟨i, hi, hz, hz1, hz2⟩ := info_parts hinfo
  subst hb hm
  refine Go.step_append_lies _ hgd s x t ho base e i z size bytes ht hi hz hz1 hz2 hzs hsz v n xs hs ((hown.alloc _).drew) ⟨w1.heap.size, 0, none⟩ 1 c cs.toList hx (by simp [hcs]) (fun j u hj => ?_) h1 (by omega) h63 hbytes (by show base ≤ (w1.alloc _).heap.size; rw [World.size_alloc]; omega) (w1.heap.size + 1) (by show (w1.alloc _).heap.size = _; rw [World.size_alloc]) ?_
  · show (w1.alloc _).cell? _ = _
    unfold Addr.add
    split
    · rename_i h0; subst h0; simpa using hj
    · simpa using hj
  · intro g cap w' ho' hg hat hlt
    refine h _ w' ho' ?_
    refine (((Below.refl base w1).alloc hbase _).drew).grown hg (by show base ≤ (w1.alloc _).heap.size; rw [World.size_alloc]; omega) (fun k hk => ?_)
    rcases hown.2 with ⟨rfl, _⟩ | ⟨g, cap, cur, rfl, hbg, _⟩
    · cases hk
    · simp [Value.ownBlock] at hk; omega
/-- what an owned row's slice reads as -/
theorem own_cells {w : World} {base e : Nat} {v : Value} {n : Nat} {xs : List Value} (h : w.ownsRow base e 1 v n xs) (hn : 0 < n) :
    ∃ g cap, v = .slice (some ⟨g, 0, none⟩) n cap ∧ base ≤ g ∧ n ≤ cap ∧ ∀ j (hj : j < xs.length), w.cell? ⟨g, 0 + j, none⟩ = some xs[j] := by
  obtain ⟨hl, h⟩ := h
  rcases h with ⟨_, rfl⟩ | ⟨g, cap, cur, rfl, hb, hh, hc, _, hsz, htk⟩
  · omega
  · refine ⟨g, cap, rfl, hb, hc, fun j hj => ?_⟩
    have hj2 : j < cur.size := by omega
    have : xs[j] = cur[j] := by
      have hj3 : j < (cur.toList.take (n * 1)).length := by rw [htk]; exact hj
      have : xs[j] = (cur.toList.take (n * 1))[j] := by congr 1; exact htk.symm
      rw [this, List.getElem_take]; simp
    rw [this]
    unfold World.cell?
    simp [hh, hj2]
/-- the bytes l lie from the head of block g on, and may be written -/
def Byt (w : World) (g : Nat) (l : List UInt8) : Prop :=
  (∀ j (hj : j < l.length), w.cell? ⟨g, j, none⟩ = some (.int .u8 (l[j].toNat : Int))) ∧ ∀ j, j < l.length → w.frozen? ⟨g, j, none⟩ = false
theorem Byt.drew {w : World} {g : Nat} {l : List UInt8} (h : Byt w g l) : Byt w.drew g l := h
theorem Byt.set {w : World} {g : Nat} {l : List UInt8} (h : Byt w g l) (p : Nat) (hp : p < l.length) (x : UInt8) : Byt (w.setCell ⟨g, p, none⟩ (.int .u8 (x.toNat : Int))) g (l.set p x) := by
  refine ⟨fun j hj => ?_, fun j hj => ?_⟩
  · by_cases hjp : p = j
    · subst hjp
      rw [World.cell?_setCell_same (u := .int .u8 (l[p].toNat : Int)) _ _ _ (h.1 p hp)]
      simp
    · rw [World.cell?_setCell_other _ _ _ _ (by intro e; exact hjp (by cases e; rfl)), h.1 j (by simpa using hj)]
      simp [hjp]
  · rw [World.frozen?_setCell]; exact h.2 j (by simpa using hj)
theorem Byt.of_string (w : World) (s : ByteArray) (cap : Nat) (e : TypeId) : Byt (w.alloc (.cells (bytesRow s cap) e ((bytesRow s cap).size, (bytesRow s cap).size + 1))) w.heap.size s.data.toList := by
  refine ⟨fun j hj => ?_, fun j hj => ?_⟩
  · rw [World.cell?_alloc_mark]
    have h1 : j < s.data.size := by simpa using hj
    have h2 : j < s.size := h1
    simp [bytesRow, Array.getElem?_append, h2]
  · have hj2 : j < s.data.size := by simpa using hj
    have : (w.alloc (.cells (bytesRow s cap) e ((bytesRow s cap).size, (bytesRow s cap).size + 1))).heap[w.heap.size]? = some (.cells (bytesRow s cap) e ((bytesRow s cap).size, (bytesRow s cap).size + 1)) := (MapKept.heap_alloc w _).1
    unfold World.frozen?
    rw [this]
    have hss : s.size = s.data.size := rfl
    have hsz : j < (bytesRow s cap).size := by simp [bytesRow]; omega
    simp; omega
theorem Byt.back {w : World} {g : Nat} {l : List UInt8} (h : Byt w g l) (src dst e : TypeId) (len cap : Nat) (hl : len = l.length) (hs : P.underlying src = some (.slice e)) (he : P.underlying e = some (.int .u8)) (hd : P.underlying dst = some .string) :
    (convert src dst (.slice (some ⟨g, 0, none⟩) len cap)).run P w = .ok (.string ⟨l.toArray⟩) w :=
  conv_back w src dst e g 0 len cap l hl hs he hd (fun j hj => by rw [Nat.zero_add]; exact h.1 j hj)
end
end Go.Proofs.Ytikikghahedeoaa.Kt
