/- A row of bytes of one's own whose block may bear the run-time's mark ('[]byte(s)'): read, cut, appended to. -/
import Derived.Test.YtmnmlnnhngnfbaaDoorSlm
import Derived.Laws.IdiomStrings
import Derived.Lib.BufferMore
import Derived.ArgAppend
namespace Go.Proofs.YtmnmlnnhngnfbaaDoor.Kt
open Go.RowKit
def Bs (w : World) (B e g cap : Nat) (l : List UInt8) : Prop :=
  B ≤ g ∧ l.length ≤ cap ∧ ∃ cur m, w.heap[g]? = some (.cells cur e m) ∧ cap ≤ cur.size ∧ (∀ j, j < cap → w.frozen? ⟨g, j, none⟩ = false) ∧ ∀ j (hj : j < l.length), cur[j]? = some (.int .u8 (l[j].toNat : Int))
section
variable {w w' : World} {B e g cap : Nat} {l : List UInt8}
theorem Bs.lt (h : Bs w B e g cap l) : g < w.heap.size := by
  obtain ⟨_, _, cur, m, hg, _⟩ := h
  exact (Array.getElem?_eq_some_iff.1 hg).1
theorem Bs.keep (h : Bs w B e g cap l) (hk : w'.heap[g]? = w.heap[g]?) : Bs w' B e g cap l := by
  obtain ⟨h1, h2, cur, m, hg, h3, h4, h5⟩ := h
  exact ⟨h1, h2, cur, m, hk.trans hg, h3, fun j hj => (World.frozen?_of_block (a := ⟨g, j, none⟩) hk).trans (h4 j hj), h5⟩
theorem Bs.on (h : Bs w B e g cap l) (hb : Below w.heap.size w w') : Bs w' B e g cap l := h.keep (hb.block g h.lt)
theorem Bs.alloc (h : Bs w B e g cap l) (o : Obj) : Bs (w.alloc o) B e g cap l := h.keep (Below.heap_alloc w o g h.lt)
theorem Bs.empty (h : Bs w B e g cap l) : Bs w B e g cap [] := by
  obtain ⟨h1, h2, cur, m, hg, h3, h4, h5⟩ := h
  exact ⟨h1, Nat.zero_le _, cur, m, hg, h3, h4, fun j hj => by simp at hj⟩
theorem Bs.cell (h : Bs w B e g cap l) (j : Nat) (hj : j < l.length) : w.cell? ⟨g, j, none⟩ = some (.int .u8 (l[j].toNat : Int)) := by
  obtain ⟨h1, h2, cur, m, hg, h3, h4, h5⟩ := h
  rw [cell_of_row w g j cur e m hg, h5 j hj]
/-- string(v[o:o+n]) -/
theorem Bs.conv {P : Program} (h : Bs w B e g cap l) (src dst : TypeId) (o len c : Nat) (hl : o + len ≤ l.length) (hs : P.underlying src = some (.slice e)) (he : P.underlying e = some (.int .u8)) (hd : P.underlying dst = some .string) :
    (convert src dst (.slice (some ⟨g, o, none⟩) len c)).run P w = .ok (.string ⟨((l.drop o).take len).toArray⟩) w :=
  conv_back w src dst e g o len c ((l.drop o).take len) (by rw [List.length_take, List.length_drop]; omega) hs he hd (fun j hj => by
    rw [List.length_take, List.length_drop] at hj
    rw [h.cell (o + j) (by omega)]
    simp)
theorem Bs.of_string (w : World) (B e : Nat) (s : ByteArray) (c : Nat) (hB : B ≤ w.heap.size) (hc : s.size ≤ c) : Bs (w.alloc (.cells (bytesRow s c) e ((bytesRow s c).size, (bytesRow s c).size + 1))) B e w.heap.size c s.data.toList := by
  have hg : (w.alloc (.cells (bytesRow s c) e ((bytesRow s c).size, (bytesRow s c).size + 1))).heap[w.heap.size]? = some (.cells (bytesRow s c) e ((bytesRow s c).size, (bytesRow s c).size + 1)) := (MapKept.heap_alloc w _).1
  have hss : s.size = s.data.size := rfl
  have hsz : c ≤ (bytesRow s c).size := by simp [bytesRow]; omega
  refine ⟨hB, (by rw [Array.length_toList]; exact hc), _, _, hg, hsz, fun j hj => ?_, fun j hj => ?_⟩
  · unfold World.frozen?
    rw [hg]
    simp; omega
  · have hj' : j < s.data.size := by simpa using hj
    rw [bytesRow_at s c j hj']
    simp
end
section
variable {P : Program} (w : World)
theorem run_append_bs (B t ty e : Nat) (bytes : Nat) (hinfo : (P.info? e).map (fun i => (i.zero, i.size, i.bytes)) = some (some (.int .u8 0), 1, bytes)) (ht : P.underlying t = some (.slice e))
    (g cap n : Nat) (l : List UInt8) (h : Bs w B e g cap l) (hn : n = l.length) (ad : Addr) (c : Nat) (x : UInt8) (hx : w.cell? ad = some (.int .u8 (x.toNat : Int)))
    (h63 : n + 1 ≤ maxLen) (hbytes : (n + 1) * bytes ≤ 140737488355328) (hB : B ≤ w.heap.size) :
    ∃ g' cap' w', (Builtin.append_ #[t, t] ty #[.slice (some ⟨g, 0, none⟩) n cap, .slice (some ad) 1 c]).run P w = .ok (.slice (some ⟨g', 0, none⟩) (n + 1) cap') w' ∧ Bs w' B e g' cap' (l ++ [x]) ∧ Below B w w' ∧ w.heap.size ≤ w'.heap.size ∧
      (∀ k, k < w.heap.size → k ≠ g → w'.heap[k]? = w.heap[k]?) := by
  obtain ⟨i, hi, hz, hz1, hz2⟩ := info_parts hinfo
  subst hn
  have hnews : ∀ j u, ([.int .u8 (x.toNat : Int)] : List Value)[j]? = some u → w.cell? (ad.add j) = some u := fun j u hj => by
    cases j with
    | zero =>
      have : ad.add 0 = ad := by unfold Addr.add; simp
      rw [this, hx]; simpa using hj
    | succ j => simp at hj
  have h1 : ∀ u ∈ ([.int .u8 (x.toNat : Int)] : List Value), u.oneCell' = true := by simp [Value.oneCell']
  have hlt := h.lt
  obtain ⟨hBg, hlc, cur, m, hg, hcs, hfz, hcl⟩ := id h
  by_cases hr : l.length + 1 ≤ cap
  · have hrun := run_append_room_cells (P := P) w t ty e i ht hi g 0 l.length cap ad 1 c [.int .u8 (x.toNat : Int)] (by rw [hz1]; rfl) hnews h1 hr
      (fun j hj => by
        rw [List.length_singleton] at hj
        obtain rfl : j = 0 := by omega
        rw [hz1, cell_of_row w g _ cur e m hg, Array.getElem?_eq_getElem (by omega)]; rfl)
      (fun j hj => by
        rw [List.length_singleton] at hj
        obtain rfl : j = 0 := by omega
        rw [hz1]
        have := hfz l.length (by omega)
        simpa using this)
    rw [hz1, Nat.mul_one, Nat.zero_add] at hrun
    have hrow : (w.setCells g l.length [.int .u8 (x.toNat : Int)]).heap[g]? = some (.cells (cur.setIfInBounds l.length (.int .u8 (x.toNat : Int))) e m) := Lib.heap_setCell_same hg _
    refine ⟨g, cap, _, hrun, ⟨hBg, by rw [List.length_append]; exact hr, _, m, hrow, by simpa using hcs, fun j hj => (by rw [World.frozen?_setCells]; exact hfz j hj), fun j hj => ?_⟩, below_setCells _ g _ w w hBg (Below.refl _ _), by rw [setCells_size]; exact Nat.le_refl _, fun k _ hk => setCells_other _ g _ w k hk⟩
    rw [List.length_append, List.length_singleton] at hj
    by_cases hjl : j < l.length
    · rw [Array.getElem?_setIfInBounds_ne (by omega), hcl j hjl, List.getElem_append_left hjl]
    · obtain rfl : j = l.length := by omega
      rw [Array.getElem?_setIfInBounds_self_of_lt (by omega)]
      simp
  · obtain ⟨v', w', hrun, r1, r2⟩ := run_append_arg_grows (P := P) w t ty e i (.int .u8 0) 1 bytes ht hi hz hz1 hz2 rfl (by decide) ⟨g, 0, none⟩ l.length cap (l.map fun b => .int .u8 (b.toNat : Int)) (by simp) (fun j u hj => by
        have hjl : j < l.length := by have := (List.getElem?_eq_some_iff.1 hj).1; simpa using this
        rw [Addr.add_lit, Nat.zero_add, h.cell j hjl]
        rw [List.getElem?_map, List.getElem?_eq_getElem hjl] at hj
        exact hj) ad 1 c [.int .u8 (x.toNat : Int)] (by simp) hnews (by omega) h63 hbytes
    obtain ⟨g', cap', cur', rfl, q2, q3, q4, q5, q6, q7⟩ : ∃ g' cap' cur', v' = .slice (some ⟨g', 0, none⟩) (l.length + 1) cap' ∧ w.heap.size ≤ g' ∧ w'.heap[g']? = some (.cells cur' e (0, 0)) ∧ l.length + 1 ≤ cap' ∧ cap' ≤ maxLen ∧ cur'.size = cap' * 1 ∧ cur'.toList.take ((l.length + 1) * 1) = (l.map fun b => .int .u8 (b.toNat : Int)) ++ [.int .u8 (x.toNat : Int)] := by
      rcases r1.2 with ⟨_, h0⟩ | q
      · omega
      · exact q
    refine ⟨g', cap', w', hrun, ⟨by omega, by rw [List.length_append]; exact q4, cur', (0, 0), q3, by omega, fun j _ => frozen_of_row w' g' j cur' e q3, fun j hj => ?_⟩, below_grown r2 hB, r2.size, fun k hk _ => r2.block k hk (by simp)⟩
    rw [List.length_append, List.length_singleton] at hj
    have hq : (cur'.toList.take ((l.length + 1) * 1))[j]? = ((l.map fun b => Value.int .u8 (b.toNat : Int)) ++ [Value.int .u8 (x.toNat : Int)])[j]? := by rw [q7]
    rw [List.getElem?_take, if_pos (by omega)] at hq
    rw [← Array.getElem?_toList, hq]
    by_cases hjl : j < l.length
    · rw [List.getElem?_append_left (by simpa using hjl), List.getElem_append_left hjl]
      simp [hjl]
    · obtain rfl : j = l.length := by omega
      simp
theorem append_bs {ops : Array Oper} {rest : List Oper} {o : Oper} {a : Act} {Q : Exit → Act → World → Prop} (hgd : Region.wanted o (yielded ops a.tmps) = true) (s x : Operand) (t : TypeId)
    (ho : o.op = .call { callee := .builtin .append, args := #[s, x], argTypes := #[t, t] })
    (B e : Nat) (bytes : Nat) (hinfo : (P.info? e).map (fun i => (i.zero, i.size, i.bytes)) = some (some (.int .u8 0), 1, bytes)) (ht : P.underlying t = some (.slice e))
    (g cap n : Nat) (l : List UInt8) (hs : a.eval s = .slice (some ⟨g, 0, none⟩) n cap) (h : Bs w B e g cap l) (hn : n = l.length) (ad : Addr) (m c : Nat) (u : UInt8) (hx : a.eval x = .slice (some ad) m c) (hm : m = 1) (hu : w.cell? ad = some (.int .u8 (u.toNat : Int)))
    (h63 : n + 1 ≤ maxLen) (hbytes : (n + 1) * bytes ≤ 140737488355328) (hB : B ≤ w.heap.size)
    (hK : ∀ g' cap' w', Bs w' B e g' cap' (l ++ [u]) → Below B w w' → w.heap.size ≤ w'.heap.size → (∀ k, k < w.heap.size → k ≠ g → w'.heap[k]? = w.heap[k]?) → wpList P ops Q rest (a.put o.dst (.slice (some ⟨g', 0, none⟩) (n + 1) cap')) w') : wpList P ops Q (o :: rest) a w := by
  subst hm
  obtain ⟨g', cap', w', hrun, r1, r2, r3, r4⟩ := run_append_bs (P := P) w B t o.type e bytes hinfo ht g cap n l h hn ad c u hu h63 hbytes hB
  refine BigFrame.wpList_want hgd fun K hK' => ?_
  unfold Oper.wp
  simp [execOp, ho, resolve, invoke, builtin, hs, hx, hrun, Result.andThen]
  exact hK' _ _ (hK g' cap' w' r1 r2 r3 r4)
end
end Go.Proofs.YtmnmlnnhngnfbaaDoor.Kt
