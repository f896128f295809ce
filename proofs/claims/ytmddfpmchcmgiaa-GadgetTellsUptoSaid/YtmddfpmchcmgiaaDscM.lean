/- The set of places that were seen: a map of the run's own. -/
import Derived.Test.YtmddfpmchcmgiaaDscW
import Derived.DeepKeys4
import Derived.Maps.OwnOps
import Derived.Maps.Views
namespace Go.Proofs.Ytmddfpmchcmgiaa
open Go.RowKit Go.Proofs.Ytmddfpmchcmgiaa.Dsc Go.Maps
def plV (a : Int) (i : Bool) : Value := .agg #[.int .i64 a, .bool i]
set_option maxRecDepth 100000 in
theorem laidOut' : laidOutB Try.prog = true := by kernel_rfl
set_option maxRecDepth 100000 in
theorem pl_row : (106 : TypeId) < Try.prog.types.size := of_decide_eq_true (by kernel_rfl)
set_option maxRecDepth 100000 in
theorem pl_wide : (match Try.prog.underlying 106 with | some (.array _ _) | some (.struct _) => true | _ => false) = true := by kernel_rfl
set_option maxRecDepth 100000 in
theorem plK : Keyed Try.prog 106 := Keyed.of_law (deep_law_laid laidOut' (m := 2) (by omega) pl_row (by kernel_rfl) pl_wide)
set_option maxRecDepth 100000 in
theorem plKey (a : Int) (i : Bool) (hw : (Lit.int .i64 a).wf = true) : ∃ kl, keyOf Try.prog 106 (plV a i) = some kl := by
  have h1 : Try.prog.keyType 106 = true := by kernel_rfl
  have h2 : (plV a i).formed Try.prog 106 = true := by
    have hc : Try.prog.cellsOf 106 = 2 := by kernel_rfl
    simp [plV, Value.formed, Try.underlying106, hc]
  unfold keyOf
  rw [Try.underlying106]
  dsimp only
  rw [h1, h2]
  obtain ⟨m, hm⟩ : ∃ m, Try.prog.types.size = m + 1 := ⟨Try.prog.types.size - 1, (Nat.sub_add_cancel (Nat.lt_of_le_of_lt (Nat.zero_le _) pl_row)).symm⟩
  have hc : Try.prog.cellsOf 106 = 2 := by kernel_rfl
  have hi : Try.prog.cellsOf 3 = 1 := by kernel_rfl
  have hb : Try.prog.cellsOf 4 = 1 := by kernel_rfl
  rw [hm]
  simp [Program.keyLits, Try.underlying106, Try.underlying3, Try.underlying4, hc, hi, hb, plV, Value.cells, hw]
def Seen (w : World) (b n : Nat) (l : List (Int × Bool)) : Prop := ∃ D : DataW Unit, w.ownsMap Try.prog 106 (plainElem Try.prog 4) b n D ∧ ∀ a i kl, keyOf Try.prog 106 (plV a i) = some kl → D.atKey kl (.lit (.bool false)) = .lit (.bool (decide ((a, i) ∈ l)))
set_option maxRecDepth 100000 in
theorem bool_elem (b : Bool) : plainElem Try.prog 4 (.bool b) = some ((.lit (.bool b) : DataW Unit), []) := by
  simp [plainElem, Try.underlying4]
set_option maxRecDepth 100000 in
theorem bool_elem_inv {v : Value} {d : Bool} {ps : List MemPlace} (h : plainElem Try.prog 4 v = some ((.lit (.bool d) : DataW Unit), ps)) : v = .bool d := by
  unfold plainElem at h
  rw [Try.underlying4] at h
  cases v <;> simp at h
  rw [h.1]
set_option maxRecDepth 100000 in
theorem zero_bool (w : World) : (zeroValue 4).run Try.prog w = .ok (.bool false) w := by kernel_rfl
set_option maxRecDepth 100000 in
theorem Seen.made (w : World) : Seen (w.alloc (.map #[] 0)) w.heap.size 0 [] := ⟨_, World.ownsMap_made w _ _ _, fun _a _i _kl _ => rfl⟩
set_option maxRecDepth 100000 in
theorem Seen.lt {w : World} {b n : Nat} {l : List (Int × Bool)} (h : Seen w b n l) : b < w.heap.size := by
  obtain ⟨_, h1, _⟩ := h
  exact h1.lt
set_option maxRecDepth 100000 in
theorem Seen.keep {w w' : World} {b n : Nat} {l : List (Int × Bool)} (h : Seen w b n l) (e : w'.heap[b]? = w.heap[b]?) : Seen w' b n l := by
  obtain ⟨D, ⟨es, clock, hb, r⟩, h2⟩ := h
  exact ⟨D, ⟨es, clock, e.trans hb, r⟩, h2⟩
set_option maxRecDepth 100000 in
theorem Seen.on {w w' : World} {b n : Nat} {l : List (Int × Bool)} (h : Seen w b n l) (hb : Below w.heap.size w w') : Seen w' b n l := h.keep (hb.block b h.lt)
set_option maxRecDepth 100000 in
theorem Seen.alloc {w : World} {b n : Nat} {l : List (Int × Bool)} (h : Seen w b n l) (o : Obj) : Seen (w.alloc o) b n l := h.keep (Below.heap_alloc w o b h.lt)
set_option maxRecDepth 100000 in
theorem Seen.look {w : World} {b n : Nat} {l : List (Int × Bool)} (h : Seen w b n l) (a : Int) (i : Bool) (hw : (Lit.int .i64 a).wf = true) :
    (Instr.lookup 75 (.map (some b)) (plV a i) false).run Try.prog w = .ok (.bool (decide ((a, i) ∈ l))) w := by
  obtain ⟨D, h1, h2⟩ := h
  obtain ⟨kl, hk⟩ := plKey a i hw
  obtain ⟨v, ps, hrun, hv⟩ := h1.lookup plK Try.underlying75 (zero_bool w) (bool_elem false) hk
  rw [h2 a i kl hk] at hv
  rw [hrun, bool_elem_inv hv]
set_option maxRecDepth 100000 in
theorem Seen.put {w : World} {b n : Nat} {l : List (Int × Bool)} (h : Seen w b n l) (a : Int) (i : Bool) (hw : (Lit.int .i64 a).wf = true) (hn : n < maxLen) :
    ∃ w', (Instr.mapUpdate 75 (.map (some b)) (plV a i) (.bool true)).run Try.prog w = .ok () w' ∧ Seen w' b (n + 1) ((a, i) :: l) ∧ w.grownBy w' (some b) := by
  obtain ⟨D, h1, h2⟩ := h
  obtain ⟨kl, hk⟩ := plKey a i hw
  obtain ⟨w', hrun, r1, r2⟩ := h1.update plK Try.underlying75 hn hk (bool_elem true)
  refine ⟨w', hrun, ⟨_, r1, fun a' i' kl' hk' => ?_⟩, r2⟩
  have hmap : IsMap D := by
    obtain ⟨es, clock, hb, _, _, rfl⟩ := h1
    exact ⟨_, rfl⟩
  by_cases e : (a', i') = (a, i)
  · have ekl : kl' = kl := by
      injection e with e1 e2
      subst e1 e2
      rw [hk] at hk'
      exact (Option.some.inj hk').symm
    subst ekl
    rw [atKey_put_same hmap (plK.key hk), decide_eq_true (by rw [e]; exact List.mem_cons_self ..)]
  · have ekl : kl' ≠ kl := fun q => by
      subst q
      have := plK.inj hk hk'
      unfold plV at this
      simp at this
      exact e (by rw [this.1, this.2])
    rw [atKey_put_other ekl, h2 a' i' kl' hk']
    congr 2
    exact decide_eq_decide.2 ⟨fun q => List.mem_cons_of_mem _ q, fun q => (List.mem_cons.1 q).resolve_left e⟩
end Go.Proofs.Ytmddfpmchcmgiaa
