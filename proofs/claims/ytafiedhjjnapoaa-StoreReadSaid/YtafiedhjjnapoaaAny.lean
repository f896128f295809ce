/- Regions that draw their order and store at their end: what holds of the world till the store has come up. -/
import Derived.Test.YtafiedhjjnapoaaKit
import Derived.Deep.RegionHeld3
import Derived.Deep.WholeRow
namespace Go.Proofs.Ytafiedhjjnapoaa.Kt
open Go.RowKit
section
variable {P : Program} {ops : Array Oper} {Q : Exit → Act → World → Prop} {md : Region.Mode} {F : World → Prop} {st : Nat}
/-- whatever order is picked from here on, and F holds behind every operation that is carried out, till number st has come up -/
def wpG (P : Program) (md : Region.Mode) (ops : Array Oper) (Q : Exit → Act → World → Prop) (st : Nat) (F : World → Prop) : Nat → Array Bool → Act → World → Prop
  | 0, listed, a, w => Region.ready md ops listed = [] ∧ Q .normal a w
  | fuel + 1, listed, a, w =>
    (Region.ready md ops listed = [] → Q .normal a w) ∧
    ∀ i ∈ Region.ready md ops listed, wpOp P ops Q i (fun a' w' => ((listed.setIfInBounds i true).getD st true = false → F w') ∧ wpG P md ops Q st F fuel (listed.setIfInBounds i true) a' w') a w
theorem wpAny_of_G : ∀ (fuel : Nat) (listed : Array Bool) (a : Act) (w : World), wpG P md ops Q st F fuel listed a w → wpAny P md ops Q fuel listed a w
  | 0, _, _, _, h => h
  | fuel + 1, _, _, _, h => ⟨h.1, fun i hi => wpOp_mono (fun a' w' h' => wpAny_of_G fuel _ a' w' h'.2) (h.2 i hi)⟩
def waits (md : Region.Mode) (ops : Array Oper) (st i : Nat) : Bool := match ops[st]? with
  | none => false
  | some o => o.after.any fun e => Region.binds md e && e.on == i
/-- number i must come up ahead of st, by one edge or by several -/
def reachB (md : Region.Mode) (ops : Array Oper) : Nat → Nat → Nat → Bool
  | 0, _, _ => false
  | fuel + 1, st, i => match ops[st]? with
    | none => false
    | some o => o.after.any fun e => Region.binds md e && (e.on == i || reachB md ops fuel e.on i)
def Closed (md : Region.Mode) (ops : Array Oper) (listed : Array Bool) : Prop := ∀ j oj, ops[j]? = some oj → listed.getD j true = true → ∀ e ∈ oj.after, Region.binds md e = true → listed.getD e.on true = true
def closedB (md : Region.Mode) (ops : Array Oper) (listed : Array Bool) : Bool := (List.range ops.size).all fun j => match ops[j]? with
  | none => true
  | some oj => !listed.getD j true || oj.after.all fun e => !Region.binds md e || listed.getD e.on true
theorem closed_of {listed : Array Bool} (h : closedB md ops listed = true) : Closed md ops listed := by
  intro j oj hj hl e he hb
  have hlt := (Array.getElem?_eq_some_iff.1 hj).1
  have := List.all_eq_true.1 h j (List.mem_range.2 hlt)
  rw [hj] at this
  simp only [hl, Bool.not_true, Bool.false_or, Array.all_eq_true'] at this
  have := this e he
  simpa [hb] using this
theorem closed_reach {listed : Array Bool} (hc : Closed md ops listed) : ∀ (fuel st i : Nat) (o : Oper), ops[st]? = some o → (∀ e ∈ o.after, Region.binds md e = true → listed.getD e.on true = true) → reachB md ops fuel st i = true → listed.getD i true = true
  | 0, _, _, _, _, _, h => by simp [reachB] at h
  | fuel + 1, st, i, o, ho, hall, h => by
    unfold reachB at h
    rw [ho] at h
    obtain ⟨e, he, hb⟩ := Array.any_eq_true'.1 h
    simp only [Bool.and_eq_true, Bool.or_eq_true, beq_iff_eq] at hb
    rcases hb.2 with h1 | h1
    · rw [← h1]; exact hall e he hb.1
    · cases fuel with
      | zero => simp [reachB] at h1
      | succ fuel =>
        have h1' := h1
        unfold reachB at h1'
        split at h1'
        · cases h1'
        · rename_i oe hoe
          exact closed_reach hc (fuel + 1) e.on i oe hoe (hc e.on oe hoe (hall e he hb.1)) h1
theorem closed_step {listed : Array Bool} (hc : Closed md ops listed) {j : Nat} {oj : Oper} (hj : ops[j]? = some oj) (hall : ∀ e ∈ oj.after, Region.binds md e = true → listed.getD e.on true = true) : Closed md ops (listed.setIfInBounds j true) := by
  have up : ∀ k, listed.getD k true = true → (listed.setIfInBounds j true).getD k true = true := fun k hk => by
    by_cases e : j = k
    · subst e
      by_cases hs : j < listed.size
      · simp [hs]
      · simp [hs]
    · rw [getD_set_ne true e]; exact hk
  intro k ok hk hl e he hb
  by_cases ejk : j = k
  · subst ejk
    obtain rfl : ok = oj := by rw [hj] at hk; exact (Option.some.inj hk).symm
    exact up _ (hall e he hb)
  · rw [getD_set_ne true ejk] at hl
    exact up _ (hc k ok hk hl e he hb)
theorem getD_ft {l : Array Bool} {i : Nat} (h : l.getD i false = true) : l.getD i true = true := by
  by_cases hi : i < l.size
  · simpa [hi] using h
  · simp [hi]
theorem wpG_first {i : Nat} {oi : Oper} {v : Value} (hi : ops[i]? = some oi) (hsel : ∀ (j : Nat) (o : Oper) cs b, ops[j]? = some o → o.op ≠ .select cs b)
    (hQ : ∀ c a w, Q (.panic c) (a.put oi.dst v) w → Q (.panic c) a w) (hne : st ≠ i) {far : Nat} (hwt : reachB md ops far st i = true) :
    ∀ (fuel : Nat) (listed : Array Bool) (a : Act) (w : World), Closed md ops listed →
      (∀ j oj, ops[j]? = some oj → j ≠ i → listed.getD j true = false → (∀ e ∈ oj.after, Region.binds md e = true → e.on ≠ i) → oi.apart ops oj = true) →
      i ∈ Region.ready md ops listed → YieldsIf P ops F oi v a → F w → listed.getD st true = false →
      wpG P md ops Q st F fuel (listed.setIfInBounds i true) (a.put oi.dst v) w → wpG P md ops Q st F (fuel + 1) listed a w := by
  intro fuel
  induction fuel with
  | zero =>
    intro listed a w _ _ hr hy hS hst H
    refine ⟨fun h => (by rw [h] at hr; cases hr), fun j hj => ?_⟩
    by_cases hji : j = i
    · subst hji; exact hy.wpOp hi hS ⟨fun _ => hS, H⟩
    · have := ready_mono hj hji
      rw [H.1] at this
      cases this
  | succ fuel ih =>
    intro listed a w hcl hfree hr hy hS hst H
    refine ⟨fun h => (by rw [h] at hr; cases hr), fun j hj => ?_⟩
    by_cases hji : j = i
    · subst hji; exact hy.wpOp hi hS ⟨fun _ => hS, H⟩
    · have h1 := H.2 j (ready_mono hj hji)
      obtain ⟨hjun, oj, hoj, hall⟩ := mem_ready.1 hj
      have hnot : ∀ e ∈ oj.after, Region.binds md e = true → e.on ≠ i := fun e he hb heq => by
        have h1 := hall e he hb
        have h0 := (mem_ready.1 hr).1
        rw [heq] at h1
        rcases Nat.lt_or_ge i listed.size with h' | h'
        · simp [h'] at h0 h1; rw [h0] at h1; cases h1
        · simp [Array.getElem?_eq_none h'] at h1
      have hjs : j ≠ st := by
        rintro rfl
        have := closed_reach hcl far j i oj hoj (fun e he hb => getD_ft (hall e he hb)) hwt
        rw [(mem_ready.1 hr).1] at this; cases this
      have h2 := wpOp_putIf hoj (hfree j oj hoj hji hjun hnot) (fun cs b => hsel i oi cs b hi) (fun cs b => hsel j oj cs b hoj) hQ hy h1
      have hfree' : ∀ k ok, ops[k]? = some ok → k ≠ i → (listed.setIfInBounds j true).getD k true = false →
          (∀ e ∈ ok.after, Region.binds md e = true → e.on ≠ i) → oi.apart ops ok = true := fun k ok hk hki hun hno => by
        refine hfree k ok hk hki ?_ hno
        by_cases hjk : j = k
        · subst hjk; exact hjun
        · rw [getD_set_ne true hjk] at hun; exact hun
      have hst1 : (listed.setIfInBounds j true).getD st true = false := by rw [getD_set_ne true hjs]; exact hst
      have hst2 : ((listed.setIfInBounds i true).setIfInBounds j true).getD st true = false := by rw [getD_set_ne true hjs, getD_set_ne true (Ne.symm hne)]; exact hst
      refine wpOp_mono (fun a' w' h3 => ⟨fun _ => h3.2.1 hst2, ih (listed.setIfInBounds j true) a' w' (closed_step hcl hoj fun e he hb => getD_ft (hall e he hb)) hfree' (ready_mono hr (Ne.symm hji)) h3.1 (h3.2.1 hst2) hst1 ?_⟩) h2
      rw [Array.setIfInBounds_comm _ _ hji]
      exact h3.2.2
theorem wpG_firstP {i : Nat} {oi : Oper} {v : Value} (hi : ops[i]? = some oi) (hsel : ∀ (j : Nat) (o : Oper) cs b, ops[j]? = some o → o.op ≠ .select cs b)
    (hQ : ∀ c a w, Q (.panic c) (a.put oi.dst v) w → Q (.panic c) a w) (hne : st ≠ i) :
    ∀ (fuel : Nat) (listed : Array Bool) (a : Act) (w : World),
      (∀ j oj, ops[j]? = some oj → j ≠ i → listed.getD j true = false → (∀ e ∈ oj.after, Region.binds md e = true → e.on ≠ i) → oi.apart ops oj = true) →
      i ∈ Region.ready md ops listed → YieldsIf P ops (fun _ => True) oi v a → (listed.getD st true = false → F w) →
      wpG P md ops Q st F fuel (listed.setIfInBounds i true) (a.put oi.dst v) w → wpG P md ops Q st F (fuel + 1) listed a w := by
  intro fuel
  induction fuel with
  | zero =>
    intro listed a w _ hr hy hS H
    refine ⟨fun h => (by rw [h] at hr; cases hr), fun j hj => ?_⟩
    by_cases hji : j = i
    · subst hji; exact hy.wpOp hi trivial ⟨fun h => hS (by rw [getD_set_ne true (Ne.symm hne)] at h; exact h), H⟩
    · have := ready_mono hj hji
      rw [H.1] at this
      cases this
  | succ fuel ih =>
    intro listed a w hfree hr hy hS H
    refine ⟨fun h => (by rw [h] at hr; cases hr), fun j hj => ?_⟩
    by_cases hji : j = i
    · subst hji; exact hy.wpOp hi trivial ⟨fun h => hS (by rw [getD_set_ne true (Ne.symm hne)] at h; exact h), H⟩
    · have h1 := H.2 j (ready_mono hj hji)
      obtain ⟨hjun, oj, hoj, hall⟩ := mem_ready.1 hj
      have hnot : ∀ e ∈ oj.after, Region.binds md e = true → e.on ≠ i := fun e he hb heq => by
        have h1 := hall e he hb
        have h0 := (mem_ready.1 hr).1
        rw [heq] at h1
        rcases Nat.lt_or_ge i listed.size with h' | h'
        · simp [h'] at h0 h1; rw [h0] at h1; cases h1
        · simp [Array.getElem?_eq_none h'] at h1
      have h2 := wpOp_putIf hoj (hfree j oj hoj hji hjun hnot) (fun cs b => hsel i oi cs b hi) (fun cs b => hsel j oj cs b hoj) hQ hy h1
      have hfree' : ∀ k ok, ops[k]? = some ok → k ≠ i → (listed.setIfInBounds j true).getD k true = false →
          (∀ e ∈ ok.after, Region.binds md e = true → e.on ≠ i) → oi.apart ops ok = true := fun k ok hk hki hun hno => by
        refine hfree k ok hk hki ?_ hno
        by_cases hjk : j = k
        · subst hjk; exact hjun
        · rw [getD_set_ne true hjk] at hun; exact hun
      have hkeep : ∀ w', (((listed.setIfInBounds i true).setIfInBounds j true).getD st true = false → F w') → (listed.setIfInBounds j true).getD st true = false → F w' := fun w' h0 h1 => h0 (by
        rw [Array.setIfInBounds_comm _ _ (Ne.symm hji), getD_set_ne true (Ne.symm hne)]; exact h1)
      refine wpOp_mono (fun a' w' h3 => ⟨hkeep w' h3.2.1, ih (listed.setIfInBounds j true) a' w' hfree' (ready_mono hr (Ne.symm hji)) h3.1 (hkeep w' h3.2.1) ?_⟩) h2
      rw [Array.setIfInBounds_comm _ _ hji]
      exact h3.2.2
/-- what looks into no world is taken first -/
theorem G.takeP (i : Nat) (oi : Oper) (v : Value) {fuel : Nat} {listed : Array Bool} {a : Act} {w : World} (hF : listed.getD st true = false → F w) (hi : ops[i]? = some oi)
    (hb : (Region.noSelect ops && Region.free md ops listed i && (Region.ready md ops listed).contains i && (st != i)) = true)
    (hQ : ∀ c a w, Q (.panic c) (a.put oi.dst v) w → Q (.panic c) a w) (hw : Region.wanted oi (yielded ops a.tmps) = true) (hy : ∀ w, (execOp a.eval oi).run P w = .ok (.value v) w)
    (h : wpG P md ops Q st F fuel (listed.setIfInBounds i true) (a.put oi.dst v) w) : wpG P md ops Q st F (fuel + 1) listed a w := by
  simp only [Bool.and_eq_true, bne_iff_ne, ne_eq] at hb
  obtain ⟨⟨⟨hs, hf⟩, hr⟩, hne⟩ := hb
  exact wpG_firstP hi (Region.noSelect_spec hs) hQ hne fuel listed a w (Region.free_spec hi hf) (by simpa using hr) (.inl ⟨hw, fun w _ => hy w⟩) hF h
theorem G.late {b : Bool} {p : Prop} (h : b = true) : b = false → p := by intro h2; rw [h] at h2; cases h2
/-- number i, which the store waits for, is taken first -/
theorem G.take (i : Nat) (oi : Oper) (v : Value) {fuel : Nat} {listed : Array Bool} {a : Act} {w : World} (hF : F w) (hi : ops[i]? = some oi)
    (hb : (Region.noSelect ops && Region.free md ops listed i && (Region.ready md ops listed).contains i && (st != i) && (closedB md ops listed && reachB md ops ops.size st i) && !listed.getD st true) = true)
    (hQ : ∀ c a w, Q (.panic c) (a.put oi.dst v) w → Q (.panic c) a w) (hw : Region.wanted oi (yielded ops a.tmps) = true) (hy : ∀ w, F w → (execOp a.eval oi).run P w = .ok (.value v) w)
    (h : wpG P md ops Q st F fuel (listed.setIfInBounds i true) (a.put oi.dst v) w) : wpG P md ops Q st F (fuel + 1) listed a w := by
  simp only [Bool.and_eq_true, bne_iff_ne, ne_eq, Bool.not_eq_true'] at hb
  obtain ⟨⟨⟨⟨⟨hs, hf⟩, hr⟩, hne⟩, hcl, hwt⟩, hst⟩ := hb
  exact wpG_first hi (Region.noSelect_spec hs) hQ hne hwt fuel listed a w (closed_of hcl) (Region.free_spec hi hf) (by simpa using hr) (.inl ⟨hw, hy⟩) hF hst h
/-- a load of a whole row -/
theorem G.load_row (i : Nat) (oi : Oper) (ty : TypeId) (x : Operand) (g : Nat) (ty' : TypeId) (cs : Array Value) (d : TypeDesc) {fuel : Nat} {listed : Array Bool} {a : Act} {w : World} (hF : F w) (hi : ops[i]? = some oi)
    (hb : (Region.noSelect ops && Region.free md ops listed i && (Region.ready md ops listed).contains i && (st != i) && (closedB md ops listed && reachB md ops ops.size st i) && !listed.getD st true) = true)
    (hQ : ∀ c a w, Q (.panic c) (a.put oi.dst (.agg cs)) w → Q (.panic c) a w) (hw : Region.wanted oi (yielded ops a.tmps) = true) (ho : oi.op = .load ty x) (hx : a.eval x = .pointer (some ⟨g, 0, none⟩))
    (hg : ∀ w, F w → w.heap[g]? = some (.cells cs ty' (0, 0))) (hu : P.underlying ty = some d) (hd : d.isRow = true) (hsz : (P.info? ty).map (·.size) = some cs.size)
    (h : wpG P md ops Q st F fuel (listed.setIfInBounds i true) (a.put oi.dst (.agg cs)) w) : wpG P md ops Q st F (fuel + 1) listed a w :=
  G.take i oi (.agg cs) hF hi hb hQ hw (fun w' hF' => by
    unfold execOp
    simp only [ho, hx, Instr.loadAt, Instr.sureAddr, Sem.run_bind, Sem.run_pure, Result.andThen_ok]
    rw [run_loadVar_row w' g ty' ty cs (0, 0) d (hg w' hF') hu (by cases d <;> simp_all [TypeDesc.isRow]) hsz]; rfl) h
/-- one operation alone may come up -/
theorem G.one (i : Nat) (o : Oper) {fuel : Nat} {listed : Array Bool} {a : Act} {w : World} (ho : ops[i]? = some o) (hr : Region.ready md ops listed = [i]) (hw : Region.wanted o (yielded ops a.tmps) = true)
    (h : ∀ K : Act → World → Prop, Shut (∀ a w, ((listed.setIfInBounds i true).getD st true = false → F w) → (((listed.setIfInBounds i true).getD st true = false → F w) → wpG P md ops Q st F fuel (listed.setIfInBounds i true) a w) → K a w) → Oper.wp P o a w K Q) :
    wpG P md ops Q st F (fuel + 1) listed a w := by
  refine ⟨fun h0 => absurd (hr ▸ h0) (by simp), fun j hj => ?_⟩
  rw [hr] at hj
  obtain rfl : j = i := by simpa using hj
  exact wpOp_step ho (fun K' hK => by
    rw [if_pos hw]
    exact h K' (fun a w hS hW => hK a w ⟨hS, hW hS⟩))
/-- one of two comes up -/
theorem G.two (i j : Nat) (oi oj : Oper) {fuel : Nat} {listed : Array Bool} {a : Act} {w : World} (hi : ops[i]? = some oi) (hj : ops[j]? = some oj) (hr : Region.ready md ops listed = [i, j]) (wi : Region.wanted oi (yielded ops a.tmps) = true) (wj : Region.wanted oj (yielded ops a.tmps) = true)
    (h1 : ∀ K : Act → World → Prop, Shut (∀ a w, ((listed.setIfInBounds i true).getD st true = false → F w) → (((listed.setIfInBounds i true).getD st true = false → F w) → wpG P md ops Q st F fuel (listed.setIfInBounds i true) a w) → K a w) → Oper.wp P oi a w K Q)
    (h2 : ∀ K : Act → World → Prop, Shut (∀ a w, ((listed.setIfInBounds j true).getD st true = false → F w) → (((listed.setIfInBounds j true).getD st true = false → F w) → wpG P md ops Q st F fuel (listed.setIfInBounds j true) a w) → K a w) → Oper.wp P oj a w K Q) :
    wpG P md ops Q st F (fuel + 1) listed a w := by
  refine ⟨fun h0 => absurd (hr ▸ h0) (by simp), fun k hk => ?_⟩
  rw [hr] at hk
  rcases List.mem_cons.1 hk with rfl | hk
  · exact wpOp_step hi (fun K' hK => by
      rw [if_pos wi]
      exact h1 K' (fun a w hS hW => hK a w ⟨hS, hW hS⟩))
  · obtain rfl : k = j := by simpa using hk
    exact wpOp_step hj (fun K' hK => by
      rw [if_pos wj]
      exact h2 K' (fun a w hS hW => hK a w ⟨hS, hW hS⟩))
/-- more is known from here on -/
theorem G.more {F' : World → Prop} (hFF : ∀ w, F' w → F w) : ∀ (fuel : Nat) (listed : Array Bool) (a : Act) (w : World), wpG P md ops Q st F' fuel listed a w → wpG P md ops Q st F fuel listed a w
  | 0, _, _, _, h => h
  | fuel + 1, _, _, _, h => ⟨h.1, fun i hi => wpOp_mono (fun a' w' h' => ⟨fun e => hFF _ (h'.1 e), G.more hFF fuel _ a' w' h'.2⟩) (h.2 i hi)⟩
theorem G.done {listed : Array Bool} {a : Act} {w : World} (hr : Region.ready md ops listed = []) (h : Q .normal a w) : ∀ fuel, wpG P md ops Q st F fuel listed a w
  | 0 => ⟨hr, h⟩
  | _ + 1 => ⟨fun _ => h, by rw [hr]; simp⟩
/-- the beginning -/
theorem G.start (st : Nat) (F : World → Prop) {id : Nat} {a : Act} {w : World} (hm : P.follows .mixedOrders = true) (hF : F w.drew)
    (h : F w.drew → wpG P .any ops (NoPanic Q) st F ops.size (Array.replicate ops.size false) a w.drew) : (Code.region id ops true).wp P Q a w :=
  wp_region_noPanic (wp_region_any hm (wpAny_of_G _ _ _ _ (h hF)))
end
/-- cells that are known, of blocks that are there; below w0 nothing has turned -/
structure Fc (w0 : World) (cs : List (Nat × Nat × Value)) (w : World) : Prop where
  cell : ∀ c ∈ cs, c.1 < w.heap.size ∧ w.cell? ⟨c.1, c.2.1, none⟩ = some c.2.2
  bel : Below w0.heap.size w0 w
theorem Fc.on {w0 w w' : World} {cs : List (Nat × Nat × Value)} (h : Fc w0 cs w) (hb : Below w.heap.size w w') : Fc w0 cs w' :=
  ⟨fun c hc => ⟨Nat.lt_of_lt_of_le (h.cell c hc).1 hb.size, (hb.cell (p := ⟨c.1, c.2.1, none⟩) (h.cell c hc).1).trans (h.cell c hc).2⟩, bthen h.bel hb⟩
theorem Fc.alloc {w0 w : World} {cs : List (Nat × Nat × Value)} (h : Fc w0 cs w) (o : Obj) : Fc w0 cs (w.alloc o) := h.on (balloc (Below.refl _ w) o)
theorem Fc.drew {w0 w : World} {cs : List (Nat × Nat × Value)} (h : Fc w0 cs w) : Fc w0 cs w.drew := ⟨h.cell, h.bel.drew⟩
theorem Fc.add {w0 w : World} {cs : List (Nat × Nat × Value)} (h : Fc w0 cs w) {b o : Nat} {v : Value} (hb : b < w.heap.size) (hc : w.cell? ⟨b, o, none⟩ = some v) : Fc w0 ((b, o, v) :: cs) w :=
  ⟨fun c hm => by
    rcases List.mem_cons.1 hm with rfl | hm
    · exact ⟨hb, hc⟩
    · exact h.cell c hm, h.bel⟩
/-- blocks that are known; below w0 nothing has turned -/
structure Fb (w0 : World) (rs : List (Nat × Array Value × TypeId)) (w : World) : Prop where
  row : ∀ r ∈ rs, w.heap[r.1]? = some (.cells r.2.1 r.2.2 (0, 0))
  bel : Below w0.heap.size w0 w
theorem Fb.lt {w0 w : World} {rs : List (Nat × Array Value × TypeId)} (h : Fb w0 rs w) {r : Nat × Array Value × TypeId} (hr : r ∈ rs) : r.1 < w.heap.size := (Array.getElem?_eq_some_iff.1 (h.row r hr)).1
theorem Fb.on {w0 w w' : World} {rs : List (Nat × Array Value × TypeId)} (h : Fb w0 rs w) (hb : Below w.heap.size w w') : Fb w0 rs w' :=
  ⟨fun r hr => (hb.block _ (h.lt hr)).trans (h.row r hr), bthen h.bel hb⟩
theorem Fb.alloc {w0 w : World} {rs : List (Nat × Array Value × TypeId)} (h : Fb w0 rs w) (o : Obj) : Fb w0 rs (w.alloc o) := h.on (balloc (Below.refl _ w) o)
theorem Fb.drew {w0 w : World} {rs : List (Nat × Array Value × TypeId)} (h : Fb w0 rs w) : Fb w0 rs w.drew := ⟨h.row, h.bel.drew⟩
theorem Fb.add {w0 w : World} {rs : List (Nat × Array Value × TypeId)} (h : Fb w0 rs w) {b : Nat} {cs : Array Value} {t : TypeId} (hc : w.heap[b]? = some (.cells cs t (0, 0))) : Fb w0 ((b, cs, t) :: rs) w :=
  ⟨fun r hm => by
    rcases List.mem_cons.1 hm with rfl | hm
    · exact hc
    · exact h.row r hm, h.bel⟩
theorem Fb.nil (w0 : World) {w : World} (h : Below w0.heap.size w0 w) : Fb w0 [] w := ⟨fun _ hc => (by cases hc), h⟩
theorem Fb.onB {w0 w w' : World} {rs : List (Nat × Array Value × TypeId)} {B : Nat} (h : Fb w0 rs w) (hb : Below B w w') (h0 : w0.heap.size ≤ B) (hr : ∀ r ∈ rs, r.1 < B) : Fb w0 rs w' :=
  ⟨fun r hm => (hb.block _ (hr r hm)).trans (h.row r hm), h.bel.trans (hb.mono h0)⟩
theorem Fb.less {w0 w : World} {c : Nat × Array Value × TypeId} {cs : List (Nat × Array Value × TypeId)} (h : Fb w0 (c :: cs) w) : Fb w0 cs w := ⟨fun x hx => h.row x (List.mem_cons_of_mem _ hx), h.bel⟩
theorem Fc.nil (w0 : World) {w : World} (h : Below w0.heap.size w0 w) : Fc w0 [] w := ⟨fun _ hc => (by cases hc), h⟩
theorem Fc.less {w0 w : World} {c : Nat × Nat × Value} {cs : List (Nat × Nat × Value)} (h : Fc w0 (c :: cs) w) : Fc w0 cs w := ⟨fun x hx => h.cell x (List.mem_cons_of_mem _ hx), h.bel⟩
end Go.Proofs.Ytafiedhjjnapoaa.Kt
