/- Ticks twice; hubs that came in. -/
import Derived.Test.YtijolofnmccolaaHubD
namespace Go.Proofs.Ytijolofnmccolaa
open Go.RowKit Go.Proofs.Ytijolofnmccolaa.SetP
theorem tickP_twice {s t : Int} (h : rightP s t) : tickP (tickP s t).1 (tickP s t).2 = tickP s t := by
  obtain ⟨hs, ht⟩ := h
  unfold okS at hs; unfold okC at ht
  rcases hs with rfl | rfl | rfl | rfl | rfl
  all_goals
    rcases ht with rfl | rfl | rfl | rfl | rfl | rfl | rfl | rfl <;> decide
theorem tick_len (ps : List Int) : (tick ps).length = ps.length := tickTo_len ps 16
theorem tick_get (ps : List Int) (hl : ps.length = 32) (j : Nat) (hj : j < 16) : (tick ps).getD (j * 2) 0 = (tickP (ps.getD (j * 2) 0) (ps.getD (j * 2 + 1) 0)).1 ∧ (tick ps).getD (j * 2 + 1) 0 = (tickP (ps.getD (j * 2) 0) (ps.getD (j * 2 + 1) 0)).2 := by
  obtain ⟨a, b⟩ := tickTo_get ps hl 16 (Nat.le_refl _) j
  rw [if_pos hj] at a b
  exact ⟨a, b⟩
theorem tick_right {c : Int} {ps : List Int} (h : RightH c ps) (hl : ps.length = 32) : RightH c (tick ps) := by
  refine ⟨h.c1, h.c2, fun j hj => ?_⟩
  obtain ⟨a, b⟩ := tick_get ps hl j hj
  obtain ⟨h1, h2⟩ := h.ok j hj
  unfold okAt
  rw [a, b]
  refine ⟨tickP_right h1, fun hh => ?_⟩
  obtain ⟨e1, e2⟩ := h2 hh
  rw [e1, e2]; exact ⟨rfl, rfl⟩
theorem ports_ext {a b : List Int} (ha : a.length = 32) (hb : b.length = 32) (h : ∀ j, j < 16 → a.getD (j * 2) 0 = b.getD (j * 2) 0 ∧ a.getD (j * 2 + 1) 0 = b.getD (j * 2 + 1) 0) : a = b := by
  apply List.ext_getElem (by omega)
  intro i h1 h2
  rw [← getD_at a i h1, ← getD_at b i h2]
  rcases Nat.mod_two_eq_zero_or_one i with e | e
  · have := (h (i / 2) (by omega)).1
    rwa [show i / 2 * 2 = i by omega] at this
  · have := (h (i / 2) (by omega)).2
    rwa [show i / 2 * 2 + 1 = i by omega] at this
theorem tick_twice {c : Int} {ps : List Int} (h : RightH c ps) (hl : ps.length = 32) : tick (tick ps) = tick ps := by
  have hl2 : (tick ps).length = 32 := by rw [tick_len, hl]
  refine ports_ext (by rw [tick_len, hl2]) hl2 fun j hj => ?_
  obtain ⟨a, b⟩ := tick_get (tick ps) hl2 j hj
  obtain ⟨a1, b1⟩ := tick_get ps hl j hj
  have ht := tickP_twice (h.ok j hj).1
  rw [a, b, a1, b1, ht]
  exact ⟨rfl, rfl⟩
theorem fit_right {c : Int} {ps : List Int} (h : RightH c ps) (hl : ps.length = 32) : Fit ps := fun x hx => by
  obtain ⟨i, hi, rfl⟩ := List.mem_iff_getElem.1 hx
  rw [← getD_at ps i hi]
  rcases Nat.mod_two_eq_zero_or_one i with e | e
  · have := (right_bd (h.ok (i / 2) (by omega)).1).1
    rwa [show i / 2 * 2 = i by omega] at this
  · have := (right_bd (h.ok (i / 2) (by omega)).1).2
    rwa [show i / 2 * 2 + 1 = i by omega] at this
theorem tickR_keeps (c : Int) (ps : List Int) (hl : ps.length = 32) (hf : Fit ps) : (tickR c ps).1.length = 32 ∧ Fit (tickR c ps).1 ∧ (RightH c ps → RightH c (tickR c ps).1) := by
  by_cases hr : RightH c ps
  · rw [(tickR_yes hr).1]
    have h2 := tick_right hr hl
    have hl2 : (tick ps).length = 32 := by rw [tick_len, hl]
    exact ⟨hl2, fit_right h2 hl2, fun _ => h2⟩
  · rw [(tickR_no hr).1]; exact ⟨hl, hf, fun h => h⟩
theorem tickR_twice (c : Int) (ps : List Int) (hl : ps.length = 32) : (tickR c (tickR c ps).1).1 = (tickR c ps).1 ∧ (tickR c (tickR c ps).1).2 = (tickR c ps).2 := by
  by_cases hr : RightH c ps
  · rw [(tickR_yes hr).1, (tickR_yes hr).2, (tickR_yes (tick_right hr hl)).1, (tickR_yes (tick_right hr hl)).2, tick_twice hr hl]
    exact ⟨rfl, rfl⟩
  · rw [(tickR_no hr).1, (tickR_no hr).2]
    exact ⟨(tickR_no hr).1, rfl⟩
theorem ctlAll_keeps {c : Int} {ps a : List Int} {s t : ByteArray} {n : Int} (hl : ps.length = 32) (hf : Fit ps) (h : CtlAll c ps s a t n) : a.length = 32 ∧ Fit a ∧ (RightH c ps → RightH c a) := by
  rcases h with ⟨hr, h⟩ | ⟨hr, rfl, _, _⟩
  · obtain ⟨h1, h2, h3⟩ := ctl_right hr hl hf h
    exact ⟨h2, h3, fun _ => h1⟩
  · exact ⟨hl, hf, fun h => h⟩
/-- the cells of a shape of integers, with their bounds -/
theorem rd_all {w : World} {B : Nat} (k : IntKind) : ∀ (ty : Fr.Ty) (cs : List Value), Kt.allI k ty = true → Kt.okSz ty = true → Fr.Rd w B ty cs → cs.length = Kt.tsz ty ∧ ∀ v ∈ cs, ∃ n, v = .int k n ∧ (Lit.int k n).wf = true
  | .int q, _, ha, _, h => by
    obtain ⟨n, rfl, hw⟩ := h
    simp [Kt.allI] at ha
    subst ha
    exact ⟨rfl, fun v hv => ⟨n, by simpa using hv, hw⟩⟩
  | .bool, _, ha, _, _ => by simp [Kt.allI] at ha
  | .string, _, ha, _, _ => by simp [Kt.allI] at ha
  | .slice .., _, ha, _, _ => by simp [Kt.allI] at ha
  | .nil, _, _, _, h => by
    have h' : _ = [] := h
    subst h'
    exact ⟨rfl, fun v hv => by simp at hv⟩
  | .cat sz a b, cs, ha, ho, h => by
    simp only [Kt.allI, Bool.and_eq_true] at ha
    simp only [Kt.okSz, Bool.and_eq_true, beq_iff_eq] at ho
    obtain ⟨l1, a1⟩ := rd_all k a _ ha.1 ho.1.2 h.2.1
    obtain ⟨l2, a2⟩ := rd_all k b _ ha.2 ho.2 h.2.2
    have hle := h.1
    refine ⟨?_, fun v hv => ?_⟩
    · rw [List.length_take] at l1
      rw [List.length_drop] at l2
      have := ho.1.1
      simp only [Kt.tsz]; omega
    · rw [← List.take_append_drop sz cs] at hv
      rcases List.mem_append.1 hv with hv | hv
      · exact a1 v hv
      · exact a2 v hv
  | .arr n sz e, cs, ha, ho, h => by
    simp only [Kt.allI] at ha
    simp only [Kt.okSz, Bool.and_eq_true, beq_iff_eq] at ho
    obtain ⟨hl, hc⟩ := h
    refine ⟨by rw [hl]; simp only [Kt.tsz]; rw [ho.1], fun v hv => ?_⟩
    obtain ⟨j, hj, rfl⟩ := List.mem_iff_getElem.1 hv
    have hsz : 0 < sz := by
      rcases Nat.eq_zero_or_pos sz with h0 | h0
      · subst h0; simp at hl; subst hl; simp at hj
      · exact h0
    have hjn : j / sz < n := by rw [Nat.div_lt_iff_lt_mul hsz]; omega
    obtain ⟨_, a1⟩ := rd_all k e _ ha ho.2 (hc (j / sz) hjn)
    refine a1 _ ?_
    rw [List.mem_iff_getElem?]
    refine ⟨j % sz, ?_⟩
    rw [List.getElem?_take, if_pos (Nat.mod_lt _ hsz), List.getElem?_drop, Nat.div_add_mod' j sz, List.getElem?_eq_getElem hj]
/-- a hub that came in -/
theorem hub_in {w : World} {B : Nat} {v : Value} (r : Fr.RdV w B hubTy v) : ∃ c ps, v = HV c ps ∧ ps.length = 32 ∧ Fit ps := by
  obtain ⟨cs, rfl, h⟩ := (r : ∃ cs : Array Value, v = .agg cs ∧ Fr.Rd w B hubTy cs.toList)
  obtain ⟨hlen, hall⟩ := rd_all .i64 hubTy cs.toList rfl rfl h
  obtain ⟨l, hl1, hl2⟩ := Kt.ints_cl .i64 hubTy cs.toList rfl rfl (Fr.cl_of_rd hubTy _ rfl h)
  have hl3 : l.length = 33 := hl2
  match l, hl1, hl3 with
  | c :: ps, e, hl3 =>
    refine ⟨c, ps, ?_, by simpa using hl3, fun x hx => ?_⟩
    · unfold HV Kt.ia
      rw [← e]
    · obtain ⟨n, e1, hw⟩ := hall (.int .i64 x) (by rw [e]; simp; exact .inr hx)
      cases e1
      simp [Lit.wf, IntKind.min, IntKind.max, IntKind.signed, IntKind.bits] at hw
      omega
end Go.Proofs.Ytijolofnmccolaa
