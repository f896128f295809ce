/- Structs and arrays of integers alone, as lists. -/
import Derived.Test.YtidcbboonjenhaaEq
import Derived.Test.YtidcbboonjenhaaSlm
import Derived.Deep.MidRow
namespace Go.Proofs.Ytidcbboonjenhaa.Kt
open Go.RowKit Classical
/-- the cells -/
def ia (k : IntKind) (l : List Int) : Array Value := (l.map (Value.int k)).toArray
theorem ia_size (k : IntKind) (l : List Int) : (ia k l).size = l.length := by simp [ia]
theorem ia_list (k : IntKind) (l : List Int) : (ia k l).toList = l.map (Value.int k) := by simp [ia]
theorem ia_get (k : IntKind) (l : List Int) (i : Nat) : (ia k l)[i]? = l[i]?.map (Value.int k) := by simp [ia]
theorem ia_at (k : IntKind) (l : List Int) (i : Nat) (h : i < l.length) : (ia k l)[i]? = some (.int k l[i]) := by rw [ia_get, List.getElem?_eq_getElem h]; rfl
theorem ia_set (k : IntKind) (l : List Int) (i : Nat) (v : Int) : (ia k l).setIfInBounds i (.int k v) = ia k (l.set i v) := by
  apply Array.toList_inj.1
  simp [ia]
theorem ia_extract (k : IntKind) (l : List Int) (a b : Nat) : (ia k l).extract a b = ia k ((l.drop a).take (b - a)) := by
  apply Array.toList_inj.1
  simp [ia, List.extract]
theorem ia_inj {k : IntKind} {a b : List Int} (h : ia k a = ia k b) : a = b := by
  have h2 := congrArg Array.toList h
  rw [ia_list, ia_list] at h2
  exact List.map_inj_right (fun x y e => by cases e; rfl) |>.1 h2
theorem ia_one (k : IntKind) (l : List Int) : (ia k l).all (·.oneCell') = true := by
  rw [Array.all_eq_true_iff_forall_mem]
  intro x hx
  simp [ia] at hx
  obtain ⟨n, _, rfl⟩ := hx
  rfl
def allI (k : IntKind) : Fr.Ty → Bool
  | .int q => q == k
  | .nil => true
  | .cat _ a b => allI k a && allI k b
  | .arr _ _ e => allI k e
  | _ => false
/-- how many cells, and whether they are told right -/
def tsz : Fr.Ty → Nat
  | .nil => 0
  | .cat _ a b => tsz a + tsz b
  | .arr n _ e => n * tsz e
  | _ => 1
def okSz : Fr.Ty → Bool
  | .cat sz a b => sz == tsz a && okSz a && okSz b
  | .arr _ sz e => sz == tsz e && okSz e
  | _ => true
theorem chunk_take {α : Type} (l : List α) (n sz : Nat) (h : l.length = (n + 1) * sz) : (l.take (n * sz)).length = n * sz ∧ l = l.take (n * sz) ++ (l.drop (n * sz)).take sz := by
  rw [Nat.add_mul, Nat.one_mul] at h
  refine ⟨by rw [List.length_take]; omega, ?_⟩
  have e : (l.drop (n * sz)).take sz = l.drop (n * sz) := List.take_of_length_le (by rw [List.length_drop]; omega)
  rw [e, List.take_append_drop]
theorem ints_cl (k : IntKind) : ∀ (ty : Fr.Ty) (cs : List Value), allI k ty = true → okSz ty = true → Fr.Cl ty cs → ∃ l : List Int, cs = l.map (Value.int k) ∧ l.length = tsz ty
  | .int q, _, ha, _, h => by
    obtain ⟨n, rfl⟩ := h
    simp [allI] at ha
    subst ha
    exact ⟨[n], rfl, rfl⟩
  | .bool, _, ha, _, _ => by simp [allI] at ha
  | .string, _, ha, _, _ => by simp [allI] at ha
  | .slice .., _, ha, _, _ => by simp [allI] at ha
  | .nil, _, _, _, h => ⟨[], h, rfl⟩
  | .cat sz a b, cs, ha, ho, h => by
    simp only [allI, Bool.and_eq_true] at ha
    simp only [okSz, Bool.and_eq_true, beq_iff_eq] at ho
    obtain ⟨la, ea, na⟩ := ints_cl k a _ ha.1 ho.1.2 h.2.1
    obtain ⟨lb, eb, nb⟩ := ints_cl k b _ ha.2 ho.2 h.2.2
    refine ⟨la ++ lb, ?_, by simp [tsz, na, nb]⟩
    rw [← List.take_append_drop sz cs, ea, eb, List.map_append]
  | .arr n sz e, cs, ha, ho, h => by
    simp only [allI] at ha
    simp only [okSz, Bool.and_eq_true, beq_iff_eq] at ho
    obtain ⟨hl, hc⟩ := h
    have ho1 := ho.1
    have key : ∀ (n : Nat) (cs : List Value), cs.length = n * sz → (∀ i, i < n → Fr.Cl e ((cs.drop (i * sz)).take sz)) → ∃ l : List Int, cs = l.map (Value.int k) ∧ l.length = n * tsz e := by
      intro n
      induction n with
      | zero => intro cs hl _; exact ⟨[], List.eq_nil_of_length_eq_zero (by simpa using hl), by simp⟩
      | succ n ih =>
        intro cs hl hc
        obtain ⟨h1, h2⟩ := chunk_take cs n sz hl
        obtain ⟨la, ea, na⟩ := ih (cs.take (n * sz)) h1 (fun i hi => by
          have := hc i (by omega)
          have hmul : i * sz + sz ≤ n * sz := by rw [← Nat.succ_mul]; exact Nat.mul_le_mul_right _ hi
          rw [List.drop_take, List.take_take, Nat.min_eq_left (by omega)]
          exact this)
        obtain ⟨lb, eb, nb⟩ := ints_cl k e _ ha ho.2 (hc n (by omega))
        refine ⟨la ++ lb, ?_, by rw [List.length_append, na, nb, Nat.add_mul]; omega⟩
        rw [h2, ea, eb, List.map_append]
    exact key n cs hl hc
theorem cl_ints (k : IntKind) : ∀ (ty : Fr.Ty) (l : List Int), allI k ty = true → okSz ty = true → l.length = tsz ty → Fr.Cl ty (l.map (Value.int k))
  | .int q, l, ha, _, h => by
    simp [allI] at ha
    subst ha
    match l, h with
    | [n], _ => exact ⟨n, rfl⟩
  | .bool, _, ha, _, _ => by simp [allI] at ha
  | .string, _, ha, _, _ => by simp [allI] at ha
  | .slice .., _, ha, _, _ => by simp [allI] at ha
  | .nil, l, _, _, h => by simp only [tsz] at h; simp only [Fr.Cl]; rw [List.eq_nil_of_length_eq_zero h]; rfl
  | .cat sz a b, l, ha, ho, h => by
    simp only [allI, Bool.and_eq_true] at ha
    simp only [okSz, Bool.and_eq_true, beq_iff_eq] at ho
    simp only [tsz] at h
    refine ⟨by rw [List.length_map]; omega, ?_, ?_⟩
    · rw [← List.map_take]; exact cl_ints k a _ ha.1 ho.1.2 (by rw [List.length_take]; omega)
    · rw [← List.map_drop]; exact cl_ints k b _ ha.2 ho.2 (by rw [List.length_drop]; omega)
  | .arr n sz e, l, ha, ho, h => by
    simp only [allI] at ha
    simp only [okSz, Bool.and_eq_true, beq_iff_eq] at ho
    simp only [tsz] at h
    refine ⟨by rw [List.length_map, h, ho.1], fun i hi => ?_⟩
    rw [← List.map_drop, ← List.map_take]
    refine cl_ints k e _ ha ho.2 ?_
    have hmul : i * sz + sz ≤ n * sz := by rw [← Nat.succ_mul]; exact Nat.mul_le_mul_right _ hi
    have := ho.1
    rw [List.length_take, List.length_drop, h, ← this]; omega
/-- '==' of two -/
theorem eq_ia {P : Program} (k : IntKind) (t : TypeId) (ty : Fr.Ty) (m : Nat) (hm : m ≤ 10000) (hf : Fr.fits P m t ty = true) (he : Fr.eqOk P m t = true) (ha : allI k ty = true) (ho : okSz ty = true) (hp : Fr.plain ty = true) (hv : ∀ cs, Fr.vof ty cs = .agg cs.toArray)
    (a b : List Int) (hla : a.length = tsz ty) (hlb : b.length = tsz ty) : (a = b → ∀ w, (binOp .eql t (.agg (ia k a)) (.agg (ia k b))).run P w = .ok (.bool true) w ∧ (binOp .neq t (.agg (ia k a)) (.agg (ia k b))).run P w = .ok (.bool false) w) ∧
      (a ≠ b → ∀ w, (binOp .eql t (.agg (ia k a)) (.agg (ia k b))).run P w = .ok (.bool false) w ∧ (binOp .neq t (.agg (ia k a)) (.agg (ia k b))).run P w = .ok (.bool true) w) := by
  have h := fun w => Fr.eql_agg (P := P) w t ty m hm hf he hp (ia k a) (ia k b) (by rw [ia_list]; exact cl_ints k ty a ha ho hla) (by rw [ia_list]; exact cl_ints k ty b ha ho hlb) (by rw [hv]) (by rw [hv])
  constructor
  · rintro rfl w
    obtain ⟨h1, h2⟩ := h w
    rw [decide_eq_true rfl] at h1 h2
    exact ⟨h1, h2⟩
  · intro hne w
    obtain ⟨h1, h2⟩ := h w
    rw [decide_eq_false (fun e => hne (ia_inj e))] at h1 h2
    exact ⟨h1, h2⟩
/-- a part of an array of arrays or structs -/
theorem run_index_ia {P : Program} (k q : IntKind) (t e : TypeId) (n : Nat) (ety : Fr.Ty) (m : Nat) (ht : P.underlying t = some (.array n e)) (hf : Fr.fits P m e ety = true) (he : Fr.eqOk P m e = true) (ha : allI k ety = true) (ho : okSz ety = true) (hp : Fr.plain ety = true) (hsz : P.cellsOf e = tsz ety)
    (l : List Int) (hl : l.length = n * tsz ety) (i : Nat) (hi : i < n) (w : World) : (Instr.index t (.agg (ia k l)) (.int q i)).run P w = .ok (Fr.vof ety (((l.drop (i * tsz ety)).take (tsz ety)).map (Value.int k))) w := by
  have hmul : i * tsz ety + tsz ety ≤ n * tsz ety := by rw [← Nat.succ_mul]; exact Nat.mul_le_mul_right _ hi
  have e1 : ((ia k l).toList.drop (i * P.cellsOf e)).take (P.cellsOf e) = ((l.drop (i * tsz ety)).take (tsz ety)).map (Value.int k) := by
    rw [ia_list, hsz, List.map_take, List.map_drop]
  have hpart := Fr.part_run (P := P) w e ety m m hf he hp (ia k l) (i * P.cellsOf e) (by
    rw [e1]; exact cl_ints k ety _ ha ho (by rw [List.length_take, List.length_drop]; omega))
  rw [e1] at hpart
  have hie : ∃ x, P.info? e = some x := by
    cases m with
    | zero => simp [Fr.eqOk] at he
    | succ m' => unfold Fr.eqOk at he; rw [Bool.and_eq_true] at he; exact Option.isSome_iff_exists.1 he.1
  obtain ⟨x, hx⟩ := hie
  have hb : (0 : Int) ≤ (i : Int) ∧ (i : Int) < (n : Int) := by omega
  simp [Instr.index, asIntOf, run_underlying ht, run_sizeOf w hx, Result.andThen, hpart]
  exact fun hh => absurd hh (by omega)
end Go.Proofs.Ytidcbboonjenhaa.Kt
