/- Structs and arrays of plain cells: their parts, and '=='. -/
import Derived.Test.YtafiedhjjnapoaaFr
import Derived.Test.YtafiedhjjnapoaaKit
import Derived.DeepKeys
import Derived.Laws.StructEq
namespace Go.Proofs.Ytafiedhjjnapoaa.Fr
open Go.RowKit Classical
/-- no slice within -/
def plain : Ty → Bool
  | .int _ | .bool | .string | .nil => true
  | .slice .. => false
  | .cat _ a b => plain a && plain b
  | .arr _ _ e => plain e
/-- the cells of a shape -/
def Cl : Ty → List Value → Prop
  | .int k, cs => ∃ n, cs = [.int k n]
  | .bool, cs => ∃ b, cs = [.bool b]
  | .string, cs => ∃ s : ByteArray, cs = [.string s]
  | .slice .., _ => False
  | .nil, cs => cs = []
  | .cat sz a b, cs => sz ≤ cs.length ∧ Cl a (cs.take sz) ∧ Cl b (cs.drop sz)
  | .arr n sz e, cs => cs.length = n * sz ∧ ∀ i, i < n → Cl e ((cs.drop (i * sz)).take sz)
theorem cl_of_rd {w : World} {B : Nat} : ∀ (ty : Ty) (cs : List Value), plain ty = true → Rd w B ty cs → Cl ty cs
  | .int _, _, _, h => by obtain ⟨n, e, _⟩ := h; exact ⟨n, e⟩
  | .bool, _, _, h => h
  | .string, _, _, h => by obtain ⟨n, e, _⟩ := h; exact ⟨n, e⟩
  | .slice .., _, hp, _ => by simp [plain] at hp
  | .nil, _, _, h => h
  | .cat _ a b, _, hp, h => by
    simp only [plain, Bool.and_eq_true] at hp
    exact ⟨h.1, cl_of_rd a _ hp.1 h.2.1, cl_of_rd b _ hp.2 h.2.2⟩
  | .arr _ _ e, _, hp, h => ⟨h.1, fun i hi => cl_of_rd e _ hp (h.2 i hi)⟩
/-- the value of these cells -/
def vof (ty : Ty) (cs : List Value) : Value := match ty with
  | .nil | .cat .. | .arr .. => .agg cs.toArray
  | _ => cs.headD .nilIface
/-- types that can be compared by their cells -/
def eqOk (P : Program) : Nat → TypeId → Bool
  | 0, _ => false
  | n + 1, t => (P.info? t).isSome && match P.underlying t with
    | some (.struct fs) => !P.stoodInHeld t && fs.toList.all fun f => f.name != "_" && eqOk P n f.type
    | some (.array _ e) => eqOk P n e
    | _ => true
theorem ff_form {P : Program} {f : TypeId → Ty → Bool} {fs : List Field} {off : Nat} {ty : Ty} (h : fieldsFit P f fs off ty = true) : ty = .nil ∨ ∃ sz a b, ty = .cat sz a b := by
  cases fs <;> cases ty <;> simp [fieldsFit] at h ⊢
section
variable {P : Program} (w : World)
theorem part_run (t : TypeId) (ty : Ty) (m m' : Nat) (hf : fits P m t ty = true) (hi : eqOk P m' t = true) (hp : plain ty = true) (X : Array Value) (off : Nat) (hc : Cl ty ((X.toList.drop off).take (P.cellsOf t))) :
    (part t X off).run P w = .ok (vof ty ((X.toList.drop off).take (P.cellsOf t))) w := by
  cases m with
  | zero => simp [fits] at hf
  | succ m =>
    cases m' with
    | zero => simp [eqOk] at hi
    | succ m' =>
      unfold eqOk at hi
      rw [Bool.and_eq_true] at hi
      obtain ⟨i, hi⟩ := Option.isSome_iff_exists.1 hi.1
      have hl : X.extract off (off + P.cellsOf t) = ((X.toList.drop off).take (P.cellsOf t)).toArray := by
        apply Array.toList_inj.1
        rw [Array.toList_extract]
        simp [List.extract]
      have one : ∀ v, (X.toList.drop off).take (P.cellsOf t) = [v] → X[off]? = some v := fun v hv => getElem?_of_chunk hv
      unfold fits at hf
      cases hu : P.underlying t with
      | none => simp [hu] at hf
      | some kd =>
        rw [hu] at hf
        cases ty with
        | int k =>
          obtain ⟨n, e⟩ := hc
          cases kd <;> simp at hf
          all_goals first | (simp [part, isAgg, run_underlying hu, one _ e, e, vof]; done) | (have h := ff_form hf.2; simp at h)
        | bool =>
          obtain ⟨n, e⟩ := hc
          cases kd <;> simp at hf
          all_goals first | (simp [part, isAgg, run_underlying hu, one _ e, e, vof]; done) | (have h := ff_form hf.2; simp at h)
        | string =>
          obtain ⟨n, e⟩ := hc
          cases kd <;> simp at hf
          all_goals first | (simp [part, isAgg, run_underlying hu, one _ e, e, vof]; done) | (have h := ff_form hf.2; simp at h)
        | slice sz e => simp [plain] at hp
        | nil =>
          cases kd <;> simp at hf
          simp [part, isAgg, run_underlying hu, run_sizeOf w hi, vof, hl]
        | cat sz a b =>
          cases kd <;> simp at hf
          simp [part, isAgg, run_underlying hu, run_sizeOf w hi, vof, hl]
        | arr n sz e =>
          cases kd <;> simp at hf
          all_goals first | (have h := ff_form hf.2; simp at h; done) | (simp [part, isAgg, run_underlying hu, run_sizeOf w hi, vof, hl]; done)
/-- '==' at a type -/
def EqRun (P : Program) (d : Nat) (t : TypeId) (ty : Ty) : Prop := ∀ (w : World) (xs ys : List Value), Cl ty xs → Cl ty ys → (Op.equalIn d t (vof ty xs) (vof ty ys)).run P w = .ok (decide (xs = ys)) w
theorem take_drop_eq {xs ys : List Value} {n : Nat} : xs = ys ↔ xs.take n = ys.take n ∧ xs.drop n = ys.drop n := by
  constructor
  · rintro rfl; exact ⟨rfl, rfl⟩
  · rintro ⟨h1, h2⟩; rw [← List.take_append_drop n xs, ← List.take_append_drop n ys, h1, h2]
theorem fields_run (d m m' : Nat) (ih : ∀ t ty, fits P m t ty = true → eqOk P m' t = true → plain ty = true → EqRun P d t ty) :
    ∀ (fs : List Field) (off : Nat) (ty : Ty) (X Y : Array Value), fieldsFit P (fits P m) fs off ty = true → (fs.all fun f => f.name != "_" && eqOk P m' f.type) = true → plain ty = true → Cl ty (X.toList.drop off) → Cl ty (Y.toList.drop off) →
      (Op.eqFields d X Y fs).run P w = .ok (decide (X.toList.drop off = Y.toList.drop off)) w
  | [], off, .nil, X, Y, _, _, _, hx, hy => by
    simp only [Cl] at hx hy
    rw [hx, hy]; simp [Op.eqFields]
  | [], _, .int _, _, _, hf, _, _, _, _ => by simp [fieldsFit] at hf
  | [], _, .bool, _, _, hf, _, _, _, _ => by simp [fieldsFit] at hf
  | [], _, .string, _, _, hf, _, _, _, _ => by simp [fieldsFit] at hf
  | [], _, .slice .., _, _, hf, _, _, _, _ => by simp [fieldsFit] at hf
  | [], _, .cat .., _, _, hf, _, _, _, _ => by simp [fieldsFit] at hf
  | [], _, .arr .., _, _, hf, _, _, _, _ => by simp [fieldsFit] at hf
  | x :: fs, off, .cat sz a b, X, Y, hf, he, hp, hx, hy => by
    simp only [fieldsFit, Bool.and_eq_true, beq_iff_eq] at hf
    obtain ⟨⟨⟨ho, hsz⟩, ha⟩, hb⟩ := hf
    simp only [List.all_cons, Bool.and_eq_true, bne_iff_ne, ne_eq] at he
    obtain ⟨⟨hn, hek⟩, hef⟩ := he
    simp only [plain, Bool.and_eq_true] at hp
    subst hsz
    obtain ⟨_, hx1, hx2⟩ := hx
    obtain ⟨_, hy1, hy2⟩ := hy
    have p1 := part_run w x.type a m m' ha hek hp.1 X off hx1
    have p2 := part_run w x.type a m m' ha hek hp.1 Y off hy1
    have p3 := ih x.type a ha hek hp.1 w _ _ hx1 hy1
    rw [List.drop_drop] at hx2 hy2
    have p4 := fields_run d m m' ih fs (off + P.cellsOf x.type) b X Y hb hef hp.2 hx2 hy2
    simp only [Op.eqFields, hn, ne_eq, not_false_eq_true, if_true, Sem.run_bind, ho, p1, p2, p3, Result.andThen_ok]
    have key : X.toList.drop off = Y.toList.drop off ↔ (X.toList.drop off).take (P.cellsOf x.type) = (Y.toList.drop off).take (P.cellsOf x.type) ∧ X.toList.drop (off + P.cellsOf x.type) = Y.toList.drop (off + P.cellsOf x.type) := by
      rw [take_drop_eq (n := P.cellsOf x.type), List.drop_drop, List.drop_drop]
    by_cases h1 : (X.toList.drop off).take (P.cellsOf x.type) = (Y.toList.drop off).take (P.cellsOf x.type)
    · rw [decide_eq_true h1]
      simp only [Bool.not_true, Bool.false_eq_true, if_false]
      rw [p4]
      congr 1
      exact decide_eq_decide.2 ⟨fun h => key.2 ⟨h1, h⟩, fun h => (key.1 h).2⟩
    · rw [decide_eq_false h1, decide_eq_false (fun h => h1 (key.1 h).1)]
      simp
  | _ :: _, _, .int _, _, _, hf, _, _, _, _ => by simp [fieldsFit] at hf
  | _ :: _, _, .bool, _, _, hf, _, _, _, _ => by simp [fieldsFit] at hf
  | _ :: _, _, .string, _, _, hf, _, _, _, _ => by simp [fieldsFit] at hf
  | _ :: _, _, .slice .., _, _, hf, _, _, _, _ => by simp [fieldsFit] at hf
  | _ :: _, _, .nil, _, _, hf, _, _, _, _ => by simp [fieldsFit] at hf
  | _ :: _, _, .arr .., _, _, hf, _, _, _, _ => by simp [fieldsFit] at hf
theorem items_run (d m m' : Nat) (e : TypeId) (ty : Ty) (hf : fits P m e ty = true) (he : eqOk P m' e = true) (hp : plain ty = true) (ih : EqRun P d e ty) (X Y : Array Value) :
    ∀ is : List Nat, (∀ i ∈ is, Cl ty ((X.toList.drop (i * P.cellsOf e)).take (P.cellsOf e)) ∧ Cl ty ((Y.toList.drop (i * P.cellsOf e)).take (P.cellsOf e))) →
      (Op.eqItems d e (P.cellsOf e) X Y is).run P w = .ok (decide (∀ i ∈ is, (X.toList.drop (i * P.cellsOf e)).take (P.cellsOf e) = (Y.toList.drop (i * P.cellsOf e)).take (P.cellsOf e))) w
  | [], _ => by simp [Op.eqItems]
  | i :: is, h => by
    obtain ⟨h1, h2⟩ := h i (by simp)
    have p1 := part_run w e ty m m' hf he hp X _ h1
    have p2 := part_run w e ty m m' hf he hp Y _ h2
    have p3 := ih w _ _ h1 h2
    have p4 := items_run d m m' e ty hf he hp ih X Y is (fun j hj => h j (by simp [hj]))
    simp only [Op.eqItems, Sem.run_bind, p1, p2, p3, Result.andThen_ok]
    by_cases hx : (X.toList.drop (i * P.cellsOf e)).take (P.cellsOf e) = (Y.toList.drop (i * P.cellsOf e)).take (P.cellsOf e)
    · rw [decide_eq_true hx]
      simp only [Bool.not_true, Bool.false_eq_true, if_false]
      rw [p4]
      congr 1
      exact decide_eq_decide.2 ⟨fun hh j hj => by
        rcases List.mem_cons.1 hj with rfl | hj
        · exact hx
        · exact hh j hj, fun hh j hj => hh j (by simp [hj])⟩
    · rw [decide_eq_false hx, decide_eq_false (fun hh => hx (hh i (by simp)))]
      simp
theorem chunks_eq {n sz : Nat} {xs ys : List Value} (hx : xs.length = n * sz) (hy : ys.length = n * sz) : (∀ i ∈ List.range n, (xs.drop (i * sz)).take sz = (ys.drop (i * sz)).take sz) ↔ xs = ys := by
  constructor
  · intro h
    apply List.ext_getElem (by omega)
    intro j h1 h2
    have hsz : 0 < sz := by
      rcases Nat.eq_zero_or_pos sz with h0 | h0
      · subst h0; simp at hx; subst hx; simp at h1
      · exact h0
    have hj : j / sz < n := by rw [Nat.div_lt_iff_lt_mul hsz]; omega
    have := congrArg (fun l => l[j % sz]?) (h (j / sz) (List.mem_range.2 hj))
    simp only [List.getElem?_take, Nat.mod_lt _ hsz, if_true, List.getElem?_drop] at this
    rw [Nat.div_add_mod' j sz, List.getElem?_eq_getElem h1, List.getElem?_eq_getElem h2] at this
    exact Option.some.inj this
  · rintro rfl _ _; rfl
theorem eq_run : ∀ (m d : Nat) (t : TypeId) (ty : Ty), fits P m t ty = true → eqOk P m t = true → plain ty = true → EqRun P (d + m) t ty
  | 0, _, t, ty, hf, _, _ => by simp [fits] at hf
  | m + 1, d, t, ty, hf, he, hp => by
    intro w xs ys hx hy
    have ih := fun t ty h1 h2 h3 => eq_run m d t ty h1 h2 h3
    unfold fits at hf
    unfold eqOk at he
    rw [Bool.and_eq_true] at he
    obtain ⟨hi0, he⟩ := he
    cases hu : P.underlying t with
    | none => simp [hu] at hf
    | some kd =>
      rw [hu] at hf he
      have strct : ∀ fs : Array Field, kd = .struct fs → vof ty xs = .agg xs.toArray → vof ty ys = .agg ys.toArray → fieldsFit P (fits P m) fs.toList 0 ty = true → (Op.equalIn (d + (m + 1)) t (vof ty xs) (vof ty ys)).run P w = .ok (decide (xs = ys)) w := by
        rintro fs rfl e1 e2 hff
        rw [e1, e2]
        have hfs : P.fieldsOf t = fs := by simp [Program.fieldsOf, hu]
        simp only [Bool.and_eq_true, Bool.not_eq_true'] at he
        have := fields_run (P := P) w (d + m) m m ih fs.toList 0 ty xs.toArray ys.toArray hff he.2 hp (by simpa using hx) (by simpa using hy)
        rw [show d + (m + 1) = (d + m) + 1 from rfl, run_equalIn_struct w (d + m) t _ _ (by rw [hfs]; exact hu) he.1, hfs, this]
        simp
      cases ty with
      | int k =>
        obtain ⟨a, rfl⟩ := hx
        obtain ⟨b, rfl⟩ := hy
        cases kd <;> simp at hf
        case struct => have h := ff_form hf.2; simp at h
        show (Op.equalIn ((d + m) + 1) t (.int k a) (.int k b)).run P w = _
        rw [run_equalIn_int w (d + m) t k _ a b hu]
        congr 1
        by_cases h : a = b <;> simp [h]
      | bool =>
        obtain ⟨a, rfl⟩ := hx
        obtain ⟨b, rfl⟩ := hy
        cases kd <;> simp at hf
        case struct => have h := ff_form hf.2; simp at h
        show (Op.equalIn ((d + m) + 1) t (.bool a) (.bool b)).run P w = _
        rw [run_equalIn_bool' w (d + m) t a b hu]
        congr 1
        by_cases h : a = b <;> simp [h]
      | string =>
        obtain ⟨a, rfl⟩ := hx
        obtain ⟨b, rfl⟩ := hy
        cases kd <;> simp at hf
        case struct => have h := ff_form hf.2; simp at h
        show (Op.equalIn ((d + m) + 1) t (.string a) (.string b)).run P w = _
        rw [run_equalIn_string w (d + m) t a b hu]
        congr 1
        rw [ByteArray.toList_eq, ByteArray.toList_eq]
        by_cases h : a = b
        · subst h; simp
        · have h2 : ¬ a.data.toList = b.data.toList := fun e => h (Kt.bytes_eq e)
          rw [show (a.data.toList == b.data.toList) = false from beq_eq_false_iff_ne.2 h2]
          simp [h]
      | slice sz e => simp [plain] at hp
      | nil =>
        cases kd <;> simp at hf
        exact strct _ rfl rfl rfl hf.2
      | cat sz a b =>
        cases kd <;> simp at hf
        exact strct _ rfl rfl rfl hf.2
      | arr n sz e =>
        cases kd <;> simp at hf
        · rename_i n' e'
          obtain ⟨⟨⟨hn, hsz⟩, _⟩, hff⟩ := hf
          subst hn; subst hsz
          obtain ⟨hlx, hcx⟩ := hx
          obtain ⟨hly, hcy⟩ := hy
          have hie : ∃ i, P.info? e' = some i := by
            cases m with
            | zero => simp [eqOk] at he
            | succ m' => unfold eqOk at he; rw [Bool.and_eq_true] at he; exact Option.isSome_iff_exists.1 he.1
          obtain ⟨i, hi⟩ := hie
          show (Op.equalIn ((d + m) + 1) t (.agg xs.toArray) (.agg ys.toArray)).run P w = _
          rw [run_equalIn_array w (d + m) _ _ hu hi, items_run w (d + m) m m e' e hff he hp (ih e' e hff he hp) xs.toArray ys.toArray (List.range n') (fun i hi => ⟨by simpa using hcx i (List.mem_range.1 hi), by simpa using hcy i (List.mem_range.1 hi)⟩)]
          congr 1
          exact decide_eq_decide.2 (chunks_eq hlx hly)
        · have h := ff_form hf.2; simp at h
theorem eql_agg (t : TypeId) (ty : Ty) (m : Nat) (hm : m ≤ 10000) (hf : fits P m t ty = true) (he : eqOk P m t = true) (hp : plain ty = true) (xs ys : Array Value) (hx : Cl ty xs.toList) (hy : Cl ty ys.toList) (hv : vof ty xs.toList = .agg xs) (hv' : vof ty ys.toList = .agg ys) :
    (binOp .eql t (.agg xs) (.agg ys)).run P w = .ok (.bool (decide (xs = ys))) w ∧ (binOp .neq t (.agg xs) (.agg ys)).run P w = .ok (.bool (!decide (xs = ys))) w := by
  have h := eq_run (P := P) m (10000 - m) t ty hf he hp w xs.toList ys.toList hx hy
  rw [show 10000 - m + m = 10000 by omega, hv, hv'] at h
  have e : decide (xs.toList = ys.toList) = decide (xs = ys) := decide_eq_decide.2 Array.toList_inj
  rw [e] at h
  exact ⟨by rw [run_eql_struct, h]; rfl, by rw [run_neq_struct, h]; rfl⟩
end
end Go.Proofs.Ytafiedhjjnapoaa.Fr
