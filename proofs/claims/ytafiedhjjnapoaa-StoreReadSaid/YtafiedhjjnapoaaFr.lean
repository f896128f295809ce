/- What a law's arguments are, read off the form's own reading: a type's shape is told by a small description, and the cells by a plain predicate. -/
import Derived.Test.YtafiedhjjnapoaaRows
import Derived.WalkKit
import Derived.ProofKit
import Derived.OpenShut
import Derived.ChangeOld
import Derived.Below
import Derived.Carry
import Derived.SizedLaws
import Derived.JoinedCond
namespace Go.Proofs.Ytafiedhjjnapoaa.Fr
open Go.ChangeShapes Go.WideShapes Go.ChangeAt Go.RowKit

inductive Ty where
  | int (k : IntKind)
  | bool
  | string
  | slice (sz : Nat) (e : Ty)
  | nil
  | cat (sz : Nat) (a b : Ty)
  | arr (n sz : Nat) (e : Ty)

/-- the cells 'cs' read as a value of the shape: each string has at most B letters, each slice at most B places -/
def Rd (w : World) (B : Nat) : Ty → List Value → Prop
  | .int k, cs => ∃ n, cs = [.int k n] ∧ (Lit.int k n).wf = true
  | .bool, cs => ∃ b, cs = [.bool b]
  | .string, cs => ∃ s : ByteArray, cs = [.string s] ∧ s.size ≤ B
  | .slice sz e, cs => (∃ a, cs = [.slice a 0 0]) ∨ ∃ (b o len cap : Nat), cs = [.slice (some ⟨b, o, none⟩) len cap] ∧ 0 < cap ∧ len ≤ cap ∧ cap ≤ B ∧
      ∀ i, i < cap → ∃ cs' : List Value, cs'.length = sz ∧ (∀ j, j < sz → w.cell? ⟨b, o + i * sz + j, none⟩ = cs'[j]?) ∧ Rd w B e cs'
  | .nil, cs => cs = []
  | .cat sz a b, cs => sz ≤ cs.length ∧ Rd w B a (cs.take sz) ∧ Rd w B b (cs.drop sz)
  | .arr n sz e, cs => cs.length = n * sz ∧ ∀ i, i < n → Rd w B e ((cs.drop (i * sz)).take sz)

/-- the whole value -/
def RdV (w : World) (B : Nat) (ty : Ty) (v : Value) : Prop :=
  match ty with
  | .nil | .cat .. | .arr .. => ∃ cs : Array Value, v = .agg cs ∧ Rd w B ty cs.toList
  | _ => Rd w B ty [v]

def fieldsFit (P : Program) (f : TypeId → Ty → Bool) : List Field → Nat → Ty → Bool
  | [], _, .nil => true
  | x :: xs, off, .cat sz a b => x.offset == off && sz == P.cellsOf x.type && f x.type a && fieldsFit P f xs (off + sz) b
  | _, _, _ => false

def fits (P : Program) : Nat → TypeId → Ty → Bool
  | 0, _, _ => false
  | n + 1, t, ty =>
    match P.underlying t, ty with
    | some (.int k), .int k' => k == k'
    | some .bool, .bool => true
    | some .string, .string => true
    | some (.slice e), .slice sz a => sz == P.cellsOf e && P.bytesOf e != 0 && sz != 0 && fits P n e a
    | some (.struct fs), ty => P.cellsOf t == (fs.toList.map fun x => P.cellsOf x.type).sum && fieldsFit P (fits P n) fs.toList 0 ty
    | some (.array m e), .arr m' sz a => m == m' && sz == P.cellsOf e && P.cellsOf t == m * sz && fits P n e a
    | _, _ => false

section
variable {H : Type} {enc : TypeId × Value → H} {P : Program} {w : World} {base : Nat} {held : Bool}

/-- a bound on strings and slices, told of the datum; 'K': what is known of a datum, handed down to its parts -/
structure Bound (P : Program) (K : TypeId → DataW H → Prop) (B : Nat) : Prop where
  str : ∀ t bytes, P.underlying t = some .string → K t (.lit (.string bytes)) → bytes.length ≤ B
  len : ∀ t e els sp, P.underlying t = some (.slice e) → P.bytesOf e ≠ 0 → K t (.slice els sp) → els.length + sp.length ≤ B
  el : ∀ t e els sp x, P.underlying t = some (.slice e) → K t (.slice els sp) → x ∈ els ++ sp → K e x
  fld : ∀ t (fs : Array Field) (ps : List (DataW H)) (i : Nat) (f : Field) (x : DataW H), P.underlying t = some (.struct fs) → K t (.agg ps) → fs[i]? = some f → ps[i]? = some x → K f.type x
  ar : ∀ t n e ps x, P.underlying t = some (.array n e) → K t (.agg ps) → x ∈ ps → K e x

theorem fields_rd {K : TypeId → DataW H → Prop} {B n : Nat} {f : TypeId → Ty → Bool} (ih : ∀ t ty cs x, f t ty = true → DataW.trod enc P w base (fun _ => true) held n t cs = some x → K t x.1 → Rd w B ty cs) :
    ∀ (fs : List Field) (off : Nat) (ty : Ty) (cs : List Value), fieldsFit P f fs off ty = true → cs.length = off + (fs.map fun x => P.cellsOf x.type).sum →
      (∀ (i : Nat) (x : Field), fs[i]? = some x → ∃ y, DataW.trod enc P w base (fun _ => true) held n x.type ((cs.drop x.offset).take (P.cellsOf x.type)) = some y ∧ K x.type y.1) → Rd w B ty (cs.drop off)
  | [], off, .nil, cs, _, hl, _ => by simp [Rd]; simp at hl; omega
  | x :: xs, off, .cat sz a b, cs, hf, hl, h => by
    simp only [fieldsFit, Bool.and_eq_true, beq_iff_eq] at hf
    obtain ⟨⟨⟨ho, hsz⟩, ha⟩, hb⟩ := hf
    obtain ⟨y, hy, hk⟩ := h 0 x rfl
    subst hsz
    simp only [List.map_cons, List.sum_cons] at hl
    have hlen : P.cellsOf x.type ≤ (cs.drop off).length := by rw [List.length_drop]; omega
    simp only [Rd]
    refine ⟨hlen, ?_, ?_⟩
    · rw [ho] at hy; exact ih _ _ _ _ ha hy hk
    · rw [List.drop_drop]
      exact fields_rd ih xs (off + P.cellsOf x.type) b cs hb (by omega) (fun i z hz => h (i + 1) z hz)
  | [], _, .int _, _, h, _, _ => by simp [fieldsFit] at h
  | [], _, .bool, _, h, _, _ => by simp [fieldsFit] at h
  | [], _, .string, _, h, _, _ => by simp [fieldsFit] at h
  | [], _, .slice _ _, _, h, _, _ => by simp [fieldsFit] at h
  | [], _, .cat _ _ _, _, h, _, _ => by simp [fieldsFit] at h
  | [], _, .arr _ _ _, _, h, _, _ => by simp [fieldsFit] at h
  | _ :: _, _, .int _, _, h, _, _ => by simp [fieldsFit] at h
  | _ :: _, _, .bool, _, h, _, _ => by simp [fieldsFit] at h
  | _ :: _, _, .string, _, h, _, _ => by simp [fieldsFit] at h
  | _ :: _, _, .slice _ _, _, h, _, _ => by simp [fieldsFit] at h
  | _ :: _, _, .nil, _, h, _, _ => by simp [fieldsFit] at h
  | _ :: _, _, .arr _ _ _, _, h, _, _ => by simp [fieldsFit] at h

theorem add_none (b o n : Nat) : (⟨b, o, none⟩ : Addr).add n = ⟨b, o + n, none⟩ := by
  unfold Addr.add; split
  · rename_i h; subst h; rfl
  · rfl
theorem cells_get {a : Addr} {m : Nat} {cs : List Value} (h : w.cells? base a m = some cs) : cs.length = m ∧ ∀ j, j < m → w.cell? (a.add j) = cs[j]? := by
  unfold World.cells? at h
  split at h
  · refine ⟨by simpa using mapM_some_length h, fun j hj => ?_⟩
    have := mapM_some_get h j j (by simp [hj])
    exact this
  · cases h

theorem rd_of {K : TypeId → DataW H → Prop} {B : Nat} (hb : Bound P K B) : ∀ (n m : Nat) (t : TypeId) (ty : Ty) (cs : List Value) (x : DataW H × List MemPlace),
    fits P m t ty = true → DataW.trod enc P w base (fun _ => true) held n t cs = some x → K t x.1 → Rd w B ty cs := by
  intro n; induction n with
  | zero => intro m t ty cs x _ h; simp [DataW.trod] at h
  | succ n ih =>
    intro m t ty cs x hf h hk
    cases m with
    | zero => simp [fits] at hf
    | succ m =>
      unfold fits at hf
      split at hf
      · rename_i k k' hu
        obtain ⟨z, rfl, rfl, hw⟩ := DataW.trod_int hu h
        simp only [beq_iff_eq] at hf; subst hf
        exact ⟨z, rfl, hw⟩
      · rename_i hu
        obtain ⟨z, rfl, rfl⟩ := DataW.trod_bool hu h
        exact ⟨z, rfl⟩
      · rename_i hu
        obtain ⟨z, rfl, rfl, hw⟩ := DataW.trod_string hu h
        exact ⟨z, rfl, by simpa using hb.str t _ hu hk⟩
      · rename_i e sz a hu
        simp only [Bool.and_eq_true, beq_iff_eq, bne_iff_ne] at hf
        obtain ⟨⟨⟨hsz, hby⟩, hz0⟩, hfe⟩ := hf
        subst hsz
        rcases DataW.trod_slice hu h with ⟨rfl, _⟩ | ⟨ad, len, cap, els, rest, n', hn, rfl, rfl, hbase, hl, hc, hel, hall, hrest, _⟩
        · exact Or.inl ⟨_, rfl⟩
        · obtain rfl : n' = n := by omega
          obtain ⟨hrl, hr⟩ := hrest rfl
          obtain ⟨ab, ao, asp⟩ := ad
          have hB := hb.len t e _ _ hu hby hk
          simp only [List.length_map] at hB
          have key : ∀ i, i < cap → ∃ y, (w.cells? base ((⟨ab, ao, asp⟩ : Addr).add (i * P.cellsOf e)) (P.cellsOf e)).bind (DataW.trod enc P w base (fun _ => true) held n' e) = some y ∧ y ∈ els ++ rest := by
            intro i hi
            by_cases hlt : i < len
            · have := hall i hlt
              obtain ⟨y, hy⟩ : ∃ y, els[i]? = some y := ⟨els[i], List.getElem?_eq_getElem (by omega)⟩
              exact ⟨y, by rw [this, hy], List.mem_append_left _ (List.mem_of_getElem? hy)⟩
            · have := hr (i - len) (by omega)
              rw [show len + (i - len) = i by omega] at this
              obtain ⟨y, hy⟩ : ∃ y, rest[i - len]? = some y := ⟨rest[i - len], List.getElem?_eq_getElem (by omega)⟩
              exact ⟨y, by rw [this, hy], List.mem_append_right _ (List.mem_of_getElem? hy)⟩
          by_cases h0 : cap = 0
          · subst h0
            obtain rfl : len = 0 := by omega
            exact Or.inl ⟨_, rfl⟩
          have hspot : asp = none := by
            obtain ⟨y, hy, _⟩ := key 0 (by omega)
            rw [Option.bind_eq_some_iff] at hy
            obtain ⟨cs', hcs, _⟩ := hy
            obtain ⟨hlen, hget⟩ := cells_get hcs
            have := hget 0 (by omega)
            rw [List.getElem?_eq_getElem (by omega)] at this
            have := World.cell?_spot this
            simpa [Addr.add] using this
          subst hspot
          refine Or.inr ⟨ab, ao, len, cap, rfl, by omega, hl, by omega, fun i hi => ?_⟩
          obtain ⟨y, hy, hmem⟩ := key i hi
          rw [Option.bind_eq_some_iff] at hy
          obtain ⟨cs', hcs, hy⟩ := hy
          obtain ⟨hlen, hget⟩ := cells_get hcs
          refine ⟨cs', hlen, fun j hj => ?_, ih m e _ cs' y hfe hy (hb.el t e _ _ y.1 hu hk ?_)⟩
          · have := hget j hj; rwa [add_none, add_none] at this
          · rw [← List.map_append]; exact List.mem_map_of_mem hmem
      · rename_i fs hu
        simp only [Bool.and_eq_true, beq_iff_eq] at hf
        obtain ⟨hsum, hff⟩ := hf
        obtain ⟨xs, n', hn, rfl, hlen, hxl, hget⟩ := DataW.trod_struct hu h
        obtain rfl : n' = n := by omega
        have := fields_rd (enc := enc) (base := base) (held := held) (K := K) (B := B) (n := n') (f := fits P m) (fun t ty cs x hh ht hk => ih m t ty cs x hh ht hk) fs.toList 0 _ cs hff (by rw [hlen, hsum]; omega) (by
          intro i f hfi
          have hfi' : fs[i]? = some f := by simpa using hfi
          have hi : i < xs.length := by rw [hxl]; exact (Array.getElem?_eq_some_iff.1 hfi').1
          refine ⟨xs[i], ?_, ?_⟩
          · rw [hget i f hfi']; exact List.getElem?_eq_getElem hi
          · exact hb.fld t fs _ i f _ hu hk hfi' (by simp [hi]))
        simpa using this
      · rename_i mm e m' sz a hu
        simp only [Bool.and_eq_true, beq_iff_eq] at hf
        obtain ⟨⟨⟨rfl, rfl⟩, hsz⟩, hfe⟩ := hf
        obtain ⟨xs, n', hn, rfl, hlen, hxl, hget⟩ := DataW.trod_array hu h
        obtain rfl : n' = n := by omega
        refine ⟨?_, fun i hi => ?_⟩
        · rw [hlen]; exact hsz
        · exact ih m e _ _ xs[i] hfe (by rw [hget i hi]; exact List.getElem?_eq_getElem (by omega)) (hb.ar t _ e _ _ hu hk (List.mem_map_of_mem (List.getElem_mem _)))
      · cases hf
theorem rdv_of {K : TypeId → DataW H → Prop} {B : Nat} (hb : Bound P K B) {r : Reach} {b0 m : Nat} {t : TypeId} {ty : Ty} {v : Value} {d : DataW H} {p : List MemPlace}
    (hf : fits P m t ty = true) (hv : Value.okWide P w r b0 t v) (h : DataW.Trod enc P w base (fun _ => true) held t v d p) (hk : K t d) : RdV w B ty v := by
  obtain ⟨n, hn⟩ := h
  have hr := rd_of hb n m t ty _ _ hf hn hk
  cases m with
  | zero => simp [fits] at hf
  | succ m =>
    unfold fits at hf
    split at hf
    · rename_i hu; obtain ⟨z, rfl⟩ := okWide_int hu hv; exact hr
    · rename_i hu; obtain ⟨z, rfl⟩ := okWide_bool hu hv; exact hr
    · rename_i hu; obtain ⟨z, rfl⟩ := okWide_string hu hv; exact hr
    · rename_i hu; obtain ⟨a, l, c, rfl⟩ := okWide_slice hu hv; exact hr
    · rename_i ty1 _ _ fs hu
      obtain ⟨cs, rfl, _⟩ := okWide_struct hu hv
      simp only [Bool.and_eq_true] at hf
      obtain ⟨_, hff⟩ := hf
      cases ty1 with
      | nil => exact ⟨cs, rfl, hr⟩
      | cat => exact ⟨cs, rfl, hr⟩
      | arr => exact ⟨cs, rfl, hr⟩
      | int => cases h : fs.toList <;> rw [h] at hff <;> simp [fieldsFit] at hff
      | bool => cases h : fs.toList <;> rw [h] at hff <;> simp [fieldsFit] at hff
      | string => cases h : fs.toList <;> rw [h] at hff <;> simp [fieldsFit] at hff
      | slice => cases h : fs.toList <;> rw [h] at hff <;> simp [fieldsFit] at hff
    · rename_i hu
      have hv' := hv
      unfold Value.okWide at hv'
      rw [hu] at hv'
      obtain ⟨cs, rfl, _⟩ := hv'
      exact ⟨cs, rfl, hr⟩
    · cases hf

/-! the two bounds: of the first form (each string, each slice by itself), of the second (all together) -/
theorem weightsAll_mem {e : TypeId} {x : DataW H} {n : Nat} (hn : n ∈ x.weights P e) : ∀ {l : List (DataW H)}, x ∈ l → n ∈ DataW.weightsAll P e l
  | y :: l, h => by
    simp only [DataW.weightsAll, List.mem_append]
    rcases List.mem_cons.1 h with rfl | h
    · exact Or.inl hn
    · exact Or.inr (weightsAll_mem hn h)
theorem said_bound (R : Nat) : Bound (H := H) P (fun t d => ∀ n ∈ d.weights P t, n ≤ R) R where
  str t bytes _ h := h _ (by simp [DataW.weights])
  len t e els sp hu hby h := by
    have := h ((els.length + sp.length) * P.bytesOf e) (by simp [DataW.weights, hu])
    exact Nat.le_trans (Nat.le_mul_of_pos_right _ (by omega)) this
  el t e els sp x hu h hx n hn := by
    refine h n ?_
    simp only [DataW.weights, hu, List.mem_cons, List.mem_append]
    rcases List.mem_append.1 hx with hx | hx
    · exact Or.inr (Or.inl (weightsAll_mem hn hx))
    · exact Or.inr (Or.inr (weightsAll_mem hn hx))
  fld t fs ps i f x hu h hf hx n hn := by
    refine h n ?_
    simp only [DataW.weights, hu]
    exact DataW.weights_mem_each (by simpa using congrArg (Option.map (·.type)) hf) hx n hn
  ar t m e ps x hu h hx n hn := by
    refine h n ?_
    simp only [DataW.weights, hu]
    exact weightsAll_mem hn hx
theorem part_le {d : DataW H} : ∀ {l : List (DataW H)}, d ∈ l → Rows.uptoBulk d ≤ Rows.uptoBulkAll l
  | x :: l, h => by
    simp only [Rows.uptoBulkAll]
    rcases List.mem_cons.1 h with rfl | h
    · omega
    · have := part_le h; omega
theorem one_le (d : DataW H) : 1 ≤ Rows.uptoBulk d := by
  cases d with
  | lit l => cases l <;> simp [Rows.uptoBulk]
  | _ => simp [Rows.uptoBulk]
theorem length_le : ∀ (l : List (DataW H)), l.length ≤ Rows.uptoBulkAll l
  | [] => by simp
  | x :: r => by have := length_le r; have := one_le x; simp only [Rows.uptoBulkAll, List.length_cons]; omega
theorem upto_bound (B : Nat) : Bound (H := H) P (fun _ d => Rows.uptoBulk d ≤ B) B where
  str t bytes _ h := by simp [Rows.uptoBulk] at h; omega
  len t e els sp _ _ h := by
    have h1 := length_le els; have h2 := length_le sp
    simp only [Rows.uptoBulk] at h; omega
  el t e els sp x _ h hx := by
    simp only [Rows.uptoBulk] at h
    rcases List.mem_append.1 hx with hx | hx
    · have := part_le hx; omega
    · have := part_le hx; omega
  fld t fs ps i f x _ h _ hx := by
    simp only [Rows.uptoBulk] at h
    have := part_le (List.mem_of_getElem? hx); omega
  ar t n e ps x _ h hx := by
    simp only [Rows.uptoBulk] at h
    have := part_le hx; omega
theorem small_le {l : List (DataW H)} (hk : Rows.uptoSmall H l = true) : Rows.uptoBulkAll l ≤ 1048576 := of_decide_eq_true hk
theorem trod_lt {t : TypeId} {v : Value} {d : DataW H} {p : List MemPlace} (h : DataW.Trod enc P w 0 (fun _ => true) true t v d p) : ∀ x ∈ p, x.block < w.heap.size := by
  obtain ⟨m, hm⟩ := h; exact DataW.trod_lt m _ _ _ hm

/-! to open what was read -/
variable {B : Nat}
theorem cat_open {sz : Nat} {a b : Ty} {cs : List Value} (h : Rd w B (.cat sz a b) cs) : ∃ l r, cs = l ++ r ∧ l.length = sz ∧ Rd w B a l ∧ Rd w B b r := by
  obtain ⟨h1, h2, h3⟩ := h
  exact ⟨cs.take sz, cs.drop sz, (List.take_append_drop _ _).symm, by simp [h1], h2, h3⟩
theorem arr_of {cs : Array Value} {l : List Value} (h : cs.toList = l) : cs = l.toArray := by rw [← h]
theorem i64_bd {n : Int} (h : (Lit.int .i64 n).wf = true) : -9223372036854775808 ≤ n ∧ n ≤ 9223372036854775807 := by
  simpa [Lit.wf, IntKind.min, IntKind.max, IntKind.signed, IntKind.bits] using h
theorem u64_bd {n : Int} (h : (Lit.int .u64 n).wf = true) : 0 ≤ n ∧ n ≤ 18446744073709551615 := by
  simpa [Lit.wf, IntKind.min, IntKind.max, IntKind.signed, IntKind.bits] using h
theorem u16_bd {n : Int} (h : (Lit.int .u16 n).wf = true) : 0 ≤ n ∧ n ≤ 65535 := by
  simpa [Lit.wf, IntKind.min, IntKind.max, IntKind.signed, IntKind.bits] using h
theorem u8_bd {n : Int} (h : (Lit.int .u8 n).wf = true) : 0 ≤ n ∧ n ≤ 255 := by
  simpa [Lit.wf, IntKind.min, IntKind.max, IntKind.signed, IntKind.bits] using h
end
end Go.Proofs.Ytafiedhjjnapoaa.Fr
