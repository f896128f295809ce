/- typist: a Typist that came in; == of two. -/
import Derived.Test.YtndkaehbmdiofaaDoorTypI
import Derived.Test.YtndkaehbmdiofaaDoorEq
namespace Go.Proofs.YtndkaehbmdiofaaDoor
open Go.RowKit Go.Proofs.YtndkaehbmdiofaaDoor.Typ
def tyTy : Fr.Ty := .cat 4 (.cat 4 (.arr 4 1 (.int .u64)) .nil) (.cat 1 .bool (.cat 1 (.int .i64) (.cat 1 (.int .i64) (.cat 1 (.int .i64) (.cat 1 .string .nil)))))
def skTy : Fr.Ty := .cat 1 (.int .i64) (.cat 2 (.cat 1 (.int .i64) (.cat 1 .bool .nil)) (.cat 1 (.int .i64) .nil))
theorem fit_ty : Fr.fits Tryd.prog 12 37 tyTy = true := by kernel_rfl
theorem ok_ty : Fr.eqOk Tryd.prog 12 37 = true := by kernel_rfl
theorem fit_sk : Fr.fits Tryd.prog 12 31 skTy = true := by kernel_rfl
theorem cl_ty (t : St) : Fr.Cl tyTy t.cs.toList := by
  refine ⟨by simp [St.cs], ⟨by simp [St.cs], ⟨by simp [St.cs], fun i hi => ?_⟩, rfl⟩, by simp [St.cs], ⟨t.caps, rfl⟩, by simp [St.cs], ⟨t.dead, rfl⟩, by simp [St.cs], ⟨t.last, rfl⟩, by simp [St.cs], ⟨t.wait, rfl⟩, by simp [St.cs], ⟨t.text, rfl⟩, rfl⟩
  match i, hi with
  | 0, _ => exact ⟨_, rfl⟩
  | 1, _ => exact ⟨_, rfl⟩
  | 2, _ => exact ⟨_, rfl⟩
  | 3, _ => exact ⟨_, rfl⟩
def hdTy : Fr.Ty := .cat 4 (.arr 4 1 (.int .u64)) .nil
theorem hd_of {w : World} {B : Nat} {v : Value} (r : Fr.RdV w B hdTy v) : ∃ h : Hd, v = h.v := by
  obtain ⟨cs, rfl, hc⟩ := r
  obtain ⟨h1, h2, h3⟩ := hc
  obtain ⟨hl, hr⟩ := h2
  have h3 : cs.toList.drop 4 = [] := h3
  have hlen : cs.toList.length = 4 := by
    have := congrArg List.length h3
    rw [List.length_drop] at this
    simp at this
    have h1' : 4 ≤ cs.toList.length := h1
    simp at h1' ⊢
    omega
  have hg : ∀ i, i < 4 → ∃ u : UInt64, cs.toList[i]? = some (.int .u64 (u.toNat : Int)) := by
    intro i hi
    obtain ⟨n, h, hw⟩ := hr i hi
    have hz : (cs.toList.take 4).drop (i * 1) = (cs.toList.drop i).take (4 - i) := by
      rw [Nat.mul_one, List.drop_take]
    rw [hz, List.take_take] at h
    have h0 := congrArg (fun l => l[0]?) h
    simp only [List.getElem?_take, List.getElem?_drop, List.getElem?_cons_zero] at h0
    rw [if_pos (by omega), Nat.add_zero] at h0
    have hw2 : 0 ≤ n ∧ n < 18446744073709551616 := by
      simp [Lit.wf, IntKind.min, IntKind.max, IntKind.signed, IntKind.bits] at hw
      omega
    refine ⟨UInt64.ofNat n.toNat, ?_⟩
    rw [h0, UInt64.toNat_ofNat', Nat.mod_eq_of_lt (by omega)]
    congr 2
    omega
  obtain ⟨a, ha⟩ := hg 0 (by omega)
  obtain ⟨b, hb⟩ := hg 1 (by omega)
  obtain ⟨c, hc⟩ := hg 2 (by omega)
  obtain ⟨d, hd⟩ := hg 3 (by omega)
  refine ⟨⟨a, b, c, d⟩, ?_⟩
  have : cs.toList = [.int .u64 (a.toNat : Int), .int .u64 (b.toNat : Int), .int .u64 (c.toNat : Int), .int .u64 (d.toNat : Int)] := by
    match h : cs.toList, hlen with
    | [x0, x1, x2, x3], _ =>
      rw [h] at ha hb hc hd
      simp at ha hb hc hd
      rw [ha, hb, hc, hd]
  show Value.agg cs = Value.agg _
  congr 1
  rw [← Array.toList_inj, this]; rfl
theorem st_of {w : World} {B : Nat} {v : Value} (r : Fr.RdV w B tyTy v) : ∃ t : St, v = t.v := by
  obtain ⟨cs, rfl, hc⟩ := r
  obtain ⟨l, r, e, hl, h1, h2⟩ := Fr.cat_open hc
  obtain ⟨l2, r2, e2, hl2, h3, h4⟩ := Fr.cat_open h2
  obtain ⟨l3, r3, e3, hl3, h5, h6⟩ := Fr.cat_open h4
  obtain ⟨l4, r4, e4, hl4, h7, h8⟩ := Fr.cat_open h6
  obtain ⟨l5, r5, e5, hl5, h9, h10⟩ := Fr.cat_open h8
  obtain ⟨l6, r6, e6, hl6, h11, h12⟩ := Fr.cat_open h10
  obtain ⟨b, rfl⟩ := h3
  obtain ⟨d, rfl, _⟩ := h5
  obtain ⟨la, rfl, _⟩ := h7
  obtain ⟨wa, rfl, _⟩ := h9
  obtain ⟨s, rfl, _⟩ := h11
  have h12' : r6 = [] := h12
  obtain ⟨h, hh⟩ := hd_of (w := w) (B := B) (v := .agg l.toArray) ⟨l.toArray, rfl, h1⟩
  have hl : l = h.vs.toList := by
    have : l.toArray = h.vs := by simpa [Hd.v] using hh
    rw [← this]
  refine ⟨⟨h, b, d, la, wa, s⟩, ?_⟩
  show Value.agg cs = Value.agg _
  congr 1
  rw [← Array.toList_inj, e, hl, e2, e3, e4, e5, e6, h12']
  rfl
theorem sk_of : ∀ {w : World} {B : Nat} (els : List (List Value)), (∀ cs ∈ els, Fr.Rd w B skTy cs) → ∃ l : List Sk, l.length = els.length ∧ els.flatten = sks l
  | _, _, [], _ => ⟨[], rfl, rfl⟩
  | w, B, cs :: els, h => by
    obtain ⟨l, h1, h2⟩ := sk_of els (fun c hc => h c (List.mem_cons_of_mem _ hc))
    have hc := h cs (List.mem_cons_self ..)
    obtain ⟨a1, r1, e1, _, q1, q2⟩ := Fr.cat_open hc
    obtain ⟨a2, r2, e2, _, q3, q4⟩ := Fr.cat_open q2
    obtain ⟨a3, r3, e3, _, q5, q6⟩ := Fr.cat_open q3
    obtain ⟨a4, r4, e4, _, q7, q8⟩ := Fr.cat_open q6
    obtain ⟨a5, r5, e5, _, q9, q10⟩ := Fr.cat_open q4
    obtain ⟨k, rfl, _⟩ := q1
    obtain ⟨c, rfl, _⟩ := q5
    obtain ⟨d, rfl⟩ := q7
    obtain ⟨n, rfl, _⟩ := q9
    have q8' : r4 = [] := q8
    have q10' : r5 = [] := q10
    refine ⟨⟨k, c, d, n⟩ :: l, by simp [h1], ?_⟩
    rw [List.flatten_cons, h2, e1, e2, e3, e4, e5, q8', q10']
    rfl
theorem eql_ty (t : St) (w : World) : (binOp .eql 37 (.agg t.cs) (.agg t.cs)).run Tryd.prog w = .ok (.bool true) w := by
  have h := (Fr.eql_agg (P := Tryd.prog) w 37 tyTy 12 (by omega) fit_ty ok_ty rfl t.cs t.cs (cl_ty t) (cl_ty t) rfl rfl).1
  rw [h]; simp
theorem guard_ty0 : Program.eqGuardType Tryd.prog Tryd.prog.depth 37 = false := by kernel_rfl
theorem guard_ty (x y : Operand) (a b : Array Value) (w : World) : (eqGuard .eql 37 x y (.agg a) (.agg b)).run Tryd.prog w = .ok () w := run_eqGuard_agg w .eql 37 x y _ _ guard_ty0
end Go.Proofs.YtndkaehbmdiofaaDoor
