/- host: a machine that is handed in. -/
import Derived.Test.YtidcbboonjenhaaHstS
import Derived.Test.YtidcbboonjenhaaFldb
namespace Go.Proofs.Ytidcbboonjenhaa
open Go.RowKit Classical Go.Proofs.Ytidcbboonjenhaa.Slt
abbrev rcTy : Fr.Ty := .cat 1 (.int .u64) (.cat 1 (.int .i64) (.cat 1 .bool .nil))
abbrev idxTy : Fr.Ty := .cat 1 (.int .i64) (.cat 1 (.int .i64) .nil)
abbrev ringTy : Fr.Ty := .cat 1 (.slice 3 rcTy) (.cat 2 idxTy (.cat 2 idxTy (.cat 1 (.int .i64) .nil)))
abbrev hslotTy : Fr.Ty := .cat 1 (.int .i64) (.cat 1 (.int .i64) (.cat 32 (.arr 32 1 (.int .i64)) (.cat 32 (.arr 32 1 (.int .i64)) .nil)))
abbrev hboardTy : Fr.Ty := .cat 594 (.arr 9 66 hslotTy) .nil
abbrev machTy : Fr.Ty := .cat 6 ringTy (.cat 6 ringTy (.cat 594 hboardTy .nil))
theorem hrcs_of {w : World} {B : Nat} : ∀ (els : List (List Value)), (∀ x ∈ els, x.length = 3 ∧ Fr.Rd w B rcTy x) → ∃ ts : List RC, ts.length = els.length ∧ els.flatten = cvs ts ∧ Wf ts
  | [], _ => ⟨[], rfl, rfl, fun c hc => by cases hc⟩
  | x :: els, h => by
    obtain ⟨ts, h1, h2, h4⟩ := hrcs_of els (fun y hy => h y (by simp [hy]))
    obtain ⟨_, hx⟩ := h x (by simp)
    obtain ⟨l, r, rfl, _, ⟨n, rfl, hn⟩, hr⟩ := Fr.cat_open hx
    obtain ⟨l2, r2, rfl, _, ⟨n2, rfl, _⟩, hr2⟩ := Fr.cat_open hr
    obtain ⟨l3, r3, rfl, _, ⟨n3, rfl⟩, hr3⟩ := Fr.cat_open hr2
    obtain rfl : r3 = [] := hr3
    refine ⟨(n, n2, n3) :: ts, by simp [h1], by simp [h2, cvs, cv], fun c hc => ?_⟩
    rcases List.mem_cons.1 hc with rfl | hc
    · exact u64_wf hn
    · exact h4 c hc
theorem hring_of {w : World} {cs : List Value} (r : Fr.Rd w reachBytes ringTy cs) : ∃ C g, cs = rc C g ∧ Kt.Ar w C 3 g.cs.length (cvs g.cs) ∧ Wf g.cs := by
  obtain ⟨l1, _, a1, e1, r1, q1⟩ := Fr.cat_open r
  obtain ⟨l2, _, a2, e2, r2, q2⟩ := Fr.cat_open q1
  obtain ⟨l3, _, a3, e3, r3, q3⟩ := Fr.cat_open q2
  obtain ⟨_, _, a4, _, ⟨sn, rfl, _⟩, q4⟩ := Fr.cat_open q3
  obtain ⟨_, _, b1, _, ⟨pa, rfl, _⟩, p1⟩ := Fr.cat_open r2
  obtain ⟨_, _, b2, _, ⟨pb, rfl, _⟩, p2⟩ := Fr.cat_open p1
  obtain ⟨_, _, c1, _, ⟨ga, rfl, _⟩, g1⟩ := Fr.cat_open r3
  obtain ⟨_, _, c2, _, ⟨gb, rfl, _⟩, g2⟩ := Fr.cat_open g1
  obtain ⟨C, rfl⟩ : ∃ C, l1 = [C] := List.length_eq_one_iff.1 e1
  obtain ⟨els, h1, h2, h3⟩ := Kt.ar_open (v := C) r1 (by omega)
  obtain ⟨ts, t1, t2, t3⟩ := hrcs_of els h1
  rw [← t1, t2] at h3
  have z1 : _ = [] := p2
  have z2 : _ = [] := g2
  have z3 : _ = [] := q4
  refine ⟨C, ⟨ts, pa, pb, ga, gb, sn⟩, ?_, h3, t3⟩
  subst_vars
  rfl
theorem mach_in {w : World} {v : Value} (r : Fr.RdV w reachBytes machTy v) : ∃ M, v = .agg (mA M) ∧ MA w M ∧ Wf M.r.cs ∧ Wf M.v.cs := by
  obtain ⟨cs, rfl, r⟩ := r
  obtain ⟨l1, _, a1, e1, r1, q1⟩ := Fr.cat_open r
  obtain ⟨l2, _, a2, e2, r2, q2⟩ := Fr.cat_open q1
  obtain ⟨l3, _, a3, e3, r3, q3⟩ := Fr.cat_open q2
  obtain ⟨C, g, rfl, hC, wC⟩ := hring_of r1
  obtain ⟨E, g2, rfl, hE, wE⟩ := hring_of r2
  obtain ⟨l, hl, hlen⟩ := Kt.ints_cl .i64 hboardTy l3 rfl rfl (Fr.cl_of_rd hboardTy l3 rfl r3)
  have z : _ = [] := q3
  refine ⟨⟨C, g, E, g2, l⟩, ?_, ⟨⟨hlen, ?_, ?_⟩, hC, hE⟩, wC, wE⟩
  · subst_vars
    congr 1
    rw [← Array.toList_inj, a1]
    simp [mA, mc]
  · obtain ⟨A, c, h, _⟩ := hC.form; rw [h]; rfl
  · obtain ⟨A, c, h, _⟩ := hE.form; rw [h]; rfl
theorem mach_len {w : World} {M : Mv} (h : MA w M)
    (n0 : ∀ (cs : Array Value) a l c, (.agg (mA M) : Value) = .agg cs → (((cs.toList.drop 0).take 6).drop 0).take 1 = [.slice a l c] → l * Try.prog.bytesOf 96 ≤ reachBytes)
    (n1 : ∀ (cs : Array Value) a l c, (.agg (mA M) : Value) = .agg cs → (((cs.toList.drop 6).take 6).drop 0).take 1 = [.slice a l c] → l * Try.prog.bytesOf 96 ≤ reachBytes) : M.r.cs.length ≤ 5864062014805 ∧ M.v.cs.length ≤ 5864062014805 := by
  have hb : Try.prog.bytesOf 96 = 24 := by kernel_rfl
  have hR : reachBytes ≤ 140737488355328 := by unfold reachBytes; omega
  rw [hb] at n0 n1
  obtain ⟨A, c, h1, _⟩ := h.c.form
  obtain ⟨E, e, h2, _⟩ := h.e.form
  have q0 := n0 (mA M) A M.r.cs.length c rfl (by simp [mA, mc, rc, h1])
  have q1 := n1 (mA M) E M.v.cs.length e rfl (by simp [mA, mc, rc, h2])
  omega
end Go.Proofs.Ytidcbboonjenhaa
