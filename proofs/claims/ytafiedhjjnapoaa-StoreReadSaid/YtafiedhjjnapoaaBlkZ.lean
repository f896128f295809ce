/- The law BulkBack, walked. -/
import Derived.Test.YtafiedhjjnapoaaBlkY
import Derived.Test.YtafiedhjjnapoaaBlkW
import Derived.Test.YtafiedhjjnapoaaEq
namespace Go.Proofs.Ytafiedhjjnapoaa
open Go.RowKit Go.Proofs.Ytafiedhjjnapoaa.Scs Go.Proofs.Ytafiedhjjnapoaa.Blk
def wrTy : Fr.Ty := .cat 1 (.int .i64) (.cat 1 (.int .i64) (.cat 1 .bool (.cat 1 (.int .i64) (.cat 1 .string .nil))))
def stTy : Fr.Ty := .cat 1 (.int .i64) (.cat 1 (.int .i64) (.cat 1 (.int .i64) .nil))
def vdTy : Fr.Ty := .cat 1 (.int .i64) (.cat 1 (.int .i64) (.cat 1 (.int .i64) (.cat 1 (.int .i64) .nil)))
theorem fit_wr : Fr.fits Try.prog 12 75 wrTy = true := by kernel_rfl
theorem ok_wr : Fr.eqOk Try.prog 12 75 = true := by kernel_rfl
theorem fit_st : Fr.fits Try.prog 12 107 stTy = true := by kernel_rfl
theorem ok_st : Fr.eqOk Try.prog 12 107 = true := by kernel_rfl
theorem neq_wr (x : Wr) (w : World) : (binOp .neq 75 (wrV x) (wrV x)).run Try.prog w = .ok (.bool false) w := by
  have h := (Fr.eql_agg (P := Try.prog) w 75 wrTy 12 (by omega) fit_wr ok_wr rfl #[.int .i64 x.tag, .int .i64 x.len, .bool x.inn, .int .i64 x.unit, .string x.cmd] #[.int .i64 x.tag, .int .i64 x.len, .bool x.inn, .int .i64 x.unit, .string x.cmd] ⟨by simp, ⟨x.tag, rfl⟩, by simp, ⟨x.len, rfl⟩, by simp, ⟨x.inn, rfl⟩, by simp, ⟨x.unit, rfl⟩, by simp, ⟨x.cmd, rfl⟩, rfl⟩ ⟨by simp, ⟨x.tag, rfl⟩, by simp, ⟨x.len, rfl⟩, by simp, ⟨x.inn, rfl⟩, by simp, ⟨x.unit, rfl⟩, by simp, ⟨x.cmd, rfl⟩, rfl⟩ rfl rfl).2
  unfold wrV
  rw [h]; simp
theorem neq_st (x : St) (w : World) : (binOp .neq 107 (stV x) (stV x)).run Try.prog w = .ok (.bool false) w := by
  have h := (Fr.eql_agg (P := Try.prog) w 107 stTy 12 (by omega) fit_st ok_st rfl #[.int .i64 x.tag, .int .i64 x.res, .int .i64 x.code] #[.int .i64 x.tag, .int .i64 x.res, .int .i64 x.code] ⟨by simp, ⟨x.tag, rfl⟩, by simp, ⟨x.res, rfl⟩, by simp, ⟨x.code, rfl⟩, rfl⟩ ⟨by simp, ⟨x.tag, rfl⟩, by simp, ⟨x.res, rfl⟩, by simp, ⟨x.code, rfl⟩, rfl⟩ rfl rfl).2
  unfold stV
  rw [h]; simp
theorem ltRow {w : World} {b : Nat} {o : Obj} (h : w.heap[b]? = some o) : b < w.heap.size := by
  rcases Nat.lt_or_ge b w.heap.size with q | q
  · exact q
  · rw [Array.getElem?_eq_none q] at h; cases h
/-- both boxes -/
structure BB (w : World) (x : Wr) (y : St) (W : World) : Prop where
  r1 : W.heap[w.heap.size]? = some (.cells #[.int .i64 x.tag, .int .i64 x.len, .bool x.inn, .int .i64 x.unit, .string x.cmd] 75 (0, 0))
  r2 : W.heap[w.heap.size + 1]? = some (.cells #[.int .i64 y.tag, .int .i64 y.res, .int .i64 y.code] 107 (0, 0))
  bel : Below w.heap.size w W
theorem BB.on {w : World} {x : Wr} {y : St} {W W' : World} (h : BB w x y W) (hb : Below W.heap.size W W') : BB w x y W' := ⟨Kt.row_on hb h.r1, Kt.row_on hb h.r2, Kt.bthen h.bel hb⟩
theorem BB.start (w : World) (x : Wr) (y : St) : BB w x y ((w.alloc (.cells #[.int .i64 x.tag, .int .i64 x.len, .bool x.inn, .int .i64 x.unit, .string x.cmd] 75)).alloc (.cells #[.int .i64 y.tag, .int .i64 y.res, .int .i64 y.code] 107)) :=
  ⟨heap_alloc2_old w _ _, heap_alloc2_new w _ _, Kt.balloc (Kt.balloc (Below.refl _ w) _) _⟩
theorem writeW_open {x : Wr} {T : ByteArray} {E : Int} (h : writeW x = (T, E)) : (E = 0 ∧ readW T = (x, 0) ∧ (T.size : Int) = 31) ∨ E = 1 := by
  by_cases ho : OkW x
  · have e : writeW x = (wrapT x, 0) := if_pos ho
    rw [e] at h
    cases h
    exact .inl ⟨rfl, readW_wrapT x ho, by rw [wrapT_size x ho]; rfl⟩
  · have e : writeW x = (ByteArray.empty, 1) := if_neg ho
    rw [e] at h
    cases h
    exact .inr rfl
theorem writeS_open {x : St} {T : ByteArray} {E : Int} (h : writeS x = (T, E)) : (E = 0 ∧ readS T = (x, 0) ∧ (T.size : Int) = 13) ∨ E = 1 := by
  by_cases ho : OkS x
  · have e : writeS x = (statT x, 0) := if_pos ho
    rw [e] at h
    cases h
    exact .inl ⟨rfl, readS_statT x ho, by rw [statT_size x]; rfl⟩
  · have e : writeS x = (ByteArray.empty, 1) := if_neg ho
    rw [e] at h
    cases h
    exact .inr rfl
theorem readW_open {s : ByteArray} {x : Wr} {E : Int} (h : readW s = (x, E)) : (E = 0 ∧ writeW x = (s, 0)) ∨ (E != 0) = true := by
  by_cases e : E = 0
  · subst e
    obtain ⟨_, ho, hw⟩ := readW_ok h
    exact .inl ⟨rfl, (if_pos ho).trans (by rw [hw])⟩
  · exact .inr (by rw [bne_iff_ne]; exact e)
theorem readS_open {s : ByteArray} {x : St} {E : Int} (h : readS s = (x, E)) : (E = 0 ∧ writeS x = (s, 0)) ∨ (E != 0) = true := by
  by_cases e : E = 0
  · subst e
    obtain ⟨_, ho, hw⟩ := readS_ok h
    exact .inl ⟨rfl, (if_pos ho).trans (by rw [hw])⟩
  · exact .inr (by rw [bne_iff_ne]; exact e)
theorem wr_of {w : World} {B : Nat} {v : Value} (r : Fr.RdV w B (.cat 1 (.int .i64) (.cat 1 (.int .i64) (.cat 1 .bool (.cat 1 (.int .i64) (.cat 1 .string .nil))))) v) : ∃ x : Wr, v = wrV x := by
  obtain ⟨cs, rfl, r⟩ := r
  obtain ⟨_, _, a1, _, ⟨tg, rfl, _⟩, q1⟩ := Fr.cat_open r
  obtain ⟨_, _, a2, _, ⟨ln, rfl, _⟩, q2⟩ := Fr.cat_open q1
  obtain ⟨_, _, a3, _, ⟨b, rfl⟩, q3⟩ := Fr.cat_open q2
  obtain ⟨_, _, a4, _, ⟨un, rfl, _⟩, q4⟩ := Fr.cat_open q3
  obtain ⟨_, _, a5, _, ⟨cmd, rfl, _⟩, q5⟩ := Fr.cat_open q4
  have q6 : _ = [] := q5
  rw [a2, a3, a4, a5, q6] at a1
  exact ⟨⟨tg, ln, b, un, cmd⟩, by rw [Fr.arr_of a1]; rfl⟩
theorem st_of {w : World} {B : Nat} {v : Value} (r : Fr.RdV w B (.cat 1 (.int .i64) (.cat 1 (.int .i64) (.cat 1 (.int .i64) .nil))) v) : ∃ x : St, v = stV x := by
  obtain ⟨cs, rfl, r⟩ := r
  obtain ⟨_, _, a1, _, ⟨tg, rfl, _⟩, q1⟩ := Fr.cat_open r
  obtain ⟨_, _, a2, _, ⟨ln, rfl, _⟩, q2⟩ := Fr.cat_open q1
  obtain ⟨_, _, a3, _, ⟨cd, rfl, _⟩, q3⟩ := Fr.cat_open q2
  have q6 : _ = [] := q3
  rw [a2, a3, q6] at a1
  exact ⟨⟨tg, ln, cd⟩, by rw [Fr.arr_of a1]; rfl⟩
end Go.Proofs.Ytafiedhjjnapoaa
