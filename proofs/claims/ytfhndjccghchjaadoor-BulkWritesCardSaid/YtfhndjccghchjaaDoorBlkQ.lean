/- The law BulkTagged, walked. -/
import Derived.Test.YtfhndjccghchjaaDoorBlkO
namespace Go.Proofs.YtfhndjccghchjaaDoor
open Go.RowKit Go.Proofs.YtfhndjccghchjaaDoor.Scs Go.Proofs.YtfhndjccghchjaaDoor.Blk
/-- what holds of all that is served -/
theorem served_props (bs : List ByteArray) (s : Int) (x : Wr) (data : ByteArray) (hx : OkW x) :
    ((served bs s x data).2.2.2.2 ≠ 0 ∧ (served bs s x data).1 = bs ∧ (served bs s x data).2.1 = s ∧ (served bs s x data).2.2.1 = ByteArray.empty ∧ (served bs s x data).2.2.2.1 = ByteArray.empty) ∨
    ((served bs s x data).2.2.2.2 = 0 ∧ ∃ y : St, OkS y ∧ (served bs s x data).2.2.2.1 = statT y ∧ y.tag = x.tag ∧ y.res ≤ x.len ∧ ((served bs s x data).2.2.1.size : Int) ≤ x.len - y.res ∧ ((served bs s x data).2.2.1 = ByteArray.empty ∨ (x.inn = true ∧ y.code = 0))) := by
  have h1 := hx.t1; have h2 := hx.t2; have h3 := hx.l1; have h4 := hx.l2
  unfold served
  by_cases hk : chkD bs s ≠ 0
  · rw [if_pos hk]; exact .inl ⟨hk, rfl, rfl, rfl, rfl⟩
  rw [if_neg hk]
  by_cases hu : x.unit ≠ 0
  · rw [if_pos hu]; exact .inl ⟨by show (8 : Int) ≠ 0; decide, rfl, rfl, rfl, rfl⟩
  rw [if_neg hu]
  by_cases ha : agB (hostD x) x.len (means bs s x.cmd).1 (means bs s x.cmd).2
  · rw [if_pos ha]
    have hok : OkD bs s := chkD_ok.1 (by omega)
    obtain ⟨d1, d2⟩ := ag_le ha (means_tr hok x.cmd) h3
    by_cases hz : hostD x = 2 ∧ (data.size : Int) ≠ x.len
    · rw [if_pos hz]; exact .inl ⟨by show (3 : Int) ≠ 0; decide, rfl, rfl, rfl, rfl⟩
    · rw [if_neg hz]
      dsimp only
      generalize did bs s x.cmd (if hostD x = 2 then data.extract 0 (means bs s x.cmd).2.toNat else ByteArray.empty) = R
      refine .inr ⟨rfl, ⟨x.tag, x.len - (means bs s x.cmd).2, _⟩, ⟨h1, h2, by show 0 ≤ x.len - _; omega, by show x.len - _ < _; omega, ?_, ?_⟩, rfl, rfl, by show x.len - _ ≤ x.len; omega, ?_, ?_⟩
      · dsimp only; split <;> omega
      · dsimp only; split <;> omega
      · dsimp only
        split
        · rw [ByteArray.size_extract]; omega
        · show (0 : Int) ≤ _; omega
      · dsimp only
        split
        · next q =>
          refine .inr ⟨?_, if_pos q.1⟩
          have hh := q.2
          unfold hostD at hh
          split at hh
          · cases hh
          · split at hh
            · assumption
            · cases hh
        · exact .inl rfl
  · rw [if_neg ha]
    exact .inr ⟨rfl, ⟨x.tag, x.len, 2⟩, ⟨h1, h2, h3, h4, by show (0 : Int) ≤ 2; decide, by show (2 : Int) ≤ 2; decide⟩, rfl, rfl, Int.le_refl _, by show (0 : Int) ≤ x.len - x.len; omega, .inl rfl⟩
/-- both boxes -/
structure BD (w : World) (A : Option Addr) (cap : Nat) (bs : List ByteArray) (s : Int) (x : Wr) (W : World) : Prop where
  r1 : W.heap[w.heap.size]? = some (.cells #[.slice A bs.length cap, .int .i64 s] 24 (0, 0))
  r2 : W.heap[w.heap.size + 1]? = some (.cells #[.int .i64 x.tag, .int .i64 x.len, .bool x.inn, .int .i64 x.unit, .string x.cmd] 37 (0, 0))
  bel : Below w.heap.size w W
theorem BD.on {w : World} {A : Option Addr} {cap : Nat} {bs : List ByteArray} {s : Int} {x : Wr} {W W' : World} (h : BD w A cap bs s x W) (hb : Below W.heap.size W W') : BD w A cap bs s x W' := ⟨Kt.row_on hb h.r1, Kt.row_on hb h.r2, Kt.bthen h.bel hb⟩
theorem tag_num {a b : Int} (h1 : 0 ≤ a) (h2 : a < 4294967296) (h3 : 0 ≤ b) (h4 : b ≤ a) : IntKind.i64.wrap (a - b) = a - b := by
  rw [IntWalk.i64_left]; unfold wrap64; omega
end Go.Proofs.YtfhndjccghchjaaDoor
