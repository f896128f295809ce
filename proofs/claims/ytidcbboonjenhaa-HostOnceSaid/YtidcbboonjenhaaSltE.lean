/- The walks of package slots: enable. -/
import Derived.Test.YtidcbboonjenhaaSltC
import Derived.Test.YtidcbboonjenhaaSltQ
namespace Go.Proofs.Ytidcbboonjenhaa
open Go.RowKit Classical Go.Proofs.Ytidcbboonjenhaa.Slt
/-- a walk that stored into one block alone -/
structure Upd (g : Nat) (w w' : World) : Prop where
  below : Below g w w'
  other : ∀ k, k ≠ g → k < w.heap.size → w'.heap[k]? = w.heap[k]?
theorem Upd.refl (g : Nat) (w : World) : Upd g w w := ⟨Below.refl _ _, fun _ _ _ => rfl⟩
theorem Upd.set {g : Nat} {w w' : World} (h : Upd g w w') (i : Nat) (v : Value) : Upd g w (w'.setCell ⟨g, i, none⟩ v) :=
  ⟨h.below.setCell (Nat.le_refl _) v, fun k hk hs => (heap_setCell_other _ _ _ _ hk).trans (h.other k hk hs)⟩
theorem Upd.drewN {g : Nat} {w w' : World} (h : Upd g w w') (n : Nat) : Upd g w (w'.drewN n) := ⟨bdrewN h.below n, h.other⟩
theorem Upd.trans {g : Nat} {a b c : World} (h : Upd g a b) (k : Upd g b c) : Upd g a c := ⟨h.below.trans k.below, fun x hx hs => (k.other x hx (Nat.lt_of_lt_of_le hs h.below.size)).trans (h.other x hx hs)⟩
theorem Upd.of_below {g : Nat} {w w' : World} (h : Below w.heap.size w w') (hg : g < w.heap.size) : Upd g w w' := ⟨h.mono (Nat.le_of_lt hg), fun k _ hs => h.block k hs⟩
theorem Upd.to {g B : Nat} {v w w' : World} (h : Upd g w w') (hv : Below B v w) (hB : B ≤ g) : Below B v w' := hv.trans (h.below.mono hB)
theorem Upd.box {g b : Nat} {t : TypeId} {l : List Int} {w w' : World} (h : Upd g w w') (hb : Bx t b l w) (hne : b ≠ g) : Bx t b l w' := (h.other b hne hb.lt).trans hb
def EnIs (g : Nat) (l : List Int) (w : World) (e : Ending) (w' : World) : Prop :=
  (∃ i : Nat, FirstOff l i ∧ e = .returned (.tuple #[.int .i64 1, .int .i64 i]) ∧ Bx 43 g (l.set (i * 66) 1) w' ∧ Upd g w w') ∨ (NoneOff l ∧ e = .returned (.tuple #[.int .i64 9, .int .i64 0]) ∧ w' = w)
set_option maxHeartbeats 1600000 in
theorem enable_calls (l : List Int) (hl : l.length = 594) (g : Nat) (w : World) (hb : Bx 43 g l w) : Calls Try.prog 34 #[.pointer (some ⟨g, 0, none⟩)] w (EnIs g l w) := by
  have HB := Lib.hid hb
  clear hb
  go_enter Try.func34, Try.ntmps34
  go_wp2_with fail
  go_loopw [4] (fun i wr => ∃ n : Nat, Hid (1 ≤ n ∧ n ≤ 9) ∧ i = .int .i64 n ∧ Hid (∀ j, 1 ≤ j → j < n → G l (j * 66) ≠ 0) ∧ wr = w) (fun i _ => 9 - (intOf i).toNat)
  case atStart => exact ⟨1, Lib.hid ⟨by omega, by omega⟩, rfl, Lib.hid fun j _ _ => absurd ‹_› (by omega), rfl⟩
  case round =>
    obtain ⟨n, HK, rfl, HF, rfl⟩ := hrel
    by_cases hlt : n < 9
    · have hlt' : (n : Int) < 9 := by omega
      have c1 := HB.out.cell (n * 66) (by omega)
      have q1 := HB.out.free (n * 66)
      by_cases h0 : G l (n * 66) = 0
      · have HO : Hid (FirstOff l n) := Lib.hid ⟨HK.out.1, hlt, h0, HF.out⟩
        rw [h0] at c1
        go_wp2_with fail
        refine bodyPost_ret (v := .tuple #[.int .i64 1, .int .i64 n]) (by simp [results, Try.results34, go_sem]) rfl ?_
        exact .inl ⟨n, HO.out, rfl, HB.out.set _ _, (Upd.refl _ _).set _ _⟩
      · have HN : Hid (∀ j, 1 ≤ j → j < n + 1 → G l (j * 66) ≠ 0) := Lib.hid fun j h1 h2 => by
          by_cases e : j = n
          · subst e; exact h0
          · exact HF.out j h1 (by omega)
        have f1 : (G l (n * 66) == 0) = false := beq_eq_false_iff_ne.2 h0
        clear h0
        go_wp2_with fail
        exact ⟨⟨n + 1, Lib.hid ⟨by omega, by omega⟩, rfl, HN, trivial⟩, next_i hlt⟩
    · have hlt' : ¬ (n : Int) < 9 := by omega
      obtain rfl : n = 9 := by have := HK.out; omega
      go_wp2_with fail
      refine bodyPost_ret (v := .tuple #[.int .i64 9, .int .i64 0]) (by simp [results, Try.results34, go_sem]) rfl ?_
      exact .inr ⟨HF.out, rfl, rfl⟩
end Go.Proofs.Ytidcbboonjenhaa
