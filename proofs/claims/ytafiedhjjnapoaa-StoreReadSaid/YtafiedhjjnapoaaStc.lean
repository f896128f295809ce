/- slices.Clone and slices.Equal of texts, walked. -/
import Derived.Test.YtafiedhjjnapoaaArg
import Derived.Deep.QuietTactic
import Derived.BigQuiet
import Derived.Outline
namespace Go.Proofs.Ytafiedhjjnapoaa
open Go.RowKit
theorem infoS : (Try.prog.info? 9).map (fun i => (i.zero, i.size, i.bytes)) = some (some (.string ByteArray.empty), 1, 16) := by kernel_rfl
def sts (l : List ByteArray) : List Value := l.map Value.string
theorem sts_len (a : List ByteArray) : (sts a).length = a.length := by simp [sts]
theorem sts_app (a b : List ByteArray) : sts (a ++ b) = sts a ++ sts b := by simp [sts]
theorem sts_one (l : List ByteArray) : ∀ u ∈ sts l, u.oneCell' = true := by
  intro u hu
  obtain ⟨c, _, rfl⟩ := List.mem_map.1 hu
  rfl
theorem bdrewN {B : Nat} {a w : World} (h : Below B a w) (n : Nat) : Below B a (w.drewN n) := ⟨h.os, h.tape, h.output, h.size, h.block⟩
theorem Kt.Sl.set {w : World} {B e sz n : Nat} {v : Value} {xs : List Value} (h : Kt.Sl w B e sz v n xs) {p : Addr} (hne : ∀ k, v.ownBlock = some k → k ≠ p.block) (u : Value) : Kt.Sl (w.setCell p u) B e sz v n xs :=
  h.keep fun k hk => heap_setCell_other _ _ _ _ (hne k hk)
theorem Kt.Ar.of_sl {w : World} {B e sz n : Nat} {v : Value} {xs : List Value} (h : Kt.Sl w B e sz v n xs) : Kt.Ar w v sz n xs := by
  refine ⟨h.1, ?_⟩
  rcases h.2 with ⟨rfl, rfl⟩ | ⟨g, o, cap, cur, rfl, hb, hg, hn, hc, hs, hx⟩
  · exact ⟨none, 0, rfl, Nat.le_refl _, fun h => absurd h (by omega)⟩
  · exact ⟨_, cap, rfl, hn, fun _ => ⟨g, o, rfl, (Array.getElem?_eq_some_iff.1 hg).1, fun j hj => (cell_of_row w g (o + j) cur e (0, 0) hg).trans (hx j _ (List.getElem?_eq_getElem hj))⟩⟩
set_option maxHeartbeats 800000 in
theorem clone_calls (v : Value) (n : Nat) (xs : List Value) (w : World) (h : Kt.Ar w v 1 n xs) (h1 : ∀ u ∈ xs, u.oneCell' = true) (hn : n ≤ 8796093022208) :
    Calls Try.prog 20 #[v] w fun e w' => ∃ A c, e = .returned (.slice A n c) ∧ Kt.Sl w' w.heap.size 9 1 (.slice A n c) n xs ∧ Below w.heap.size w w' := by
  have qT : ∀ (w : World) (a : Option Addr) (n c n' c' : Nat), (binOp .eql 22 (.slice a n c) (.slice none n' c')).run Try.prog w = .ok (.bool a.isNone) w := fun w a n c n' c' => Lib.run_eql_slice_nil w _ _ a n c n' c' Try.underlying22
  obtain ⟨A, c, rfl, hnc, hx⟩ := h.form
  have hlen := h.len
  cases A with
  | none =>
    have hn0 : n = 0 := by
      rcases Nat.eq_zero_or_pos n with h0 | h0
      · exact h0
      · obtain ⟨b, o, e, _⟩ := hx h0; cases e
    subst hn0
    obtain rfl : xs = [] := List.eq_nil_of_length_eq_zero (by simpa using hlen)
    go_enter Try.func20, Try.ntmps20
    go_wp2
    go_ret
    exact ⟨none, 0, rfl, Kt.Sl.nil _ _ _ _, Below.refl _ _⟩
  | some ad =>
    have hnews : ∀ j u, xs[j]? = some u → (w.alloc (.cells #[] 9)).cell? (ad.add j) = some u := by
      intro j u hj
      obtain ⟨hj1, hj2⟩ := List.getElem?_eq_some_iff.1 hj
      obtain ⟨b, o, e, hb, hc⟩ := hx (by omega)
      injection e with e
      subst e
      rw [Addr.add_lit, World.cell?_alloc_lt _ _ _ (by exact hb), hc j hj1, hj2]
    have hs0 : Kt.Sl (w.alloc (.cells #[] 9)) w.heap.size 9 1 (.slice (some ⟨w.heap.size, 0, none⟩) 0 0) 0 [] :=
      ⟨rfl, .inr ⟨w.heap.size, 0, 0, #[], rfl, Nat.le_refl _, heap_alloc_new w _, Nat.le_refl _, by simp [maxLen], by simp, fun j u hj => by simp at hj⟩⟩
    go_enter Try.func20, Try.ntmps20
    go_wp2_with (
      refine Kt.append_sl _ (by rfl) (.tmp 5) (.tmp 6) 22 rfl w.heap.size 9 (.string ByteArray.empty) 1 16 infoS Try.underlying22 rfl (by decide) _ 0 [] rfl hs0 ad n c xs rfl hlen hnews h1 (by unfold maxLen; omega) (by omega) (by rw [World.size_alloc]; omega) ?_
      intro A' c' w1 hs1 hb1 hz1 hk1 hl1
      clear hk1 hl1 hs0 hnews hx)
    go_ret
    rw [Nat.zero_add] at hs1
    exact ⟨A', c', rfl, hs1, ((Below.refl _ w).alloc (Nat.le_refl _) _).trans hb1⟩
end Go.Proofs.Ytafiedhjjnapoaa
