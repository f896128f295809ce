/- slices.Clone of events; reports in two goes. -/
import Derived.Test.YtfcmmeapinppaaaKeyC
namespace Go.Proofs.Ytfcmmeapinppaaa
open Go.RowKit
theorem infoKc : (Try.prog.info? 47).map (fun i => (i.zero, i.size, i.bytes)) = some (some (.agg #[.int .i64 0, .bool false]), 2, 16) := by kernel_rfl
set_option maxHeartbeats 800000 in
theorem clonek_calls (v : Value) (n : Nat) (xs : List Value) (w : World) (h : Kt.Ar w v 2 n xs) (h1 : ∀ u ∈ xs, u.oneCell' = true) (hn : n ≤ 8796093022208) :
    Calls Try.prog 19 #[v] w fun e w' => ∃ A c, e = .returned (.slice A n c) ∧ Kt.Sl w' w.heap.size 47 2 (.slice A n c) n xs ∧ Below w.heap.size w w' := by
  have qT : ∀ (w : World) (a : Option Addr) (n c n' c' : Nat), (binOp .eql 32 (.slice a n c) (.slice none n' c')).run Try.prog w = .ok (.bool a.isNone) w := fun w a n c n' c' => Lib.run_eql_slice_nil w _ _ a n c n' c' Try.underlying32
  obtain ⟨A, c, rfl, hnc, hx⟩ := h.form
  have hlen := h.len
  cases A with
  | none =>
    have hn0 : n = 0 := by
      rcases Nat.eq_zero_or_pos n with h0 | h0
      · exact h0
      · obtain ⟨b, o, e, _⟩ := hx h0; cases e
    subst hn0
    obtain rfl : xs = [] := List.eq_nil_of_length_eq_zero (by simpa using hlen)
    go_enter Try.func19, Try.ntmps19
    go_wp2
    go_ret
    exact ⟨none, 0, rfl, Kt.Sl.nil _ _ _ _, Below.refl _ _⟩
  | some ad =>
    have hnews : ∀ j u, xs[j]? = some u → (w.alloc (.cells #[] 47)).cell? (ad.add j) = some u := by
      intro j u hj
      obtain ⟨hj1, hj2⟩ := List.getElem?_eq_some_iff.1 hj
      obtain ⟨b, o, e, hb, hc⟩ := hx (by omega)
      injection e with e
      subst e
      rw [Addr.add_lit, World.cell?_alloc_lt _ _ _ (by exact hb), hc j hj1, hj2]
    have hs0 : Kt.Sl (w.alloc (.cells #[] 47)) w.heap.size 47 2 (.slice (some ⟨w.heap.size, 0, none⟩) 0 0) 0 [] :=
      ⟨rfl, .inr ⟨w.heap.size, 0, 0, #[], rfl, Nat.le_refl _, heap_alloc_new w _, Nat.le_refl _, by simp [maxLen], by simp, fun j u hj => by simp at hj⟩⟩
    go_enter Try.func19, Try.ntmps19
    go_wp2_with (
      refine Kt.append_sl _ (by rfl) (.tmp 5) (.tmp 6) 32 rfl w.heap.size 47 (.agg #[.int .i64 0, .bool false]) 2 16 infoKc Try.underlying32 rfl (by decide) _ 0 [] rfl hs0 ad n c xs rfl hlen hnews h1 (by unfold maxLen; omega) (by omega) (by rw [World.size_alloc]; omega) ?_
      intro A' c' w1 hs1 hb1 hz1 hk1 hl1
      clear hk1 hl1 hs0 hnews hx)
    go_ret
    rw [Nat.zero_add] at hs1
    exact ⟨A', c', rfl, hs1, ((Below.refl _ w).alloc (Nat.le_refl _) _).trans hb1⟩
theorem kv_cl (l : List (Fin 256 × Bool)) : ∀ i, i < l.length → Fr.Cl kyTy (((kv l).drop (i * 2)).take 2) := by
  intro i hi
  obtain ⟨h1, h2⟩ := kv_at l i hi
  have hl := kv_len l
  have e : ((kv l).drop (i * 2)).take 2 = [.int .i64 (l[i].1.val : Int), .bool l[i].2] := by
    rw [List.drop_eq_getElem_cons (by omega), List.take_succ_cons, List.drop_eq_getElem_cons (by omega), List.take_succ_cons, List.take_zero]
    rw [List.getElem?_eq_getElem (by omega)] at h1 h2
    injection h1 with h1
    injection h2 with h2
    rw [h1, h2]
  rw [e]
  refine ⟨by simp, ⟨_, rfl⟩, ?_⟩
  exact ⟨by simp, ⟨_, rfl⟩, rfl⟩
theorem feedR_app (a b : List ByteArray) : ∀ h : Hd, feedR h (a ++ b) = ((feedR (feedR h a).1 b).1, (feedR h a).2.1 ++ (feedR (feedR h a).1 b).2.1, (feedR h a).2.2 + (feedR (feedR h a).1 b).2.2) := by
  induction a with
  | nil => intro h; simp [feedR]
  | cons s a ih =>
    intro h
    by_cases e : (readR s.data.toList).2 = 0
    · have h1 : feedR h (s :: (a ++ b)) = ((feedR (readR s.data.toList).1 (a ++ b)).1, diffR h (readR s.data.toList).1 ++ (feedR (readR s.data.toList).1 (a ++ b)).2.1, (feedR (readR s.data.toList).1 (a ++ b)).2.2) := if_pos e
      have h2 : feedR h (s :: a) = ((feedR (readR s.data.toList).1 a).1, diffR h (readR s.data.toList).1 ++ (feedR (readR s.data.toList).1 a).2.1, (feedR (readR s.data.toList).1 a).2.2) := if_pos e
      rw [List.cons_append, h1, h2, ih]
      simp
    · have h1 : feedR h (s :: (a ++ b)) = ((feedR h (a ++ b)).1, (feedR h (a ++ b)).2.1, (feedR h (a ++ b)).2.2 + 1) := if_neg e
      have h2 : feedR h (s :: a) = ((feedR h a).1, (feedR h a).2.1, (feedR h a).2.2 + 1) := if_neg e
      rw [List.cons_append, h1, h2, ih]
      simp
      omega
theorem feedR_some (a : List ByteArray) : ∀ h : Hd, feedR h (a.filter goodS) = ((feedR h a).1, (feedR h a).2.1, 0) := by
  induction a with
  | nil => intro h; rfl
  | cons s a ih =>
    intro h
    by_cases e : (readR s.data.toList).2 = 0
    · have hg : goodS s = true := by unfold goodS; rw [e]; rfl
      have h2 : feedR h (s :: a) = ((feedR (readR s.data.toList).1 a).1, diffR h (readR s.data.toList).1 ++ (feedR (readR s.data.toList).1 a).2.1, (feedR (readR s.data.toList).1 a).2.2) := if_pos e
      have h1 : feedR h (s :: a.filter goodS) = ((feedR (readR s.data.toList).1 (a.filter goodS)).1, diffR h (readR s.data.toList).1 ++ (feedR (readR s.data.toList).1 (a.filter goodS)).2.1, (feedR (readR s.data.toList).1 (a.filter goodS)).2.2) := if_pos e
      rw [List.filter_cons_of_pos hg, h1, h2, ih]
    · have hg : ¬ goodS s = true := by
        unfold goodS
        rw [beq_iff_eq]
        exact e
      have h2 : feedR h (s :: a) = ((feedR h a).1, (feedR h a).2.1, (feedR h a).2.2 + 1) := if_neg e
      rw [List.filter_cons_of_neg hg, h2, ih]
end Go.Proofs.Ytfcmmeapinppaaa
