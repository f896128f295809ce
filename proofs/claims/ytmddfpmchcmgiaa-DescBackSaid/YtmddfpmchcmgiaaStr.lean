/- slices.Clone and slices.Equal of texts, walked. -/
import Derived.Test.YtmddfpmchcmgiaaArg
import Derived.Deep.QuietTactic
import Derived.BigQuiet
import Derived.Outline
namespace Go.Proofs.Ytmddfpmchcmgiaa
open Go.RowKit
theorem infoS : (Try.prog.info? 9).map (fun i => (i.zero, i.size, i.bytes)) = some (some (.string ByteArray.empty), 1, 16) := by kernel_rfl
def sts (l : List ByteArray) : List Value := l.map Value.string
theorem sts_len (a : List ByteArray) : (sts a).length = a.length := by simp [sts]
theorem sts_app (a b : List ByteArray) : sts (a ++ b) = sts a ++ sts b := by simp [sts]
theorem sts_one (l : List ByteArray) : ∀ u ∈ sts l, u.oneCell' = true := by
  intro u hu
  obtain ⟨c, _, rfl⟩ := List.mem_map.1 hu
  rfl
theorem bdrewN {B : Nat} {a w : World} (h : Below B a w) (n : Nat) : Below B a (w.drewN n) := ⟨h.os, h.tape, h.output, h.size, h.block⟩
theorem Kt.Sl.set {w : World} {B e sz n : Nat} {v : Value} {xs : List Value} (h : Kt.Sl w B e sz v n xs) {p : Addr} (hne : ∀ k, v.ownBlock = some k → k ≠ p.block) (u : Value) : Kt.Sl (w.setCell p u) B e sz v n xs :=
  h.keep fun k hk => heap_setCell_other _ _ _ _ (hne k hk)
theorem Kt.Ar.of_sl {w : World} {B e sz n : Nat} {v : Value} {xs : List Value} (h : Kt.Sl w B e sz v n xs) : Kt.Ar w v sz n xs := by
  refine ⟨h.1, ?_⟩
  rcases h.2 with ⟨rfl, rfl⟩ | ⟨g, o, cap, cur, rfl, hb, hg, hn, hc, hs, hx⟩
  · exact ⟨none, 0, rfl, Nat.le_refl _, fun h => absurd h (by omega)⟩
  · exact ⟨_, cap, rfl, hn, fun _ => ⟨g, o, rfl, (Array.getElem?_eq_some_iff.1 hg).1, fun j hj => (cell_of_row w g (o + j) cur e (0, 0) hg).trans (hx j _ (List.getElem?_eq_getElem hj))⟩⟩
set_option maxHeartbeats 800000 in
theorem clone_calls (v : Value) (n : Nat) (xs : List Value) (w : World) (h : Kt.Ar w v 1 n xs) (h1 : ∀ u ∈ xs, u.oneCell' = true) (hn : n ≤ 8796093022208) :
    Calls Try.prog 18 #[v] w fun e w' => ∃ A c, e = .returned (.slice A n c) ∧ Kt.Sl w' w.heap.size 9 1 (.slice A n c) n xs ∧ Below w.heap.size w w' := by
  have qT : ∀ (w : World) (a : Option Addr) (n c n' c' : Nat), (binOp .eql 29 (.slice a n c) (.slice none n' c')).run Try.prog w = .ok (.bool a.isNone) w := fun w a n c n' c' => Lib.run_eql_slice_nil w _ _ a n c n' c' Try.underlying29
  obtain ⟨A, c, rfl, hnc, hx⟩ := h.form
  have hlen := h.len
  cases A with
  | none =>
    have hn0 : n = 0 := by
      rcases Nat.eq_zero_or_pos n with h0 | h0
      · exact h0
      · obtain ⟨b, o, e, _⟩ := hx h0; cases e
    subst hn0
    obtain rfl : xs = [] := List.eq_nil_of_length_eq_zero (by simpa using hlen)
    go_enter Try.func18, Try.ntmps18
    go_wp2
    go_ret
    exact ⟨none, 0, rfl, Kt.Sl.nil _ _ _ _, Below.refl _ _⟩
  | some ad =>
    have hnews : ∀ j u, xs[j]? = some u → (w.alloc (.cells #[] 9)).cell? (ad.add j) = some u := by
      intro j u hj
      obtain ⟨hj1, hj2⟩ := List.getElem?_eq_some_iff.1 hj
      obtain ⟨b, o, e, hb, hc⟩ := hx (by omega)
      injection e with e
      subst e
      rw [Addr.add_lit, World.cell?_alloc_lt _ _ _ (by exact hb), hc j hj1, hj2]
    have hs0 : Kt.Sl (w.alloc (.cells #[] 9)) w.heap.size 9 1 (.slice (some ⟨w.heap.size, 0, none⟩) 0 0) 0 [] :=
      ⟨rfl, .inr ⟨w.heap.size, 0, 0, #[], rfl, Nat.le_refl _, heap_alloc_new w _, Nat.le_refl _, by simp [maxLen], by simp, fun j u hj => by simp at hj⟩⟩
    go_enter Try.func18, Try.ntmps18
    go_wp2_with (
      refine Kt.append_sl _ (by rfl) (.tmp 5) (.tmp 6) 29 rfl w.heap.size 9 (.string ByteArray.empty) 1 16 infoS Try.underlying29 rfl (by decide) _ 0 [] rfl hs0 ad n c xs rfl hlen hnews h1 (by unfold maxLen; omega) (by omega) (by rw [World.size_alloc]; omega) ?_
      intro A' c' w1 hs1 hb1 hz1 hk1 hl1
      clear hk1 hl1 hs0 hnews hx)
    go_ret
    rw [Nat.zero_add] at hs1
    exact ⟨A', c', rfl, hs1, ((Below.refl _ w).alloc (Nat.le_refl _) _).trans hb1⟩
theorem str_ne {x y : ByteArray} (h : x ≠ y) : (x.toList == y.toList) = false := by
  rw [beq_eq_false_iff_ne, ByteArray.toList_eq, ByteArray.toList_eq]
  intro e
  exact h (Kt.bytes_eq e)
theorem eq_lists {ls ms : List ByteArray} (hl : ls.length = ms.length) : decide (ls = ms) = true ↔ ∀ j (h1 : j < ls.length) (h2 : j < ms.length), ls[j] = ms[j] := by
  rw [decide_eq_true_iff]
  constructor
  · rintro rfl j _ _; rfl
  · intro h; exact List.ext_getElem hl h
set_option maxHeartbeats 800000 in
theorem equal_len (u v : Value) (ls ms : List ByteArray) (w : World) (ha : Kt.Ar w u 1 ls.length (sts ls)) (hb : Kt.Ar w v 1 ms.length (sts ms)) (hl : ((ls.length : Int) != ms.length) = true) :
    Calls Try.prog 43 #[u, v] w fun e w' => e = .returned (.bool false) ∧ Below w.heap.size w w' := by
  obtain ⟨A, c, rfl, _, _⟩ := ha.form
  obtain ⟨A', c', rfl, _, _⟩ := hb.form
  go_enter Try.func43, Try.ntmps43
  go_wp2_with fail
  go_ret
  exact ⟨rfl, Below.refl _ _⟩
set_option maxHeartbeats 800000 in
theorem equal_same (u v : Value) (ls ms : List ByteArray) (w : World) (ha : Kt.Ar w u 1 ls.length (sts ls)) (hb : Kt.Ar w v 1 ls.length (sts ms)) (hl : ls.length = ms.length) (hm : ls.length ≤ 140737488355328) :
    Calls Try.prog 43 #[u, v] w fun e w' => e = .returned (.bool (decide (ls = ms))) ∧ Below w.heap.size w w' := by
  obtain ⟨A, c, rfl, _, hxa⟩ := ha.form
  obtain ⟨A', c', rfl, _, hxb⟩ := hb.form
  have HL := Lib.hid hl
  have HM := Lib.hid hm
  generalize hn : ls.length = n at *
  have HN := Lib.hid hn; clear hn hl ha hb
  go_enter Try.func43, Try.ntmps43
  go_wp2_with fail
  go_loopw [13] (fun i wr => ∃ k : Nat, k ≤ n ∧ i = .int .i64 k ∧ (∀ j (h1 : j < ls.length) (h2 : j < ms.length), j < k → ls[j] = ms[j]) ∧ Below w.heap.size w wr) (fun i _ => n - (intOf i).toNat)
  case atStart => exact ⟨0, Nat.zero_le _, rfl, fun j _ _ h => absurd h (by omega), Below.refl _ _⟩
  case round =>
    obtain ⟨k, hk, rfl, hpre, hbel⟩ := hrel
    have HP := Lib.hid hpre; clear hpre
    have hkm : k ≤ 140737488355328 := by have := HM.out; omega
    by_cases hlt : k < n
    · obtain ⟨b, o, rfl, hb, hc⟩ := hxa (by omega)
      obtain ⟨b', o', rfl, hb', hc'⟩ := hxb (by omega)
      have h1 : k < ls.length := by have := HN.out; omega
      have h2 : k < ms.length := by have := HN.out; have := HL.out; omega
      have hcell : wr.cell? ⟨b, o + k, none⟩ = some (.string ls[k]) := (hbel.cell (p := ⟨b, o + k, none⟩) hb).trans ((hc k (by rw [sts_len]; exact h1)).trans (by simp [sts]))
      have hcell' : wr.cell? ⟨b', o' + k, none⟩ = some (.string ms[k]) := (hbel.cell (p := ⟨b', o' + k, none⟩) hb').trans ((hc' k (by rw [sts_len]; exact h2)).trans (by simp [sts]))
      clear hxa hxb hc hc'
      generalize hx : ls[k] = x at *
      generalize hy : ms[k] = y at *
      have HX := Lib.hid hx; have HY := Lib.hid hy; clear hx hy
      have b1 : (0 : Int) ≤ k := by omega
      have b2 : (k : Int) < n := by omega
      by_cases he : x = y
      · subst he
        go_wp2_with fail
        go_quiet (fail)
        go_wp2
        go_roundw
        case rel =>
          refine ⟨k + 1, by omega, by go_num, fun j a b hj => ?_, bdrewN hbel _⟩
          by_cases hjk : j = k
          · subst hjk; exact HX.out.trans HY.out.symm
          · exact HP.out j a b (by omega)
        case measure => simp [intOf]; omega
      · have e0 := str_ne he
        have HNE := Lib.hid he; clear he
        go_wp2_with fail
        go_quiet (fail)
        go_wp2
        go_ret
        refine ⟨?_, bdrewN hbel _⟩
        have : decide (ls = ms) = false := by
          rw [decide_eq_false_iff_not]
          rintro rfl
          exact HNE.out (HX.out.symm.trans HY.out)
        rw [this]; rfl
    · obtain rfl : k = n := by omega
      go_wp2
      go_ret
      have : decide (ls = ms) = true := (eq_lists (HN.out.trans HL.out)).2 fun j a b => HP.out j a b (by have := HN.out; omega)
      rw [this]
      exact ⟨rfl, hbel⟩
end Go.Proofs.Ytmddfpmchcmgiaa
