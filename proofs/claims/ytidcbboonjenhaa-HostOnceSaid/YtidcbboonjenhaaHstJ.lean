/- The walk of Halt, beside Do (turned from XSltH, whose import differs). -/
import Derived.Test.YtidcbboonjenhaaSltD
namespace Go.Proofs.Ytidcbboonjenhaa
open Go.RowKit Classical Go.Proofs.Ytidcbboonjenhaa.Slt
/-- the boxes of Halt -/
structure RH (w : World) (l : List Int) (W : World) : Prop where
  b0 : Bx 43 w.heap.size l W
  b1 : Bx 43 (w.heap.size + 1) zb W
  bel : Below w.heap.size w W
theorem RH.on {w : World} {l : List Int} {W W' : World} (h : RH w l W) (hb : Below W.heap.size W W') : RH w l W' := ⟨h.b0.on hb, h.b1.on hb, Kt.bthen h.bel hb⟩
theorem RH.start (w : World) (l : List Int) : RH w l ((w.alloc (.cells (Kt.ia .i64 l) 43)).alloc (.cells (Kt.ia .i64 zb) 43)) := by
  have h1 : Bx 43 w.heap.size l (w.alloc (.cells (Kt.ia .i64 l) 43)) := heap_alloc_new w _
  have h2 : Bx 43 (w.alloc (.cells (Kt.ia .i64 l) 43)).heap.size zb ((w.alloc (.cells (Kt.ia .i64 l) 43)).alloc (.cells (Kt.ia .i64 zb) 43)) := heap_alloc_new _ _
  have e1 : (w.alloc (.cells (Kt.ia .i64 l) 43)).heap.size = w.heap.size + 1 := by simp
  rw [e1] at h2
  exact ⟨h1.on (Kt.balloc (Below.refl _ _) _), h2, Kt.balloc (Kt.balloc (Below.refl _ _) _) _⟩
def HaltIs (l : List Int) (s e : Int) (w : World) (en : Ending) (w' : World) : Prop := ∃ h, Halted l s e h ∧ h.length = 594 ∧ en = .returned (.agg (Kt.ia .i64 h)) ∧ Below w.heap.size w w'
set_option maxRecDepth 100000 in
set_option maxHeartbeats 3200000 in
theorem halt_calls (l : List Int) (hl : l.length = 594) (s e : Int) (w : World) : Calls Try.prog 25 #[.agg (Kt.ia .i64 l), .int .i64 s, .int .i64 e] w (HaltIs l s e w) := by
  have Z0 := zero_board
  have HC := Lib.hid (fun W => check_calls l hl W)
  have hsz : (Try.prog.info? 43).map (·.size) = some l.length := by rw [hl]; exact size_board
  have hz : zb.length = l.length := by rw [zb_len, hl]
  have HR := Lib.hid (RH.start w l)
  have b0 := HR.out.b0
  go_enter Try.func25, Try.ntmps25
  go_wp2_with (refine load_bx rfl 43 (.tmp 3) rfl w.heap.size rfl l b0 Try.underlying43 hsz ?_)
  refine (HC.out _).mono ?_
  rintro en w1 ⟨rfl, hb⟩
  replace HR := Lib.hid (HR.out.on hb)
  replace b0 := HR.out.b0
  have b1 := HR.out.b1
  clear hb
  by_cases hbad : ¬ Ok l ∨ (Ok l ∧ s < 1) ∨ (Ok l ∧ 1 ≤ s ∧ 8 < s) ∨ (Ok l ∧ 1 ≤ s ∧ s ≤ 8 ∧ e < 1) ∨ (Ok l ∧ 1 ≤ s ∧ s ≤ 8 ∧ 1 ≤ e ∧ 31 < e)
  · have HH := Lib.hid (Halted.no (l := l) (s := s) (e := e) (by rintro ⟨q1, q2, q3, q4, q5, _⟩; rcases hbad with h | ⟨_, h⟩ | ⟨_, _, h⟩ | ⟨_, _, _, h⟩ | ⟨_, _, _, _, h⟩ <;> first | exact h q1 | omega))
    rcases hbad with h | ⟨h0, h⟩ | ⟨h0, h1, h⟩ | ⟨h0, h1, h2, h⟩ | ⟨h0, h1, h2, h3, h⟩
    · rw [chk_bad h]
      clear h
      go_wp2_with (first
        | (refine load_bx rfl 43 (.tmp 3) rfl w.heap.size rfl l b0 Try.underlying43 hsz ?_)
        | (refine store_bx rfl 43 (.tmp 6) (.tmp 27) rfl (w.heap.size + 1) rfl l rfl zb b1 hz hsz ?_
           intro W2 hW2 hU2))
      refine bodyPost_ret (v := .agg (Kt.ia .i64 l)) (by simp [results, Try.results25, Act.put, asAddr, ld_bx hW2 Try.underlying43 hsz]) rfl ?_
      exact ⟨l, HH.out, hl, rfl, hU2.to HR.out.bel (by omega)⟩
    all_goals rw [chk_ok h0]
    all_goals clear h0
    · go_wp2_with (first
        | (refine load_bx rfl 43 (.tmp 3) rfl w.heap.size rfl l b0 Try.underlying43 hsz ?_)
        | (refine store_bx rfl 43 (.tmp 6) (.tmp 27) rfl (w.heap.size + 1) rfl l rfl zb b1 hz hsz ?_
           intro W2 hW2 hU2))
      refine bodyPost_ret (v := .agg (Kt.ia .i64 l)) (by simp [results, Try.results25, Act.put, asAddr, ld_bx hW2 Try.underlying43 hsz]) rfl ?_
      exact ⟨l, HH.out, hl, rfl, hU2.to HR.out.bel (by omega)⟩
    all_goals have g1 : decide (s < 1) = false := decide_eq_false (by omega)
    · go_wp2_with (first
        | (refine load_bx rfl 43 (.tmp 3) rfl w.heap.size rfl l b0 Try.underlying43 hsz ?_)
        | (refine store_bx rfl 43 (.tmp 6) (.tmp 27) rfl (w.heap.size + 1) rfl l rfl zb b1 hz hsz ?_
           intro W2 hW2 hU2))
      refine bodyPost_ret (v := .agg (Kt.ia .i64 l)) (by simp [results, Try.results25, Act.put, asAddr, ld_bx hW2 Try.underlying43 hsz]) rfl ?_
      exact ⟨l, HH.out, hl, rfl, hU2.to HR.out.bel (by omega)⟩
    all_goals have g2 : decide (8 < s) = false := decide_eq_false (by omega)
    · go_wp2_with (first
        | (refine load_bx rfl 43 (.tmp 3) rfl w.heap.size rfl l b0 Try.underlying43 hsz ?_)
        | (refine store_bx rfl 43 (.tmp 6) (.tmp 27) rfl (w.heap.size + 1) rfl l rfl zb b1 hz hsz ?_
           intro W2 hW2 hU2))
      refine bodyPost_ret (v := .agg (Kt.ia .i64 l)) (by simp [results, Try.results25, Act.put, asAddr, ld_bx hW2 Try.underlying43 hsz]) rfl ?_
      exact ⟨l, HH.out, hl, rfl, hU2.to HR.out.bel (by omega)⟩
    · have g3 : decide (e < 1) = false := decide_eq_false (by omega)
      go_wp2_with (first
        | (refine load_bx rfl 43 (.tmp 3) rfl w.heap.size rfl l b0 Try.underlying43 hsz ?_)
        | (refine store_bx rfl 43 (.tmp 6) (.tmp 27) rfl (w.heap.size + 1) rfl l rfl zb b1 hz hsz ?_
           intro W2 hW2 hU2))
      refine bodyPost_ret (v := .agg (Kt.ia .i64 l)) (by simp [results, Try.results25, Act.put, asAddr, ld_bx hW2 Try.underlying43 hsz]) rfl ?_
      exact ⟨l, HH.out, hl, rfl, hU2.to HR.out.bel (by omega)⟩
  · have hok : Ok l := Classical.byContradiction fun h => hbad (.inl h)
    obtain ⟨n, rfl, n1, n2⟩ : ∃ n : Nat, s = n ∧ 1 ≤ n ∧ n ≤ 8 := ⟨s.toNat, by
      have : ¬ s < 1 := fun h => hbad (.inr (.inl ⟨hok, h⟩))
      omega, by
      have : ¬ s < 1 := fun h => hbad (.inr (.inl ⟨hok, h⟩))
      omega, by
      have a1 : ¬ s < 1 := fun h => hbad (.inr (.inl ⟨hok, h⟩))
      have a2 : ¬ 8 < s := fun h => hbad (.inr (.inr (.inl ⟨hok, by omega, h⟩)))
      omega⟩
    obtain ⟨k, rfl, k1, k2⟩ : ∃ k : Nat, e = k ∧ 1 ≤ k ∧ k ≤ 31 := ⟨e.toNat, by
      have : ¬ e < 1 := fun h => hbad (.inr (.inr (.inr (.inl ⟨hok, by omega, by omega, h⟩))))
      omega, by
      have : ¬ e < 1 := fun h => hbad (.inr (.inr (.inr (.inl ⟨hok, by omega, by omega, h⟩))))
      omega, by
      have a1 : ¬ e < 1 := fun h => hbad (.inr (.inr (.inr (.inl ⟨hok, by omega, by omega, h⟩))))
      have a2 : ¬ 31 < e := fun h => hbad (.inr (.inr (.inr (.inr ⟨hok, by omega, by omega, by omega, h⟩))))
      omega⟩
    rw [chk_ok hok]
    have HYES := Lib.hid (fun h => Halted.yes (l := l) (s := n) (e := k) hok (by omega) (by omega) (by omega) (by omega) h)
    have HNO := Lib.hid (fun h : ¬ (G l ((n : Int).toNat * 66 + 2 + (k : Int).toNat) = 1) => Halted.no (l := l) (s := n) (e := k) fun q => h q.2.2.2.2.2)
    have g1 : decide ((n : Int) < 1) = false := decide_eq_false (by omega)
    have g2 : decide (8 < (n : Int)) = false := decide_eq_false (by omega)
    have g3 : decide ((k : Int) < 1) = false := decide_eq_false (by omega)
    have g4 : decide (31 < (k : Int)) = false := decide_eq_false (by omega)
    have n9 : (n : Int) < 9 := by omega
    have k32 : (k : Int) < 32 := by omega
    rw [Int.toNat_natCast, Int.toNat_natCast] at HYES HNO
    have c0 := b0.cell (n * 66 + 2 + k) (by omega)
    have q0 := b0.free (n * 66 + 2 + k)
    clear hbad hok n1 n2 k1 k2
    by_cases h1 : G l (n * 66 + 2 + k) = 1
    · have HH := Lib.hid (HYES.out h1)
      rw [h1] at c0
      have b0' := b0.set (n * 66 + 2 + k) 2
      have hu := Lib.hid ((Upd.refl w.heap.size w1).set (n * 66 + 2 + k) (.int .i64 2))
      have b1' := hu.out.box b1 (by omega)
      have hbel' := Lib.hid (hu.out.to HR.out.bel (Nat.le_refl _))
      have hll : (l.set (n * 66 + 2 + k) 2).length = 594 := by rw [List.length_set, hl]
      have hz' : zb.length = (l.set (n * 66 + 2 + k) 2).length := by rw [zb_len, hll]
      have hsz' : (Try.prog.info? 43).map (·.size) = some (l.set (n * 66 + 2 + k) 2).length := by rw [hll]; exact size_board
      clear h1
      go_wp2_with (first
        | (refine load_bx rfl 43 (.tmp 3) rfl w.heap.size rfl _ b0' Try.underlying43 hsz' ?_)
        | (refine store_bx rfl 43 (.tmp 6) (.tmp 40) rfl (w.heap.size + 1) rfl (l.set (n * 66 + 2 + k) 2) rfl zb b1' hz' hsz' ?_
           intro W2 hW2 hU2))
      refine bodyPost_ret (v := .agg (Kt.ia .i64 (l.set (n * 66 + 2 + k) 2))) (by simp [results, Try.results25, Act.put, asAddr, ld_bx hW2 Try.underlying43 hsz']) rfl ?_
      exact ⟨_, HH.out, hll, rfl, hU2.to hbel'.out (by omega)⟩
    · have HH := Lib.hid (HNO.out h1)
      have f1 : (G l (n * 66 + 2 + k) == 1) = false := beq_eq_false_iff_ne.2 h1
      clear h1
      go_wp2_with (first
        | (refine load_bx rfl 43 (.tmp 3) rfl w.heap.size rfl l b0 Try.underlying43 hsz ?_)
        | (refine store_bx rfl 43 (.tmp 6) (.tmp 40) rfl (w.heap.size + 1) rfl l rfl zb b1 hz hsz ?_
           intro W2 hW2 hU2))
      refine bodyPost_ret (v := .agg (Kt.ia .i64 l)) (by simp [results, Try.results25, Act.put, asAddr, ld_bx hW2 Try.underlying43 hsz]) rfl ?_
      exact ⟨l, HH.out, hl, rfl, hU2.to HR.out.bel (by omega)⟩
end Go.Proofs.Ytidcbboonjenhaa
