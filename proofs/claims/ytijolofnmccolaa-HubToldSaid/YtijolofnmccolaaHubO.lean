/- The walks of package hub: on, off. -/
import Derived.Test.YtijolofnmccolaaHubT
import Derived.Test.YtijolofnmccolaaSetR
namespace Go.Proofs.Ytijolofnmccolaa
open Go.RowKit
/-- what 'on' makes of a status -/
def onP (s f : Int) : Option Int := if f = 8 then some (bits .or .i64 s 256) else if f = 4 ∧ bt .and s 1 = true then some (bits .or .i64 (bits .andNot .i64 s 2) 16) else none
/-- what 'off' makes of a port -/
def offP (s t f : Int) : Option (Int × Int) := if f = 1 then some (bits .andNot .i64 s 2, t) else if f = 8 then some (0, t) else if f = 16 then some (s, bits .andNot .i64 t 1) else if f = 17 then some (s, bits .andNot .i64 t 2) else if f = 20 then some (s, bits .andNot .i64 t 16) else none
def OnIs (b o : Nat) (w : World) : Option Int → Ending → World → Prop
  | some s', e, w' => e = .returned (.int .i64 0) ∧ w' = w.setCell ⟨b, o, none⟩ (.int .i64 s')
  | none, e, w' => e = .returned (.int .i64 8) ∧ w' = w
set_option maxHeartbeats 800000 in
theorem on_calls (b o : Nat) (s f : Int) (w : World) (hc : w.cell? ⟨b, o, none⟩ = some (.int .i64 s)) (hf : w.frozen? ⟨b, o, none⟩ = false) : Calls Try.prog 18 #[.pointer (some ⟨b, o, none⟩), .int .i64 f] w (OnIs b o w (onP s f)) := by
  have hz : b < w.heap.size := block_lt_of_cell hc
  by_cases h8 : f = 8
  · have e : onP s f = some (bits .or .i64 s 256) := by unfold onP; rw [if_pos h8]
    rw [e]
    subst h8
    go_enter Try.func18, Try.ntmps18
    go_wp2
    go_ret
    exact ⟨rfl, rfl⟩
  · have e8 : (f == 8) = false := beq_eq_false_iff_ne.2 h8
    by_cases h4 : f = 4
    · cases h1 : bt .and s 1 with
      | true =>
        have e : onP s f = some (bits .or .i64 (bits .andNot .i64 s 2) 16) := by unfold onP; rw [if_neg h8, if_pos ⟨h4, h1⟩]
        rw [e]
        unfold bt at h1
        subst h4
        clear e8
        go_enter Try.func18, Try.ntmps18
        go_wp2
        go_ret
        exact ⟨rfl, rfl⟩
      | false =>
        have e : onP s f = none := by unfold onP; rw [if_neg h8, if_neg (fun c => by rw [h1] at c; exact absurd c.2 (by decide))]
        rw [e]
        unfold bt at h1
        subst h4
        clear e8
        go_enter Try.func18, Try.ntmps18
        go_wp2
        go_ret
        exact ⟨rfl, rfl⟩
    · have e4 : (f == 4) = false := beq_eq_false_iff_ne.2 h4
      have e : onP s f = none := by unfold onP; rw [if_neg h8, if_neg (fun c => h4 c.1)]
      rw [e]
      clear h8 h4
      go_enter Try.func18, Try.ntmps18
      go_wp2
      go_ret
      exact ⟨rfl, rfl⟩
def OffIs (b o : Nat) (w : World) (s t : Int) : Option (Int × Int) → Ending → World → Prop
  | some (s', t'), e, w' => e = .returned (.int .i64 0) ∧ ((t' = t ∧ w' = w.setCell ⟨b, o, none⟩ (.int .i64 s')) ∨ (s' = s ∧ w' = w.setCell ⟨b, o + 1, none⟩ (.int .i64 t')))
  | none, e, w' => e = .returned (.int .i64 8) ∧ w' = w
set_option maxHeartbeats 1600000 in
theorem off_calls (b o : Nat) (s t f : Int) (w : World) (hc : w.cell? ⟨b, o, none⟩ = some (.int .i64 s)) (hc1 : w.cell? ⟨b, o + 1, none⟩ = some (.int .i64 t)) (hf : ∀ i, w.frozen? ⟨b, i, none⟩ = false) : Calls Try.prog 19 #[.pointer (some ⟨b, o, none⟩), .int .i64 f] w (OffIs b o w s t (offP s t f)) := by
  have hz : b < w.heap.size := block_lt_of_cell hc
  by_cases h1 : f = 1
  · have e : offP s t f = some (bits .andNot .i64 s 2, t) := by unfold offP; rw [if_pos h1]
    rw [e]; subst h1
    go_enter Try.func19, Try.ntmps19
    go_wp2
    go_ret
    exact ⟨rfl, .inl ⟨rfl, rfl⟩⟩
  by_cases h8 : f = 8
  · have e : offP s t f = some (0, t) := by unfold offP; rw [if_neg h1, if_pos h8]
    rw [e]; subst h8; clear h1
    go_enter Try.func19, Try.ntmps19
    go_wp2
    go_ret
    exact ⟨rfl, .inl ⟨rfl, rfl⟩⟩
  by_cases h16 : f = 16
  · have e : offP s t f = some (s, bits .andNot .i64 t 1) := by unfold offP; rw [if_neg h1, if_neg h8, if_pos h16]
    rw [e]; subst h16; clear h1 h8
    go_enter Try.func19, Try.ntmps19
    go_wp2
    go_ret
    exact ⟨rfl, .inr ⟨rfl, rfl⟩⟩
  by_cases h17 : f = 17
  · have e : offP s t f = some (s, bits .andNot .i64 t 2) := by unfold offP; rw [if_neg h1, if_neg h8, if_neg h16, if_pos h17]
    rw [e]; subst h17; clear h1 h8 h16
    go_enter Try.func19, Try.ntmps19
    go_wp2
    go_ret
    exact ⟨rfl, .inr ⟨rfl, rfl⟩⟩
  by_cases h20 : f = 20
  · have e : offP s t f = some (s, bits .andNot .i64 t 16) := by unfold offP; rw [if_neg h1, if_neg h8, if_neg h16, if_neg h17, if_pos h20]
    rw [e]; subst h20; clear h1 h8 h16 h17
    go_enter Try.func19, Try.ntmps19
    go_wp2
    go_ret
    exact ⟨rfl, .inr ⟨rfl, rfl⟩⟩
  · have e : offP s t f = none := by unfold offP; rw [if_neg h1, if_neg h8, if_neg h16, if_neg h17, if_neg h20]
    rw [e]
    have e1 : (f == 1) = false := beq_eq_false_iff_ne.2 h1
    have e2 : (f == 8) = false := beq_eq_false_iff_ne.2 h8
    have e3 : (f == 16) = false := beq_eq_false_iff_ne.2 h16
    have e4 : (f == 17) = false := beq_eq_false_iff_ne.2 h17
    have e5 : (f == 20) = false := beq_eq_false_iff_ne.2 h20
    clear h1 h8 h16 h17 h20
    go_enter Try.func19, Try.ntmps19
    go_wp2
    go_ret
    exact ⟨rfl, rfl⟩
end Go.Proofs.Ytijolofnmccolaa
