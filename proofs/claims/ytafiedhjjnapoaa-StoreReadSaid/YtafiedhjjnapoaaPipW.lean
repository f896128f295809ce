/- The walks of package pipe: Step. -/
import Derived.Test.YtafiedhjjnapoaaPipP
import Derived.Test.YtafiedhjjnapoaaAny
namespace Go.Proofs.Ytafiedhjjnapoaa
open Go.RowKit
/-- the value v is the pipe p, wherever its slices lie -/
def PA (w : World) (v : Value) (p : St) : Prop := ∃ L G, v = .agg #[.int .i64 p.s, .int .i64 p.t, L, G] ∧ Kt.Ar w L 1 p.ls.length (sts p.ls) ∧ Kt.Ar w G 1 p.gs.length (sts p.gs)
/-- .. and its slices lie in blocks from B on -/
def PO (w : World) (B : Nat) (v : Value) (p : St) : Prop := ∃ L G, v = .agg #[.int .i64 p.s, .int .i64 p.t, L, G] ∧ Kt.Sl w B 9 1 L p.ls.length (sts p.ls) ∧ Kt.Sl w B 9 1 G p.gs.length (sts p.gs)
theorem PO.pa {w : World} {B : Nat} {v : Value} {p : St} (h : PO w B v p) : PA w v p := by
  obtain ⟨L, G, e, h1, h2⟩ := h
  exact ⟨L, G, e, Kt.Ar.of_sl h1, Kt.Ar.of_sl h2⟩
theorem PA.on {w w' : World} {v : Value} {p : St} (h : PA w v p) (b : Below w.heap.size w w') : PA w' v p := by
  obtain ⟨L, G, e, h1, h2⟩ := h
  exact ⟨L, G, e, h1.on b, h2.on b⟩
theorem PO.on {w w' : World} {B : Nat} {v : Value} {p : St} (h : PO w B v p) (b : Below w.heap.size w w') : PO w' B v p := by
  obtain ⟨L, G, e, h1, h2⟩ := h
  exact ⟨L, G, e, h1.on b, h2.on b⟩
theorem PO.mono {w : World} {B B' : Nat} {v : Value} {p : St} (h : PO w B v p) (hb : B' ≤ B) : PO w B' v p := by
  obtain ⟨L, G, e, h1, h2⟩ := h
  exact ⟨L, G, e, h1.mono hb, h2.mono hb⟩
def zeroP : Value := .agg #[.int .i64 0, .int .i64 0, .slice none 0 0, .slice none 0 0]
/-- what a call that hands back a pipe leaves -/
def Gives (w : World) (p : St) (e : Ending) (w' : World) : Prop := ∃ v, e = .returned (.tuple #[v, .int .i64 0]) ∧ PO w' w.heap.size v p ∧ Below w.heap.size w w'
def Fails (w : World) (n : Int) (e : Ending) (w' : World) : Prop := e = .returned (.tuple #[zeroP, .int .i64 n]) ∧ Below w.heap.size w w'
theorem bit_true (n : Int) (h : n = 0 ∨ n = 1) (w : World) : Calls Try.prog 78 #[.int .i64 n] w fun e w' => e = .returned (.bool true) ∧ w = w' := by
  rcases h with rfl | rfl
  all_goals
    go_enter Try.func78, Try.ntmps78
    go_wp2
    go_ret
    exact ⟨rfl, rfl⟩
theorem bit_false (n : Int) (h0 : (n == 0) = false) (h1 : (n == 1) = false) (w : World) : Calls Try.prog 78 #[.int .i64 n] w fun e w' => e = .returned (.bool false) ∧ w = w' := by
  go_enter Try.func78, Try.ntmps78
  go_wp2
  go_ret
  exact ⟨rfl, rfl⟩
theorem known_true (n : Int) (h : 1 ≤ n ∧ n ≤ 5) (w : World) : Calls Try.prog 79 #[.int .i64 n] w fun e w' => e = .returned (.bool true) ∧ w = w' := by
  obtain ⟨h1, h2⟩ := h
  have d1 : decide (n ≤ 5) = true := by simpa using h2
  go_enter Try.func79, Try.ntmps79
  go_wp2
  go_ret
  exact ⟨rfl, rfl⟩
theorem known_false (n : Int) (h : n < 1 ∨ 5 < n) (w : World) : Calls Try.prog 79 #[.int .i64 n] w fun e w' => e = .returned (.bool false) ∧ w = w' := by
  rcases h with h | h
  · go_enter Try.func79, Try.ntmps79
    go_wp2
    go_ret
    exact ⟨rfl, rfl⟩
  · have h1 : 1 ≤ n := by omega
    have d1 : decide (n ≤ 5) = false := decide_eq_false (by omega)
    go_enter Try.func79, Try.ntmps79
    go_wp2
    go_ret
    exact ⟨rfl, rfl⟩
set_option maxHeartbeats 800000 in
theorem step_arg (V : Value) (p : St) (f : Int) (w : World) (hp : PA w V p) (h : (((p.s == 0) = false ∧ (p.s == 1) = false) ∨ ((p.s = 0 ∨ p.s = 1) ∧ (p.t == 0) = false ∧ (p.t == 1) = false)) ∨ ((p.s = 0 ∨ p.s = 1) ∧ (p.t = 0 ∨ p.t = 1) ∧ (f < 1 ∨ 5 < f))) :
    Calls Try.prog 72 #[V, .int .i64 f] w (Fails w 1) := by
  obtain ⟨L, G, rfl, hL, hG⟩ := hp
  obtain ⟨LA, lc, rfl, _, _⟩ := hL.form
  obtain ⟨GA, gc, rfl, _, _⟩ := hG.form
  clear hL hG
  rcases h with (⟨h1, h2⟩ | ⟨h1, h2, h3⟩) | ⟨h1, h2, h3⟩
  · go_enter Try.func72, Try.ntmps72
    go_wp2_with (go_at_call 78; refine (bit_false _ h1 h2 _).mono ?_; rintro en w' ⟨rfl, rfl⟩)
    refine bodyPost_ret (v := .tuple #[zeroP, .int .i64 1]) (by simp [zeroP, results, Try.results72, go_sem]) rfl ⟨rfl, ?_⟩
    exact Kt.balloc (Kt.balloc (Below.refl _ w) _) _
  · go_enter Try.func72, Try.ntmps72
    go_wp2_with (first | (go_at_call 78; (with_reducible refine (bit_true p.s h1 _).mono ?_); rintro en w' ⟨rfl, rfl⟩) | (go_at_call 78; (with_reducible refine (bit_false p.t h2 h3 _).mono ?_); rintro en w' ⟨rfl, rfl⟩))
    refine bodyPost_ret (v := .tuple #[zeroP, .int .i64 1]) (by simp [zeroP, results, Try.results72, go_sem]) rfl ⟨rfl, ?_⟩
    exact Kt.balloc (Kt.balloc (Below.refl _ w) _) _
  · go_enter Try.func72, Try.ntmps72
    go_wp2_with (first | (go_at_call 78; (with_reducible refine (bit_true p.s h1 _).mono ?_); rintro en w' ⟨rfl, rfl⟩) | (go_at_call 78; (with_reducible refine (bit_true p.t h2 _).mono ?_); rintro en w' ⟨rfl, rfl⟩) | (go_at_call 79; (with_reducible refine (known_false f h3 _).mono ?_); rintro en w' ⟨rfl, rfl⟩))
    refine bodyPost_ret (v := .tuple #[zeroP, .int .i64 1]) (by simp [zeroP, results, Try.results72, go_sem]) rfl ⟨rfl, ?_⟩
    exact Kt.balloc (Kt.balloc (Below.refl _ w) _) _
set_option maxHeartbeats 800000 in
theorem step_large (V : Value) (p : St) (f : Int) (w : World) (hp : PA w V p) (h1 : p.s = 0 ∨ p.s = 1) (h2 : p.t = 0 ∨ p.t = 1) (h3 : 1 ≤ f ∧ f ≤ 5) (h : (200 : Int) < p.ls.length ∨ ((p.ls.length : Int) ≤ 200 ∧ (200 : Int) < p.gs.length)) :
    Calls Try.prog 72 #[V, .int .i64 f] w (Fails w 2) := by
  obtain ⟨L, G, rfl, hL, hG⟩ := hp
  obtain ⟨LA, lc, rfl, _, _⟩ := hL.form
  obtain ⟨GA, gc, rfl, _, _⟩ := hG.form
  clear hL hG
  rcases h with h4 | ⟨h4, h5⟩
  all_goals
    go_enter Try.func72, Try.ntmps72
    go_wp2_with (first | (go_at_call 78; (with_reducible refine (bit_true p.s h1 _).mono ?_); rintro en w' ⟨rfl, rfl⟩) | (go_at_call 78; (with_reducible refine (bit_true p.t h2 _).mono ?_); rintro en w' ⟨rfl, rfl⟩) | (go_at_call 79; (with_reducible refine (known_true f h3 _).mono ?_); rintro en w' ⟨rfl, rfl⟩))
    refine bodyPost_ret (v := .tuple #[zeroP, .int .i64 2]) (by simp [zeroP, results, Try.results72, go_sem]) rfl ⟨rfl, ?_⟩
    exact Kt.balloc (Kt.balloc (Below.refl _ w) _) _
end Go.Proofs.Ytafiedhjjnapoaa
