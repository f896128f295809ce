/- The walks of package strike: arguments, Join. -/
import Derived.Test.YtafiedhjjnapoaaStkW
import Derived.Test.YtafiedhjjnapoaaPipU
import Derived.Test.YtafiedhjjnapoaaShelf
namespace Go.Proofs.Ytafiedhjjnapoaa
open Go.RowKit
def ics (l : List Int) : List Value := l.map (Value.int .i64)
theorem ics_len (a : List Int) : (ics a).length = a.length := by simp [ics]
/-- what a transfer takes -/
structure OkArgs (t : ByteArray) (s : Int) (fs : List Int) : Prop where
  s1 : 1 ≤ s
  s2 : s ≤ 64
  tz : t.size ≤ 4096
  n : (chop s.toNat t).length ≤ 200
  f : fs.length ≤ 1000
  all : ∀ k (h : k < fs.length), fated fs[k]
/-- what is told of arguments that are not right -/
def errC (t : ByteArray) (s : Int) (fs : List Int) : Int := if s < 1 ∨ 64 < s then 1 else if 4096 < t.size then 2 else if 200 < (chop s.toNat t).length ∨ 1000 < fs.length then 2 else 1
def Args (t : ByteArray) (s : Int) (fs : List Int) (w : World) (e : Ending) (w' : World) : Prop :=
  (OkArgs t s fs ∧ Pieces w (chop s.toNat t) e w') ∨ (¬ OkArgs t s fs ∧ ∃ n : Int, (n ≠ 0 ∧ n = errC t s fs) ∧ e = .returned (.tuple #[.slice none 0 0, .int .i64 n]) ∧ Below w.heap.size w w')
set_option maxHeartbeats 800000 in
theorem args_early (t : ByteArray) (s : Int) (fs : List Int) (U : Value) (w : World) (h : (s < 1 ∨ (1 ≤ s ∧ 64 < s)) ∨ (1 ≤ s ∧ s ≤ 64 ∧ (4096 : Int) < t.size)) : Calls Try.prog 70 #[.string t, .int .i64 s, U] w (Args t s fs w) := by
  have HN := Lib.hid (show ¬ OkArgs t s fs from fun ⟨a, b, c, _, _, _⟩ => by omega)
  rcases h with h | ⟨h1, h2, h3⟩
  · have HE : Hid (1 = errC t s fs) := Lib.hid (by unfold errC; rw [if_pos (by omega)])
    have HH := Lib.hid h; clear h
    go_enter Try.func70, Try.ntmps70
    go_wp2_with fail
    refine (split_bad _ _ _ HH.out).mono ?_
    rintro en w1 ⟨rfl, rfl⟩
    go_wp2_with fail
    go_ret2
    exact .inr ⟨HN.out, 1, ⟨by omega, HE.out⟩, rfl, Below.refl _ _⟩
  · have HE : Hid (2 = errC t s fs) := Lib.hid (by unfold errC; rw [if_neg (by omega), if_pos (by omega)])
    go_enter Try.func70, Try.ntmps70
    go_wp2_with fail
    refine (split_large _ _ _ h1 h2 h3).mono ?_
    rintro en w1 ⟨rfl, rfl⟩
    go_wp2_with fail
    go_ret2
    exact .inr ⟨HN.out, 2, ⟨by omega, HE.out⟩, rfl, Below.refl _ _⟩
set_option maxHeartbeats 800000 in
theorem args_many (t : ByteArray) (s : Nat) (fs : List Int) (U : Value) (w : World) (hU : Kt.Ar w U 1 fs.length (ics fs)) (h1 : 1 ≤ s) (h2 : s ≤ 64) (h3 : t.size ≤ 4096) (h : (200 : Int) < (chop s t).length ∨ (((chop s t).length : Int) ≤ 200 ∧ (1000 : Int) < fs.length)) : Calls Try.prog 70 #[.string t, .int .i64 s, U] w (Args t s fs w) := by
  have HN := Lib.hid (show ¬ OkArgs t s fs from fun ⟨_, _, _, a, b, _⟩ => by rw [Int.toNat_natCast] at a; omega)
  have HE : Hid (2 = errC t s fs) := Lib.hid (by unfold errC; rw [if_neg (by omega), if_neg (by omega), if_pos (by rw [Int.toNat_natCast]; omega)])
  obtain ⟨UA, uc, rfl, _, _⟩ := hU.form
  clear hU
  have HSP := Lib.hid (split_ok t s w h1 h2 h3)
  generalize chop s t = l at *
  rcases h with h | ⟨h, h4⟩
  all_goals
    go_enter Try.func70, Try.ntmps70
    go_wp2_with fail
    refine HSP.out.mono ?_
    rintro en w1 ⟨V, rfl, hs, hb⟩
    obtain ⟨VA, vc, rfl, _, _⟩ := hs.form
    clear hs
    go_wp2_with fail
    go_ret2
    exact .inr ⟨HN.out, 2, ⟨by omega, HE.out⟩, rfl, hb⟩
set_option maxHeartbeats 1600000 in
theorem args_main (t : ByteArray) (s : Nat) (fs : List Int) (U : Value) (w : World) (hU : Kt.Ar w U 1 fs.length (ics fs)) (h1 : 1 ≤ s) (h2 : s ≤ 64) (h3 : t.size ≤ 4096) (h4 : ((chop s t).length : Int) ≤ 200) (h5 : (fs.length : Int) ≤ 1000) : Calls Try.prog 70 #[.string t, .int .i64 s, U] w (Args t s fs w) := by
  have HOK := Lib.hid (show (∀ k (h : k < fs.length), fated fs[k]) → OkArgs t s fs from fun a => ⟨by omega, by omega, h3, by rw [Int.toNat_natCast]; omega, by omega, a⟩)
  have HE : Hid (1 = errC t s fs) := Lib.hid (by unfold errC; rw [if_neg (by omega), if_neg (by omega), if_neg (by rw [Int.toNat_natCast]; omega)])
  have HCS := Lib.hid (show chop (s : Int).toNat t = chop s t by rw [Int.toNat_natCast])
  obtain ⟨UA, uc, rfl, huc, hcells⟩ := hU.form
  clear hU
  have HSP := Lib.hid (split_ok t s w h1 h2 h3)
  generalize chop s t = l at *
  have d1 : decide ((200 : Int) < l.length) = false := decide_eq_false (by omega)
  have d2 : decide ((1000 : Int) < fs.length) = false := decide_eq_false (by omega)
  go_enter Try.func70, Try.ntmps70
  go_wp2_with fail
  refine HSP.out.mono ?_
  rintro en w1 ⟨V, rfl, hs, hb⟩
  have HS := Lib.hid hs
  obtain ⟨VA, vc, rfl, _, _⟩ := hs.form
  clear hs
  go_wp2_with fail
  go_loop [33] (fun i => ∃ k : Nat, k ≤ fs.length ∧ i = .int .i64 k ∧ Hid (∀ j (h : j < fs.length), j < k → fated fs[j])) (fun i => fs.length - (intOf i).toNat)
  case atStart => exact ⟨0, Nat.zero_le _, rfl, Lib.hid fun j _ h => absurd h (by omega)⟩
  case round =>
    obtain ⟨k, hk, rfl, HA⟩ := hrel
    by_cases hlt : k < fs.length
    · obtain ⟨b, o, rfl, hb0, hx⟩ := hcells (by omega)
      have hcell : w1.cell? ⟨b, o + k, none⟩ = some (.int .i64 fs[k]) := (hb.cell (p := ⟨b, o + k, none⟩) hb0).trans ((hx k (by rw [ics_len]; exact hlt)).trans (by simp [ics]))
      clear hx hcells
      by_cases hf : fated fs[k]
      · have HN := Lib.hid (show ∀ j (h : j < fs.length), j < k + 1 → fated fs[j] from fun j hj hjk => by
          by_cases e : j = k
          · subst e; exact hf
          · exact HA.out j hj (by omega))
        obtain ⟨f1, f2⟩ := hf
        generalize fs[k] = f at *
        have e1 : decide (f < 1) = false := decide_eq_false (by omega)
        have e2 : decide (5 < f) = false := decide_eq_false (by omega)
        go_wp2_with fail
        go_round
        case rel => exact ⟨k + 1, by omega, by go_num, HN⟩
        case measure => simp [intOf]; omega
      · have HN := Lib.hid (show ¬ OkArgs t s fs from fun a => hf (a.all k hlt))
        have hf2 : fs[k] < 1 ∨ (1 ≤ fs[k] ∧ 5 < fs[k]) := by unfold fated at hf; omega
        clear hf
        generalize fs[k] = f at *
        rcases hf2 with hf | ⟨hf, hf2⟩
        all_goals
          go_wp2_with fail
          go_ret2
          exact .inr ⟨HN.out, 1, ⟨by omega, HE.out⟩, rfl, hb⟩
    · have HALL := Lib.hid (HOK.out fun j hj => HA.out j hj (by omega))
      clear hcells
      go_wp2_with fail
      go_ret2
      exact .inl ⟨HALL.out, _, rfl, by rw [HCS.out]; exact HS.out, hb⟩
theorem args_calls (t : ByteArray) (s : Int) (fs : List Int) (U : Value) (w : World) (hU : Kt.Ar w U 1 fs.length (ics fs)) : Calls Try.prog 70 #[.string t, .int .i64 s, U] w (Args t s fs w) := by
  by_cases h1 : s < 1
  · exact args_early t s fs U w (.inl (.inl h1))
  by_cases h2 : 64 < s
  · exact args_early t s fs U w (.inl (.inr ⟨by omega, h2⟩))
  by_cases h3 : (4096 : Int) < t.size
  · exact args_early t s fs U w (.inr ⟨by omega, by omega, h3⟩)
  obtain ⟨n, rfl⟩ : ∃ n : Nat, s = n := ⟨s.toNat, by omega⟩
  by_cases h4 : (200 : Int) < (chop n t).length
  · exact args_many t n fs U w hU (by omega) (by omega) (by omega) (.inl h4)
  by_cases h5 : (1000 : Int) < fs.length
  · exact args_many t n fs U w hU (by omega) (by omega) (by omega) (.inr ⟨by omega, h5⟩)
  exact args_main t n fs U w hU (by omega) (by omega) (by omega) (by omega) (by omega)
end Go.Proofs.Ytafiedhjjnapoaa
