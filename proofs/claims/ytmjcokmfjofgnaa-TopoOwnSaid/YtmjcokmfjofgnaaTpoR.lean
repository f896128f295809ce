/- Ways: right ones: walked. -/
import Derived.Test.YtmjcokmfjofgnaaRouX
import Derived.Test.YtmjcokmfjofgnaaSlc
namespace Go.Proofs.Ytmjcokmfjofgnaa
open Go.RowKit Go.Proofs.Ytmjcokmfjofgnaa.Rou
def okP (l : List Int) : Prop := ∀ j (h : j < l.length), 1 ≤ l[j] ∧ l[j] ≤ 15
open Classical in
noncomputable def chk (l : List Int) : Int := if l.length = 0 then 1 else if 6 < l.length then 2 else if okP l then 0 else 1
theorem chk_zero {l : List Int} (h : chk l = 0) : 1 ≤ l.length ∧ l.length ≤ 6 ∧ okP l := by
  unfold chk at h
  split at h
  · cases h
  split at h
  · cases h
  split at h
  · next h1 h2 h3 => exact ⟨by omega, by omega, h3⟩
  · cases h
theorem chk_bad {l : List Int} {k : Nat} (h0 : l.length ≠ 0) (h6 : ¬ 6 < l.length) (hk : k < l.length) (h : ¬ (1 ≤ l[k] ∧ l[k] ≤ 15)) : chk l = 1 := by
  unfold chk
  rw [if_neg h0, if_neg h6, if_neg (fun q => h (q k hk))]
theorem chk_ok {l : List Int} (h0 : l.length ≠ 0) (h6 : ¬ 6 < l.length) (h : okP l) : chk l = 0 := by
  unfold chk
  rw [if_neg h0, if_neg h6, if_pos h]
theorem rcheck_calls (l : List Int) (A : Option Addr) (c : Nat) (w : World) (h : Wy w A c l) : Calls Try.prog 32 #[.slice A l.length c] w fun e w' => e = .returned (.int .i64 (chk l)) ∧ w = w' := by
  have HA := Lib.hid h
  clear h
  by_cases h0 : l.length = 0
  · have e : chk l = 1 := if_pos h0
    rw [e, h0]
    go_enter Try.func32, Try.ntmps32
    go_wp2_with fail
    go_ret
    exact ⟨rfl, rfl⟩
  · have f0 : ((l.length : Int) == 0) = false := by rw [beq_eq_false_iff_ne]; omega
    by_cases h6 : 6 < l.length
    · have e : chk l = 2 := by unfold chk; rw [if_neg h0, if_pos h6]
      rw [e]
      have f6 : (6 : Int) < l.length := by omega
      clear h0
      go_enter Try.func32, Try.ntmps32
      go_wp2_with fail
      go_ret
      exact ⟨rfl, rfl⟩
    · have f6 : ¬ (6 : Int) < l.length := by omega
      have H6 := Lib.hid (And.intro h0 h6)
      clear h0 h6
      go_enter Try.func32, Try.ntmps32
      go_wp2_with fail
      go_loopw [15] (fun ii wr => ∃ k : Nat, ii = .int .i64 k ∧ Hid (k ≤ l.length ∧ ∀ j (h : j < l.length), j < k → 1 ≤ l[j] ∧ l[j] ≤ 15) ∧ w = wr) (fun ii _ => l.length - (intOf ii).toNat)
      case atStart => exact ⟨0, rfl, Lib.hid ⟨Nat.zero_le _, fun j _ h => absurd h (Nat.not_lt_zero _)⟩, rfl⟩
      case round =>
        obtain ⟨k, rfl, HK, rfl⟩ := hrel
        by_cases hk : k < l.length
        · obtain ⟨b, o, rfl, _, c1⟩ := HA.out.cell k hk
          have hk' : (k : Int) < l.length := by omega
          have HH := Lib.hid hk
          by_cases hp : 1 ≤ l[k] ∧ l[k] ≤ 15
          · have p1 : ¬ l[k] < 1 := by omega
            have p2 : ¬ 15 < l[k] := by omega
            have HP := Lib.hid hp
            clear hp
            go_wp2_with fail
            exact ⟨⟨k + 1, by push_cast; rfl, Lib.hid ⟨Nat.succ_le_of_lt HH.out, fun j h hj => by
              by_cases e : j = k
              · subst e; exact HP.out
              · exact HK.out.2 j h (by omega)⟩, trivial⟩, next_up HH.out⟩
          · have HB := Lib.hid (chk_bad H6.out.1 H6.out.2 hk hp)
            have h2 : l[k] < 1 ∨ (¬ l[k] < 1 ∧ 15 < l[k]) := by omega
            clear hp
            rcases h2 with p1 | ⟨p1, p2⟩
            · go_wp2_with fail
              go_ret
              exact ⟨by rw [HB.out]; rfl, rfl⟩
            · go_wp2_with fail
              go_ret
              exact ⟨by rw [HB.out]; rfl, rfl⟩
        · have hk' : ¬ (k : Int) < l.length := by omega
          have HB := Lib.hid (chk_ok H6.out.1 H6.out.2 (fun j h => HK.out.2 j h (by omega)))
          clear hk
          go_wp2_with fail
          go_ret
          exact ⟨by rw [HB.out]; rfl, rfl⟩
end Go.Proofs.Ytmjcokmfjofgnaa
