/- budget: periods, arguments walked. -/
import Derived.Test.YthmcnopogahffaaBudP
import Derived.Test.YthmcnopogahffaaSlm
import Derived.Test.YthmcnopogahffaaArg
namespace Go.Proofs.Ythmcnopogahffaa
open Go.RowKit Go.Proofs.Ythmcnopogahffaa.Bud
def pwI (n : Int) : Bool := decide (n = 1 ∨ n = 2 ∨ n = 4 ∨ n = 8 ∨ n = 16 ∨ n = 32)
theorem pw_bits (n : Int) (h1 : 1 ≤ n) (h2 : n ≤ 32) : pwI n = (bits BinOp.and IntKind.i64 n (n - 1) == 0) := by
  obtain ⟨m, rfl⟩ : ∃ m : Nat, n = (m : Int) := ⟨n.toNat, by omega⟩
  exact (by decide +kernel : ∀ m : Fin 33, 1 ≤ (m.val : Int) → pwI (m.val : Int) = (bits BinOp.and IntKind.i64 (m.val : Int) ((m.val : Int) - 1) == 0)) ⟨m, by omega⟩ h1
def args (lanes : Int) (ps : List Int) : Int := if lanes < 1 ∨ 8 < lanes then 1 else if 64 < ps.length then 2 else if ps.all pwI then 0 else 1
set_option maxRecDepth 100000 in
set_option maxHeartbeats 1600000 in
theorem period_calls (n : Int) (w : World) : Calls Try.prog 24 #[.int .i64 n] w fun e w' => e = .returned (.bool (pwI n)) ∧ Below w.heap.size w w' := by
  by_cases h1 : 1 ≤ n
  · by_cases h2 : n ≤ 32
    · go_enter Try.func24, Try.ntmps24
      go_wp2_with fail
      go_ret
      exact ⟨by rw [pw_bits n h1 h2]; rfl, Below.refl _ _⟩
    · have HR : Hid (pwI n = false) := Lib.hid (by unfold pwI; rw [decide_eq_false_iff_not]; omega)
      go_enter Try.func24, Try.ntmps24
      go_wp2_with fail
      go_ret
      exact ⟨by rw [HR.out]; rfl, Below.refl _ _⟩
  · have HR : Hid (pwI n = false) := Lib.hid (by unfold pwI; rw [decide_eq_false_iff_not]; omega)
    go_enter Try.func24, Try.ntmps24
    go_wp2_with fail
    go_ret
    exact ⟨by rw [HR.out]; rfl, Below.refl _ _⟩
def iv (ps : List Int) : List Value := ps.map (Value.int .i64)
theorem Kt.Ar.intAt {w : World} {V : Value} {l : List Int} {n : Nat} (h : Kt.Ar w V 1 n (iv l)) (k : Nat) (hk : k < l.length) : ∃ b o c, V = .slice (some ⟨b, o, none⟩) n c ∧ b < w.heap.size ∧ w.cell? ⟨b, o + k, none⟩ = some (.int .i64 l[k]) := by
  obtain ⟨A, c, e, _, hx⟩ := h.form
  have hn : n = l.length := by have := h.len; simp [iv] at this; omega
  obtain ⟨b, o, rfl, hb, hc⟩ := hx (by omega)
  refine ⟨b, o, c, e, hb, ?_⟩
  rw [hc k (by simp [iv]; exact hk)]
  simp [iv]
theorem lt_int40 {p n : Nat} (h : p < n) : (p : Int) < n := by omega
theorem i40 {k n : Nat} (h : k < n) (hn : n ≤ 17592186044416) : wrap64 ((k : Int) + 1) = ((k + 1 : Nat) : Int) := by unfold wrap64; omega
theorem meas_up {k n : Nat} (h : k < n) : n - (intOf (.int .i64 ((k + 1 : Nat) : Int))).toNat < n - (intOf (.int .i64 (k : Int))).toNat := by simp [intOf]; omega
theorem all_step {ps : List Int} {k : Nat} (hk : k < ps.length) (HP : ∀ j (h : j < ps.length), j < k → pwI ps[j] = true) (hq : pwI ps[k] = true) : ∀ j (h : j < ps.length), j < k + 1 → pwI ps[j] = true := fun j h hj => by
  by_cases e : j = k
  · subst e; exact hq
  · exact HP j h (by omega)
theorem all_yes {ps : List Int} (HP : ∀ j (h : j < ps.length), j < ps.length → pwI ps[j] = true) : ps.all pwI = true := by
  rw [List.all_eq_true]
  intro x hx
  obtain ⟨j, hj, rfl⟩ := List.mem_iff_getElem.1 hx
  exact HP j hj hj
theorem all_no {ps : List Int} {k : Nat} (hk : k < ps.length) (hq : pwI ps[k] = false) : ps.all pwI = false := by
  rw [List.all_eq_false]
  exact ⟨_, List.getElem_mem hk, by simp [hq]⟩
set_option maxRecDepth 100000 in
set_option maxHeartbeats 1600000 in
theorem args_calls (lanes : Int) (ps : List Int) (V : Value) (w : World) (hv : Kt.Ar w V 1 ps.length (iv ps)) (hm : ps.length ≤ 17592186044416) : Calls Try.prog 19 #[V, .int .i64 lanes] w fun e w' => e = .returned (.int .i64 (args lanes ps)) ∧ Below w.heap.size w w' := by
  obtain ⟨A0, c0, rfl, _, _⟩ := hv.form
  have HV := Lib.hid hv; have HM := Lib.hid hm
  clear hv
  by_cases h1 : lanes < 1
  · have HR : Hid (args lanes ps = 1) := Lib.hid (by unfold args; rw [if_pos (.inl h1)])
    go_enter Try.func19, Try.ntmps19
    go_wp2_with fail
    go_ret
    exact ⟨by rw [HR.out]; rfl, Below.refl _ _⟩
  by_cases h2 : 8 < lanes
  · have HR : Hid (args lanes ps = 1) := Lib.hid (by unfold args; rw [if_pos (.inr h2)])
    go_enter Try.func19, Try.ntmps19
    go_wp2_with fail
    go_ret
    exact ⟨by rw [HR.out]; rfl, Below.refl _ _⟩
  by_cases h3 : 64 < ps.length
  · have HR : Hid (args lanes ps = 2) := Lib.hid (by unfold args; rw [if_neg (by omega), if_pos h3])
    have h4 : (64 : Int) < ps.length := by omega
    go_enter Try.func19, Try.ntmps19
    go_wp2_with fail
    go_ret
    exact ⟨by rw [HR.out]; rfl, Below.refl _ _⟩
  have HE : Hid (args lanes ps = if ps.all pwI then 0 else 1) := Lib.hid (by unfold args; rw [if_neg (by omega), if_neg h3])
  have h4 : ¬ (64 : Int) < ps.length := by omega
  have H3 := Lib.hid h3
  clear h3 hm
  go_enter Try.func19, Try.ntmps19
  go_wp2_with fail
  go_loopw [20] (fun i wr => ∃ (k : Nat), k ≤ ps.length ∧ i = .int .i64 k ∧ Hid (∀ j (h : j < ps.length), j < k → pwI ps[j] = true) ∧ Hid (Below w.heap.size w wr)) (fun i _ => ps.length - (intOf i).toNat)
  case atStart => exact ⟨0, Nat.zero_le _, rfl, Lib.hid (fun j h hj => absurd hj (by omega)), Lib.hid (Below.refl _ _)⟩
  case round =>
    obtain ⟨k, hk, rfl, HP, HB⟩ := hrel
    by_cases hlt : k < ps.length
    · obtain ⟨b, o, c, hve, hb0, q1⟩ := Kt.Ar.intAt (HV.out.on HB.out) k hlt
      cases hve
      obtain ⟨x, hx⟩ : ∃ x, x = ps[k] := ⟨_, rfl⟩
      rw [← hx] at q1
      have e1 := lt_int40 hlt
      have HC1 := Lib.hid (period_calls x wr)
      have hw := i40 hlt HM.out
      have HW := Lib.hid hw
      have HLT := Lib.hid hlt
      have HX := Lib.hid hx
      clear hw hx hk
      obtain ⟨q, hq⟩ : ∃ q, q = pwI x := ⟨_, rfl⟩
      have HQ := Lib.hid hq
      rw [← hq] at HC1
      clear hq
      go_wp2_with fail
      refine HC1.out.mono ?_
      rintro _ w1 ⟨rfl, hb⟩
      have HB1 := Lib.hid (Kt.bthen HB.out hb)
      clear hb HC1
      cases q with
      | true =>
        have HPN := Lib.hid (all_step HLT.out HP.out (by rw [← HX.out]; exact HQ.out.symm))
        go_wp2_with fail
        go_roundw
        case rel => exact ⟨k + 1, HLT.out, congrArg _ (by first | rfl | exact HW.out), HPN, HB1⟩
        case measure => (try rw [HW.out]); exact meas_up HLT.out
      | false =>
        have HA := Lib.hid (all_no HLT.out (by rw [← HX.out]; exact HQ.out.symm))
        go_wp2_with fail
        go_ret
        exact ⟨by rw [HE.out, HA.out]; rfl, HB1.out⟩
    · have e1 : ¬ (k : Int) < ps.length := fun h => hlt (Int.ofNat_lt.1 h)
      have HA : Hid (ps.all pwI = true) := Lib.hid (all_yes (fun j h _ => HP.out j h (by omega)))
      clear hlt
      go_wp2_with fail
      go_ret
      exact ⟨by rw [HE.out, HA.out]; rfl, HB.out⟩
end Go.Proofs.Ythmcnopogahffaa
