/- Disks: form walked. -/
import Derived.Test.YtafiedhjjnapoaaScsW
namespace Go.Proofs.Ytafiedhjjnapoaa
open Go.RowKit Go.Proofs.Ytafiedhjjnapoaa.Scs
theorem has_calls (u : List Nat) (A : Option Addr) (c x : Nat) (w : World) (h : Kt.Ar w (.slice A u.length c) 1 u.length (ints u)) (hu : u.length ≤ 100) : Calls Try.prog 48 #[.slice A u.length c, .int .i64 x] w fun e w' => e = .returned (.bool (decide (x ∈ u))) ∧ w' = w := by
  obtain ⟨A', c', e, _, hx⟩ := h.form
  cases e
  by_cases h0 : u.length = 0
  · obtain rfl : u = [] := List.eq_nil_of_length_eq_zero h0
    exact (Try.slices_Contains_int_empty A c x w).mono fun e w' h => by simpa using h
  · obtain ⟨b, o, rfl, _, hc⟩ := hx (by omega)
    refine (Try.slices_Contains_int b o u.length c (u.map fun (n : Nat) => (n : Int)) x w (by simp) (by omega) (fun j hj => ?_)).mono fun e w' h => ?_
    · have hj' : j < u.length := by simpa using hj
      have := hc j (by simpa [ints] using hj')
      rw [this]
      simp [ints, hj']
    · obtain ⟨rfl, rfl⟩ := h
      refine ⟨?_, rfl⟩
      congr 2
      rw [List.take_of_length_le (by simp), Bool.eq_iff_iff]
      simp only [List.contains_iff_mem, List.mem_map, decide_eq_true_iff]
      exact ⟨fun ⟨a, h1, h2⟩ => by rw [show x = a by omega]; exact h1, fun h => ⟨x, h, rfl⟩⟩
/-- an error as an interface's value -/
def errV (f : Int) : Value := if f = 0 then Value.nilIface else .iface 141 (.int .i64 f)
set_option maxRecDepth 100000 in
set_option maxHeartbeats 1600000 in
theorem form_empty (w : World) : Calls Try.prog 82 #[.string ⟨#[]⟩] w fun e w' => e = .returned (errV 32) ∧ Below w.heap.size w w' := by
  go_enter Try.func82, Try.ntmps82
  go_wp2_with fail
  go_ret
  exact ⟨rfl, Below.refl _ _⟩
theorem used_len {op : Nat} {u : List Nat} (h : used op = some u) : u.length ≤ 100 := by
  unfold used at h
  split at h
  · cases h; decide
  split at h
  · cases h; decide
  split at h
  · cases h; decide
  split at h
  · cases h; decide
  · cases h
theorem next_f {k n : Nat} (h : k < n) : (n - (intOf (.int .i64 ((k : Int) + 1))).toNat : Nat) < n - (intOf (.int .i64 (k : Int))).toNat := by
  simp only [intOf]
  omega
theorem not_empty (c : ByteArray) (h : 0 < c.size) : c.toList.isEmpty = false := by
  rw [Lib.toList_data, List.isEmpty_eq_false_iff]
  intro e
  have : c.data.toList.length = 0 := by rw [e]; rfl
  have h2 : c.size = c.data.toList.length := by rw [Array.length_toList]; rfl
  omega
set_option maxRecDepth 100000 in
set_option maxHeartbeats 3200000 in
theorem form_some (c : ByteArray) (hc : 0 < c.size) (w : World) : Calls Try.prog 82 #[.string c] w fun e w' => e = .returned (errV (formC c)) ∧ Below w.heap.size w w' := by
  have hc' : (0 : Int) < c.size := by omega
  have he := not_empty c hc
  have HB0 := Lib.hid (bt_get c 0 hc)
  have HFC := Lib.hid (fields_calls (c[0]'hc).toNat (by rw [← bt_get c 0 hc]; exact bt_lt _ _) w)
  go_enter Try.func82, Try.ntmps82
  go_wp2_with fail
  refine HFC.out.mono ?_
  rintro en w1 (⟨hu, rfl, rfl⟩ | ⟨u, A, cc, hu, rfl, ha, hb⟩)
  · have HF : Hid (formC c = 32) := Lib.hid (by
      unfold formC
      rw [if_neg (by omega), HB0.out, hu])
    clear hu
    go_wp2_with fail
    go_ret
    exact ⟨by rw [HF.out]; rfl, Below.refl _ _⟩
  have HU : Hid (used (bt c 0) = some u) := Lib.hid (by rw [HB0.out]; exact hu)
  have HUL := Lib.hid (used_len hu)
  have HA := Lib.hid ha
  have HB := Lib.hid hb
  clear hu ha hb HFC
  by_cases hop : bt c 0 < 32
  · have HCL : Hid (clen (bt c 0) = 6) := Lib.hid (by unfold clen; rw [if_pos hop])
    have hlt : (((c[0]'hc).toNat : Int) < 32) := by rw [← HB0.out]; omega
    by_cases hsz : c.size = 6
    · have HS := Lib.hid hsz
      have f5 : ((c.size : Int) != 6) = false := by rw [hsz]; rfl
      clear hsz hop
      go_upto_region 12 with (fail)
      clear f5 hlt
      go_loopw [6] (fun ii wr => ∃ i : Nat, Hid (1 ≤ i ∧ i ≤ 6) ∧ ii = .int .i64 i ∧ Hid (∀ j, 1 ≤ j → j < i → bt c j = 0 ∨ j ∈ u) ∧ wr = w1) (fun ii _ => 6 - (intOf ii).toNat)
      case atStart => exact ⟨1, Lib.hid ⟨by omega, by omega⟩, rfl, Lib.hid (fun j h1 h2 => absurd h2 (by omega)), rfl⟩
      case round =>
        obtain ⟨i, HI, rfl, HP, rfl⟩ := hrel
        by_cases hi : i < 6
        · have hi' : (i : Int) < 6 := by omega
          have hic : i < c.size := by have := HS.out; omega
          have hic' : (i : Int) < c.size := by omega
          have hb := bt_get c i hic
          have HI1 := Lib.hid HI.out.1
          by_cases hz : bt c i = 0
          · have f1 : (((c[i]'hic).toNat : Int) != 0) = false := by rw [← hb, hz]; rfl
            have HN : Hid (∀ j, 1 ≤ j → j < i + 1 → bt c j = 0 ∨ j ∈ u) := Lib.hid fun j h1 h2 => by
              by_cases e : j = i
              · subst e; exact .inl hz
              · exact HP.out j h1 (by omega)
            clear hz hb
            go_wp2_with fail
            exact ⟨⟨i + 1, Lib.hid ⟨Nat.le_succ_of_le HI1.out, hi⟩, rfl, HN, trivial⟩, next_f hi⟩
          · have f1 : (((c[i]'hic).toNat : Int) != 0) = true := by rw [bne_iff_ne, ← hb]; omega
            have HH := Lib.hid (has_calls u A cc i wr HA.out HUL.out)
            by_cases hm : i ∈ u
            · rw [decide_eq_true hm] at HH
              have HN : Hid (∀ j, 1 ≤ j → j < i + 1 → bt c j = 0 ∨ j ∈ u) := Lib.hid fun j h1 h2 => by
                by_cases e : j = i
                · subst e; exact .inr hm
                · exact HP.out j h1 (by omega)
              clear hz hb hm
              go_wp2_with fail
              refine HH.out.mono ?_
              rintro en w3 ⟨rfl, rfl⟩
              go_wp2_with fail
              exact ⟨⟨i + 1, Lib.hid ⟨Nat.le_succ_of_le HI1.out, hi⟩, rfl, HN, trivial⟩, next_f hi⟩
            · rw [decide_eq_false hm] at HH
              have HF36 : Hid (formC c = 36) := Lib.hid (by
                unfold formC
                rw [if_neg (by omega), HU.out]
                simp only
                split
                · rfl
                · rw [if_pos ⟨i, hic, HI.out.1, hz, hm⟩])
              clear hz hb hm
              go_wp2_with fail
              refine HH.out.mono ?_
              rintro en w3 ⟨rfl, rfl⟩
              go_wp2_with fail
              go_ret
              exact ⟨by rw [HF36.out]; rfl, HB.out⟩
        · have hi' : ¬ (i : Int) < 6 := by omega
          have hni : i = 6 := by have := HI.out; omega
          have hb2 := bt_get c 2 (by have := HS.out; omega)
          have h2c : (2 : Int) < c.size := by have := HS.out; omega
          have hnone : ¬ ∃ i, i < c.size ∧ 1 ≤ i ∧ bt c i ≠ 0 ∧ i ∉ u := by
            rintro ⟨j, j1, j2, j3, j4⟩
            rcases HP.out j j2 (by have := HS.out; omega) with h | h
            · exact j3 h
            · exact j4 h
          by_cases h26 : bt c 0 = 26 ∧ bt c 2 ≠ 63
          · have HF36 : Hid (formC c = 36) := Lib.hid (by
              unfold formC
              rw [if_neg (by omega), HU.out]
              simp only
              rw [if_neg (by rw [HCL.out]; exact fun h => h HS.out), if_neg hnone, if_pos h26])
            have f1 : (((c[0]'hc).toNat : Int) == 26) = true := by rw [beq_iff_eq, ← HB0.out]; omega
            have f2 : (((c[2]'(by omega)).toNat : Int) != 63) = true := by rw [bne_iff_ne, ← hb2]; omega
            clear h26 hnone hni hb2
            go_wp2_with fail
            go_ret
            exact ⟨by rw [HF36.out]; rfl, HB.out⟩
          · have HF0 : Hid (formC c = 0) := Lib.hid (by
              unfold formC
              rw [if_neg (by omega), HU.out]
              simp only
              rw [if_neg (by rw [HCL.out]; exact fun h => h HS.out), if_neg hnone, if_neg h26])
            by_cases h0 : bt c 0 = 26
            · have f1 : (((c[0]'hc).toNat : Int) == 26) = true := by rw [beq_iff_eq, ← HB0.out]; omega
              have f2 : (((c[2]'(by omega)).toNat : Int) != 63) = false := by rw [bne_eq_false_iff_eq, ← hb2]; omega
              clear h26 hnone hni hb2 h0
              go_wp2_with fail
              go_ret
              exact ⟨by rw [HF0.out]; rfl, HB.out⟩
            · have f1 : (((c[0]'hc).toNat : Int) == 26) = false := by rw [beq_eq_false_iff_ne, ← HB0.out]; omega
              clear h26 hnone hni hb2 h0
              go_wp2_with fail
              go_ret
              exact ⟨by rw [HF0.out]; rfl, HB.out⟩
    · have HF36 : Hid (formC c = 36) := Lib.hid (by
        unfold formC
        rw [if_neg (by omega), HU.out]
        simp only
        rw [if_pos (by rw [HCL.out]; exact hsz)])
      have f5 : ((c.size : Int) != 6) = true := by rw [bne_iff_ne]; omega
      clear hsz hop
      go_wp2_with fail
      go_ret
      exact ⟨by rw [HF36.out]; rfl, HB.out⟩
  · have HCL : Hid (clen (bt c 0) = 10) := Lib.hid (by unfold clen; rw [if_neg hop])
    have hlt : ¬ (((c[0]'hc).toNat : Int) < 32) := by rw [← HB0.out]; omega
    by_cases hsz : c.size = 10
    · have HS := Lib.hid hsz
      have f5 : ((c.size : Int) != 10) = false := by rw [hsz]; rfl
      clear hsz hop
      go_upto_region 12 with (fail)
      clear f5 hlt
      go_loopw [6] (fun ii wr => ∃ i : Nat, Hid (1 ≤ i ∧ i ≤ 10) ∧ ii = .int .i64 i ∧ Hid (∀ j, 1 ≤ j → j < i → bt c j = 0 ∨ j ∈ u) ∧ wr = w1) (fun ii _ => 10 - (intOf ii).toNat)
      case atStart => exact ⟨1, Lib.hid ⟨by omega, by omega⟩, rfl, Lib.hid (fun j h1 h2 => absurd h2 (by omega)), rfl⟩
      case round =>
        obtain ⟨i, HI, rfl, HP, rfl⟩ := hrel
        by_cases hi : i < 10
        · have hi' : (i : Int) < 10 := by omega
          have hic : i < c.size := by have := HS.out; omega
          have hic' : (i : Int) < c.size := by omega
          have hb := bt_get c i hic
          have HI1 := Lib.hid HI.out.1
          by_cases hz : bt c i = 0
          · have f1 : (((c[i]'hic).toNat : Int) != 0) = false := by rw [← hb, hz]; rfl
            have HN : Hid (∀ j, 1 ≤ j → j < i + 1 → bt c j = 0 ∨ j ∈ u) := Lib.hid fun j h1 h2 => by
              by_cases e : j = i
              · subst e; exact .inl hz
              · exact HP.out j h1 (by omega)
            clear hz hb
            go_wp2_with fail
            exact ⟨⟨i + 1, Lib.hid ⟨Nat.le_succ_of_le HI1.out, hi⟩, rfl, HN, trivial⟩, next_f hi⟩
          · have f1 : (((c[i]'hic).toNat : Int) != 0) = true := by rw [bne_iff_ne, ← hb]; omega
            have HH := Lib.hid (has_calls u A cc i wr HA.out HUL.out)
            by_cases hm : i ∈ u
            · rw [decide_eq_true hm] at HH
              have HN : Hid (∀ j, 1 ≤ j → j < i + 1 → bt c j = 0 ∨ j ∈ u) := Lib.hid fun j h1 h2 => by
                by_cases e : j = i
                · subst e; exact .inr hm
                · exact HP.out j h1 (by omega)
              clear hz hb hm
              go_wp2_with fail
              refine HH.out.mono ?_
              rintro en w3 ⟨rfl, rfl⟩
              go_wp2_with fail
              exact ⟨⟨i + 1, Lib.hid ⟨Nat.le_succ_of_le HI1.out, hi⟩, rfl, HN, trivial⟩, next_f hi⟩
            · rw [decide_eq_false hm] at HH
              have HF36 : Hid (formC c = 36) := Lib.hid (by
                unfold formC
                rw [if_neg (by omega), HU.out]
                simp only
                split
                · rfl
                · rw [if_pos ⟨i, hic, HI.out.1, hz, hm⟩])
              clear hz hb hm
              go_wp2_with fail
              refine HH.out.mono ?_
              rintro en w3 ⟨rfl, rfl⟩
              go_wp2_with fail
              go_ret
              exact ⟨by rw [HF36.out]; rfl, HB.out⟩
        · have hi' : ¬ (i : Int) < 10 := by omega
          have hni : i = 10 := by have := HI.out; omega
          have hb2 := bt_get c 2 (by have := HS.out; omega)
          have h2c : (2 : Int) < c.size := by have := HS.out; omega
          have hnone : ¬ ∃ i, i < c.size ∧ 1 ≤ i ∧ bt c i ≠ 0 ∧ i ∉ u := by
            rintro ⟨j, j1, j2, j3, j4⟩
            rcases HP.out j j2 (by have := HS.out; omega) with h | h
            · exact j3 h
            · exact j4 h
          by_cases h26 : bt c 0 = 26 ∧ bt c 2 ≠ 63
          · have HF36 : Hid (formC c = 36) := Lib.hid (by
              unfold formC
              rw [if_neg (by omega), HU.out]
              simp only
              rw [if_neg (by rw [HCL.out]; exact fun h => h HS.out), if_neg hnone, if_pos h26])
            have f1 : (((c[0]'hc).toNat : Int) == 26) = true := by rw [beq_iff_eq, ← HB0.out]; omega
            have f2 : (((c[2]'(by omega)).toNat : Int) != 63) = true := by rw [bne_iff_ne, ← hb2]; omega
            clear h26 hnone hni hb2
            go_wp2_with fail
            go_ret
            exact ⟨by rw [HF36.out]; rfl, HB.out⟩
          · have HF0 : Hid (formC c = 0) := Lib.hid (by
              unfold formC
              rw [if_neg (by omega), HU.out]
              simp only
              rw [if_neg (by rw [HCL.out]; exact fun h => h HS.out), if_neg hnone, if_neg h26])
            by_cases h0 : bt c 0 = 26
            · have f1 : (((c[0]'hc).toNat : Int) == 26) = true := by rw [beq_iff_eq, ← HB0.out]; omega
              have f2 : (((c[2]'(by omega)).toNat : Int) != 63) = false := by rw [bne_eq_false_iff_eq, ← hb2]; omega
              clear h26 hnone hni hb2 h0
              go_wp2_with fail
              go_ret
              exact ⟨by rw [HF0.out]; rfl, HB.out⟩
            · have f1 : (((c[0]'hc).toNat : Int) == 26) = false := by rw [beq_eq_false_iff_ne, ← HB0.out]; omega
              clear h26 hnone hni hb2 h0
              go_wp2_with fail
              go_ret
              exact ⟨by rw [HF0.out]; rfl, HB.out⟩
    · have HF36 : Hid (formC c = 36) := Lib.hid (by
        unfold formC
        rw [if_neg (by omega), HU.out]
        simp only
        rw [if_pos (by rw [HCL.out]; exact hsz)])
      have f5 : ((c.size : Int) != 10) = true := by rw [bne_iff_ne]; omega
      clear hsz hop
      go_wp2_with fail
      go_ret
      exact ⟨by rw [HF36.out]; rfl, HB.out⟩
end Go.Proofs.Ytafiedhjjnapoaa
