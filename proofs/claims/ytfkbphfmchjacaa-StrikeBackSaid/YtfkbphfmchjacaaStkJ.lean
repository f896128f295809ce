/- The walks of package strike: Join; the law Back. -/
import Derived.Test.YtfkbphfmchjacaaStkL
namespace Go.Proofs.Ytfkbphfmchjacaa
open Go.RowKit
/-- every piece as it should be -/
def fitsAt (s n i : Nat) (x : ByteArray) : Prop := if i + 1 < n then x.size = s else x.size < s
theorem cut_of : ∀ (ps : List ByteArray) (s : Nat), ps ≠ [] → (∀ i (h : i < ps.length), fitsAt s ps.length i ps[i]) → Cut s ps
  | [], _, h, _ => absurd rfl h
  | [x], s, _, h => by have := h 0 (by simp); simp [fitsAt] at this; exact this
  | x :: y :: l, s, _, h => by
    refine ⟨by have := h 0 (by simp); simpa [fitsAt] using this, cut_of (y :: l) s (by simp) fun i hi => ?_⟩
    have := h (i + 1) (by simp at hi ⊢; omega)
    unfold fitsAt at this ⊢
    simp only [List.length_cons, List.getElem_cons_succ] at this ⊢
    by_cases c : i + 1 < l.length + 1
    · rw [if_pos c]; rw [if_pos (by omega)] at this; exact this
    · rw [if_neg c]; rw [if_neg (by omega)] at this; exact this
theorem cut_fits : ∀ (ps : List ByteArray) (s : Nat), Cut s ps → ∀ i (h : i < ps.length), fitsAt s ps.length i ps[i]
  | [], _, h, _, _ => h.elim
  | [x], s, h, i, hi => by
    have : i = 0 := by simp at hi; exact hi
    subst this
    have h' : x.size < s := h
    simpa [fitsAt] using h'
  | x :: y :: l, s, h, i, hi => by
    cases i with
    | zero => have := h.1; simpa [fitsAt] using this
    | succ i =>
      have := cut_fits (y :: l) s h.2 i (by simp at hi ⊢; omega)
      unfold fitsAt at this ⊢
      simp only [List.length_cons, List.getElem_cons_succ] at this ⊢
      by_cases c : i + 1 < l.length + 1
      · rw [if_pos (by omega)]; rw [if_pos c] at this; exact this
      · rw [if_neg (by omega)]; rw [if_neg c] at this; exact this
theorem cut_le {ps : List ByteArray} {s : Nat} (h : Cut s ps) : ∀ x ∈ ps, x.size ≤ s := fun x hx => by
  obtain ⟨i, hi, rfl⟩ := List.mem_iff_getElem.1 hx
  have := cut_fits ps s h i hi
  unfold fitsAt at this
  split at this <;> omega
/-- pieces that can be joined -/
def CanJoin (s : Int) (ps : List ByteArray) : Prop := 1 ≤ s ∧ s ≤ 64 ∧ Cut s.toNat ps ∧ (cat ps).length ≤ 4096
def Joined (s : Int) (ps : List ByteArray) (w : World) (e : Ending) (w' : World) : Prop :=
  ((CanJoin s ps ∧ e = .returned (.tuple #[.string ⟨(cat ps).toArray⟩, .int .i64 0])) ∨ (¬ CanJoin s ps ∧ ∃ n : Int, n ≠ 0 ∧ e = .returned (.tuple #[.string ⟨#[]⟩, .int .i64 n]))) ∧ Below w.heap.size w w'
theorem cat_small (ps : List ByteArray) (s : Nat) (h : ∀ x ∈ ps, x.size ≤ s) : (cat ps).length ≤ s * ps.length := by
  induction ps with
  | nil => simp [cat]
  | cons x ps ih =>
    rw [cat_cons, List.length_append, blen, List.length_cons, Nat.mul_succ]
    have := ih (fun y hy => h y (by simp [hy]))
    have := h x (by simp)
    omega
theorem join_bad (V : Value) (ps : List ByteArray) (s : Int) (w : World) (h : s < 1 ∨ (1 ≤ s ∧ 64 < s)) : Calls Try.prog 13 #[V, .int .i64 s] w (Joined s ps w) := by
  have HN := Lib.hid (show ¬ CanJoin s ps from fun ⟨a, b, _⟩ => by omega)
  rcases h with h | ⟨h1, h⟩
  all_goals
    go_enter Try.func13, Try.ntmps13
    go_wp2
    go_ret2
    exact ⟨.inr ⟨HN.out, 1, by omega, rfl⟩, Below.refl _ _⟩
set_option maxHeartbeats 1600000 in
theorem joins_calls (V : Value) (ps : List ByteArray) (s : Nat) (w : World) (hV : Kt.Ar w V 1 ps.length (sts ps)) (h1 : 1 ≤ s) (h2 : s ≤ 64) (hn : ps.length ≤ 140737488355328) (hz : ∀ x ∈ ps, x.size ≤ 140737488355328) : Calls Try.prog 13 #[V, .int .i64 s] w (Joined s ps w) := by
  have HJ : Hid (∀ wj, Below w.heap.size w wj → (cat ps).length ≤ 140737488355328 → Calls Try.prog 18 #[V, .string ⟨#[]⟩] wj fun e w' => e = .returned (.string ⟨(cat ps).toArray⟩) ∧ Below wj.heap.size wj w') := Lib.hid fun wj hb hl => join_calls V ps wj (hV.on hb) hn hl
  have d1 : (1 : Int) ≤ s := by omega
  have d2 : (s : Int) ≤ 64 := by omega
  have d3 : decide ((s : Int) < 1) = false := decide_eq_false (by omega)
  have d4 : decide ((64 : Int) < s) = false := decide_eq_false (by omega)
  obtain ⟨A, c, rfl, hc, hx⟩ := hV.form
  have HX := Lib.hid hx; clear hx hV
  have HZ := Lib.hid hz; clear hz
  go_enter Try.func13, Try.ntmps13
  go_wp2_with fail
  go_loop [6, 20] (fun nn ii => ∃ (k : Nat) (z : Int), k ≤ ps.length ∧ ii = .int .i64 k ∧ nn = .int .i64 z ∧ Hid ((∀ x ∈ ps, x.size ≤ 64) → z = (cat (ps.take k)).length)) (fun _ ii => ps.length - (intOf ii).toNat)
  case atStart => exact ⟨0, 0, Nat.zero_le _, rfl, rfl, Lib.hid fun _ => by simp [cat]⟩
  case round =>
    obtain ⟨k, z, hk, rfl, rfl, HS⟩ := hrel
    by_cases hlt : k < ps.length
    · obtain ⟨b, o, rfl, hb, hx⟩ := HX.out (by omega)
      have hcell : w.cell? ⟨b, o + k, none⟩ = some (.string ps[k]) := (hx k (by rw [sts_len]; exact hlt)).trans (by simp [sts])
      have HT : Hid ((cat (ps.take (k + 1))).length = (cat (ps.take k)).length + ps[k].size) := Lib.hid (by rw [List.take_succ_eq_append_getElem hlt, cat_app, cat_one, List.length_append, blen])
      have HSM : Hid ((∀ x ∈ ps, x.size ≤ 64) → (cat (ps.take (k + 1))).length ≤ 64 * (k + 1)) := Lib.hid fun h => by
        have := cat_small (ps.take (k + 1)) 64 (fun x hx => h x (List.mem_of_mem_take hx))
        rw [List.length_take] at this; omega
      have hxz := HZ.out ps[k] (List.getElem_mem hlt)
      clear hx
      generalize ps[k] = x at *
      have HZN : Hid ((∀ x ∈ ps, x.size ≤ 64) → wrap64 (z + x.size) = (cat (ps.take (k + 1))).length) := Lib.hid fun h => by
        have e1 := HS.out h
        have e2 := HT.out
        have e3 := HSM.out h
        rw [IntWalk.wrap64_in _ (by omega)]; omega
      go_wp2_with fail
      go_round
      case rel => exact ⟨k + 1, wrap64 (z + x.size), by omega, by go_num, rfl, HZN⟩
      case measure => simp [intOf] <;> omega
    · obtain rfl : k = ps.length := by omega
      have HS2 : Hid ((∀ x ∈ ps, x.size ≤ 64) → z = (cat ps).length) := Lib.hid fun h => by have := HS.out h; rwa [List.take_length] at this
      by_cases hz : 4096 < z
      · have HN := Lib.hid (show ¬ CanJoin s ps from fun ⟨_, _, a, b⟩ => by
          have := HS2.out (fun x hx => by have := cut_le a x hx; omega)
          omega)
        go_wp2_with fail
        go_ret2
        exact ⟨.inr ⟨HN.out, 2, by omega, rfl⟩, Below.refl _ _⟩
      · have hz2 : z ≤ 4096 := by omega
        by_cases h0 : ps.length = 0
        · have HN := Lib.hid (show ¬ CanJoin s ps from fun ⟨_, _, a, b⟩ => by
            rw [List.eq_nil_of_length_eq_zero h0] at a; exact a)
          have e0 : ((ps.length : Int) == 0) = true := by rw [h0]; rfl
          clear h0
          go_wp2_with fail
          go_ret2
          exact ⟨.inr ⟨HN.out, 4, by omega, rfl⟩, Below.refl _ _⟩
        · have e0 : ((ps.length : Int) == 0) = false := by rw [beq_eq_false_iff_ne]; omega
          have hl0 : 0 < ps.length := by omega
          have hl1 : (1 : Int) ≤ ps.length := by omega
          clear h0 hz
          go_wp2_with fail
          go_loop [41] (fun ii => ∃ k : Nat, k ≤ ps.length ∧ ii = .int .i64 k ∧ Hid (∀ i (h : i < ps.length), i < k → fitsAt s ps.length i ps[i])) (fun ii => ps.length - (intOf ii).toNat)
          case atStart => exact ⟨0, Nat.zero_le _, rfl, Lib.hid fun i _ h => absurd h (by omega)⟩
          case round =>
            obtain ⟨k, hk, rfl, HF⟩ := hrel
            by_cases hlt : k < ps.length
            · obtain ⟨b, o, rfl, hb, hx⟩ := HX.out (by omega)
              have hcell : w.cell? ⟨b, o + k, none⟩ = some (.string ps[k]) := (hx k (by rw [sts_len]; exact hlt)).trans (by simp [sts])
              have hxz := HZ.out ps[k] (List.getElem_mem hlt)
              clear hx
              by_cases hf : fitsAt s ps.length k ps[k]
              · have HN := Lib.hid (show ∀ i (h : i < ps.length), i < k + 1 → fitsAt s ps.length i ps[i] from fun i hi hik => by
                  by_cases e : i = k
                  · subst e; exact hf
                  · exact HF.out i hi (by omega))
                have hf2 := hf
                unfold fitsAt at hf2
                generalize ps[k] = x at *
                by_cases hlast : k + 1 < ps.length
                · rw [if_pos hlast] at hf2
                  have e1 : (k : Int) < (ps.length : Int) - 1 := by omega
                  have e2 : ((x.size : Int) != s) = false := by simp [hf2]
                  have e3 : ((k : Int) == (ps.length : Int) - 1) = false := by rw [beq_eq_false_iff_ne]; omega
                  clear hf hf2
                  go_wp2_with fail
                  go_round
                  case rel => exact ⟨k + 1, by omega, by go_num, HN⟩
                  case measure => (simp [intOf] <;> omega)
                · rw [if_neg hlast] at hf2
                  have e1 : ¬ (k : Int) < (ps.length : Int) - 1 := by omega
                  have e1b : decide ((k : Int) < (ps.length : Int) - 1) = false := decide_eq_false e1
                  have e3 : ((k : Int) == (ps.length : Int) - 1) = true := by rw [beq_iff_eq]; omega
                  have e4 : decide (s ≤ x.size) = false := decide_eq_false (by omega)
                  have e5 : decide ((s : Int) ≤ x.size) = false := decide_eq_false (by omega)
                  clear hf e1
                  go_wp2_with fail
                  go_round
                  case rel => exact ⟨k + 1, by omega, by go_num, HN⟩
                  case measure => (simp [intOf] <;> omega)
              · have HN := Lib.hid (show ¬ CanJoin s ps from fun ⟨_, _, a, _⟩ => hf (by have := cut_fits ps _ a k hlt; rwa [Int.toNat_natCast] at this))
                have hf2 := hf
                unfold fitsAt at hf2
                generalize ps[k] = x at *
                by_cases hlast : k + 1 < ps.length
                · rw [if_pos hlast] at hf2
                  have e1 : (k : Int) < (ps.length : Int) - 1 := by omega
                  have e2 : ((x.size : Int) != s) = true := by rw [bne_iff_ne]; omega
                  clear hf hf2
                  go_wp2_with fail
                  go_ret2
                  exact ⟨.inr ⟨HN.out, 4, by omega, rfl⟩, Below.refl _ _⟩
                · rw [if_neg hlast] at hf2
                  have e1b : decide ((k : Int) < (ps.length : Int) - 1) = false := decide_eq_false (by omega)
                  have e3 : ((k : Int) == (ps.length : Int) - 1) = true := by rw [beq_iff_eq]; omega
                  have e4 : decide (s ≤ x.size) = true := decide_eq_true (by omega)
                  have e5 : decide ((s : Int) ≤ x.size) = true := decide_eq_true (by omega)
                  clear hf
                  go_wp2_with fail
                  go_ret2
                  exact ⟨.inr ⟨HN.out, 4, by omega, rfl⟩, Below.refl _ _⟩
            · have HCUT := Lib.hid (cut_of ps s (fun e => by rw [e] at hl0; simp at hl0) (fun i hi => HF.out i hi (by omega)))
              have HTOT : Hid ((cat ps).length ≤ 4096) := Lib.hid (by have := HS2.out (fun x hx => by have := cut_le HCUT.out x hx; omega); omega)
              have HJ2 := Lib.hid (HJ.out w (Below.refl _ _) (by have := HTOT.out; omega))
              have HYES := Lib.hid (show CanJoin s ps from ⟨d1, d2, by rw [Int.toNat_natCast]; exact HCUT.out, HTOT.out⟩)
              go_wp2_with fail
              refine HJ2.out.mono ?_
              rintro en w3 ⟨rfl, hb3⟩
              go_wp2_with fail
              go_ret2
              exact ⟨.inl ⟨HYES.out, rfl⟩, hb3⟩
theorem join_any (V : Value) (ps : List ByteArray) (s : Int) (w : World) (hV : Kt.Ar w V 1 ps.length (sts ps)) (hn : ps.length ≤ 140737488355328) (hz : ∀ x ∈ ps, x.size ≤ 140737488355328) : Calls Try.prog 13 #[V, .int .i64 s] w (Joined s ps w) := by
  by_cases h1 : s < 1
  · exact join_bad V ps s w (.inl h1)
  by_cases h2 : 64 < s
  · exact join_bad V ps s w (.inr ⟨by omega, h2⟩)
  obtain ⟨n, rfl⟩ : ∃ n : Nat, s = n := ⟨s.toNat, by omega⟩
  exact joins_calls V ps n w hV (by omega) (by omega) hn hz
/-- what Split leaves, at any arguments -/
def Splits (t : ByteArray) (s : Int) (w : World) (e : Ending) (w' : World) : Prop :=
  (1 ≤ s ∧ s ≤ 64 ∧ t.size ≤ 4096 ∧ Pieces w (chop s.toNat t) e w') ∨ (¬ (1 ≤ s ∧ s ≤ 64 ∧ t.size ≤ 4096) ∧ ∃ n : Int, n ≠ 0 ∧ e = .returned (.tuple #[.slice none 0 0, .int .i64 n]) ∧ w = w')
theorem split_any (t : ByteArray) (s : Int) (w : World) : Calls Try.prog 12 #[.string t, .int .i64 s] w (Splits t s w) := by
  by_cases h1 : s < 1
  · exact (split_bad t s w (.inl h1)).mono fun e w' ⟨a, b⟩ => .inr ⟨by omega, 1, by omega, a, b⟩
  by_cases h2 : 64 < s
  · exact (split_bad t s w (.inr ⟨by omega, h2⟩)).mono fun e w' ⟨a, b⟩ => .inr ⟨by omega, 1, by omega, a, b⟩
  by_cases h3 : (4096 : Int) < t.size
  · exact (split_large t s w (by omega) (by omega) h3).mono fun e w' ⟨a, b⟩ => .inr ⟨by omega, 2, by omega, a, b⟩
  obtain ⟨n, rfl⟩ : ∃ n : Nat, s = n := ⟨s.toNat, by omega⟩
  exact (split_ok t n w (by omega) (by omega) (by omega)).mono fun e w' h => .inl ⟨by omega, by omega, by omega, by rw [Int.toNat_natCast]; exact h⟩
end Go.Proofs.Ytfkbphfmchjacaa
