/- Packets on the wire, plainly: a wire that was cut. -/
import Derived.Test.YtmajeonfblcfnaaDoorPhyD
import Derived.Lib.CountLaws
namespace Go.Proofs.YtmajeonfblcfnaaDoor
open Go.RowKit Go.Proofs.YtmajeonfblcfnaaDoor.Lan Go.Proofs.YtmajeonfblcfnaaDoor.Phy
theorem idx_hit : ∀ (x y : List UInt8), (∀ b ∈ x, isLv b) → Lib.index (x ++ (endL ++ y)) endL = (x.length : Int)
  | [], y, _ => rfl
  | b :: x, y, h => by
    have hb := h b (List.mem_cons_self ..)
    have ih := idx_hit x y (fun c hc => h c (List.mem_cons_of_mem _ hc))
    have hp : endL.isPrefixOf (b :: (x ++ (endL ++ y))) = false := by
      rcases hb with rfl | rfl <;> rfl
    rw [List.cons_append]
    unfold Lib.index
    rw [hp, ih, if_neg (by decide), if_neg (by rw [beq_iff_eq]; omega), List.length_cons]
    omega
theorem idx_miss : ∀ (x : List UInt8) (j : Nat), j < 3 → (∀ b ∈ x, isLv b) → Lib.index (x ++ endL.take j) endL = -1
  | [], j, hj, _ => by
    rcases j with _ | _ | _ | j
    · rfl
    · rfl
    · rfl
    · omega
  | b :: x, j, hj, h => by
    have hb := h b (List.mem_cons_self ..)
    have ih := idx_miss x j hj (fun c hc => h c (List.mem_cons_of_mem _ hc))
    have hp : endL.isPrefixOf (b :: (x ++ endL.take j)) = false := by
      rcases hb with rfl | rfl <;> rfl
    rw [List.cons_append]
    unfold Lib.index
    rw [hp, ih, if_neg (by decide), if_pos (by rfl)]
theorem count_hit (s y : List UInt8) : Lib.count (levs s ++ endL ++ y) endL = 1 + Lib.count y endL := by
  have h := idx_hit (levs s) y (levs_lv s)
  rw [List.append_assoc, Lib.count_hit (by decide) h]
  congr 2
  rw [← List.append_assoc, show (levs s).length + endL.length = (levs s ++ endL).length from (List.length_append ..).symm, List.drop_left]
theorem hear_start {s : List UInt8} (h80 : s.length ≤ 80) (a : Nat) : hearP [] ((levs s).take a) = ((levs s).take a, []) := by
  have hl := levs_len h80
  have hlv := levs_lv s
  obtain ⟨r, hr⟩ := levs_head s
  cases a with
  | zero => rfl
  | succ a =>
    rw [hr] at hl hlv ⊢
    rw [List.length_cons] at hl
    rw [List.take_succ_cons, hearP_cons, hearS_more (fun q => absurd q.1 (by decide)) (not_end (by decide)) (by decide)]
    dsimp only
    rw [hear_lv (r.take a) ([] ++ [75]) (fun b hb => hlv b (List.mem_cons_of_mem _ (List.mem_of_mem_take hb))) (fun b hb => by
      rw [List.nil_append, List.mem_singleton] at hb; subst hb; exact .inr rfl) (by simp; omega) (by simp)]
    rfl
theorem hear_part {s : List UInt8} (h80 : s.length ≤ 80) (a : Nat) (ha : a < (levs s ++ endL).length) : (hearP [] ((levs s ++ endL).take a)).2 = [] ∧ Lib.count ((levs s ++ endL).take a) endL = 0 := by
  have hl := levs_len h80
  rw [List.length_append, show endL.length = 3 from rfl] at ha
  rw [List.take_append]
  obtain ⟨j, hj⟩ : ∃ j, a - (levs s).length = j := ⟨_, rfl⟩
  have hj3 : j < 3 := by omega
  rw [hj]
  refine ⟨?_, Lib.count_miss (idx_miss _ j hj3 (fun b hb => levs_lv s b (List.mem_of_mem_take hb)))⟩
  rw [hear_cut, hear_start h80 a]
  have hlen : ((levs s).take a).length ≤ 756 := by rw [List.length_take]; omega
  dsimp only
  rw [List.nil_append]
  generalize (levs s).take a = R at *
  have e1 : hearS (R, []) 48 = (R ++ [48], []) := hearS_more (fun q => absurd q.1 (by decide)) (not_end (by decide)) (by omega)
  have e2 : hearS (R ++ [48], []) 48 = (R ++ [48] ++ [48], []) := hearS_more (fun q => absurd q.1 (by decide)) (not_end (by decide)) (by rw [List.length_append]; simp; omega)
  rcases j with _ | _ | _ | j
  · rfl
  · show (hearP R [48]).2 = []
    rw [hearP_cons, e1]; rfl
  · show (hearP R [48, 48]).2 = []
    rw [hearP_cons, e1, hearP_cons, e2]; rfl
  · omega
/-- PhyTorn -/
theorem hear_torn : ∀ (ls : List (List UInt8)) (a : Nat), (hearP [] ((wire 0 ls).take a)).2 = (want ls).take (Lib.count ((wire 0 ls).take a) endL) ∧ Lib.count ((wire 0 ls).take a) endL ≤ (want ls).length
  | [], a => by
    have : (wire 0 []).take a = [] := List.take_nil
    rw [this]
    exact ⟨rfl, Nat.zero_le _⟩
  | s :: ls, a => by
    unfold wire want
    by_cases h : okS s = true
    · have h' := h
      unfold okS at h'
      simp only [Bool.and_eq_true, decide_eq_true_eq] at h'
      rw [if_pos h, List.filter_cons_of_pos h, List.map_cons, List.replicate_zero, List.nil_append]
      by_cases ha : a < (levs s ++ endL).length
      · rw [List.take_append_of_le_length (Nat.le_of_lt ha)]
        obtain ⟨h1, h2⟩ := hear_part h'.2 a ha
        rw [h1, h2]
        exact ⟨rfl, Nat.zero_le _⟩
      · obtain ⟨h1, h2⟩ := hear_torn ls (a - (levs s ++ endL).length)
        rw [List.take_append, List.take_of_length_le (by omega), count_hit, hear_cut, hear_one h'.1 h'.2]
        dsimp only
        rw [h1, Nat.add_comm 1, List.take_succ_cons, List.length_cons]
        exact ⟨rfl, Nat.succ_le_succ h2⟩
    · rw [if_neg h, List.filter_cons_of_neg h]
      exact hear_torn ls a
end Go.Proofs.YtmajeonfblcfnaaDoor
