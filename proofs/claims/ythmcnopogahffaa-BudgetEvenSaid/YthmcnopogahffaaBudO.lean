/- The law of budgets BudgetEven: plainly. -/
import Derived.Test.YthmcnopogahffaaBudN
namespace Go.Proofs.Ythmcnopogahffaa
open Go.RowKit Go.Shelf Go.Proofs.Ythmcnopogahffaa.Bud
/-- in 32 frames in a row -/
theorem cnt_shift {p ph : Nat} (hp : pw p) (h : ph < p) (F : Nat) : (List.range 32).countP (fun f => decide ((F + f) % p = ph)) = 32 / p := by
  have e : ∀ f, (F + f) % p = (F % p + f) % p := fun f => (Nat.mod_add_mod F p f).symm
  have hr : F % p < p := Nat.mod_lt _ (by omega)
  rw [show (fun f => decide ((F + f) % p = ph)) = (fun f => decide ((F % p + f) % p = ph)) from funext fun f => by rw [e f]]
  generalize F % p = r at *
  rcases hp with rfl | rfl | rfl | rfl | rfl | rfl
  · exact (by decide +kernel : ∀ r : Fin 1, ∀ x : Fin 1, (List.range 32).countP (fun f => decide ((r.val + f) % 1 = x.val)) = 32 / 1) ⟨r, hr⟩ ⟨ph, h⟩
  · exact (by decide +kernel : ∀ r : Fin 2, ∀ x : Fin 2, (List.range 32).countP (fun f => decide ((r.val + f) % 2 = x.val)) = 32 / 2) ⟨r, hr⟩ ⟨ph, h⟩
  · exact (by decide +kernel : ∀ r : Fin 4, ∀ x : Fin 4, (List.range 32).countP (fun f => decide ((r.val + f) % 4 = x.val)) = 32 / 4) ⟨r, hr⟩ ⟨ph, h⟩
  · exact (by decide +kernel : ∀ r : Fin 8, ∀ x : Fin 8, (List.range 32).countP (fun f => decide ((r.val + f) % 8 = x.val)) = 32 / 8) ⟨r, hr⟩ ⟨ph, h⟩
  · exact (by decide +kernel : ∀ r : Fin 16, ∀ x : Fin 16, (List.range 32).countP (fun f => decide ((r.val + f) % 16 = x.val)) = 32 / 16) ⟨r, hr⟩ ⟨ph, h⟩
  · exact (by decide +kernel : ∀ r : Fin 32, ∀ x : Fin 32, (List.range 32).countP (fun f => decide ((r.val + f) % 32 = x.val)) = 32 / 32) ⟨r, hr⟩ ⟨ph, h⟩
theorem fil_count (p : Nat → Bool) (i n : Nat) : ((List.range n).filter p).count i = if i < n ∧ p i = true then 1 else 0 := by
  by_cases hp : p i = true
  · rw [List.count_filter hp, List.count_range]
    by_cases hi : i < n <;> simp [hi, hp]
  · rw [if_neg (fun h => hp h.2)]
    exact List.count_eq_zero.2 (fun h => hp (List.mem_filter.1 h).2)
/-- how often a task is told in one frame -/
theorem ldl_count {qs : List Nat} {plan : List Bt} {f n i : Nat} (hi : i < n) : ∀ L, (ldl qs plan f n L).count i = if (bt plan i).1 < L ∧ f % per qs i = (bt plan i).2 then 1 else 0
  | 0 => by simp [ldl]
  | L + 1 => by
    rw [ldl_next, List.count_append, ldl_count hi L, fil_count]
    have hh : (hits qs plan f L i = true) ↔ ((bt plan i).1 = L ∧ f % per qs i = (bt plan i).2) := by
      unfold hits
      simp
    by_cases h2 : f % per qs i = (bt plan i).2
    · by_cases h1 : (bt plan i).1 < L
      · rw [if_pos ⟨h1, h2⟩, if_neg (fun h => by have := (hh.1 h.2).1; omega), if_pos ⟨by omega, h2⟩]
      · by_cases h3 : (bt plan i).1 = L
        · rw [if_neg (fun h => h1 h.1), if_pos ⟨hi, hh.2 ⟨h3, h2⟩⟩, if_pos ⟨by omega, h2⟩]
        · rw [if_neg (fun h => h1 h.1), if_neg (fun h => h3 (hh.1 h.2).1), if_neg (fun h => by omega)]
    · rw [if_neg (fun h => h2 h.2), if_neg (fun h => h2 (hh.1 h.2).2), if_neg (fun h => h2 h.2)]
theorem ldl_mem {qs : List Nat} {plan : List Bt} {f n L i : Nat} (h : i ∈ ldl qs plan f n L) : i < n := by
  unfold ldl at h
  obtain ⟨_, _, h⟩ := List.mem_flatMap.1 h
  exact List.mem_range.1 (List.mem_filter.1 h).1
theorem fil_one {p : Nat → Bool} : ∀ n, (∀ i j, i < j → j < n → p i = true → p j = true → False) → ((List.range n).filter p).length ≤ 1
  | 0, _ => by simp
  | n + 1, h => by
    rw [fil_next, List.length_append]
    by_cases hn : p n = true
    · have : (List.range n).filter p = [] := by
        rw [List.filter_eq_nil_iff]
        exact fun i hi hp => h i n (List.mem_range.1 hi) (Nat.lt_succ_self n) hp hn
      rw [this, if_pos hn]
      simp
    · rw [if_neg hn]
      have := fil_one n (fun i j h1 h2 => h i j h1 (by omega))
      simpa using this
theorem ldl_few {qs : List Nat} {plan : List Bt} {f n : Nat} (hp : ∀ i, i < n → pw (per qs i)) (hd : ∀ u t, t < u → u < n → confl (bt plan u) (bt plan t) (per qs u) (per qs t) = false) : ∀ L, (ldl qs plan f n L).length ≤ L
  | 0 => by simp [ldl]
  | L + 1 => by
    rw [ldl_next, List.length_append]
    have h1 := ldl_few (f := f) hp hd L
    have h2 := fil_one (p := hits qs plan f L) n (fun i j hij hj hi hjj => by
      unfold hits at hi hjj
      simp only [Bool.and_eq_true, beq_iff_eq] at hi hjj
      exact apart3 (X1 := (bt plan j).1) (Y1 := (bt plan j).2) (X2 := (bt plan i).1) (Y2 := (bt plan i).2) (f := f) (hp j hj) (hp i (by omega)) (hd j i hij hj) (by rw [hi.1, hjj.1]) hjj.2 hi.2)
    omega
/-- how often so far -/
def cnt (qs : List Nat) (plan : List Bt) (F f i : Nat) : Nat := (List.range f).countP fun g => decide ((F + g) % per qs i = (bt plan i).2)
theorem cnt_next (qs : List Nat) (plan : List Bt) (F f i : Nat) : cnt qs plan F (f + 1) i = cnt qs plan F f i + if (F + f) % per qs i = (bt plan i).2 then 1 else 0 := by
  unfold cnt
  rw [List.range_succ, List.countP_append]
  simp
theorem cnt_le (qs : List Nat) (plan : List Bt) (F f i : Nat) : cnt qs plan F f i ≤ f := by
  have := List.countP_le_length (p := fun g => decide ((F + g) % per qs i = (bt plan i).2)) (l := List.range f)
  rw [List.length_range] at this
  exact this
def cnts (qs : List Nat) (plan : List Bt) (F f n : Nat) (l : List Nat) : List Nat := (List.range n).map fun i => cnt qs plan F f i + l.count i
theorem cnts_len (qs : List Nat) (plan : List Bt) (F f n : Nat) (l : List Nat) : (cnts qs plan F f n l).length = n := by simp [cnts]
theorem cnts_at (qs : List Nat) (plan : List Bt) (F f n : Nat) (l : List Nat) (i : Nat) (hi : i < n) : at' (cnts qs plan F f n l) i = cnt qs plan F f i + l.count i := by
  unfold at' cnts
  rw [List.getD_eq_getElem?_getD, List.getElem?_map, List.getElem?_range hi]
  rfl
theorem cnts_set (qs : List Nat) (plan : List Bt) (F f n : Nat) (l : List Nat) (x : Nat) (hx : x < n) : (cnts qs plan F f n l).set x (cnt qs plan F f x + l.count x + 1) = cnts qs plan F f n (l ++ [x]) := by
  apply List.ext_getElem?
  intro i
  rw [List.getElem?_set]
  unfold cnts
  simp only [List.length_map, List.length_range, List.getElem?_map]
  by_cases hi : i < n
  · rw [List.getElem?_range hi]
    simp only [Option.map_some, List.count_append]
    by_cases e : x = i
    · subst e
      rw [if_pos rfl, if_pos hx]
      simp [Nat.add_assoc]
    · rw [if_neg e]
      have : List.count i [x] = 0 := by simp [e]
      rw [this, Nat.add_zero]
  · have hn : (List.range n)[i]? = none := List.getElem?_eq_none (by simp; omega)
    rw [hn]
    have e : ¬ x = i := by omega
    rw [if_neg e]
    rfl
theorem cnts_frame {qs : List Nat} {plan : List Bt} {F f n L : Nat} (hb : ∀ i, i < n → (bt plan i).1 < L) : cnts qs plan F f n (ldl qs plan (F + f) n L) = cnts qs plan F (f + 1) n [] := by
  unfold cnts
  refine List.map_congr_left fun i hi => ?_
  have hi := List.mem_range.1 hi
  rw [ldl_count hi, cnt_next, List.count_nil, Nat.add_zero]
  congr 1
  by_cases h : (F + f) % per qs i = (bt plan i).2
  · rw [if_pos ⟨hb i hi, h⟩, if_pos h]
  · rw [if_neg (fun x => h x.2), if_neg h]
theorem cnts_zero (qs : List Nat) (plan : List Bt) (F n : Nat) : cnts qs plan F 0 n [] = List.replicate n 0 := by
  unfold cnts cnt
  apply List.ext_getElem (by simp)
  intro i h1 h2
  simp
theorem cnts_all {qs : List Nat} {plan : List Bt} {F n : Nat} (hp : ∀ i, i < n → pw (per qs i)) (hb : ∀ i, i < n → (bt plan i).2 < per qs i) (i : Nat) (hi : i < n) : at' (cnts qs plan F 32 n []) i = 32 / per qs i := by
  rw [cnts_at _ _ _ _ _ _ i hi, List.count_nil, Nat.add_zero]
  exact cnt_shift (hp i hi) (hb i hi) F
theorem cnts_le {qs : List Nat} {plan : List Bt} {F f n : Nat} {l : List Nat} (i : Nat) (hi : i < n) (hl : l.length ≤ 8) : at' (cnts qs plan F f n l) i ≤ f + 8 := by
  rw [cnts_at _ _ _ _ _ _ i hi]
  have h1 := cnt_le qs plan F f i
  have h2 := List.count_le_length (a := i) (l := l)
  omega
end Go.Proofs.Ythmcnopogahffaa
