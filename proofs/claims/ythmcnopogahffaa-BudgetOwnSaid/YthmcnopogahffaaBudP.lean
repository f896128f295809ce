/- Berths, plainly: places, plans; Kraft. -/
namespace Go.Proofs.Ythmcnopogahffaa.Bud
def pw (p : Nat) : Prop := p = 1 ∨ p = 2 ∨ p = 4 ∨ p = 8 ∨ p = 16 ∨ p = 32
instance (p : Nat) : Decidable (pw p) := by unfold pw; exact inferInstance
abbrev Bt := Nat × Nat
def confl (b a : Bt) (p q : Nat) : Bool := b.1 == a.1 && b.2 % min p q == a.2 % min p q
def per (p : List Nat) (t : Nat) : Nat := p.getD t 0
def bt (plan : List Bt) (t : Nat) : Bt := plan.getD t (0, 0)
def okAt (p : List Nat) (plan : List Bt) (done : List Nat) (t lane ph : Nat) : Bool := !done.any fun k => confl (lane, ph) (bt plan k) (per p t) (per p k)
/-- the first phase from ph on, of c -/
def phs (p : List Nat) (plan : List Bt) (done : List Nat) (t lane : Nat) : Nat → Nat → Option Nat
  | 0, _ => none
  | c + 1, ph => if okAt p plan done t lane ph then some ph else phs p plan done t lane c (ph + 1)
def lns (p : List Nat) (plan : List Bt) (done : List Nat) (t : Nat) : Nat → Nat → Option Bt
  | 0, _ => none
  | c + 1, lane => match phs p plan done t lane (per p t) 0 with
    | some ph => some (lane, ph)
    | none => lns p plan done t c (lane + 1)
def place (p : List Nat) (plan : List Bt) (done : List Nat) (t lanes : Nat) : Option Bt := lns p plan done t lanes 0
def pl (p : List Nat) (lanes : Nat) : List Nat → List Nat → List Bt → Option (List Bt)
  | [], _, plan => some plan
  | t :: r, done, plan => match place p plan done t lanes with
    | none => none
    | some b => pl p lanes r (done ++ [t]) (plan.set t b)
theorem phs_some (p : List Nat) (plan : List Bt) (done : List Nat) (t lane : Nat) : ∀ c ph x, phs p plan done t lane c ph = some x → ph ≤ x ∧ x < ph + c ∧ okAt p plan done t lane x = true
  | 0, _, _, h => by simp [phs] at h
  | c + 1, ph, x, h => by
    unfold phs at h
    split at h
    · rename_i h1
      injection h with h
      subst h
      exact ⟨Nat.le_refl _, by omega, h1⟩
    · obtain ⟨h1, h2, h3⟩ := phs_some p plan done t lane c (ph + 1) x h
      exact ⟨by omega, by omega, h3⟩
theorem phs_none (p : List Nat) (plan : List Bt) (done : List Nat) (t lane : Nat) : ∀ c ph, phs p plan done t lane c ph = none → ∀ x, ph ≤ x → x < ph + c → okAt p plan done t lane x = false
  | 0, _, _, x, h1, h2 => by omega
  | c + 1, ph, h, x, h1, h2 => by
    unfold phs at h
    split at h
    · cases h
    · rename_i h3
      by_cases e : x = ph
      · subst e; simpa using h3
      · exact phs_none p plan done t lane c (ph + 1) h x (by omega) (by omega)
theorem lns_some (p : List Nat) (plan : List Bt) (done : List Nat) (t : Nat) : ∀ c lane x, lns p plan done t c lane = some x → lane ≤ x.1 ∧ x.1 < lane + c ∧ x.2 < per p t ∧ okAt p plan done t x.1 x.2 = true
  | 0, _, _, h => by simp [lns] at h
  | c + 1, lane, x, h => by
    unfold lns at h
    split at h
    · rename_i ph h1
      injection h with h
      subst h
      obtain ⟨a1, a2, a3⟩ := phs_some p plan done t lane _ _ _ h1
      exact ⟨Nat.le_refl _, by dsimp only; omega, by dsimp only; omega, a3⟩
    · obtain ⟨h1, h2, h3⟩ := lns_some p plan done t c (lane + 1) x h
      exact ⟨by omega, by omega, h3⟩
theorem lns_none (p : List Nat) (plan : List Bt) (done : List Nat) (t : Nat) : ∀ c lane, lns p plan done t c lane = none → ∀ x y, lane ≤ x → x < lane + c → y < per p t → okAt p plan done t x y = false
  | 0, _, _, x, _, h1, h2, _ => by omega
  | c + 1, lane, h, x, y, h1, h2, h3 => by
    unfold lns at h
    split at h
    · cases h
    · rename_i h4
      by_cases e : x = lane
      · subst e; exact phs_none p plan done t x _ _ h4 y (Nat.zero_le _) (by omega)
      · exact lns_none p plan done t c (lane + 1) h x y (by omega) (by omega) h3
-- counting cells: 32 frames of each lane
def cov (b : Bt) (p : Nat) (c : Nat) : Bool := c / 32 == b.1 && c % 32 % p == b.2
theorem cnt32 {p ph : Nat} (hp : pw p) (h : ph < p) : (List.range 32).countP (fun f => f % p == ph) = 32 / p := by
  rcases hp with rfl | rfl | rfl | rfl | rfl | rfl
  · exact (by decide : ∀ x : Fin 1, (List.range 32).countP (fun f => f % 1 == x.val) = 32 / 1) ⟨ph, h⟩
  · exact (by decide : ∀ x : Fin 2, (List.range 32).countP (fun f => f % 2 == x.val) = 32 / 2) ⟨ph, h⟩
  · exact (by decide : ∀ x : Fin 4, (List.range 32).countP (fun f => f % 4 == x.val) = 32 / 4) ⟨ph, h⟩
  · exact (by decide : ∀ x : Fin 8, (List.range 32).countP (fun f => f % 8 == x.val) = 32 / 8) ⟨ph, h⟩
  · exact (by decide +kernel : ∀ x : Fin 16, (List.range 32).countP (fun f => f % 16 == x.val) = 32 / 16) ⟨ph, h⟩
  · exact (by decide +kernel : ∀ x : Fin 32, (List.range 32).countP (fun f => f % 32 == x.val) = 32 / 32) ⟨ph, h⟩
theorem cnt_cov (b : Bt) {p : Nat} (hp : pw p) (h : b.2 < p) : ∀ L, (List.range (32 * L)).countP (cov b p) = if b.1 < L then 32 / p else 0
  | 0 => by simp
  | L + 1 => by
    rw [show 32 * (L + 1) = 32 * L + 32 by omega, List.range_add, List.countP_append, cnt_cov b hp h L, List.countP_map]
    have e : ((List.range 32).countP (cov b p ∘ fun x => 32 * L + x)) = if L = b.1 then 32 / p else 0 := by
      split
      · rename_i he
        rw [← cnt32 hp h]
        apply List.countP_congr
        intro x hx
        have hx : x < 32 := List.mem_range.1 hx
        unfold cov
        simp only [Function.comp]
        rw [show (32 * L + x) / 32 = L by omega, show (32 * L + x) % 32 = x by omega]
        simp [he]
      · rename_i he
        rw [List.countP_eq_zero]
        intro x hx
        have hx : x < 32 := List.mem_range.1 hx
        unfold cov
        simp only [Function.comp]
        rw [show (32 * L + x) / 32 = L by omega]
        simp [he]
    rw [e]
    by_cases h1 : b.1 < L
    · rw [if_pos h1, if_neg (by omega), if_pos (by omega)]; omega
    · by_cases h2 : L = b.1
      · rw [if_neg h1, if_pos h2, if_pos (by omega)]; omega
      · rw [if_neg h1, if_neg h2, if_neg (by omega)]
theorem sum_swap (f : Nat → Nat → Bool) (M : List Nat) : ∀ ts : List Nat, (ts.map fun t => M.countP (f t)).sum = (M.map fun c => ts.countP fun t => f t c).sum
  | [] => by
    induction M with
    | nil => rfl
    | cons c M ih => simpa using ih
  | t :: ts => by
    rw [List.map_cons, List.sum_cons, sum_swap f M ts]
    have key : ∀ M : List Nat, M.countP (f t) + (M.map fun c => ts.countP fun t => f t c).sum = (M.map fun c => (t :: ts).countP fun t => f t c).sum := by
      intro M
      induction M with
      | nil => simp
      | cons c M ih =>
        rw [List.countP_cons, List.map_cons, List.sum_cons, List.map_cons, List.sum_cons, List.countP_cons, ← ih]
        omega
    exact key M
theorem sum_le_of (g : Nat → Nat) : ∀ M : List Nat, (∀ c ∈ M, g c ≤ 1) → (M.map g).sum ≤ M.length
  | [], _ => by simp
  | c :: M, h => by
    rw [List.map_cons, List.sum_cons, List.length_cons]
    have := sum_le_of g M (fun x hx => h x (by simp [hx]))
    have := h c (by simp)
    omega
theorem sum_ge_of (g : Nat → Nat) : ∀ M : List Nat, (∀ c ∈ M, 1 ≤ g c) → M.length ≤ (M.map g).sum
  | [], _ => by simp
  | c :: M, h => by
    rw [List.map_cons, List.sum_cons, List.length_cons]
    have := sum_ge_of g M (fun x hx => h x (by simp [hx]))
    have := h c (by simp)
    omega
theorem dvd_min {p q : Nat} (hp : pw p) (hq : pw q) : min p q ∣ p ∧ min p q ∣ q := by
  rcases hp with rfl | rfl | rfl | rfl | rfl | rfl <;> rcases hq with rfl | rfl | rfl | rfl | rfl | rfl <;> decide
theorem two_cov {b a : Bt} {p q c : Nat} (hp : pw p) (hq : pw q) (h1 : cov b p c = true) (h2 : cov a q c = true) : confl b a p q = true := by
  unfold cov at h1 h2
  simp only [Bool.and_eq_true, beq_iff_eq] at h1 h2
  unfold confl
  simp only [Bool.and_eq_true, beq_iff_eq]
  obtain ⟨d1, d2⟩ := dvd_min hp hq
  refine ⟨by rw [← h1.1, ← h2.1], ?_⟩
  rw [← h1.2, ← h2.2, Nat.mod_mod_of_dvd _ d1, Nat.mod_mod_of_dvd _ d2]
/-- no two of these have one room -/
structure Rt (p : List Nat) (lanes : Nat) (plan : List Bt) (ts : List Nat) : Prop where
  dis : ts.Pairwise fun t u => confl (bt plan u) (bt plan t) (per p u) (per p t) = false
  inb : ∀ t ∈ ts, (bt plan t).1 < lanes ∧ (bt plan t).2 < per p t
def shr (p : List Nat) (ts : List Nat) : Nat := (ts.map fun t => 32 / per p t).sum
theorem shr_cov {p : List Nat} {lanes : Nat} {plan : List Bt} {ts : List Nat} (hp : ∀ t ∈ ts, pw (per p t)) (h : ∀ t ∈ ts, (bt plan t).1 < lanes ∧ (bt plan t).2 < per p t) :
    shr p ts = ((List.range (32 * lanes)).map fun c => ts.countP fun t => cov (bt plan t) (per p t) c).sum := by
  rw [← sum_swap (fun t c => cov (bt plan t) (per p t) c)]
  unfold shr
  refine congrArg List.sum (List.map_congr_left fun t ht => ?_)
  show _ = (List.range (32 * lanes)).countP (cov (bt plan t) (per p t))
  rw [cnt_cov _ (hp t ht) (h t ht).2, if_pos (h t ht).1]
theorem count_one {p : List Nat} {plan : List Bt} (c : Nat) : ∀ ts : List Nat, (∀ t ∈ ts, pw (per p t)) → (ts.Pairwise fun t u => confl (bt plan u) (bt plan t) (per p u) (per p t) = false) → ts.countP (fun t => cov (bt plan t) (per p t) c) ≤ 1
  | [], _, _ => by simp
  | t :: ts, hp, h => by
    obtain ⟨h1, h2⟩ := List.pairwise_cons.1 h
    rw [List.countP_cons]
    have ih := count_one c ts (fun x hx => hp x (by simp [hx])) h2
    by_cases hc : cov (bt plan t) (per p t) c = true
    · have h0 : ts.countP (fun t => cov (bt plan t) (per p t) c) = 0 := by
        rw [List.countP_eq_zero]
        intro u hu hcu
        have := two_cov (hp u (by simp [hu])) (hp t (by simp)) hcu hc
        rw [h1 u hu] at this
        cases this
      rw [h0, if_pos hc]
      exact Nat.le_refl _
    · rw [if_neg hc]; exact ih
/-- KRAFT: who has rooms asks for no more than there are -/
theorem rt_share {p : List Nat} {lanes : Nat} {plan : List Bt} {ts : List Nat} (hp : ∀ t ∈ ts, pw (per p t)) (h : Rt p lanes plan ts) : shr p ts ≤ 32 * lanes := by
  rw [shr_cov hp h.inb]
  have := sum_le_of (fun c => ts.countP fun t => cov (bt plan t) (per p t) c) (List.range (32 * lanes)) (fun c _ => count_one c ts hp h.dis)
  rw [List.length_range] at this
  exact this
/-- where there is no place all rooms are taken -/
theorem full_share {p : List Nat} {lanes : Nat} {plan : List Bt} {done : List Nat} {t : Nat} (hp : ∀ k ∈ done, pw (per p k)) (ht : pw (per p t)) (hle : ∀ k ∈ done, per p k ≤ per p t) (h : ∀ k ∈ done, (bt plan k).1 < lanes ∧ (bt plan k).2 < per p k)
    (hn : place p plan done t lanes = none) : 32 * lanes ≤ shr p done := by
  rw [shr_cov hp h]
  have := sum_ge_of (fun c => done.countP fun t => cov (bt plan t) (per p t) c) (List.range (32 * lanes)) (fun c hc => by
    have hc : c < 32 * lanes := List.mem_range.1 hc
    have hpos : 0 < per p t := by rcases ht with e | e | e | e | e | e <;> omega
    have h1 := lns_none p plan done t lanes 0 hn (c / 32) (c % 32 % per p t) (Nat.zero_le _) (by omega) (Nat.mod_lt _ hpos)
    unfold okAt at h1
    have h1 : (done.any fun k => confl (c / 32, c % 32 % per p t) (bt plan k) (per p t) (per p k)) = true := by simpa using h1
    obtain ⟨k, hk, hcf⟩ := List.any_eq_true.1 h1
    refine List.one_le_countP_iff.2 ⟨k, hk, ?_⟩
    unfold confl at hcf
    simp only [Bool.and_eq_true, beq_iff_eq] at hcf
    obtain ⟨d1, d2⟩ := dvd_min ht (hp k hk)
    have hm : min (per p t) (per p k) = per p k := Nat.min_eq_right (hle k hk)
    rw [hm] at hcf d1
    have h2 := hcf.2
    rw [Nat.mod_mod_of_dvd _ d1, Nat.mod_eq_of_lt (h k hk).2] at h2
    unfold cov
    simp only [Bool.and_eq_true, beq_iff_eq]
    exact ⟨hcf.1, h2⟩)
  rw [List.length_range] at this
  exact this
theorem bt_set (plan : List Bt) (t u : Nat) (b : Bt) (ht : t < plan.length) : bt (plan.set t b) u = if u = t then b else bt plan u := by
  unfold bt
  rw [List.getD_eq_getElem?_getD, List.getElem?_set, List.getD_eq_getElem?_getD]
  by_cases h : t = u
  · subst h; simp [ht]
  · have : ¬ u = t := fun e => h e.symm
    simp [h, this]
theorem confl_comm (a b : Bt) (p q : Nat) : confl a b p q = confl b a q p := by
  unfold confl
  rw [Nat.min_comm p q]
  rw [Bool.eq_iff_iff]
  simp only [Bool.and_eq_true, beq_iff_eq]
  constructor <;> rintro ⟨h1, h2⟩ <;> exact ⟨h1.symm, h2.symm⟩
theorem pl_len (p : List Nat) (lanes : Nat) : ∀ (r done : List Nat) (plan x : List Bt), pl p lanes r done plan = some x → x.length = plan.length
  | [], _, _, _, h => by injection h with h; rw [h]
  | t :: r, done, plan, x, h => by
    unfold pl at h
    split at h
    · cases h
    · have := pl_len p lanes r _ _ x h
      rw [this, List.length_set]
theorem rt_step {p : List Nat} {lanes : Nat} {plan : List Bt} {done : List Nat} {t : Nat} {b : Bt} (h : Rt p lanes plan done) (ht : t < plan.length) (hn : t ∉ done) (hb : place p plan done t lanes = some b) : Rt p lanes (plan.set t b) (done ++ [t]) := by
  obtain ⟨_, b1, b2, b3⟩ := lns_some p plan done t lanes 0 b hb
  have hne : ∀ k ∈ done, bt (plan.set t b) k = bt plan k := fun k hk => by
    have hkt : ¬ k = t := fun e => by subst e; exact hn hk
    rw [bt_set plan t k b ht, if_neg hkt]
  have hself : bt (plan.set t b) t = b := by rw [bt_set plan t t b ht, if_pos rfl]
  unfold okAt at b3
  have b3 : (done.any fun k => confl (b.1, b.2) (bt plan k) (per p t) (per p k)) = false := by simpa using b3
  refine ⟨List.pairwise_append.2 ⟨?_, List.pairwise_singleton _ _, ?_⟩, ?_⟩
  · refine h.dis.imp_of_mem ?_
    intro x y hx hy hxy
    rw [hne x hx, hne y hy]; exact hxy
  · intro x hx y hy
    obtain rfl : y = t := by simpa using hy
    rw [hself, hne x hx]
    have := List.any_eq_false.1 b3 x hx
    simpa using this
  · intro x hx
    rcases List.mem_append.1 hx with hx | hx
    · rw [hne x hx]; exact h.inb x hx
    · obtain rfl : x = t := by simpa using hx
      rw [hself]
      exact ⟨by omega, b2⟩
theorem pl_ok (p : List Nat) (lanes : Nat) : ∀ (r done : List Nat) (plan x : List Bt), (done ++ r).Nodup → (∀ t ∈ r, t < plan.length) → Rt p lanes plan done → pl p lanes r done plan = some x → Rt p lanes x (done ++ r)
  | [], done, plan, x, _, _, hrt, h => by
    unfold pl at h
    injection h with h
    subst h
    rw [List.append_nil]
    exact hrt
  | t :: r, done, plan, x, hnd, hb, hrt, h => by
    unfold pl at h
    have htn : t ∉ done := fun h => (List.nodup_append.1 hnd).2.2 t h t (by simp) rfl
    split at h
    · cases h
    · rename_i b hpl
      have := pl_ok p lanes r (done ++ [t]) (plan.set t b) x (by rw [List.append_assoc]; exact hnd) (fun u hu => by rw [List.length_set]; exact hb u (by simp [hu])) (rt_step hrt (hb t (by simp)) htn hpl) h
      rwa [List.append_assoc] at this
theorem pl_no (p : List Nat) (lanes : Nat) : ∀ (r done : List Nat) (plan : List Bt), (done ++ r).Nodup → (∀ t ∈ r, t < plan.length) → (∀ t ∈ done ++ r, pw (per p t)) → (done ++ r).Pairwise (fun a b => per p a ≤ per p b) → Rt p lanes plan done → pl p lanes r done plan = none → 32 * lanes < shr p (done ++ r)
  | [], done, plan, _, _, _, _, _, h => by simp [pl] at h
  | t :: r, done, plan, hnd, hb, hp, hs, hrt, h => by
    unfold pl at h
    have htn : t ∉ done := fun h => (List.nodup_append.1 hnd).2.2 t h t (by simp) rfl
    split at h
    · rename_i hpl
      have hle : ∀ k ∈ done, per p k ≤ per p t := fun k hk => (List.pairwise_append.1 hs).2.2 k hk t (by simp)
      have := full_share (lanes := lanes) (fun k hk => hp k (by simp [hk])) (hp t (by simp)) hle hrt.inb hpl
      have h1 : shr p (done ++ t :: r) = shr p done + (32 / per p t + shr p r) := by simp [shr]
      have h2 : 1 ≤ 32 / per p t := by rcases hp t (by simp) with e | e | e | e | e | e <;> rw [e] <;> decide
      omega
    · rename_i b hpl
      have := pl_no p lanes r (done ++ [t]) (plan.set t b) (by rw [List.append_assoc]; exact hnd) (fun u hu => by rw [List.length_set]; exact hb u (by simp [hu])) (fun u hu => hp u (by rw [List.append_assoc] at hu; exact hu)) (by rw [List.append_assoc]; exact hs) (rt_step hrt (hb t (by simp)) htn hpl) h
      rwa [List.append_assoc] at this
end Go.Proofs.Ythmcnopogahffaa.Bud
