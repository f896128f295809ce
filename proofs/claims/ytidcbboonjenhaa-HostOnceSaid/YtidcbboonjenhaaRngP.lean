/- The ring, told plainly: what Check, Put, Get and Learn make of it, and what holds of it as turns go by. -/
namespace Go.Proofs.Ytidcbboonjenhaa
abbrev RC := Int × Int × Bool
structure Rg where
  cs : List RC
  pa : Int
  pb : Int
  ga : Int
  gb : Int
  sn : Int
def bitB (b : Int) : Bool := b == 0 || b == 1
/-- the cells from number i on stand in order, as those of a ring of n -/
def fineC (n : Nat) (i : Nat) (c : RC) : Bool := (c.2.2 == decide (i + 1 = n)) && bitB c.2.1
def atB (n : Nat) (k : Int) : Bool := decide (0 ≤ k) && decide (k < n - 1)
structure Right (r : Rg) : Prop where
  lo : 3 ≤ r.cs.length
  hi : r.cs.length ≤ 64
  fine : ∀ i (h : i < r.cs.length), fineC r.cs.length i r.cs[i] = true
  pb : bitB r.pb = true
  gb : bitB r.gb = true
  zero : (r.cs[r.cs.length - 1]?).map (·.1) = some 0
  pa : 0 ≤ r.pa ∧ r.pa < r.cs.length - 1
  ga : 0 ≤ r.ga ∧ r.ga < r.cs.length - 1
  sn : 0 ≤ r.sn ∧ r.sn < r.cs.length - 1
def adv (a b : Int) (n : Nat) : Int × Int := if a + 1 = n - 1 then (0, 1 - b) else (a + 1, b)
def putCs (r : Rg) (w : Int) : List RC :=
  let c := r.cs.modify r.pa.toNat (fun c => (w, r.pb, c.2.2))
  if r.pa = r.cs.length - 2 then c.modify (r.cs.length - 1) (fun c => (c.1, r.pb, c.2.2)) else c
def putR (r : Rg) (w : Int) : Rg := { r with cs := putCs r w, pa := (adv r.pa r.pb r.cs.length).1, pb := (adv r.pa r.pb r.cs.length).2 }
def fullB (r : Rg) : Bool := (adv r.pa r.pb r.cs.length).1 == r.sn
def cellAt (r : Rg) : RC := r.cs.getD r.ga.toNat (0, 0, false)
def getB (r : Rg) : Bool := (cellAt r).2.1 == r.gb
def getR (r : Rg) : Rg := { r with ga := (adv r.ga r.gb r.cs.length).1, gb := (adv r.ga r.gb r.cs.length).2 }
def learnR (r : Rg) : Rg := { r with sn := r.ga }
def newR (n : Nat) : Rg := ⟨(List.replicate n (0, 0, false)).modify (n - 1) (fun c => (c.1, c.2.1, true)), 0, 1, 0, 1, 0⟩
theorem bit_cases {b : Int} : bitB b = true ↔ b = 0 ∨ b = 1 := by simp [bitB]
theorem putCs_len (r : Rg) (w : Int) : (putCs r w).length = r.cs.length := by
  unfold putCs; dsimp only; split <;> simp
theorem adv_in {a b : Int} {n : Nat} (h : 0 ≤ a ∧ a < n - 1) (hb : bitB b = true) : (0 ≤ (adv a b n).1 ∧ (adv a b n).1 < n - 1) ∧ bitB (adv a b n).2 = true := by
  unfold adv
  rw [bit_cases] at hb ⊢
  split <;> dsimp only <;> constructor <;> omega
theorem putCs_get? (r : Rg) (hr : Right r) (w : Int) (i : Nat) : (putCs r w)[i]? = (r.cs[i]?).map fun c =>
    if (i : Int) = r.pa then (w, r.pb, c.2.2) else if i + 1 = r.cs.length ∧ r.pa = r.cs.length - 2 then (c.1, r.pb, c.2.2) else c := by
  have h1 := hr.pa
  have h2 := hr.lo
  have e1 : ∀ i : Nat, (r.pa.toNat = i) = ((i : Int) = r.pa) := fun i => by rw [eq_iff_iff]; omega
  have e2 : (r.cs.length - 1 = i) = (i + 1 = r.cs.length) := by rw [eq_iff_iff]; omega
  unfold putCs; dsimp only
  by_cases hp : r.pa = r.cs.length - 2
  · have e3 : i + 1 = r.cs.length → ¬ (i : Int) = r.pa := by omega
    simp only [if_pos hp, List.getElem?_modify, e1, e2]
    cases r.cs[i]? with
    | none => rfl
    | some c =>
      by_cases hi1 : i + 1 = r.cs.length
      · simp only [hi1, hp, Option.map_some, Option.map_eq_map]; simp [hp.symm, e3 hi1]
      · simp [hi1]
  · simp only [if_neg hp, List.getElem?_modify, e1]
    cases r.cs[i]? with
    | none => rfl
    | some c => simp [hp]
theorem putCs_get (r : Rg) (hr : Right r) (w : Int) (i : Nat) (hi : i < r.cs.length) : (putCs r w)[i]'(by rw [putCs_len]; exact hi) =
    if (i : Int) = r.pa then (w, r.pb, r.cs[i].2.2) else if i + 1 = r.cs.length ∧ r.pa = r.cs.length - 2 then (r.cs[i].1, r.pb, r.cs[i].2.2) else r.cs[i] := by
  have := putCs_get? r hr w i
  rw [List.getElem?_eq_getElem hi, List.getElem?_eq_getElem (by rw [putCs_len]; exact hi)] at this
  simpa using this
theorem put_right {r : Rg} (hr : Right r) (w : Int) : Right (putR r w) := by
  have ha := adv_in (n := r.cs.length) hr.pa hr.pb
  have hl : (putR r w).cs.length = r.cs.length := putCs_len r w
  refine ⟨by rw [hl]; exact hr.lo, by rw [hl]; exact hr.hi, fun i h => ?_, ha.2, hr.gb, ?_, by rw [hl]; exact ha.1, by rw [hl]; exact hr.ga, by rw [hl]; exact hr.sn⟩
  · have hi : i < r.cs.length := by rw [hl] at h; exact h
    have hf := hr.fine i hi
    rw [hl]
    show fineC _ _ ((putCs r w)[i]'(by rw [putCs_len]; exact hi)) = true
    rw [putCs_get r hr w i hi]
    unfold fineC at hf ⊢
    rw [Bool.and_eq_true] at hf ⊢
    split
    · exact ⟨hf.1, hr.pb⟩
    · split
      · exact ⟨hf.1, hr.pb⟩
      · exact hf
  · rw [hl]
    have h3 := hr.lo
    have hz := hr.zero
    have h1 := hr.pa
    have hlt : r.cs.length - 1 < r.cs.length := by omega
    rw [List.getElem?_eq_getElem hlt] at hz
    show Option.map _ (putCs r w)[r.cs.length - 1]? = some 0
    rw [List.getElem?_eq_getElem (by rw [putCs_len]; exact hlt), putCs_get r hr w _ hlt, if_neg (by omega)]
    split <;> simpa using hz
theorem get_right {r : Rg} (hr : Right r) : Right (getR r) := by
  have ha := adv_in (n := r.cs.length) hr.ga hr.gb
  exact ⟨hr.lo, hr.hi, hr.fine, hr.pb, ha.2, hr.zero, hr.pa, ha.1, hr.sn⟩
theorem learn_right {r : Rg} (hr : Right r) : Right (learnR r) := ⟨hr.lo, hr.hi, hr.fine, hr.pb, hr.gb, hr.zero, hr.pa, hr.ga, hr.ga⟩
/-! as turns go by: p words were put, the list ins; g were got; s were known to be got -/
def bitOf (m q : Nat) : Int := ((q / m + 1) % 2 : Nat)
structure Inv (m : Nat) (ins : List Int) (g s : Nat) (r : Rg) : Prop where
  m2 : 2 ≤ m
  m63 : m ≤ 63
  len : r.cs.length = m + 1
  pa : r.pa = ((ins.length % m : Nat) : Int)
  pb : r.pb = bitOf m ins.length
  ga : r.ga = ((g % m : Nat) : Int)
  gb : r.gb = bitOf m g
  sn : r.sn = ((s % m : Nat) : Int)
  sg : s ≤ g
  gp : g ≤ ins.length
  room : ins.length ≤ s + (m - 1)
  put : ∀ q (h : q < ins.length), ins.length ≤ q + m → r.cs[q % m]? = some (ins[q], bitOf m q, false)
  zero : ∀ k, ins.length ≤ k → k < m → r.cs[k]? = some (0, 0, false)
  last : r.cs[m]? = some (0, ((ins.length / m % 2 : Nat) : Int), true)
theorem bitOf_bit (m q : Nat) : bitB (bitOf m q) = true := by
  rw [bit_cases]; unfold bitOf; omega
theorem slot (m p k : Nat) (hm : 0 < m) (hk : k < m) (hp : k < p) : ∃ q, q < p ∧ p ≤ q + m ∧ q % m = k := by
  refine ⟨k + m * ((p - 1 - k) / m), ?_, ?_, ?_⟩
  · have := Nat.mul_div_le (p - 1 - k) m; omega
  · have := Nat.lt_mul_div_succ (p - 1 - k) hm
    rw [Nat.mul_add] at this; omega
  · rw [Nat.add_mul_mod_self_left]; exact Nat.mod_eq_of_lt hk
theorem Inv.right {m : Nat} {ins : List Int} {g s : Nat} {r : Rg} (h : Inv m ins g s r) : Right r := by
  have hm := h.m2
  have hmod : ∀ x, x % m < m := fun x => Nat.mod_lt _ (by omega)
  have hp := hmod ins.length; have hg := hmod g; have hs := hmod s
  refine ⟨by rw [h.len]; omega, by rw [h.len]; have := h.m63; omega, fun i hi => ?_, by rw [h.pb]; exact bitOf_bit _ _, by rw [h.gb]; exact bitOf_bit _ _, ?_, ?_, ?_, ?_⟩
  · have key : ∃ c, r.cs[i]? = some c ∧ fineC r.cs.length i c = true := by
      rw [h.len] at hi ⊢
      by_cases e : i = m
      · subst e
        refine ⟨_, h.last, ?_⟩
        unfold fineC
        rw [Bool.and_eq_true, bit_cases]
        refine ⟨by simp, ?_⟩
        dsimp only; omega
      · by_cases hk : ins.length ≤ i
        · refine ⟨_, h.zero i hk (by omega), ?_⟩
          unfold fineC
          rw [Bool.and_eq_true, bit_cases]
          exact ⟨by simp [e], Or.inl rfl⟩
        · obtain ⟨q, q1, q2, q3⟩ := slot m ins.length i (by omega) (by omega) (by omega)
          have := h.put q q1 q2
          rw [q3] at this
          refine ⟨_, this, ?_⟩
          unfold fineC
          rw [Bool.and_eq_true]
          exact ⟨by simp [e], bitOf_bit _ _⟩
    obtain ⟨c, h1, h2⟩ := key
    rw [List.getElem?_eq_getElem hi] at h1
    injection h1 with h1
    rw [h1]; exact h2
  · rw [h.len, Nat.add_sub_cancel, h.last]; rfl
  · rw [h.pa, h.len]; omega
  · rw [h.ga, h.len]; omega
  · rw [h.sn, h.len]; omega
theorem mod_succ (m p : Nat) (hm : 2 ≤ m) : ((p % m : Nat) : Int) + 1 = ((m + 1 : Nat) : Int) - 1 ∧ (p + 1) % m = 0 ∧ (p + 1) / m = p / m + 1 ∨ ((p % m : Nat) : Int) + 1 ≠ ((m + 1 : Nat) : Int) - 1 ∧ (p + 1) % m = p % m + 1 ∧ (p + 1) / m = p / m := by
  have h1 := Nat.mod_lt p (show m > 0 by omega)
  have h2 := Nat.div_add_mod p m
  by_cases h : p % m + 1 = m
  · left
    have e : p + 1 = m * (p / m + 1) := by rw [Nat.mul_add]; omega
    refine ⟨by omega, ?_, ?_⟩
    · rw [e]; exact Nat.mul_mod_right _ _
    · rw [e]; exact Nat.mul_div_cancel_left _ (by omega)
  · right
    have e : p + 1 = (p % m + 1) + m * (p / m) := by omega
    refine ⟨by omega, ?_, ?_⟩
    · rw [e, Nat.add_mul_mod_self_left]; exact Nat.mod_eq_of_lt (by omega)
    · rw [e, Nat.add_mul_div_left _ _ (by omega), Nat.div_eq_of_lt (by omega), Nat.zero_add]
theorem adv_mark (m p : Nat) (hm : 2 ≤ m) : adv ((p % m : Nat) : Int) (bitOf m p) (m + 1) = ((((p + 1) % m : Nat) : Int), bitOf m (p + 1)) := by
  unfold adv bitOf
  rcases mod_succ m p hm with ⟨h1, h2, h3⟩ | ⟨h1, h2, h3⟩
  · rw [if_pos h1, h2, h3]
    refine Prod.ext rfl ?_
    dsimp only; omega
  · rw [if_neg h1, h2, h3]
    refine Prod.ext ?_ rfl
    dsimp only; omega
theorem mod_ne {m p q : Nat} (h1 : q < p) (h2 : p < q + m) : q % m ≠ p % m := by
  intro e
  have a := Nat.div_add_mod p m
  have b := Nat.div_add_mod q m
  rw [e] at b
  have hd : q / m ≤ p / m := Nat.div_le_div_right (by omega)
  by_cases hh : p / m = q / m
  · rw [hh] at a; omega
  · have : q / m + 1 ≤ p / m := by omega
    have := Nat.mul_le_mul_left m this
    rw [Nat.mul_add] at this
    omega
theorem Inv.full {m : Nat} {ins : List Int} {g s : Nat} {r : Rg} (h : Inv m ins g s r) : fullB r = decide (ins.length = s + (m - 1)) := by
  have hm := h.m2
  have h1 := h.sg; have h2 := h.gp; have h3 := h.room
  unfold fullB
  rw [h.pa, h.pb, h.len, adv_mark m _ hm, h.sn, Bool.eq_iff_iff, beq_iff_eq, decide_eq_true_iff]
  dsimp only
  constructor
  · intro e
    by_cases hh : ins.length = s + (m - 1)
    · exact hh
    · have := mod_ne (m := m) (p := ins.length + 1) (q := s) (by omega) (by omega)
      omega
  · intro e
    rw [e, show s + (m - 1) + 1 = s + m by omega, Nat.add_mod_right]
theorem Inv.putI {m : Nat} {ins : List Int} {g s : Nat} {r : Rg} (h : Inv m ins g s r) (w : Int) (hf : ins.length < s + (m - 1)) : Inv m (ins ++ [w]) g s (putR r w) := by
  have hr := h.right
  have hm := h.m2
  have hlen : (ins ++ [w]).length = ins.length + 1 := by simp
  have hpm := Nat.mod_lt ins.length (show m > 0 by omega)
  have ha : adv r.pa r.pb r.cs.length = ((((ins.length + 1) % m : Nat) : Int), bitOf m (ins.length + 1)) := by rw [h.pa, h.pb, h.len]; exact adv_mark m _ hm
  have get : ∀ i (_ : i < m + 1) c, r.cs[i]? = some c → (putCs r w)[i]? = some (if (i : Int) = r.pa then (w, r.pb, c.2.2) else if i + 1 = r.cs.length ∧ r.pa = r.cs.length - 2 then (c.1, r.pb, c.2.2) else c) := by
    intro i hi c hc
    have hi' : i < r.cs.length := by rw [h.len]; exact hi
    rw [List.getElem?_eq_getElem hi'] at hc
    injection hc with hc
    rw [List.getElem?_eq_getElem (by rw [putCs_len]; exact hi'), putCs_get r hr w i hi', hc]
  refine ⟨hm, h.m63, by show (putCs r w).length = _; rw [putCs_len, h.len], ?_, ?_, h.ga, h.gb, h.sn, h.sg, by rw [hlen]; have := h.gp; omega, by rw [hlen]; omega, ?_, ?_, ?_⟩
  · rw [hlen]; show (adv r.pa r.pb r.cs.length).1 = _; rw [ha]
  · rw [hlen]; show (adv r.pa r.pb r.cs.length).2 = _; rw [ha]
  · intro q hq hq2
    rw [hlen] at hq hq2
    show (putCs r w)[q % m]? = _
    have hqm := Nat.mod_lt q (show m > 0 by omega)
    by_cases e : q = ins.length
    · subst e
      have : ∃ c, r.cs[ins.length % m]? = some c ∧ c.2.2 = false := by
        by_cases h0 : ins.length < m
        · rw [Nat.mod_eq_of_lt h0]; exact ⟨_, h.zero _ (Nat.le_refl _) h0, rfl⟩
        · have := h.put (ins.length - m) (by omega) (by omega)
          rw [show (ins.length - m) % m = ins.length % m from (Nat.mod_eq_sub_mod (by omega)).symm] at this
          exact ⟨_, this, rfl⟩
      obtain ⟨c, c1, c2⟩ := this
      rw [get _ (by omega) c c1, if_pos (by rw [h.pa]), c2, h.pb]
      simp
    · have hq3 : q < ins.length := by omega
      have hne := mod_ne (m := m) (p := ins.length) (q := q) hq3 (by omega)
      rw [get _ (by omega) _ (h.put q hq3 (by omega)), if_neg (by rw [h.pa]; omega), if_neg (by rw [h.len]; omega), List.getElem_append_left hq3]
  · intro k hk hkm
    rw [hlen] at hk
    show (putCs r w)[k]? = _
    have : ins.length % m = ins.length := Nat.mod_eq_of_lt (by omega)
    rw [get _ (by omega) _ (h.zero k (by omega) hkm), if_neg (by rw [h.pa]; omega), if_neg (by rw [h.len]; omega)]
  · show (putCs r w)[m]? = _
    rw [get m (by omega) _ h.last, if_neg (by rw [h.pa]; omega), hlen]
    rcases mod_succ m ins.length hm with ⟨h1, h2, h3⟩ | ⟨h1, h2, h3⟩
    · rw [if_pos ⟨by rw [h.len], by rw [h.pa, h.len]; omega⟩, h3, h.pb]; rfl
    · rw [if_neg (by rw [h.pa, h.len]; omega), h3]
theorem Inv.get_yes {m : Nat} {ins : List Int} {g s : Nat} {r : Rg} (h : Inv m ins g s r) (hg : g < ins.length) : getB r = true ∧ (cellAt r).1 = ins[g] := by
  have := h.put g hg (by have := h.room; have := h.sg; have := h.m2; omega)
  have e : cellAt r = (ins[g], bitOf m g, false) := by
    unfold cellAt
    rw [h.ga, Int.toNat_natCast, List.getD_eq_getElem?_getD, this]; rfl
  unfold getB
  rw [e, h.gb]
  simp
theorem Inv.get_no {m : Nat} {ins : List Int} {g s : Nat} {r : Rg} (h : Inv m ins g s r) (hg : ¬ g < ins.length) : getB r = false := by
  have hm := h.m2
  obtain rfl : g = ins.length := by have := h.gp; omega
  unfold getB cellAt
  rw [h.ga, h.gb, Int.toNat_natCast, List.getD_eq_getElem?_getD]
  by_cases h0 : ins.length < m
  · rw [Nat.mod_eq_of_lt h0, h.zero _ (Nat.le_refl _) h0]
    simp [bitOf, Nat.div_eq_of_lt h0]
  · have := h.put (ins.length - m) (by omega) (by omega)
    rw [show (ins.length - m) % m = ins.length % m from (Nat.mod_eq_sub_mod (by omega)).symm] at this
    rw [this]
    have hd : ins.length / m = (ins.length - m) / m + 1 := by
      rw [Nat.div_eq_sub_div (by omega) (by omega)]
    rw [beq_eq_false_iff_ne]
    simp only [Option.getD_some, bitOf, hd]
    omega
theorem Inv.getI {m : Nat} {ins : List Int} {g s : Nat} {r : Rg} (h : Inv m ins g s r) (hg : g < ins.length) : Inv m ins (g + 1) s (getR r) := by
  have ha : adv r.ga r.gb r.cs.length = ((((g + 1) % m : Nat) : Int), bitOf m (g + 1)) := by rw [h.ga, h.gb, h.len]; exact adv_mark m _ h.m2
  refine ⟨h.m2, h.m63, h.len, h.pa, h.pb, ?_, ?_, h.sn, by have := h.sg; omega, by omega, h.room, h.put, h.zero, h.last⟩
  · show (adv r.ga r.gb r.cs.length).1 = _; rw [ha]
  · show (adv r.ga r.gb r.cs.length).2 = _; rw [ha]
theorem Inv.learnI {m : Nat} {ins : List Int} {g s : Nat} {r : Rg} (h : Inv m ins g s r) : Inv m ins g g (learnR r) :=
  ⟨h.m2, h.m63, h.len, h.pa, h.pb, h.ga, h.gb, h.ga, Nat.le_refl _, h.gp, by have := h.room; have := h.sg; omega, h.put, h.zero, h.last⟩
theorem Inv.new (m : Nat) (h2 : 2 ≤ m) (h63 : m ≤ 63) : Inv m [] 0 0 (newR (m + 1)) := by
  refine ⟨h2, h63, by simp [newR], ?_, ?_, ?_, ?_, ?_, Nat.le_refl _, Nat.le_refl _, by simp, fun q h => absurd h (by simp), ?_, ?_⟩
  · simp [newR]
  · simp [newR, bitOf]
  · simp [newR]
  · simp [newR, bitOf]
  · simp [newR]
  · intro k _ hk
    simp only [newR, Nat.add_sub_cancel, List.getElem?_modify]
    rw [List.getElem?_replicate, if_pos (by omega)]
    simp; omega
  · simp only [newR, Nat.add_sub_cancel, List.getElem?_modify]
    rw [List.getElem?_replicate, if_pos (by omega)]
    simp
end Go.Proofs.Ytidcbboonjenhaa
