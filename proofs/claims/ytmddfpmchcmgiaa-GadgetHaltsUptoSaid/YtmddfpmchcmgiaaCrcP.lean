/- The plain law of the two checksums: a shift register over bits; it is linear; no program in sight. -/
namespace Go.Proofs.Ytmddfpmchcmgiaa.CrcP

/-- one step of the register -/
def st (c r : Nat) (b : Bool) : Nat := if (r % 2 == 1) != b then (r / 2) ^^^ c else r / 2
def run (c r : Nat) (l : List Bool) : Nat := l.foldl (st c) r
/-- the lowest k bits of a number, the lowest first -/
def nb (n k : Nat) : List Bool := (List.range k).map n.testBit
def tbits (s : List UInt8) : List Bool := s.flatMap fun b => nb b.toNat 8
def xorL (a b : List Bool) : List Bool := List.zipWith (· != ·) a b

theorem st_t {c r : Nat} {b : Bool} (h : ((r % 2 == 1) != b) = true) : st c r b = (r / 2) ^^^ c := by unfold st; rw [h]; rfl
theorem st_f {c r : Nat} {b : Bool} (h : ((r % 2 == 1) != b) = false) : st c r b = r / 2 := by unfold st; rw [h]; rfl
theorem run_app (c r : Nat) (a b : List Bool) : run c r (a ++ b) = run c (run c r a) b := by simp [run, List.foldl_append]
theorem run_cons (c r : Nat) (x : Bool) (b : List Bool) : run c r (x :: b) = run c (st c r x) b := rfl
theorem run_nil (c r : Nat) : run c r [] = r := rfl
theorem nb_succ (n k : Nat) : nb n (k + 1) = nb n k ++ [n.testBit k] := by simp [nb, List.range_succ]
theorem nb_len (n k : Nat) : (nb n k).length = k := by simp [nb]
theorem tbits_app (a b : List UInt8) : tbits (a ++ b) = tbits a ++ tbits b := by simp [tbits]
theorem tbits_snoc (a : List UInt8) (b : UInt8) : tbits (a ++ [b]) = tbits a ++ nb b.toNat 8 := by simp [tbits]
theorem tbits_cons (a : List UInt8) (b : UInt8) : tbits (b :: a) = nb b.toNat 8 ++ tbits a := by simp [tbits]

theorem xor_lt {a b k : Nat} (ha : a < 2 ^ k) (hb : b < 2 ^ k) : a ^^^ b < 2 ^ k := Nat.xor_lt_two_pow ha hb
theorem st_lt {c r k : Nat} (b : Bool) (hr : r < 2 ^ k) (hc : c < 2 ^ k) : st c r b < 2 ^ k := by
  have : r / 2 < 2 ^ k := by omega
  unfold st; split
  · exact xor_lt this hc
  · exact this
theorem run_lt {c k : Nat} (hc : c < 2 ^ k) : ∀ (l : List Bool) (r : Nat), r < 2 ^ k → run c r l < 2 ^ k := by
  intro l; induction l with
  | nil => intro r h; exact h
  | cons x l ih => intro r h; exact ih _ (st_lt x h hc)

theorem div_xor (a b : Nat) : (a ^^^ b) / 2 = (a / 2) ^^^ (b / 2) := by
  have := @Nat.shiftRight_xor_distrib 1 a b
  simpa [Nat.shiftRight_eq_div_pow] using this
theorem mod_xor (a b : Nat) : ((a ^^^ b) % 2 == 1) = ((a % 2 == 1) != (b % 2 == 1)) := by
  have h := Nat.testBit_xor a b 0
  simp only [Nat.testBit_zero] at h
  have e1 : ((a ^^^ b) % 2 == 1) = decide ((a ^^^ b) % 2 = 1) := by rw [Bool.eq_iff_iff]; simp
  have e2 : (a % 2 == 1) = decide (a % 2 = 1) := by rw [Bool.eq_iff_iff]; simp
  have e3 : (b % 2 == 1) = decide (b % 2 = 1) := by rw [Bool.eq_iff_iff]; simp
  rw [e1, e2, e3, h]

theorem st_xor (c r r' : Nat) (b b' : Bool) : st c (r ^^^ r') (b != b') = st c r b ^^^ st c r' b' := by
  unfold st
  rw [mod_xor, div_xor]
  cases (r % 2 == 1) <;> cases (r' % 2 == 1) <;> cases b <;> cases b' <;> simp
  all_goals first | (ac_rfl) | skip
  all_goals (rw [show ∀ x y z : Nat, x ^^^ z ^^^ (y ^^^ z) = x ^^^ y ^^^ (z ^^^ z) from fun x y z => by ac_rfl]; simp)

theorem run_xor (c : Nat) : ∀ (a b : List Bool) (r r' : Nat), a.length = b.length → run c (r ^^^ r') (xorL a b) = run c r a ^^^ run c r' b := by
  intro a; induction a with
  | nil => intro b r r' h; cases b with
    | nil => rfl
    | cons _ _ => simp at h
  | cons x a ih => intro b r r' h; cases b with
    | nil => simp at h
    | cons y b =>
      simp only [xorL, List.zipWith_cons_cons, run_cons]
      rw [st_xor]
      exact ih b _ _ (by simpa using h)

theorem nb_xor (n m k : Nat) : nb (n ^^^ m) k = xorL (nb n k) (nb m k) := by
  simp only [nb, xorL, List.zipWith_map, List.zipWith_self]
  apply List.map_congr_left; intro i _; simp

/-- a number is fed into itself: nothing is left -/
theorem run_self (c : Nat) : ∀ (k r n : Nat), (∀ i, i < k → n.testBit i = r.testBit i) → run c r (nb n k) = r / 2 ^ k := by
  intro k; induction k with
  | zero => intro r n _; simp [nb, run]
  | succ k ih =>
    intro r n h
    rw [nb_succ, run_app, ih r n (fun i hi => h i (by omega)), run_cons, run_nil, h k (by omega)]
    unfold st
    have e : (r / 2 ^ k % 2 == 1) = r.testBit k := by
      rw [Nat.testBit_eq_decide_div_mod_eq, Bool.eq_iff_iff]; simp
    rw [e]; simp [Nat.div_div_eq_div_mul, Nat.pow_succ]

def Top (c : Nat) (k : Nat) : Prop := c < 2 ^ (k + 1) ∧ 2 ^ k ≤ c
theorem st_zero_ne {c r k : Nat} (hc : Top c k) (hr : r < 2 ^ (k + 1)) (h : r ≠ 0) : st c r false ≠ 0 := by
  obtain ⟨h1, h2⟩ := hc
  have h3 : r / 2 < 2 ^ k := by rw [Nat.pow_succ] at hr; omega
  unfold st
  split
  · intro e
    have t1 : (r / 2).testBit k = false := Nat.testBit_lt_two_pow h3
    have t2 : c.testBit k = true := by
      rw [Nat.testBit_eq_decide_div_mod_eq]
      have : c / 2 ^ k = 1 := by
        apply Nat.div_eq_of_lt_le
        · omega
        · rw [Nat.pow_succ] at h1; omega
      simp [this]
    have := Nat.testBit_xor (r / 2) c k
    rw [e, t1, t2] at this
    simp at this
  · rename_i hb
    intro e
    have : r % 2 = 1 := by omega
    simp [this] at hb
theorem run_zeros_ne {c k : Nat} (hc : Top c k) : ∀ (m r : Nat), r < 2 ^ (k + 1) → r ≠ 0 → run c r (List.replicate m false) ≠ 0 := by
  intro m; induction m with
  | zero => intro r _ h; exact h
  | succ m ih => intro r hr h; rw [List.replicate_succ, run_cons]; exact ih _ (st_lt _ hr hc.1) (st_zero_ne hc hr h)
theorem run_zero (c : Nat) : ∀ m, run c 0 (List.replicate m false) = 0 := by
  intro m; induction m with
  | zero => rfl
  | succ m ih => rw [List.replicate_succ, run_cons]; exact ih

theorem nb_zero (k : Nat) : nb 0 k = List.replicate k false := by
  induction k with
  | zero => rfl
  | succ k ih => rw [nb_succ, ih, List.replicate_succ']; simp
/-- at most sixteen bits, not all 0, fed into an empty register: something is left -/
theorem run_burst {c k : Nat} (hc : Top c k) (e m : Nat) (hm : m ≤ k + 1) (he : e < 2 ^ m) (h : e ≠ 0) : run c 0 (nb e m) ≠ 0 := by
  have h1 : run c (e ^^^ e) (xorL (nb e m) (nb 0 m)) = run c e (nb e m) ^^^ run c e (nb 0 m) := run_xor c _ _ _ _ (by simp [nb_len])
  rw [← nb_xor, Nat.xor_self, Nat.xor_zero, run_self c m e e (fun _ _ => rfl), Nat.div_eq_of_lt he, Nat.zero_xor, nb_zero] at h1
  rw [h1]
  exact run_zeros_ne hc m e (Nat.lt_of_lt_of_le he (Nat.pow_le_pow_right (by omega) hm)) h

/-! the two sums -/
def more (r : Nat) (s : List UInt8) : Nat := (run 40961 (r ^^^ 65535) (tbits s)) ^^^ 65535
def six (s : List UInt8) : Nat := more 0 s
def five (n : Nat) : Nat := run 20 31 (nb n 11) ^^^ 31
theorem more_eq (r : Nat) (s : List UInt8) : more r s = (run 40961 (r ^^^ 65535) (tbits s)) ^^^ 65535 := rfl
theorem six_eq (s : List UInt8) : six s = more 0 s := rfl
theorem five_eq (n : Nat) : five n = run 20 31 (nb n 11) ^^^ 31 := rfl
theorem five_known : five 1808 = 5 := by decide +kernel
theorem six_known : six [49, 50, 51, 52, 53, 54, 55, 56, 57] = 46280 := by decide +kernel
theorem more_lt (r : Nat) (s : List UInt8) (h : r < 65536) : more r s < 65536 := xor_lt (k := 16) (run_lt (k := 16) (by decide) _ _ (xor_lt (k := 16) h (by decide))) (by decide)
theorem five_lt (n : Nat) : five n < 32 := xor_lt (k := 5) (run_lt (k := 5) (by decide) _ _ (by decide)) (by decide)
theorem xx (a b : Nat) : a ^^^ b ^^^ b = a := by rw [Nat.xor_assoc, Nat.xor_self, Nat.xor_zero]
theorem more_more (r : Nat) (s t : List UInt8) : more (more r s) t = more r (s ++ t) := by
  unfold more; rw [xx, tbits_app, run_app]

theorem tbits_xor : ∀ (a b : List UInt8), tbits (List.zipWith (· ^^^ ·) a b) = xorL (tbits (a.take (min a.length b.length))) (tbits (b.take (min a.length b.length))) := by
  intro a; induction a with
  | nil => intro b; simp [tbits, xorL]
  | cons x a ih => intro b; cases b with
    | nil => simp [tbits, xorL]
    | cons y b =>
      have e : min (x :: a).length (y :: b).length = min a.length b.length + 1 := by simp
      rw [e, List.zipWith_cons_cons, List.take_succ_cons, List.take_succ_cons, tbits_cons, tbits_cons, tbits_cons, ih, UInt8.toNat_xor, nb_xor]
      unfold xorL
      rw [List.zipWith_append (by simp [nb_len])]
theorem tbits_len (a : List UInt8) : (tbits a).length = 8 * a.length := by
  induction a with
  | nil => rfl
  | cons x a ih => rw [tbits_cons, List.length_append, ih, nb_len, List.length_cons]; omega

theorem nb_split (n a : Nat) : ∀ b, nb n (a + b) = nb n a ++ nb (n / 2 ^ a) b := by
  intro b; induction b with
  | zero => simp [nb]
  | succ b ih =>
    rw [← Nat.add_assoc, nb_succ, ih, nb_succ, List.append_assoc]
    congr 2
    rw [Nat.testBit_div_two_pow, Nat.add_comm]
theorem nb_mod (n a : Nat) : nb (n % 2 ^ a) a = nb n a := by
  unfold nb; apply List.map_congr_left; intro i hi
  rw [Nat.testBit_mod_two_pow]; simp at hi; simp [hi]
theorem rest_law (s : List UInt8) (lo hi : UInt8) (hlo : lo.toNat = six s % 256) (hhi : hi.toNat = six s / 256) : six (s ++ [lo, hi]) = 20478 := by
  have e : tbits [lo, hi] = nb (six s) 16 := by
    have e1 : tbits [lo, hi] = nb lo.toNat 8 ++ nb hi.toNat 8 := by simp [tbits]
    rw [e1, hlo, hhi, nb_split (six s) 8 8]
    congr 1
    exact nb_mod (six s) 8
  have h1 : six (s ++ [lo, hi]) = run 40961 (six s ^^^ 65535) (tbits [lo, hi]) ^^^ 65535 := by
    rw [six_eq, ← more_more, ← six_eq, more_eq]
  have hl : six s < 65536 := more_lt _ _ (by omega)
  rw [h1, e]
  generalize six s = n at *
  have h2 : run 40961 (n ^^^ 65535) (xorL (nb n 16) (nb 0 16)) = run 40961 n (nb n 16) ^^^ run 40961 65535 (nb 0 16) := run_xor _ _ _ _ _ (by simp [nb_len])
  rw [← nb_xor, Nat.xor_zero, run_self _ 16 n n (fun _ _ => rfl), Nat.div_eq_of_lt (by omega), Nat.zero_xor] at h2
  rw [h2]; decide +kernel

/-! tokens -/
theorem five_xor (n m : Nat) : five (n ^^^ m) = five n ^^^ run 20 0 (nb m 11) := by
  rw [five_eq, five_eq, nb_xor]
  have := run_xor 20 (nb n 11) (nb m 11) 31 0 (by simp [nb_len])
  rw [Nat.xor_zero] at this
  rw [this]; simp only [Nat.xor_assoc]; congr 1; rw [Nat.xor_comm]
theorem two_all : ∀ i, i < 16 → ∀ j, j < 16 → let e := if i = j then 1 <<< i else (1 <<< i) ^^^ (1 <<< j); run 20 0 (nb (e % 2048) 11) ≠ e / 2048 := by decide +kernel
theorem two_law (n i j e : Nat) (hn : n < 2048) (hi : i < 16) (hj : j < 16) (he : e = if i = j then 1 <<< i else (1 <<< i) ^^^ (1 <<< j)) :
    five (((n + five n * 2048) ^^^ e) % 2048) ≠ ((n + five n * 2048) ^^^ e) / 2048 := by
  have h := two_all i hi j hj
  simp only [← he] at h
  have h1 : ((n + five n * 2048) ^^^ e) % 2048 = n ^^^ (e % 2048) := by
    have := Nat.xor_mod_two_pow (a := n + five n * 2048) (b := e) (n := 11)
    rw [show (2 : Nat) ^ 11 = 2048 from rfl] at this
    rw [this]; congr 1; omega
  have h2 : ((n + five n * 2048) ^^^ e) / 2048 = five n ^^^ (e / 2048) := by
    have := @Nat.shiftRight_xor_distrib 11 (n + five n * 2048) e
    simp only [Nat.shiftRight_eq_div_pow] at this
    rw [show (2 : Nat) ^ 11 = 2048 from rfl] at this
    rw [this]; congr 1; omega
  rw [h1, h2, five_xor]
  intro k
  apply h
  have : five n ^^^ (five n ^^^ run 20 0 (nb (e % 2048) 11)) = five n ^^^ (five n ^^^ (e / 2048)) := by rw [k]
  rwa [← Nat.xor_assoc, ← Nat.xor_assoc, Nat.xor_self, Nat.zero_xor, Nat.zero_xor] at this

theorem xorL_app (a b c d : List Bool) (h : a.length = b.length) : xorL (a ++ c) (b ++ d) = xorL a b ++ xorL c d := by
  unfold xorL; exact List.zipWith_append h
theorem xorL_len (a b : List Bool) (h : a.length = b.length) : (xorL a b).length = a.length := by simp [xorL, h]
/-- the sum of three texts' bits' sum -/
theorem linear_law (a b c d : List UInt8) (ha : a.length = b.length) (hb : b.length = c.length) (hd : d = List.zipWith (· ^^^ ·) (List.zipWith (· ^^^ ·) a b) c) :
    six d = six a ^^^ six b ^^^ six c := by
  have hl : (List.zipWith (· ^^^ ·) a b : List UInt8).length = c.length := by simp; omega
  have e1 : tbits d = xorL (xorL (tbits a) (tbits b)) (tbits c) := by
    have m1 : min (List.zipWith (· ^^^ ·) a b : List UInt8).length c.length = c.length := by rw [hl]; omega
    have m2 : min a.length b.length = b.length := by omega
    rw [hd, tbits_xor, m1, List.take_of_length_le (by omega), List.take_of_length_le (by omega), tbits_xor, m2, List.take_of_length_le (by omega), List.take_of_length_le (by omega)]
  have l1 : (tbits a).length = (tbits b).length := by rw [tbits_len, tbits_len, ha]
  have l2 : (xorL (tbits a) (tbits b)).length = (tbits c).length := by rw [xorL_len _ _ l1, tbits_len, tbits_len]; omega
  simp only [six_eq, more_eq, Nat.zero_xor]
  rw [e1]
  have h1 := run_xor 40961 (xorL (tbits a) (tbits b)) (tbits c) (65535 ^^^ 65535) 65535 l2
  rw [run_xor 40961 (tbits a) (tbits b) 65535 65535 l1, Nat.xor_self, Nat.zero_xor] at h1
  rw [h1]
  generalize run 40961 65535 (tbits a) = x
  generalize run 40961 65535 (tbits b) = y
  generalize run 40961 65535 (tbits c) = z
  have : x ^^^ 65535 ^^^ (y ^^^ 65535) ^^^ (z ^^^ 65535) = x ^^^ y ^^^ z ^^^ 65535 ^^^ (65535 ^^^ 65535) := by ac_rfl
  rw [this, Nat.xor_self, Nat.xor_zero]

/-! parity -/
def pc : Nat → Nat → Nat
  | 0, _ => 0
  | k + 1, n => n % 2 + pc k (n / 2)
theorem pc_step : ∀ (k m : Nat), 0 < m → m < 2 ^ k → pc k (m &&& (m - 1)) + 1 = pc k m := by
  intro k; induction k with
  | zero => intro m h1 h2; omega
  | succ k ih =>
    intro m h1 h2
    simp only [pc]
    rw [Nat.and_div_two]
    have e : (m &&& (m - 1)) % 2 = (m % 2) &&& ((m - 1) % 2) := by
      have := Nat.and_mod_two_pow (a := m) (b := m - 1) (n := 1)
      simpa using this
    rw [e]
    rcases Nat.mod_two_eq_zero_or_one m with h | h
    · rw [h, Nat.zero_and]
      have e2 : (m - 1) / 2 = m / 2 - 1 := by omega
      rw [e2]
      have := ih (m / 2) (by omega) (by rw [Nat.pow_succ] at h2; omega)
      omega
    · have e1 : (m - 1) % 2 = 0 := by omega
      have e2 : (m - 1) / 2 = m / 2 := by omega
      rw [h, e1, e2, Nat.and_zero, Nat.and_self]; omega
theorem pc_zero : ∀ k, pc k 0 = 0 := by
  intro k; induction k with
  | zero => rfl
  | succ k ih => simp [pc, ih]
theorem pc_le : ∀ (k n : Nat), pc k n ≤ k := by
  intro k; induction k with
  | zero => intro n; simp [pc]
  | succ k ih => intro n; have := ih (n / 2); simp only [pc]; omega
theorem pc_xor : ∀ (k x y : Nat), pc k (x ^^^ y) % 2 = (pc k x + pc k y) % 2 := by
  intro k; induction k with
  | zero => intro x y; rfl
  | succ k ih =>
    intro x y
    simp only [pc]
    rw [div_xor]
    have e : (x ^^^ y) % 2 = (x % 2 + y % 2) % 2 := by
      have h := mod_xor x y
      rcases Nat.mod_two_eq_zero_or_one x with h1 | h1 <;> rcases Nat.mod_two_eq_zero_or_one y with h2 | h2 <;> rcases Nat.mod_two_eq_zero_or_one (x ^^^ y) with h3 | h3 <;> rw [h1, h2, h3] at h <;> rw [h1, h2, h3] <;> revert h <;> decide
    have := ih (x / 2) (y / 2)
    omega
theorem pc_stable : ∀ (k n : Nat), n < 2 ^ k → pc (k + 1) n = pc k n := by
  intro k; induction k with
  | zero => intro n h; have : n = 0 := by omega
            subst this; rfl
  | succ k ih =>
    intro n h
    have := ih (n / 2) (by rw [Nat.pow_succ] at h; omega)
    rw [show pc (k + 1 + 1) n = n % 2 + pc (k + 1) (n / 2) from rfl, this]; rfl
theorem pc_up (k n : Nat) (h : n < 2 ^ k) : ∀ j, pc (k + j) n = pc k n := by
  intro j; induction j with
  | zero => rfl
  | succ j ih => rw [← Nat.add_assoc, pc_stable _ _ (Nat.lt_of_lt_of_le h (Nat.pow_le_pow_right (by omega) (by omega))), ih]
theorem pc_nb : ∀ (k n : Nat), (nb n k).count true = pc k n := by
  intro k; induction k with
  | zero => intro n; rfl
  | succ k ih =>
    intro n
    rw [Nat.add_comm k 1, nb_split n 1 k, List.count_append, ih]
    have : nb n 1 = [n.testBit 0] := rfl
    rw [this, Nat.add_comm 1 k]
    simp only [pc, Nat.pow_one]
    congr 1
    rw [Nat.testBit_zero]
    rcases Nat.mod_two_eq_zero_or_one n with h | h <;> rw [h] <;> decide
/-- a step keeps count of the bits, evenly: the polynomial has an odd number of terms below -/
theorem st_pc (c r : Nat) (b : Bool) (hr : r < 65536) (hc : pc 64 c % 2 = 1) : pc 64 (st c r b) % 2 = (pc 64 r + (if b then 1 else 0)) % 2 := by
  have h63 : r / 2 < 2 ^ 63 := Nat.lt_of_lt_of_le (show r / 2 < 65536 by omega) (by decide)
  have e : pc 64 r = r % 2 + pc 64 (r / 2) := by
    have := pc_up 63 (r / 2) h63 1
    rw [show pc 64 r = r % 2 + pc 63 (r / 2) from rfl, ← this]
  cases hb : ((r % 2 == 1) != b)
  · rw [st_f hb, e]
    cases b <;> simp at hb ⊢ <;> omega
  · rw [st_t hb, pc_xor, e]
    cases b <;> simp at hb ⊢ <;> omega
theorem run_pc (c : Nat) (hc : pc 64 c % 2 = 1) (hc2 : c < 65536) : ∀ (l : List Bool) (r : Nat), r < 65536 → pc 64 (run c r l) % 2 = (pc 64 r + l.count true) % 2 := by
  intro l; induction l with
  | nil => intro r _; simp [run]
  | cons x l ih =>
    intro r hr
    rw [run_cons, ih _ (st_lt (k := 16) x hr hc2), List.count_cons]
    have := st_pc c r x hr hc
    cases x <;> simp at this ⊢ <;> omega
theorem parity_law (a b : List UInt8) (h : a.length = b.length) : pc 64 (six a ^^^ six b) % 2 = (tbits (List.zipWith (· ^^^ ·) a b)).count true % 2 := by
  have e : six a ^^^ six b = run 40961 0 (tbits (List.zipWith (· ^^^ ·) a b)) := by
    rw [tbits_xor, h, Nat.min_self, List.take_of_length_le (by omega), List.take_of_length_le (by omega)]
    have := run_xor 40961 (tbits a) (tbits b) 65535 65535 (by rw [tbits_len, tbits_len, h])
    rw [Nat.xor_self] at this
    rw [this]
    simp only [six_eq, more_eq, Nat.zero_xor]
    generalize run 40961 65535 (tbits a) = x
    generalize run 40961 65535 (tbits b) = y
    have : x ^^^ 65535 ^^^ (y ^^^ 65535) = x ^^^ y ^^^ (65535 ^^^ 65535) := by ac_rfl
    rw [this, Nat.xor_self, Nat.xor_zero]
  rw [e, run_pc 40961 (by decide) (by decide) _ 0 (by omega), pc_zero, Nat.zero_add]

/-! bits in a row -/
def bitAt (s : List UInt8) (i : Nat) : Bool := (s.getD (i / 8) 0).toNat.testBit (i % 8)
theorem range_split (a b : Nat) : List.range (a + b) = List.range a ++ (List.range b).map (a + ·) := List.range_add
theorem tbits_eq : ∀ (s : List UInt8), tbits s = (List.range (8 * s.length)).map (bitAt s) := by
  intro s; induction s with
  | nil => rfl
  | cons x s ih =>
    rw [tbits_cons, ih, List.length_cons, show 8 * (s.length + 1) = 8 + 8 * s.length by omega, range_split, List.map_append]
    have h1 : nb x.toNat 8 = (List.range 8).map (bitAt (x :: s)) := by
      unfold nb; apply List.map_congr_left; intro i hi
      have hi : i < 8 := by simpa using hi
      unfold bitAt
      have e1 : i / 8 = 0 := by omega
      have e2 : i % 8 = i := by omega
      rw [e1, e2]; rfl
    have h2 : (List.range (8 * s.length)).map (bitAt s) = ((List.range (8 * s.length)).map (8 + ·)).map (bitAt (x :: s)) := by
      rw [List.map_map]; apply List.map_congr_left; intro i _
      unfold bitAt
      simp only [Function.comp]
      have e1 : (8 + i) / 8 = i / 8 + 1 := by omega
      have e2 : (8 + i) % 8 = i % 8 := by omega
      rw [e1, e2]; rfl
    rw [h1, h2]
def turnBit (t : List UInt8) (p : Nat) : List UInt8 := t.set (p / 8) ((t.getD (p / 8) 0) ^^^ UInt8.ofNat (1 <<< (p % 8)))
theorem turn_len (t : List UInt8) (p : Nat) : (turnBit t p).length = t.length := by simp [turnBit]
theorem turn_bit (t : List UInt8) (p : Nat) (hp : p < 8 * t.length) (i : Nat) : bitAt (turnBit t p) i = (bitAt t i != (i == p)) := by
  unfold bitAt turnBit
  have hp8 : p / 8 < t.length := by omega
  have hk : p % 8 < 8 := by omega
  have hone : (UInt8.ofNat (1 <<< (p % 8))).toNat = 1 <<< (p % 8) := by
    have : 1 <<< (p % 8) < 256 := by
      rw [Nat.shiftLeft_eq, Nat.one_mul]
      exact Nat.lt_of_le_of_lt (Nat.pow_le_pow_right (by omega) (show p % 8 ≤ 7 by omega)) (by decide)
    simp; omega
  by_cases h : i / 8 = p / 8
  · rw [h]
    have : (t.set (p / 8) ((t.getD (p / 8) 0) ^^^ UInt8.ofNat (1 <<< (p % 8)))).getD (p / 8) 0 = (t.getD (p / 8) 0) ^^^ UInt8.ofNat (1 <<< (p % 8)) := by
      simp [List.getD, hp8]
    rw [this, UInt8.toNat_xor, Nat.testBit_xor, hone, Nat.one_shiftLeft, Nat.testBit_two_pow]
    congr 1
    rw [Bool.eq_iff_iff]; simp; omega
  · have : (t.set (p / 8) ((t.getD (p / 8) 0) ^^^ UInt8.ofNat (1 <<< (p % 8)))).getD (i / 8) 0 = t.getD (i / 8) 0 := by
      simp only [List.getD]; rw [List.getElem?_set_ne (by omega)]
    rw [this]
    have hne : (i == p) = false := by rw [beq_eq_false_iff_ne]; intro e; exact h (by rw [e])
    rw [hne]; simp
theorem xorL_map (f g : Nat → Bool) (l : List Nat) : xorL (l.map f) (l.map g) = l.map fun i => f i != g i := by
  simp [xorL, List.zipWith_map, List.zipWith_self]
theorem burst_law (s t : List UInt8) (pos b : Nat) (hl : t.length = s.length) (hpos : pos < 8 * s.length) (hb : b ≠ 0) (hb2 : b < 65536)
    (hend : ∀ k, k < 16 → b.testBit k = true → pos + k < 8 * s.length)
    (h : ∀ i, i < 8 * s.length → bitAt t i = (bitAt s i != (decide (pos ≤ i ∧ i < pos + 16) && b.testBit (i - pos)))) : six t ≠ six s := by
  have e : six s ^^^ six t = run 40961 0 (xorL (tbits s) (tbits t)) := by
    have := run_xor 40961 (tbits s) (tbits t) 65535 65535 (by rw [tbits_len, tbits_len, hl])
    rw [Nat.xor_self] at this
    rw [this]
    simp only [six_eq, more_eq, Nat.zero_xor]
    generalize run 40961 65535 (tbits s) = x
    generalize run 40961 65535 (tbits t) = y
    have : x ^^^ 65535 ^^^ (y ^^^ 65535) = x ^^^ y ^^^ (65535 ^^^ 65535) := by ac_rfl
    rw [this, Nat.xor_self, Nat.xor_zero]
  obtain ⟨m, r, hm, hL, hmr⟩ : ∃ m r, m ≤ 16 ∧ 8 * s.length = pos + (m + r) ∧ (r = 0 ∨ m = 16) := by
    by_cases h16 : 8 * s.length - pos ≤ 16
    · exact ⟨8 * s.length - pos, 0, h16, by omega, Or.inl rfl⟩
    · exact ⟨16, 8 * s.length - pos - 16, by omega, by omega, Or.inr rfl⟩
  have hbm : b < 2 ^ m := by
    apply Nat.lt_pow_two_of_testBit
    intro i hi
    by_cases hi16 : i < 16
    · cases hbi : b.testBit i
      · rfl
      · have := hend i hi16 hbi
        rcases hmr with h0 | h0 <;> omega
    · exact Nat.testBit_lt_two_pow (Nat.lt_of_lt_of_le hb2 (show 2 ^ 16 ≤ 2 ^ i from Nat.pow_le_pow_right (by omega) (by omega)))
  have hD : xorL (tbits s) (tbits t) = List.replicate pos false ++ (nb b m ++ List.replicate r false) := by
    rw [tbits_eq s, tbits_eq t, hl, xorL_map, hL, range_split, List.map_append, range_split m r, List.map_append, List.map_append]
    congr 1
    · rw [List.eq_replicate_iff]
      refine ⟨by simp, fun x hx => ?_⟩
      obtain ⟨i, hi, rfl⟩ := List.mem_map.1 hx
      have hi : i < pos := by simpa using hi
      rw [h i (by omega)]
      have : decide (pos ≤ i ∧ i < pos + 16) = false := by rw [decide_eq_false_iff_not]; omega
      rw [this]; simp
    · congr 1
      · rw [List.map_map]; unfold nb; apply List.map_congr_left; intro i hi
        have hi : i < m := by simpa using hi
        simp only [Function.comp]
        rw [h (pos + i) (by omega)]
        have : decide (pos ≤ pos + i ∧ pos + i < pos + 16) = true := by rw [decide_eq_true_iff]; omega
        rw [this, Nat.add_sub_cancel_left]; simp
      · rw [List.eq_replicate_iff]
        refine ⟨by simp, fun x hx => ?_⟩
        simp only [List.mem_map, List.map_map, Function.comp] at hx
        obtain ⟨i, hi, rfl⟩ := hx
        have hi : i < r := by simpa using hi
        rw [h _ (by omega)]
        have : decide (pos ≤ pos + (m + i) ∧ pos + (m + i) < pos + 16) = false := by rw [decide_eq_false_iff_not]; omega
        rw [this]; simp
  intro heq
  rw [heq, Nat.xor_self, hD, run_app, run_zero, run_app] at e
  have hT : Top 40961 15 := ⟨by decide, by decide⟩
  have h1 := run_burst hT b m (by omega) hbm hb
  exact run_zeros_ne hT r _ (run_lt (k := 16) (by decide) _ _ (by decide)) h1 e.symm
end Go.Proofs.Ytmddfpmchcmgiaa.CrcP
