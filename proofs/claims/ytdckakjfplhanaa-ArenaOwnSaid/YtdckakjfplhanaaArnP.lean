/- arena, plainly: spans in order, first fit. -/
namespace Go.Proofs.Ytdckakjfplhanaa.Arn
/-- spans that lie in order from e on, within size units -/
def okS (size : Int) : Int → List (Int × Int) → Prop
  | _, [] => True
  | e, s :: l => 1 ≤ s.2 ∧ e ≤ s.1 ∧ s.1 < size ∧ s.2 ≤ size - s.1 ∧ okS size (s.1 + s.2) l
instance (size : Int) : ∀ e l, Decidable (okS size e l)
  | _, [] => .isTrue trivial
  | e, s :: l => by
    have := instDecidableOkS size (s.1 + s.2) l
    unfold okS
    infer_instance
/-- the spans' check -/
def chk (size : Int) (l : List (Int × Int)) : Int := if size < 1 ∨ 65536 < size then 1 else if 64 < l.length then 2 else if okS size 0 l then 0 else 4
theorem chk_ok {size : Int} {l : List (Int × Int)} (h : chk size l = 0) : 1 ≤ size ∧ size ≤ 65536 ∧ l.length ≤ 64 ∧ okS size 0 l := by
  unfold chk at h
  split at h
  · cases h
  · split at h
    · cases h
    · split at h
      · rename_i h1 h2 h3
        exact ⟨by omega, by omega, by omega, h3⟩
      · cases h
theorem chk_of {size : Int} {l : List (Int × Int)} (h1 : 1 ≤ size) (h2 : size ≤ 65536) (h3 : l.length ≤ 64) (h4 : okS size 0 l) : chk size l = 0 := by
  unfold chk
  rw [if_neg (by omega), if_neg (by omega), if_pos h4]
/-- a place that no span takes -/
def free (l : List (Int × Int)) (a z : Int) : Prop := ∀ s ∈ l, ¬ (s.1 < a + z ∧ a < s.1 + s.2)
/-- a place within one page that no span takes -/
def fit (l : List (Int × Int)) (z a : Int) : Prop := a / 4096 = (a + z - 1) / 4096 ∧ free l a z
/-- the spans with one more, in order -/
def ins (l : List (Int × Int)) (a z : Int) : List (Int × Int) := l.takeWhile (fun s => decide (s.1 < a)) ++ (a, z) :: l.dropWhile (fun s => decide (s.1 < a))
theorem ins_len (l : List (Int × Int)) (a z : Int) : (ins l a z).length = l.length + 1 := by
  have := congrArg List.length (List.takeWhile_append_dropWhile (p := fun s : Int × Int => decide (s.1 < a)) (l := l))
  rw [List.length_append] at this
  unfold ins
  rw [List.length_append, List.length_cons]
  omega
theorem ins_mem (l : List (Int × Int)) (a z : Int) : (a, z) ∈ ins l a z := by simp [ins]
theorem okS_ins (size : Int) (a z : Int) (hz : 1 ≤ z) (ha : a + z ≤ size) : ∀ (l : List (Int × Int)) (e : Int), okS size e l → e ≤ a → free l a z → okS size e (ins l a z)
  | [], e, _, he, _ => ⟨hz, he, by show a < size; omega, by show z ≤ size - a; omega, trivial⟩
  | s :: l, e, h, he, hf => by
    obtain ⟨h1, h2, h3, h4, h5⟩ := h
    have hs := hf s (by simp)
    by_cases hlt : s.1 < a
    · have : ins (s :: l) a z = s :: ins l a z := by simp [ins, hlt]
      rw [this]
      exact ⟨h1, h2, h3, h4, okS_ins size a z hz ha l _ h5 (by omega) (fun x hx => hf x (by simp [hx]))⟩
    · have : ins (s :: l) a z = (a, z) :: s :: l := by simp [ins, hlt]
      rw [this]
      exact ⟨hz, he, by show a < size; omega, by show z ≤ size - a; omega, h1, by show a + z ≤ s.1; omega, h3, h4, h5⟩
/-- the first span at a place taken out -/
def rem (l : List (Int × Int)) (k : Nat) : List (Int × Int) := l.take k ++ l.drop (k + 1)
theorem okS_mono (size : Int) : ∀ (l : List (Int × Int)) (e e' : Int), e' ≤ e → okS size e l → okS size e' l
  | [], _, _, _, _ => trivial
  | s :: l, e, e', h, ⟨h1, h2, h3, h4, h5⟩ => ⟨h1, by omega, h3, h4, h5⟩
theorem okS_rem (size : Int) : ∀ (l : List (Int × Int)) (k : Nat) (e : Int), okS size e l → okS size e (rem l k)
  | [], k, e, _ => by simp [rem, okS]
  | s :: l, 0, e, h => by
    obtain ⟨h1, h2, h3, h4, h5⟩ := h
    show okS size e l
    exact okS_mono size l _ _ (by omega) h5
  | s :: l, k + 1, e, ⟨h1, h2, h3, h4, h5⟩ => ⟨h1, h2, h3, h4, okS_rem size l k _ h5⟩
theorem rem_len (l : List (Int × Int)) (k : Nat) (h : k < l.length) : (rem l k).length + 1 = l.length := by
  unfold rem
  rw [List.length_append, List.length_take, List.length_drop]
  omega
/-- the number of units that are taken -/
def sum (l : List (Int × Int)) : Int := (l.map (·.2)).foldl (· + ·) 0
theorem foldl_add (l : List Int) : ∀ x : Int, l.foldl (· + ·) x = x + l.foldl (· + ·) 0 := by
  induction l with
  | nil => intro x; simp
  | cons y l ih =>
    intro x
    rw [List.foldl_cons, List.foldl_cons, ih (x + y), ih (0 + y)]
    omega
theorem sum_cons (s : Int × Int) (l : List (Int × Int)) : sum (s :: l) = s.2 + sum l := by
  unfold sum
  rw [List.map_cons, List.foldl_cons, foldl_add]
  omega
theorem sum_app (l m : List (Int × Int)) : sum (l ++ m) = sum l + sum m := by
  induction l with
  | nil => simp [sum]
  | cons s l ih => rw [List.cons_append, sum_cons, sum_cons, ih]; omega
theorem sum_ins (l : List (Int × Int)) (a z : Int) : sum (ins l a z) = sum l + z := by
  have h := congrArg sum (List.takeWhile_append_dropWhile (p := fun s : Int × Int => decide (s.1 < a)) (l := l))
  rw [sum_app] at h
  unfold ins
  rw [sum_app, sum_cons]
  show _ + (z + _) = _
  omega
theorem sum_rem (l : List (Int × Int)) (k : Nat) (h : k < l.length) : sum (rem l k) + (l[k]).2 = sum l := by
  have e : l = l.take k ++ l[k] :: l.drop (k + 1) := by
    rw [← List.drop_eq_getElem_cons h, List.take_append_drop]
  have h2 := congrArg sum e
  rw [sum_app, sum_cons] at h2
  unfold rem
  rw [sum_app]
  omega
theorem okS_bounds (size : Int) : ∀ (l : List (Int × Int)) (e : Int), okS size e l → ∀ s ∈ l, e ≤ s.1 ∧ 1 ≤ s.2 ∧ s.1 + s.2 ≤ size
  | [], _, _, _, h => by simp at h
  | x :: l, e, ⟨h1, h2, h3, h4, h5⟩, s, hs => by
    rcases List.mem_cons.1 hs with rfl | hs
    · exact ⟨h2, h1, by omega⟩
    · have := okS_bounds size l _ h5 s hs
      exact ⟨by omega, this.2.1, this.2.2⟩
theorem okS_sum (size : Int) : ∀ (l : List (Int × Int)) (e : Int), okS size e l → e ≤ size → 0 ≤ sum l ∧ sum l ≤ size - e
  | [], e, _, h => by simp [sum]; omega
  | s :: l, e, ⟨h1, h2, h3, h4, h5⟩, h => by
    have := okS_sum size l _ h5 (by omega)
    rw [sum_cons]
    omega
/-- the place at which the one more stands -/
def pos (l : List (Int × Int)) (a : Int) : Nat := (l.takeWhile (fun s => decide (s.1 < a))).length
theorem pos_le (l : List (Int × Int)) (a : Int) : pos l a ≤ l.length := List.IsPrefix.length_le (List.takeWhile_prefix _)
theorem take_pos (l : List (Int × Int)) (a : Int) : l.take (pos l a) = l.takeWhile (fun s => decide (s.1 < a)) := by
  have h := List.takeWhile_append_dropWhile (p := fun s : Int × Int => decide (s.1 < a)) (l := l)
  exact (congrArg (List.take (pos l a)) h.symm).trans (List.take_left' rfl)
theorem drop_pos (l : List (Int × Int)) (a : Int) : l.drop (pos l a) = l.dropWhile (fun s => decide (s.1 < a)) := by
  have h := List.takeWhile_append_dropWhile (p := fun s : Int × Int => decide (s.1 < a)) (l := l)
  exact (congrArg (List.drop (pos l a)) h.symm).trans (List.drop_left' rfl)
theorem ins_eq (l : List (Int × Int)) (a z : Int) : ins l a z = l.take (pos l a) ++ (a, z) :: l.drop (pos l a) := by rw [take_pos, drop_pos]; rfl
theorem tw_mem (p : Int × Int → Bool) : ∀ (l : List (Int × Int)) (x : Int × Int), x ∈ l.takeWhile p → p x = true
  | [], _, h => by simp at h
  | y :: l, x, h => by
    by_cases hp : p y = true
    · rw [List.takeWhile_cons_of_pos hp] at h
      rcases List.mem_cons.1 h with rfl | h
      · exact hp
      · exact tw_mem p l x h
    · rw [List.takeWhile_cons_of_neg hp] at h
      simp at h
theorem pos_low (l : List (Int × Int)) (a : Int) : ∀ k (h : k < l.length), k < pos l a → (l[k]).1 < a := by
  intro k h hk
  have h1 : l[k] ∈ l.take (pos l a) := by
    rw [List.mem_take_iff_getElem]
    exact ⟨k, by omega, rfl⟩
  rw [take_pos] at h1
  have := tw_mem _ _ _ h1
  simpa using this
theorem pos_of (l : List (Int × Int)) (a : Int) (i : Nat) (hi : i ≤ l.length) (h1 : ∀ k (h : k < l.length), k < i → (l[k]).1 < a) (h2 : ∀ h : i < l.length, ¬ (l[i]).1 < a) : pos l a = i := by
  induction l generalizing i with
  | nil => simp at hi; subst hi; rfl
  | cons s l ih =>
    cases i with
    | zero =>
      have := h2 (by simp)
      simp at this
      have hn : decide (s.1 < a) = false := decide_eq_false (by omega)
      unfold pos
      rw [List.takeWhile_cons_of_neg (by simp [hn])]
      rfl
    | succ i =>
      have h0 := h1 0 (by simp) (by omega)
      simp at h0
      have := ih i (by simpa using hi) (fun k h hk => by
        have := h1 (k + 1) (by simpa using h) (by omega)
        simpa using this) (fun h => by
        have := h2 (by simpa using h)
        simpa using this)
      unfold pos at this ⊢
      rw [List.takeWhile_cons_of_pos (by simpa using h0), List.length_cons, this]
end Go.Proofs.Ytdckakjfplhanaa.Arn
