/- Trees of devices, plainly. -/
import Derived.Test.YtmjcokmfjofgnaaRouP
namespace Go.Proofs.Ytmjcokmfjofgnaa.Tpo
open Go.Proofs.Ytmjcokmfjofgnaa.Rou
structure Nd where
  path : List Int
  kind : Int
  ports : Int
  serial : Int
def lt (a b : Nd) : Prop := ordR a.path b.path < 0
instance (a b : Nd) : Decidable (lt a b) := inferInstanceAs (Decidable (_ < _))
def okPath (l : List Int) : Bool := decide (1 ≤ l.length) && decide (l.length ≤ 6) && l.all (fun p => decide (1 ≤ p) && decide (p ≤ 15))
def validB (n : Nd) : Bool := okPath n.path && decide (1 ≤ n.kind) && decide (n.kind ≤ 3) && (if n.kind = 1 then decide (1 ≤ n.ports) && decide (n.ports ≤ 15) && decide (n.path.length < 6) else decide (n.ports = 0))
def lastOf (l : List Int) : Int := l.getD (l.length - 1) 0
/-- a hub that a node may hang at -/
def hubB (n h : Nd) : Bool := decide (h.kind = 1) && decide (lastOf n.path ≤ h.ports) && decide (h.path = n.path.take (n.path.length - 1))
def fitsB (t : List Nd) (n : Nd) : Bool := if n.path.length = 1 then decide (lastOf n.path ≤ 4) else t.any (hubB n)
def Sd (t : List Nd) : Prop := t.Pairwise lt
structure Rt (t : List Nd) : Prop where
  len : t.length ≤ 40
  valid : ∀ n ∈ t, validB n = true
  sd : Sd t
  fits : ∀ n ∈ t, fitsB t n = true
structure PlugOk (t : List Nd) (n : Nd) : Prop where
  rt : Rt t
  valid : validB n = true
  fresh : ∀ x ∈ t, x.path ≠ n.path
  fits : fitsB t n = true
  room : t.length < 40
/-- put in its place -/
def insP : List Nd → Nd → List Nd
  | [], n => [n]
  | x :: t, n => if lt x n then x :: insP t n else n :: x :: t
def un (p : List Int) (x : Nd) : Bool := decide (p <+: x.path)
theorem lt_irr (a : Nd) : ¬ lt a a := by
  unfold lt
  have := (ord_zero a.path a.path).2 rfl
  omega
theorem lt_tr {a b c : Nd} (h1 : lt a b) (h2 : lt b c) : lt a c := ord_trans _ _ _ h1 h2
theorem lt_asym {a b : Nd} (h1 : lt a b) (h2 : lt b a) : False := lt_irr a (lt_tr h1 h2)
theorem lt_tot (a b : Nd) (h : a.path ≠ b.path) : lt a b ∨ lt b a := by
  unfold lt
  have h1 := ord_vals a.path b.path
  have h2 := ord_anti a.path b.path
  have h3 : ordR a.path b.path ≠ 0 := fun e => h ((ord_zero _ _).1 e)
  omega
theorem ins_mem {t : List Nd} {n x : Nd} : x ∈ insP t n ↔ x = n ∨ x ∈ t := by
  induction t with
  | nil => simp [insP]
  | cons y t ih =>
    unfold insP
    split
    · rw [List.mem_cons, ih, List.mem_cons]
      constructor
      · rintro (h | h | h)
        · exact .inr (.inl h)
        · exact .inl h
        · exact .inr (.inr h)
      · rintro (h | h | h)
        · exact .inr (.inl h)
        · exact .inl h
        · exact .inr (.inr h)
    · rw [List.mem_cons]
theorem ins_len (t : List Nd) (n : Nd) : (insP t n).length = t.length + 1 := by
  induction t with
  | nil => rfl
  | cons y t ih =>
    unfold insP
    split
    · rw [List.length_cons, ih, List.length_cons]
    · rfl
theorem ins_sd {t : List Nd} {n : Nd} (h : Sd t) (hf : ∀ x ∈ t, x.path ≠ n.path) : Sd (insP t n) := by
  induction t with
  | nil => exact List.pairwise_cons.2 ⟨fun _ h => (by cases h), List.Pairwise.nil⟩
  | cons y t ih =>
    obtain ⟨h1, h2⟩ := List.pairwise_cons.1 h
    unfold insP
    split
    next hlt =>
      refine List.pairwise_cons.2 ⟨fun z hz => ?_, ih h2 (fun x hx => hf x (List.mem_cons_of_mem _ hx))⟩
      rcases ins_mem.1 hz with rfl | hz
      · exact hlt
      · exact h1 z hz
    next hlt =>
      have hny : lt n y := (lt_tot y n (hf y (List.mem_cons_self ..))).resolve_left hlt
      refine List.pairwise_cons.2 ⟨fun z hz => ?_, h⟩
      rcases List.mem_cons.1 hz with rfl | hz
      · exact hny
      · exact lt_tr hny (h1 z hz)
theorem sd_ext : ∀ {a b : List Nd}, Sd a → Sd b → (∀ x, x ∈ a ↔ x ∈ b) → a = b
  | [], [], _, _, _ => rfl
  | [], y :: b, _, _, h => by have := (h y).2 (List.mem_cons_self ..); cases this
  | x :: a, [], _, _, h => by have := (h x).1 (List.mem_cons_self ..); cases this
  | x :: a, y :: b, ha, hb, h => by
    obtain ⟨a1, a2⟩ := List.pairwise_cons.1 ha
    obtain ⟨b1, b2⟩ := List.pairwise_cons.1 hb
    have e : x = y := by
      rcases List.mem_cons.1 ((h x).1 (List.mem_cons_self ..)) with e | hx
      · exact e
      · rcases List.mem_cons.1 ((h y).2 (List.mem_cons_self ..)) with e | hy
        · exact e.symm
        · exact (lt_asym (b1 x hx) (a1 y hy)).elim
    subst e
    rw [sd_ext a2 b2 fun z => ?_]
    constructor
    · intro hz
      rcases List.mem_cons.1 ((h z).1 (List.mem_cons_of_mem _ hz)) with e | hz2
      · subst e; exact absurd (a1 z hz) (lt_irr z)
      · exact hz2
    · intro hz
      rcases List.mem_cons.1 ((h z).2 (List.mem_cons_of_mem _ hz)) with e | hz2
      · subst e; exact absurd (b1 z hz) (lt_irr z)
      · exact hz2
/-- where it is put -/
theorem ins_at : ∀ (t : List Nd) (n : Nd) (i : Nat), i ≤ t.length → (∀ j (h : j < t.length), j < i → lt t[j] n) → (∀ h : i < t.length, ¬ lt t[i] n) → insP t n = t.take i ++ n :: t.drop i
  | [], n, i, hi, _, _ => by
    obtain rfl : i = 0 := Nat.le_zero.1 hi
    rfl
  | x :: t, n, 0, _, _, h2 => by
    have h0 : ¬ lt x n := h2 (Nat.zero_lt_succ _)
    unfold insP
    rw [if_neg h0]
    rfl
  | x :: t, n, i + 1, hi, h1, h2 => by
    have h0 : lt x n := h1 0 (Nat.zero_lt_succ _) (Nat.zero_lt_succ _)
    unfold insP
    rw [if_pos h0]
    rw [ins_at t n i (Nat.le_of_succ_le_succ hi) (fun j hj hji => h1 (j + 1) (Nat.succ_lt_succ hj) (Nat.succ_lt_succ hji)) (fun h => h2 (Nat.succ_lt_succ h))]
    rfl
theorem hub_of {t : List Nd} {n : Nd} (h : fitsB t n = true) (hl : n.path.length ≠ 1) : ∃ x ∈ t, hubB n x = true := by
  unfold fitsB at h
  rw [if_neg hl] at h
  exact List.any_eq_true.1 h
theorem hub_path {n x : Nd} (h : hubB n x = true) : x.path = n.path.take (n.path.length - 1) := by
  unfold hubB at h
  simp only [Bool.and_eq_true, decide_eq_true_eq] at h
  exact h.2
theorem fits_on {t t' : List Nd} {n : Nd} (h : fitsB t n = true) (hs : ∀ x ∈ t, hubB n x = true → x ∈ t') : fitsB t' n = true := by
  unfold fitsB at h ⊢
  split
  next hl => rw [if_pos hl] at h; exact h
  next hl =>
    rw [if_neg hl] at h
    obtain ⟨x, hx, hh⟩ := List.any_eq_true.1 h
    exact List.any_eq_true.2 ⟨x, hs x hx hh, hh⟩
theorem valid_len {n : Nd} (h : validB n = true) : 1 ≤ n.path.length ∧ n.path.length ≤ 6 := by
  unfold validB okPath at h
  simp only [Bool.and_eq_true, decide_eq_true_eq] at h
  omega
theorem plug_rt {t : List Nd} {n : Nd} (h : PlugOk t n) : Rt (insP t n) where
  len := by rw [ins_len]; have := h.room; omega
  valid := fun x hx => by
    rcases ins_mem.1 hx with rfl | hx
    · exact h.valid
    · exact h.rt.valid x hx
  sd := ins_sd h.rt.sd h.fresh
  fits := fun x hx => by
    rcases ins_mem.1 hx with rfl | hx
    · exact fits_on h.fits (fun y hy _ => ins_mem.2 (.inr hy))
    · exact fits_on (h.rt.fits x hx) (fun y hy _ => ins_mem.2 (.inr hy))
theorem sd_filter {t : List Nd} (h : Sd t) (q : Nd → Bool) : Sd (t.filter q) := List.Pairwise.sublist (List.filter_sublist) h
/-- what is left of a tree where with each node its hub is left -/
theorem filter_rt {t : List Nd} (h : Rt t) (q : Nd → Bool) (hq : ∀ x ∈ t, q x = true → ∀ y ∈ t, hubB x y = true → q y = true) : Rt (t.filter q) where
  len := Nat.le_trans (List.length_filter_le _ _) h.len
  valid := fun x hx => h.valid x (List.mem_filter.1 hx).1
  sd := sd_filter h.sd q
  fits := fun x hx => by
    obtain ⟨hx1, hx2⟩ := List.mem_filter.1 hx
    exact fits_on (h.fits x hx1) (fun y hy hh => List.mem_filter.2 ⟨hy, hq x hx1 hx2 y hy hh⟩)
theorem un_hub {p : List Int} {x y : Nd} (hh : hubB x y = true) (hu : un p y = true) : un p x = true := by
  unfold un at hu ⊢
  rw [decide_eq_true_iff] at hu ⊢
  rw [hub_path hh] at hu
  exact hu.trans (List.take_prefix _ _)
theorem left_rt {t : List Nd} (h : Rt t) (p : List Int) : Rt (t.filter (fun x => !un p x)) := by
  refine filter_rt h _ fun x hx hq y hy hh => ?_
  cases hu : un p y
  · rfl
  · rw [un_hub hh hu] at hq
    cases hq
theorem left_none {t : List Nd} (p : List Int) : ∀ x ∈ t.filter (fun x => !un p x), x.path ≠ p := by
  intro x hx e
  have := (List.mem_filter.1 hx).2
  unfold un at this
  rw [decide_eq_true (e ▸ List.prefix_refl _)] at this
  cases this
theorem parts_len (t : List Nd) (q : Nd → Bool) : (t.filter (fun x => !q x)).length + (t.filter q).length = t.length := by
  induction t with
  | nil => rfl
  | cons x t ih =>
    rw [List.filter_cons, List.filter_cons, List.length_cons]
    cases q x
    · simp only [Bool.not_false, if_true, List.length_cons, Bool.false_eq_true, if_false]; omega
    · simp only [Bool.not_true, if_true, List.length_cons, Bool.false_eq_true, if_false]; omega
/-- nothing hangs below a place where nothing is -/
theorem none_below {t : List Nd} (h : Rt t) {p : List Int} (hp : 1 ≤ p.length) (hf : ∀ x ∈ t, x.path ≠ p) : ∀ (k : Nat) (x : Nd), x ∈ t → x.path.length ≤ k → un p x = false
  | 0, x, hx, hk => by have := (valid_len (h.valid x hx)).1; omega
  | k + 1, x, hx, hk => by
    cases hu : un p x
    · rfl
    · have hu2 := hu
      unfold un at hu2
      rw [decide_eq_true_iff] at hu2
      have hle := hu2.length_le
      have hne : p.length ≠ x.path.length := fun e => hf x hx (hu2.eq_of_length e).symm
      obtain ⟨y, hy, hh⟩ := hub_of (h.fits x hx) (by omega)
      have hpy := hub_path hh
      have hyl : y.path.length = x.path.length - 1 := by rw [hpy, List.length_take]; omega
      have hn := none_below h hp hf k y hy (by omega)
      unfold un at hn
      rw [decide_eq_false_iff_not] at hn
      refine absurd ?_ hn
      rw [hpy, List.prefix_take_iff]
      exact ⟨hu2, by omega⟩
theorem filter_all {t : List Nd} {q : Nd → Bool} (h : ∀ x ∈ t, q x = true) : t.filter q = t := List.filter_eq_self.2 h
theorem filter_no {t : List Nd} {q : Nd → Bool} (h : ∀ x ∈ t, q x = false) : t.filter q = [] := List.filter_eq_nil_iff.2 (fun x hx => by rw [h x hx]; decide)
theorem ins_filter_pos {t : List Nd} {n : Nd} {q : Nd → Bool} (hs : Sd t) (hf : ∀ x ∈ t, x.path ≠ n.path) (hq : q n = true) : (insP t n).filter q = insP (t.filter q) n := by
  refine sd_ext (sd_filter (ins_sd hs hf) q) (ins_sd (sd_filter hs q) (fun x hx => hf x (List.mem_filter.1 hx).1)) fun x => ?_
  rw [List.mem_filter, ins_mem, ins_mem, List.mem_filter]
  constructor
  · rintro ⟨h | h, hx⟩
    · exact .inl h
    · exact .inr ⟨h, hx⟩
  · rintro (h | ⟨h, hx⟩)
    · exact ⟨.inl h, h ▸ hq⟩
    · exact ⟨.inr h, hx⟩
theorem ins_filter_neg {t : List Nd} {n : Nd} {q : Nd → Bool} (hs : Sd t) (hf : ∀ x ∈ t, x.path ≠ n.path) (hq : q n = false) : (insP t n).filter q = t.filter q := by
  refine sd_ext (sd_filter (ins_sd hs hf) q) (sd_filter hs q) fun x => ?_
  rw [List.mem_filter, ins_mem, List.mem_filter]
  constructor
  · rintro ⟨h | h, hx⟩
    · rw [h, hq] at hx; cases hx
    · exact ⟨h, hx⟩
  · rintro ⟨h, hx⟩
    exact ⟨.inr h, hx⟩
theorem un_self (n : Nd) : un n.path n = true := decide_eq_true (List.prefix_refl _)
/-- TopoBack -/
theorem back_plain {t : List Nd} {n : Nd} (h : PlugOk t n) : (insP t n).filter (fun x => !un n.path x) = t ∧ (insP t n).filter (un n.path) = [n] := by
  have hno : ∀ x ∈ t, un n.path x = false := fun x hx => none_below h.rt (valid_len h.valid).1 h.fresh _ x hx (Nat.le_refl _)
  constructor
  · rw [ins_filter_neg h.rt.sd h.fresh (by rw [un_self]; rfl)]
    exact filter_all (fun x hx => by rw [hno x hx]; rfl)
  · rw [ins_filter_pos h.rt.sd h.fresh (un_self n), filter_no hno]
    rfl
/-- TopoOrder -/
theorem order_plain {t : List Nd} {m n : Nd} (h1 : PlugOk t m) (h2 : PlugOk t n) (hne : m.path ≠ n.path) : insP (insP t m) n = insP (insP t n) m := by
  have f1 : ∀ x ∈ insP t m, x.path ≠ n.path := fun x hx => by
    rcases ins_mem.1 hx with rfl | hx
    · exact hne
    · exact h2.fresh x hx
  have f2 : ∀ x ∈ insP t n, x.path ≠ m.path := fun x hx => by
    rcases ins_mem.1 hx with rfl | hx
    · exact fun e => hne e.symm
    · exact h1.fresh x hx
  refine sd_ext (ins_sd (ins_sd h1.rt.sd h1.fresh) f1) (ins_sd (ins_sd h2.rt.sd h2.fresh) f2) fun x => ?_
  rw [ins_mem, ins_mem, ins_mem, ins_mem]
  constructor
  · rintro (h | h | h)
    · exact .inr (.inl h)
    · exact .inl h
    · exact .inr (.inr h)
  · rintro (h | h | h)
    · exact .inr (.inl h)
    · exact .inl h
    · exact .inr (.inr h)
theorem order_ok {t : List Nd} {m n : Nd} (h1 : PlugOk t m) (h2 : PlugOk t n) (hne : m.path ≠ n.path) (hr : t.length + 1 < 40) : PlugOk (insP t m) n where
  rt := plug_rt h1
  valid := h2.valid
  fresh := fun x hx => by
    rcases ins_mem.1 hx with rfl | hx
    · exact hne
    · exact h2.fresh x hx
  fits := fits_on h2.fits (fun y hy _ => ins_mem.2 (.inr hy))
  room := by rw [ins_len]; exact hr
/-- TopoApart -/
theorem apart_plain {t : List Nd} {p q : List Int} (hpq : ¬ p <+: q) (hqp : ¬ q <+: p) : (t.filter (fun x => !un p x)).filter (fun x => !un q x) = (t.filter (fun x => !un q x)).filter (fun x => !un p x) ∧ (t.filter (fun x => !un p x)).filter (un q) = t.filter (un q) := by
  constructor
  · rw [List.filter_filter, List.filter_filter]
    congr 1
    funext x
    exact Bool.and_comm _ _
  · rw [List.filter_filter]
    congr 1
    funext x
    cases hq : un q x
    · rfl
    · cases hp : un p x
      · rfl
      · unfold un at hq hp
        rw [decide_eq_true_iff] at hq hp
        rcases List.prefix_or_prefix_of_prefix hp hq with h | h
        · exact absurd h hpq
        · exact absurd h hqp
/-- the tree with those of a branch that come first -/
def part (t : List Nd) (p : List Int) (pre : List Nd) : List Nd := t.filter (fun x => !un p x || pre.any (fun y => decide (y.path = x.path)))
theorem part_nil (t : List Nd) (p : List Int) : part t p [] = t.filter (fun x => !un p x) := by
  unfold part
  congr 1
  funext x
  rw [List.any_nil, Bool.or_false]
theorem path_inj {t : List Nd} (h : Sd t) {x y : Nd} (hx : x ∈ t) (hy : y ∈ t) (e : x.path = y.path) : x = y := by
  have e0 : ordR x.path y.path = 0 := (ord_zero _ _).2 e
  have e1 : ordR y.path x.path = 0 := (ord_zero _ _).2 e.symm
  induction t with
  | nil => cases hx
  | cons z t ih =>
    obtain ⟨h1, h2⟩ := List.pairwise_cons.1 h
    rcases List.mem_cons.1 hx with q1 | q1
    · rcases List.mem_cons.1 hy with q2 | q2
      · rw [q1, q2]
      · have := h1 y q2
        unfold lt at this
        rw [← q1, e0] at this
        omega
    · rcases List.mem_cons.1 hy with q2 | q2
      · have := h1 x q1
        unfold lt at this
        rw [← q2, e1] at this
        omega
      · exact ih h2 q1 q2
theorem hub_lt {x y : Nd} (hx : 1 ≤ x.path.length) (hh : hubB x y = true) : lt y x := by
  have hp := hub_path hh
  have hl : y.path.length = x.path.length - 1 := by rw [hp, List.length_take]; omega
  have h1 := ord_under y.path x.path (by rw [hp]; exact List.take_prefix _ _)
  have h2 : ordR y.path x.path ≠ 0 := fun e => by
    have := (ord_zero _ _).1 e
    rw [this] at hl
    omega
  show ordR y.path x.path < 0
  omega
theorem any_mem {pre : List Nd} {x : Nd} (h : x ∈ pre) : pre.any (fun y => decide (y.path = x.path)) = true := List.any_eq_true.2 ⟨x, h, decide_eq_true rfl⟩
/-- TopoGone: one more of them -/
theorem gone_step {t : List Nd} (h : Rt t) {p : List Int} {pre rest : List Nd} {n : Nd} (hg : t.filter (un p) = pre ++ n :: rest) : PlugOk (part t p pre) n ∧ insP (part t p pre) n = part t p (pre ++ [n]) := by
  have hsg : Sd (pre ++ n :: rest) := hg ▸ sd_filter h.sd _
  obtain ⟨s1, s2, s3⟩ := List.pairwise_append.1 hsg
  have hng : n ∈ t.filter (un p) := by rw [hg]; exact List.mem_append_right _ (List.mem_cons_self ..)
  obtain ⟨hnt, hnu⟩ := List.mem_filter.1 hng
  have hpre : ∀ x ∈ pre, x ∈ t ∧ un p x = true := fun x hx => List.mem_filter.1 (hg ▸ List.mem_append_left _ hx)
  have hlow : ∀ x, x ∈ t → un p x = true → (∀ z ∈ n :: rest, x ≠ z ) → x ∈ pre := fun x hx hu hz => by
    have : x ∈ pre ++ n :: rest := hg ▸ List.mem_filter.2 ⟨hx, hu⟩
    rcases List.mem_append.1 this with h | h
    · exact h
    · exact absurd rfl (hz x h)
  -- the hub of what stands there already, or of n, stands there
  have hubs : ∀ x y, (x = n ∨ x ∈ pre) → y ∈ t → hubB x y = true → un p y = true → y ∈ pre := fun x y hx hy hh hu => by
    have hxt : x ∈ t := by
      rcases hx with rfl | hx
      · exact hnt
      · exact (hpre x hx).1
    have hlt := hub_lt (valid_len (h.valid x hxt)).1 hh
    refine hlow y hy hu fun z hz e => ?_
    subst e
    have hge : y = n ∨ lt n y := by
      rcases List.mem_cons.1 hz with e | hz
      · exact .inl e
      · exact .inr ((List.pairwise_cons.1 s2).1 y hz)
    have hxn : x = n ∨ lt x n := by
      rcases hx with e | hx
      · exact .inl e
      · exact .inr (s3 x hx n (List.mem_cons_self ..))
    rcases hge with rfl | hge
    · rcases hxn with rfl | hxn
      · exact lt_irr _ hlt
      · exact lt_asym hlt hxn
    · rcases hxn with rfl | hxn
      · exact lt_asym hlt hge
      · exact lt_asym hlt (lt_tr hxn hge)
  have hin : ∀ x ∈ t, (!un p x || pre.any (fun y => decide (y.path = x.path))) = true ↔ (un p x = false ∨ x ∈ pre) := fun x hx => by
    constructor
    · intro hq
      cases hu : un p x
      · exact .inl rfl
      · rw [hu, Bool.not_true, Bool.false_or] at hq
        obtain ⟨y, hy, he⟩ := List.any_eq_true.1 hq
        rw [decide_eq_true_iff] at he
        exact .inr (path_inj h.sd (hpre y hy).1 hx he ▸ hy)
    · rintro (hu | hx)
      · rw [hu]; rfl
      · rw [any_mem hx, Bool.or_true]
  have hnp : n ∉ pre := fun hn => lt_irr n (s3 n hn n (List.mem_cons_self ..))
  have hfr : ∀ x ∈ part t p pre, x.path ≠ n.path := fun x hx e => by
    obtain ⟨hxt, hq⟩ := List.mem_filter.1 hx
    have := path_inj h.sd hxt hnt e
    subst this
    rcases (hin x hxt).1 hq with hu | hx
    · rw [hnu] at hu; cases hu
    · exact hnp hx
  have hpr : Rt (part t p pre) := filter_rt h _ fun x hx hq y hy hh => by
    rw [hin x hx] at hq
    rw [hin y hy]
    cases hu : un p y
    · exact .inl rfl
    · rcases hq with hq | hq
      · rw [un_hub hh hu] at hq; cases hq
      · exact .inr (hubs x y (.inr hq) hy hh hu)
  have hok : PlugOk (part t p pre) n := {
    rt := hpr
    valid := h.valid n hnt
    fresh := hfr
    fits := fits_on (h.fits n hnt) fun y hy hh => List.mem_filter.2 ⟨hy, (hin y hy).2 (by
      cases hu : un p y
      · exact .inl rfl
      · exact .inr (hubs n y (.inl rfl) hy hh hu))⟩
    room := by
      have h1 : (part t p pre).length < t.length := by
        have hle := parts_len t (fun x => !un p x || pre.any (fun y => decide (y.path = x.path)))
        have hmem : n ∈ t.filter (fun x => !(!un p x || pre.any (fun y => decide (y.path = x.path)))) := List.mem_filter.2 ⟨hnt, by
          cases hq : (!un p n || pre.any (fun y => decide (y.path = n.path)))
          · rfl
          · rcases (hin n hnt).1 hq with hu | hx
            · rw [hnu] at hu; cases hu
            · exact absurd hx hnp⟩
        have := List.length_pos_of_mem hmem
        unfold part
        omega
      have := h.len
      omega }
  refine ⟨hok, sd_ext (ins_sd hpr.sd hfr) (sd_filter h.sd _) fun x => ?_⟩
  have hin2 : ∀ x ∈ t, (!un p x || (pre ++ [n]).any (fun y => decide (y.path = x.path))) = true ↔ (un p x = false ∨ x ∈ pre ∨ x = n) := fun x hx => by
    rw [List.any_append, ← Bool.or_assoc, Bool.or_eq_true, hin x hx]
    have : ([n].any (fun y => decide (y.path = x.path)) = true) ↔ x = n := by
      rw [List.any_cons, List.any_nil, Bool.or_false, decide_eq_true_iff]
      exact ⟨fun e => path_inj h.sd hx hnt e.symm, fun e => by rw [e]⟩
    rw [this, or_assoc]
  rw [ins_mem]
  constructor
  · rintro (rfl | hx)
    · exact List.mem_filter.2 ⟨hnt, (hin2 _ hnt).2 (.inr (.inr rfl))⟩
    · obtain ⟨hxt, hq⟩ := List.mem_filter.1 hx
      refine List.mem_filter.2 ⟨hxt, (hin2 x hxt).2 ?_⟩
      rcases (hin x hxt).1 hq with h | h
      · exact .inl h
      · exact .inr (.inl h)
  · intro hx
    obtain ⟨hxt, hq⟩ := List.mem_filter.1 hx
    rcases (hin2 x hxt).1 hq with h | h | h
    · exact .inr (List.mem_filter.2 ⟨hxt, (hin x hxt).2 (.inl h)⟩)
    · exact .inr (List.mem_filter.2 ⟨hxt, (hin x hxt).2 (.inr h)⟩)
    · exact .inl h
theorem part_all {t : List Nd} (p : List Int) : part t p (t.filter (un p)) = t := by
  refine filter_all fun x hx => ?_
  cases hu : un p x
  · rfl
  · rw [any_mem (List.mem_filter.2 ⟨hx, hu⟩), Bool.or_true]
/-- the uppermost first -/
theorem gone_first {t : List Nd} (h : Rt t) {p : List Int} (hp : ∃ x ∈ t, x.path = p) : ∃ g rest, t.filter (un p) = g :: rest ∧ g.path = p := by
  obtain ⟨x, hx, rfl⟩ := hp
  have hm : x ∈ t.filter (un x.path) := List.mem_filter.2 ⟨hx, un_self x⟩
  have hs := sd_filter h.sd (un x.path)
  cases hg : t.filter (un x.path) with
  | nil => rw [hg] at hm; cases hm
  | cons g rest =>
    refine ⟨g, rest, rfl, ?_⟩
    rw [hg] at hm hs
    rcases List.mem_cons.1 hm with rfl | hm
    · rfl
    · have h1 := (List.pairwise_cons.1 hs).1 x hm
      have h2 : g ∈ t.filter (un x.path) := by rw [hg]; exact List.mem_cons_self ..
      have h3 := (List.mem_filter.1 h2).2
      unfold un at h3
      rw [decide_eq_true_iff] at h3
      have h4 := ord_under _ _ h3
      have h5 := ord_anti g.path x.path
      unfold lt at h1
      omega
end Go.Proofs.Ytmjcokmfjofgnaa.Tpo
