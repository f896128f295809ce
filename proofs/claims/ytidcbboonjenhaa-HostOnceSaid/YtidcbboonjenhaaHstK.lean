/- What the deeds of Play do to a machine: the plain law. -/
import Derived.Test.YtidcbboonjenhaaHstI
import Derived.Test.YtidcbboonjenhaaHstJ
namespace Go.Proofs.Ytidcbboonjenhaa
open Go.RowKit Classical Go.Proofs.Ytidcbboonjenhaa.Slt
theorem hset_ok (x : List Int) (hx : x.length = 66) (h : SlotOk x) (n : Nat) (n1 : 1 ≤ n) (n2 : n < 32) (hz : G x (2 + n) ≠ 0) (v : Int) (v1 : 1 ≤ v) (v2 : v ≤ 3) : SlotOk (x.set (2 + n) v) ∧ G (x.set (2 + n) v) 0 = G x 0 ∧ G (x.set (2 + n) v) 1 = G x 1 ∧ 1 < G x 0 := by
  have hC : Called x := by
    rcases h with ⟨a, b, h⟩ | ⟨_, h⟩
    · exact absurd (h (2 + n) (by omega) (by omega)) hz
    · exact h
  have hst : 1 < G x 0 := by
    rcases h with ⟨a, b, h⟩ | ⟨h, _⟩
    · exact absurd (h (2 + n) (by omega) (by omega)) hz
    · exact h
  have g : ∀ j, G (x.set (2 + n) v) j = if j = 2 + n then v else G x j := fun j => G_set _ _ _ _ (by omega)
  have g0 : G (x.set (2 + n) v) 0 = G x 0 := by rw [g, if_neg (by omega)]
  have g1 : G (x.set (2 + n) v) 1 = G x 1 := by rw [g, if_neg (by omega)]
  refine ⟨.inr ⟨by rw [g0]; exact hst, ⟨by rw [g0]; exact hC.st, by rw [g1]; exact hC.a1, by rw [g1]; exact hC.a2, ?_, ?_, ?_, ?_, ?_⟩⟩, g0, g1, hst⟩
  · rw [g]; split
    · omega
    · exact hC.e1
  · rw [g, if_neg (by omega)]; exact hC.e0
  · rw [g, if_neg (by omega)]; exact hC.m0
  · intro i i1 i2
    have := hC.ends i i1 i2
    rw [g (34 + i), if_neg (by omega), g]
    split
    · next q =>
      obtain rfl : i = n := by omega
      exact ⟨by omega, v2, this.2.2.1, this.2.2.2.1, fun q => absurd q (by omega)⟩
    · exact this
  · rw [g0, ← hC.more]
    constructor
    · rintro ⟨i, i1, i2, i3⟩
      rw [g] at i3
      split at i3
      · next q => obtain rfl : i = n := by omega
                  exact ⟨i, i1, i2, hz⟩
      · exact ⟨i, i1, i2, i3⟩
    · rintro ⟨i, i1, i2, i3⟩
      refine ⟨i, i1, i2, ?_⟩
      rw [g]; split
      · omega
      · exact i3
theorem hkeep_ok {l : List Int} (hl : l.length = 594) (ho : Ok l) {n : Nat} (n1 : 1 ≤ n) (n2 : n ≤ 8) {y : List Int} (hy : y.length = 66) (hs : SlotOk y) (ha : G y 1 = G (at_ l n) 1) : Ok (put l n y) := by
  refine Slt.put_ok l hl ho n n1 n2 y hy hs ?_
  rw [ha, G_at l n 1 (by omega)]
  by_cases z : G l (n * 66 + 1) = 0
  · exact .inl z
  · refine .inr fun k k1 k2 kn q => ?_
    by_cases lt : k < n
    · rcases ho.two n k k1 lt (by omega) with r | r
      · exact z r
      · exact r q
    · rcases ho.two k n n1 (by omega) k2 with r | r
      · exact z (q.trans r)
      · exact r q.symm
theorem Slt.Halted.ok {l h : List Int} {s e : Int} (hl : l.length = 594) (ho : Ok l) (hh : Halted l s e h) : Ok h ∧ h.length = 594 := by
  cases hh with
  | no _ => exact ⟨ho, hl⟩
  | yes h0 h1 h2 h3 h4 h5 =>
    refine ⟨?_, by rw [List.length_set]; exact hl⟩
    obtain ⟨n, rfl⟩ : ∃ n : Nat, s = n := ⟨s.toNat, by omega⟩
    obtain ⟨k, rfl⟩ : ∃ k : Nat, e = k := ⟨e.toNat, by omega⟩
    have hn : n < 9 := by omega
    have hk : k < 32 := by omega
    simp only [Int.toNat_natCast] at h5 ⊢
    have he : l.set (n * 66 + 2 + k) 2 = put l n ((at_ l n).set (2 + k) 2) := by
      rw [← put_set l hl n hn (at_ l n) (at_len l hl n hn) (2 + k) (by omega), put_at l hl n hn, Nat.add_assoc]
    have hz : G (at_ l n) (2 + k) ≠ 0 := by rw [G_at l n (2 + k) (by omega), ← Nat.add_assoc, h5]; decide
    have hs := hset_ok (at_ l n) (at_len l hl n hn) (ho.slot n (by omega) hn) k (by omega) hk hz 2 (by decide) (by decide)
    rw [he]
    exact hkeep_ok hl ho (by omega) (by omega) (by rw [List.length_set]; exact at_len l hl n hn) hs.1 hs.2.2.1
theorem hG_zb (i : Nat) : G zb i = 0 := by
  unfold G zb
  rw [List.getD_eq_getElem?_getD, List.getElem?_replicate]; split <;> rfl
theorem hok_zb : Ok zb := by
  have h : ∀ i j, G (at_ zb i) j = 0 := fun i j => by
    by_cases hj : j < 66
    · rw [G_at _ _ _ hj, hG_zb]
    · rw [G_out _ _ (by unfold at_; rw [List.length_take]; omega)]
  refine ⟨fun j _ => hG_zb j, fun i _ _ => .inl ⟨by rw [h]; decide, by rw [h]; decide, fun j _ _ => h i j⟩, fun i k _ _ _ => .inl (hG_zb _)⟩
/-- a deed -/
structure Dd where
  kd : Int
  k : Int
  s : Int
  e : Int
  a : Int
  n : Int
  sl : Int
  en : Int
def Dd.cs (d : Dd) : List Value := [.int .i64 d.kd, .int .i64 d.k, .int .i64 d.s, .int .i64 d.e, .int .i64 d.a, .int .i64 d.n, .int .i64 d.sl, .int .i64 d.en]
def dvs (l : List Dd) : List Value := l.flatMap Dd.cs
abbrev E3 := Int × Int × Int
def evc (v : E3) : List Value := [.int .i64 v.1, .int .i64 v.2.1, .int .i64 v.2.2]
def evs (l : List E3) : List Value := l.flatMap evc
def ers (l : List Int) : List Value := l.map (Value.int .i64)
theorem dvs_len (l : List Dd) : (dvs l).length = l.length * 8 := by
  induction l with
  | nil => rfl
  | cons c l ih => simp only [dvs, List.flatMap_cons, List.length_append] at ih ⊢; rw [ih]; simp [Dd.cs]; omega
theorem dvs_get (l : List Dd) : ∀ (i j : Nat), j < 8 → (dvs l)[i * 8 + j]? = (l[i]?).bind fun c => c.cs[j]? := by
  induction l with
  | nil => intro i j _; simp [dvs]
  | cons c l ih =>
    intro i j hj
    have e : dvs (c :: l) = c.cs ++ dvs l := rfl
    rw [e, List.getElem?_append]
    have hl : c.cs.length = 8 := rfl
    cases i with
    | zero => rw [if_pos (by omega)]; simp
    | succ i => rw [if_neg (by omega), hl, show (i + 1) * 8 + j - 8 = i * 8 + j by omega, ih i j hj]; simp
theorem evs_len (l : List E3) : (evs l).length = l.length * 3 := by
  induction l with
  | nil => rfl
  | cons c l ih => simp only [evs, List.flatMap_cons, List.length_append] at ih ⊢; rw [ih]; simp [evc]; omega
theorem evs_snoc (l : List E3) (v : E3) : evs (l ++ [v]) = evs l ++ evc v := by simp [evs]
theorem ers_snoc (l : List Int) (v : Int) : ers (l ++ [v]) = ers l ++ [.int .i64 v] := by simp [ers]
/-- what a deed does: the machine, the events got, what was told -/
inductive Stp (m : Ms) (d : Dd) : Ms → List E3 → List Int → Prop
  | arg : d.kd = 1 → inC d.k d.s d.e d.a = false → Stp m d m [] [1]
  | full : d.kd = 1 → inC d.k d.s d.e d.a = true → fullB m.r = true → Stp m d m [] [11]
  | sub : d.kd = 1 → inC d.k d.s d.e d.a = true → fullB m.r = false → Stp m d ⟨putR m.r (pkw d.k d.s d.e d.a), m.v, m.l⟩ [] [0]
  | nowork : d.kd = 2 → ¬ (1 ≤ d.n ∧ d.n ≤ 1000) → Stp m d m [] []
  | work (k : Nat) (m' : Ms) : d.kd = 2 → 1 ≤ d.n → d.n ≤ 1000 → Pre m k m' → ((k : Int) = d.n ∨ ((k : Int) < d.n ∧ Stop m')) → Stp m d m' [] []
  | none : d.kd = 3 → getB m.v = false → Stp m d m [] []
  | reap (x : Nat) : d.kd = 3 → getB m.v = true → (cellAt m.v).1 = (x : Int) → Stp m d ⟨sawR m.r x, learnR (getR m.v), m.l⟩ [(((x % 256 : Nat) : Int), ((x / 256 % 256 : Nat) : Int), ((x / 65536 : Nat) : Int))] []
  | halt (l' : List Int) : d.kd = 4 → Halted m.l d.sl d.en l' → Stp m d ⟨m.r, m.v, l'⟩ [] []
  | other : d.kd ≠ 1 → d.kd ≠ 2 → d.kd ≠ 3 → d.kd ≠ 4 → Stp m d m [] []
inductive Run (m0 : Ms) : List Dd → Ms → List E3 → List Int → Prop
  | nil : Run m0 [] m0 [] []
  | snoc {ds : List Dd} {d : Dd} {m m' : Ms} {ev ev1 : List E3} {er er1 : List Int} : Run m0 ds m ev er → Stp m d m' ev1 er1 → Run m0 (ds ++ [d]) m' (ev ++ ev1) (er ++ er1)
theorem saw_right {r : Rg} (hr : Right r) (x : Nat) : Right (sawR r x) := by
  unfold sawR
  split
  · have h3 := hr.lo
    have hm : (x / 65536 + 1) % (r.cs.length - 1) < r.cs.length - 1 := Nat.mod_lt _ (by omega)
    exact ⟨hr.lo, hr.hi, hr.fine, hr.pb, hr.gb, hr.zero, hr.pa, hr.ga, ⟨Int.natCast_nonneg _, by show (((x / 65536 + 1) % (r.cs.length - 1) : Nat) : Int) < (r.cs.length : Int) - 1; omega⟩⟩
  · exact hr
theorem saw_cs (r : Rg) (x : Nat) : (sawR r x).cs = r.cs := by unfold sawR; split <;> rfl
theorem pkw_bd {k s e a : Int} (h : inC k s e a = true) : 0 ≤ pkw k s e a ∧ pkw k s e a < 35184372088832 := by
  have := inC_bd h
  unfold pkw; omega
theorem Stp.vs {m m' : Ms} {d : Dd} {ev : List E3} {er : List Int} (h : Vs m) (hs : Stp m d m' ev er) : Vs m' := by
  cases hs with
  | arg | full | nowork | none | other => exact h
  | sub _ hc _ => exact ⟨put_right h.r _, h.v, h.b, h.len, put_words h.r h.cw (pkw_bd hc), h.ew⟩
  | work k _ _ _ _ hp _ => exact hp.vs h
  | reap x _ _ _ => exact ⟨saw_right h.r x, learn_right (get_right h.v), h.b, h.len, fun c hc => h.cw c (by rwa [saw_cs] at hc), h.ew⟩
  | halt l' _ hh => have := Halted.ok h.len h.b hh; exact ⟨h.r, h.v, this.1, this.2, h.cw, h.ew⟩
theorem Run.vs {m0 m : Ms} {ds : List Dd} {ev : List E3} {er : List Int} (h : Vs m0) (hr : Run m0 ds m ev er) : Vs m := by
  induction hr with
  | nil => exact h
  | snoc _ hs ih => exact hs.vs ih
theorem Stp.len {m m' : Ms} {d : Dd} {ev : List E3} {er : List Int} (hs : Stp m d m' ev er) : ev.length ≤ 1 ∧ er.length ≤ 1 := by
  cases hs <;> simp
theorem Run.len {m0 m : Ms} {ds : List Dd} {ev : List E3} {er : List Int} (hr : Run m0 ds m ev er) : ev.length ≤ ds.length ∧ er.length ≤ ds.length := by
  induction hr with
  | nil => exact ⟨by decide, by decide⟩
  | snoc _ hs ih => have := hs.len; simp only [List.length_append, List.length_cons, List.length_nil]; omega
def startM (a b : Nat) : Ms := ⟨newR a, newR b, zb⟩
theorem start_vs {a b : Nat} (a3 : 3 ≤ a) (a64 : a ≤ 64) (b3 : 3 ≤ b) (b64 : b ≤ 64) : Vs (startM a b) := by
  obtain ⟨p, rfl⟩ : ∃ p, a = p + 1 := ⟨a - 1, by omega⟩
  obtain ⟨q, rfl⟩ : ∃ q, b = q + 1 := ⟨b - 1, by omega⟩
  have z : ∀ n, ∀ c ∈ (newR n).cs, c.1 = 0 := fun n c hc => by
    obtain ⟨i, hi, rfl⟩ := List.getElem_of_mem hc
    simp only [newR, List.getElem_modify, List.getElem_replicate]
    split <;> rfl
  exact ⟨(Inv.new p (by omega) (by omega)).right, (Inv.new q (by omega) (by omega)).right, hok_zb, zb_len, fun c hc => by rw [z _ c hc]; decide, fun c hc => by rw [z _ c hc]; decide⟩
end Go.Proofs.Ytidcbboonjenhaa
