/- host: how the rings stand as deeds go by: the plain law of HostOnce and HostCalm. -/
import Derived.Test.YtidcbboonjenhaaHstR
namespace Go.Proofs.Ytidcbboonjenhaa
open Go.RowKit Classical Go.Proofs.Ytidcbboonjenhaa.Slt
/-- commands ins were put, events evs were put, r were reaped -/
structure St (p q : Nat) (ins evs : List Int) (r : Nat) (m : Ms) : Prop where
  c : Inv p ins evs.length r m.r
  e : Inv q evs r r m.v
  w : ∀ k (h : k < evs.length), ∃ c n : Int, (0 ≤ c ∧ c ≤ 19) ∧ (0 ≤ n ∧ n ≤ 8) ∧ evs[k] = ev c n ((k % p : Nat) : Int)
theorem St.start {p q : Nat} (p2 : 2 ≤ p) (p63 : p ≤ 63) (q2 : 2 ≤ q) (q63 : q ≤ 63) : St p q [] [] 0 (startM (p + 1) (q + 1)) :=
  ⟨Inv.new p p2 p63, Inv.new q q2 q63, fun k h => absurd h (by simp)⟩
theorem St.full {p q : Nat} {ins evs : List Int} {r : Nat} {m : Ms} (h : St p q ins evs r m) : fullB m.r = decide (ins.length = r + (p - 1)) := h.c.full
theorem St.sub {p q : Nat} {ins evs : List Int} {r : Nat} {m : Ms} (h : St p q ins evs r m) (w : Int) (hf : fullB m.r = false) : St p q (ins ++ [w]) evs r ⟨putR m.r w, m.v, m.l⟩ := by
  have h1 := h.full
  rw [hf] at h1
  have h2 : ¬ ins.length = r + (p - 1) := fun e => by rw [decide_eq_true e] at h1; cases h1
  have h3 := h.c.room
  exact ⟨h.c.putI w (by omega), h.e, h.w⟩
theorem cell_mod {p x : Nat} : x % p % p = x % p := Nat.mod_mod _ _
theorem St.go {p q : Nat} {ins evs : List Int} {r : Nat} {m m' : Ms} (h : St p q ins evs r m) (hg : Go1 m m') :
    ∃ (x : Nat) (l' : List Int) (c n : Int), ins[evs.length]? = some (x : Int) ∧ Did m.l (uk x) (us x) (ue x) (ua x) l' c n ∧ m'.l = l' ∧ St p q ins (evs ++ [ev c n ((evs.length % p : Nat) : Int)]) r m' := by
  cases hg with
  | mk x l' c n h1 h2 h3 hd =>
    have hlt : evs.length < ins.length := by
      by_cases hh : evs.length < ins.length
      · exact hh
      · have := h.c.get_no hh; rw [this] at h2; cases h2
    obtain ⟨_, e2⟩ := h.c.get_yes hlt
    have hx : ins[evs.length] = (x : Int) := by rw [← e2, h3]
    obtain ⟨hc, hn⟩ := Did.bd hd
    have hf := h.e.full
    rw [h1] at hf
    have hf2 : ¬ evs.length = r + (q - 1) := fun e => by rw [decide_eq_true e] at hf; cases hf
    have h5 := h.e.room
    have e3 : ev c n m.r.ga = ev c n ((evs.length % p : Nat) : Int) := by rw [h.c.ga]
    refine ⟨x, l', c, n, by rw [List.getElem?_eq_getElem hlt, hx], hd, rfl, ?_, ?_, ?_⟩
    · have : (evs ++ [ev c n ((evs.length % p : Nat) : Int)]).length = evs.length + 1 := by simp
      rw [this]
      exact h.c.getI hlt
    · show Inv q _ r r (putR m.v (ev c n m.r.ga))
      rw [e3]
      exact h.e.putI _ (by omega)
    · intro k hk
      by_cases hk2 : k < evs.length
      · rw [List.getElem_append_left hk2]; exact h.w k hk2
      · have : k = evs.length := by simp at hk; omega
        subst this
        exact ⟨c, n, hc, hn, by simp⟩
theorem saw_is {p q : Nat} {ins evs : List Int} {r : Nat} {m : Ms} {x : Nat} (h : St p q ins evs r m) (hlt : r < evs.length) (hx : evs[r] = (x : Int)) : Inv p ins evs.length (r + 1) (sawR m.r x) := by
  obtain ⟨c, n, hc, hn, he⟩ := h.w r hlt
  have hr : r % p < p := Nat.mod_lt _ (by have := h.c.m2; omega)
  have hq : x / 65536 = r % p := by
    rw [he] at hx
    unfold ev at hx
    omega
  have hl : m.r.cs.length - 1 = p := by rw [h.c.len]; omega
  have e : sawR m.r x = { m.r with sn := (((r + 1) % p : Nat) : Int) } := by
    unfold sawR
    rw [hq, hl, if_pos hr]
    have : (r % p + 1) % p = (r + 1) % p := by rw [Nat.add_mod, Nat.mod_mod, ← Nat.add_mod]
    rw [this]
  rw [e]
  have hs := h.c.room
  exact ⟨h.c.m2, h.c.m63, h.c.len, h.c.pa, h.c.pb, h.c.ga, h.c.gb, rfl, hlt, h.c.gp, by omega, h.c.put, h.c.zero, h.c.last⟩
theorem St.reap {p q : Nat} {ins evs : List Int} {r : Nat} {m : Ms} {x : Nat} (h : St p q ins evs r m) (hg : getB m.v = true) (hx : (cellAt m.v).1 = (x : Int)) :
    ∃ hlt : r < evs.length, evs[r] = (x : Int) ∧ St p q ins evs (r + 1) ⟨sawR m.r x, learnR (getR m.v), m.l⟩ := by
  have hlt : r < evs.length := by
    by_cases hh : r < evs.length
    · exact hh
    · have := h.e.get_no hh; rw [this] at hg; cases hg
  have e2 := (h.e.get_yes hlt).2
  have hx2 : evs[r] = (x : Int) := by rw [← e2, hx]
  exact ⟨hlt, hx2, saw_is h hlt hx2, (h.e.getI hlt).learnI, h.w⟩
theorem St.none {p q : Nat} {ins evs : List Int} {r : Nat} {m : Ms} (h : St p q ins evs r m) (hg : getB m.v = false) : r = evs.length := by
  by_cases hh : r < evs.length
  · have := (h.e.get_yes hh).1; rw [this] at hg; cases hg
  · have := h.e.gp; omega
/-- the board as the commands that are done leave it -/
inductive Brd (p : Nat) (ins : List Int) : List Int → List Int → Prop
  | nil : Brd p ins [] zb
  | snoc {evs l l' : List Int} {x : Nat} {c n : Int} : Brd p ins evs l → ins[evs.length]? = some (x : Int) → Did l (uk x) (us x) (ue x) (ua x) l' c n → Brd p ins (evs ++ [ev c n ((evs.length % p : Nat) : Int)]) l'
theorem Brd.more {p : Nat} {ins evs l : List Int} (h : Brd p ins evs l) (w : Int) : Brd p (ins ++ [w]) evs l := by
  induction h with
  | nil => exact .nil
  | snoc _ h2 h3 ih =>
    refine .snoc ih ?_ h3
    have := (List.getElem?_eq_some_iff.1 h2).1
    rw [List.getElem?_append_left this]; exact h2
theorem Brd.snoc_inv {p : Nat} {ins E l2 evs : List Int} {y : Int} (g : Brd p ins E l2) (he : E = evs ++ [y]) : ∃ (l : List Int) (x : Nat) (c n : Int), Brd p ins evs l ∧ ins[evs.length]? = some (x : Int) ∧ Did l (uk x) (us x) (ue x) (ua x) l2 c n ∧ y = ev c n ((evs.length % p : Nat) : Int) := by
  cases g with
  | nil => simp at he
  | snoc g1 g2 g3 =>
    obtain ⟨rfl, e⟩ := List.append_inj' he rfl
    have e2 := (List.cons.inj e).1
    exact ⟨_, _, _, _, g1, g2, g3, e2.symm⟩
theorem Brd.fun' {p : Nat} {ins evs l l2 : List Int} (h : Brd p ins evs l) (g : Brd p ins evs l2) : l = l2 := by
  induction h generalizing l2 with
  | nil =>
    generalize he : ([] : List Int) = E at g
    cases g with
    | nil => rfl
    | snoc => simp at he
  | snoc h1 h2 h3 ih =>
    obtain ⟨l0, x, c, n, g1, g2, g3, _⟩ := g.snoc_inv rfl
    obtain rfl := ih g1
    rw [h2] at g2
    injection g2 with g2
    have g2 := Int.natCast_inj.1 g2
    subst g2
    exact (Did.fun' h3 g3).1
theorem Brd.at' {p : Nat} {ins evs l : List Int} (h : Brd p ins evs l) (i : Nat) (hi : i < evs.length) :
    ∃ (lb l' : List Int) (x : Nat) (c n : Int), Brd p ins (evs.take i) lb ∧ ins[i]? = some (x : Int) ∧ Did lb (uk x) (us x) (ue x) (ua x) l' c n ∧ evs[i] = ev c n ((i % p : Nat) : Int) ∧ Brd p ins (evs.take (i + 1)) l' := by
  induction h with
  | nil => simp at hi
  | @snoc evs l l' x c n h1 h2 h3 ih =>
    by_cases hh : i < evs.length
    · obtain ⟨lb, l2, x2, c2, n2, q1, q2, q3, q4, q5⟩ := ih hh
      exact ⟨lb, l2, x2, c2, n2, by rw [List.take_append_of_le_length (by omega)]; exact q1, q2, q3, by rw [List.getElem_append_left hh]; exact q4, by rw [List.take_append_of_le_length (by omega)]; exact q5⟩
    · have : i = evs.length := by simp at hi; omega
      subst this
      refine ⟨l, l', x, c, n, by simpa using h1, h2, h3, by simp, ?_⟩
      rw [List.take_of_length_le (by simp)]
      exact .snoc h1 h2 h3
theorem St.pre {p q : Nat} {ins evs : List Int} {r k : Nat} {m m' : Ms} (h : St p q ins evs r m) (hp : Pre m k m') :
    ∃ t, St p q ins (evs ++ t) r m' ∧ t.length = k ∧ (Brd p ins evs m.l → Brd p ins (evs ++ t) m'.l) := by
  induction hp with
  | zero => exact ⟨[], by simpa using h, rfl, fun hb => by simpa using hb⟩
  | step _ hg ih =>
    obtain ⟨t, h1, h2, h3⟩ := ih
    obtain ⟨x, l', c, n, g1, g2, g3, g4⟩ := h1.go hg
    refine ⟨t ++ [ev c n (((evs ++ t).length % p : Nat) : Int)], by rw [← List.append_assoc]; exact g4, by simp; omega, fun hb => ?_⟩
    rw [g3, ← List.append_assoc]
    exact .snoc (h3 hb) g1 g2
/-- the deeds that submit -/
def subs (ds : List Dd) : List Dd := ds.filter fun d => d.kd == 1
def okd (x : Dd × Int) : Option Dd := if x.2 = 0 then some x.1 else none
/-- those that were taken -/
def tk (ds : List Dd) (er : List Int) : List Dd := ((subs ds).zip er).filterMap okd
def wd (d : Dd) : Int := pkw d.k d.s d.e d.a
def dec3 (x : Int) : E3 := (x % 256, x / 256 % 256, x / 65536)
theorem subs_one {ds : List Dd} {d : Dd} (h : d.kd = 1) : subs (ds ++ [d]) = subs ds ++ [d] := by simp [subs, List.filter_append, h]
theorem subs_no {ds : List Dd} {d : Dd} (h : d.kd ≠ 1) : subs (ds ++ [d]) = subs ds := by simp [subs, List.filter_append, h]
theorem tk_one {ds : List Dd} {d : Dd} {er : List Int} {e : Int} (h : d.kd = 1) (hl : er.length = (subs ds).length) : tk (ds ++ [d]) (er ++ [e]) = tk ds er ++ (if e = 0 then [d] else []) := by
  unfold tk
  rw [subs_one h, List.zip_append (by rw [hl]), List.filterMap_append]
  congr 1
  by_cases he : e = 0
  · simp [okd, he]
  · simp [okd, he]
theorem tk_no {ds : List Dd} {d : Dd} {er : List Int} (h : d.kd ≠ 1) : tk (ds ++ [d]) (er ++ []) = tk ds er := by
  unfold tk; rw [subs_no h, List.append_nil]
theorem take_snoc {l : List Int} {r : Nat} (h : r < l.length) : l.take (r + 1) = l.take r ++ [l[r]] := List.take_succ_eq_append_getElem h
structure RunIs (p q : Nat) (ds : List Dd) (m : Ms) (got : List E3) (er : List Int) (evs : List Int) : Prop where
  st : St p q ((tk ds er).map wd) evs got.length m
  len : er.length = (subs ds).length
  got : got = (evs.take got.length).map dec3
  fine : ∀ d ∈ tk ds er, inC d.k d.s d.e d.a = true
  brd : (∀ d ∈ ds, d.kd ≠ 4) → Brd p ((tk ds er).map wd) evs m.l
theorem run_is {p q : Nat} (p2 : 2 ≤ p) (p63 : p ≤ 63) (q2 : 2 ≤ q) (q63 : q ≤ 63) {ds : List Dd} {m : Ms} {got : List E3} {er : List Int} (h : Run (startM (p + 1) (q + 1)) ds m got er) : ∃ evs, RunIs p q ds m got er evs := by
  induction h with
  | nil => exact ⟨[], St.start p2 p63 q2 q63, rfl, rfl, fun d h => by simp [tk, subs] at h, fun _ => .nil⟩
  | @snoc ds d m m' got g1 er r1 _ hs ih =>
    obtain ⟨evs, st, len, hgot, fine, brd⟩ := ih
    have hal : (∀ x ∈ ds ++ [d], x.kd ≠ 4) → ∀ x ∈ ds, x.kd ≠ 4 := fun h x hx => h x (by simp [hx])
    cases hs with
    | arg h1 h2 =>
      refine ⟨evs, ?_, ?_, ?_, ?_, ?_⟩
      · rw [tk_one h1 len]; simpa using st
      · rw [subs_one h1]; simp [len]
      · simpa using hgot
      · rw [tk_one h1 len]; simpa using fine
      · rw [tk_one h1 len]; intro h; simpa using brd (hal h)
    | full h1 h2 h3 =>
      refine ⟨evs, ?_, ?_, ?_, ?_, ?_⟩
      · rw [tk_one h1 len]; simpa using st
      · rw [subs_one h1]; simp [len]
      · simpa using hgot
      · rw [tk_one h1 len]; simpa using fine
      · rw [tk_one h1 len]; intro h; simpa using brd (hal h)
    | sub h1 h2 h3 =>
      refine ⟨evs, ?_, ?_, ?_, ?_, ?_⟩
      · rw [tk_one h1 len, if_pos rfl, List.map_append, List.append_nil]
        exact st.sub _ h3
      · rw [subs_one h1]; simp [len]
      · simpa using hgot
      · rw [tk_one h1 len, if_pos rfl]
        intro x hx
        rcases List.mem_append.1 hx with hx | hx
        · exact fine x hx
        · obtain rfl := List.mem_singleton.1 hx; exact h2
      · rw [tk_one h1 len, if_pos rfl, List.map_append]; intro h; exact (brd (hal h)).more _
    | nowork h1 h2 =>
      have hne : d.kd ≠ 1 := by omega
      exact ⟨evs, by rw [tk_no hne, List.append_nil]; exact st, by rw [subs_no hne]; simpa using len, by simpa using hgot, by rw [tk_no hne]; exact fine, by rw [tk_no hne]; exact fun h => brd (hal h)⟩
    | work k m' h1 h2 h3 h4 h5 =>
      have hne : d.kd ≠ 1 := by omega
      obtain ⟨t, s1, s2, s3⟩ := st.pre h4
      have hr := st.e.gp
      refine ⟨evs ++ t, by rw [tk_no hne, List.append_nil]; exact s1, by rw [subs_no hne]; simpa using len, ?_, by rw [tk_no hne]; exact fine, by rw [tk_no hne]; exact fun h => s3 (brd (hal h))⟩
      rw [List.append_nil, List.take_append_of_le_length hr]
      exact hgot
    | none h1 h2 =>
      have hne : d.kd ≠ 1 := by omega
      exact ⟨evs, by rw [tk_no hne, List.append_nil]; exact st, by rw [subs_no hne]; simpa using len, by simpa using hgot, by rw [tk_no hne]; exact fine, by rw [tk_no hne]; exact fun h => brd (hal h)⟩
    | reap x h1 h2 h3 =>
      have hne : d.kd ≠ 1 := by omega
      obtain ⟨hlt, hx, s1⟩ := st.reap h2 h3
      refine ⟨evs, ?_, by rw [subs_no hne]; simpa using len, ?_, by rw [tk_no hne]; exact fine, by rw [tk_no hne]; exact fun h => brd (hal h)⟩
      · rw [tk_no hne]; simpa using s1
      · have : (got ++ [(((x % 256 : Nat) : Int), ((x / 256 % 256 : Nat) : Int), ((x / 65536 : Nat) : Int))]).length = got.length + 1 := by simp
        rw [this, take_snoc hlt, List.map_append, ← hgot, hx]
        simp [dec3]
    | halt l' h1 h2 =>
      have hne : d.kd ≠ 1 := by omega
      exact ⟨evs, by rw [tk_no hne, List.append_nil]; exact ⟨st.c, st.e, st.w⟩, by rw [subs_no hne]; simpa using len, by simpa using hgot, by rw [tk_no hne]; exact fine, by intro h; exact absurd h1 (h d (by simp))⟩
    | other h1 h2 h3 h4 =>
      exact ⟨evs, by rw [tk_no h1, List.append_nil]; exact st, by rw [subs_no h1]; simpa using len, by simpa using hgot, by rw [tk_no h1]; exact fine, by rw [tk_no h1]; exact fun h => brd (hal h)⟩
theorem dec_ev {c n : Int} {k : Nat} (hc : 0 ≤ c ∧ c ≤ 19) (hn : 0 ≤ n ∧ n ≤ 8) : dec3 (ev c n (k : Int)) = (c, n, (k : Int)) := by
  unfold dec3 ev
  refine Prod.ext ?_ (Prod.ext ?_ ?_)
  · show (c + n * 256 + (k : Int) * 65536) % 256 = c; omega
  · show (c + n * 256 + (k : Int) * 65536) / 256 % 256 = n; omega
  · show (c + n * 256 + (k : Int) * 65536) / 65536 = (k : Int); omega
/-- work once -/
theorem St.work1 {p q : Nat} {ins evs : List Int} {r k : Nat} {m m' : Ms} (h : St p q ins evs r m) (hp : Pre m k m') (hk : (k : Int) = 1 ∨ ((k : Int) < 1 ∧ Stop m')) :
    ∃ evs', St p q ins evs' r m' ∧ (r < ins.length → r < evs'.length) := by
  obtain ⟨t, s1, s2, _⟩ := h.pre hp
  refine ⟨_, s1, fun hr => ?_⟩
  have h0 := h.e.gp
  have hlen : (evs ++ t).length = evs.length + t.length := by simp
  generalize evs ++ t = evs' at *
  rcases hk with hk | ⟨hk, hs⟩
  · omega
  · apply Classical.byContradiction
    intro hne
    have e : evs'.length = r := by omega
    rcases hs with hs | hs
    · rw [s1.e.full] at hs
      have := of_decide_eq_true hs
      have := s1.e.m2
      omega
    · have := (s1.c.get_yes (by omega)).1
      rw [this] at hs; cases hs
end Go.Proofs.Ytidcbboonjenhaa
