/- host: what hostLives's four deeds do. -/
import Derived.Test.YtidcbboonjenhaaHstM
namespace Go.Proofs.Ytidcbboonjenhaa
open Go.RowKit Classical Go.Proofs.Ytidcbboonjenhaa.Slt
theorem hfirst_zb {i : Nat} (h : FirstOff zb i) : i = 1 := by
  obtain ⟨h1, h2, h3, h4⟩ := h
  apply Classical.byContradiction
  intro hne
  exact h4 1 (by omega) (by omega) (hG_zb _)
theorem hdid_zb {l : List Int} {c n : Int} (h : Did zb 2 0 0 0 l c n) : l = zb.set 66 1 ∧ c = 1 ∧ n = 1 := by
  cases h with
  | bad h => exact absurd hok_zb h
  | noop _ h => omega
  | enable i _ _ hF => obtain rfl := hfirst_zb hF; exact ⟨rfl, rfl, rfl⟩
  | full _ _ hN => exact absurd (hG_zb _) (hN 1 (by omega) (by omega))
  | trb _ _ h _ => omega
  | done _ _ _ h => omega
  | refused _ _ h => omega
theorem Run.last {m0 m : Ms} {ds : List Dd} {d : Dd} {ev : List E3} {er : List Int} (h : Run m0 (ds ++ [d]) m ev er) : ∃ m1 e0 e1 r0 r1, Run m0 ds m1 e0 r0 ∧ Stp m1 d m e1 r1 ∧ ev = e0 ++ e1 ∧ er = r0 ++ r1 := by
  generalize hx : ds ++ [d] = x at h
  cases h with
  | nil => simp at hx
  | snoc h1 h2 =>
    obtain ⟨rfl, e⟩ := List.append_inj' hx rfl
    obtain rfl : d = _ := by simpa using e
    exact ⟨_, _, _, _, _, h1, h2, rfl, rfl⟩
theorem Run.first {m0 m : Ms} {ev : List E3} {er : List Int} (h : Run m0 [] m ev er) : m = m0 ∧ ev = [] ∧ er = [] := by
  generalize hx : ([] : List Dd) = x at h
  cases h with
  | nil => exact ⟨rfl, rfl, rfl⟩
  | snoc h1 h2 => simp at hx
def dd1 : Dd := ⟨1, 2, 0, 0, 0, 0, 0, 0⟩
def dd2 : Dd := ⟨2, 0, 0, 0, 0, 9, 0, 0⟩
def dd3 : Dd := ⟨3, 0, 0, 0, 0, 0, 0, 0⟩
def ms1 : Ms := ⟨putR (newR 4) 4398046511104, newR 4, zb⟩
def ms2 : Ms := ⟨getR ms1.r, putR (newR 4) 257, zb.set 66 1⟩
def ms3 : Ms := ⟨sawR ms2.r 257, learnR (getR ms2.v), ms2.l⟩
theorem stp1 {m : Ms} {ev : List E3} {er : List Int} (h : Stp (startM 4 4) dd1 m ev er) : m = ms1 ∧ ev = [] ∧ er = [0] := by
  cases h with
  | arg _ hc => exact absurd hc (by decide)
  | full _ _ hf => exact absurd hf (by decide)
  | sub _ _ _ => exact ⟨rfl, rfl, rfl⟩
  | nowork h _ => exact absurd h (by decide)
  | work _ _ h => exact absurd h (by decide)
  | none h _ => exact absurd h (by decide)
  | reap _ h => exact absurd h (by decide)
  | halt _ h => exact absurd h (by decide)
  | other h => exact absurd rfl h
theorem go1_ms1 {m : Ms} (h : Go1 ms1 m) : m = ms2 := by
  cases h with
  | mk x l' c n h1 h2 h3 hd =>
    have hx : x = 4398046511104 := by
      have e : (cellAt ms1.r).1 = 4398046511104 := by decide
      rw [e] at h3; omega
    subst hx
    obtain ⟨rfl, rfl, rfl⟩ := hdid_zb hd
    rfl
theorem go1_ms2 {m : Ms} (h : Go1 ms2 m) : False := by
  cases h with
  | mk x l' c n h1 h2 h3 hd => exact absurd h2 (by decide)
theorem pre_ms1 {m : Ms} {k : Nat} (h : Pre ms1 k m) : (k = 0 ∧ m = ms1) ∨ (k = 1 ∧ m = ms2) := by
  induction h with
  | zero => exact .inl ⟨rfl, rfl⟩
  | step _ hg ih =>
    rcases ih with ⟨rfl, rfl⟩ | ⟨rfl, rfl⟩
    · exact .inr ⟨rfl, go1_ms1 hg⟩
    · exact absurd hg go1_ms2
theorem stp2 {m : Ms} {ev : List E3} {er : List Int} (h : Stp ms1 dd2 m ev er) : m = ms2 ∧ ev = [] ∧ er = [] := by
  cases h with
  | arg h | full h | sub h => exact absurd h (by decide)
  | nowork _ h => exact absurd ⟨by decide, by decide⟩ h
  | work k _ _ _ _ hp hs =>
    rcases pre_ms1 hp with ⟨rfl, rfl⟩ | ⟨rfl, rfl⟩
    · rcases hs with h | ⟨_, h | h⟩
      · exact absurd h (by decide)
      · exact absurd h (by decide)
      · exact absurd h (by decide)
    · exact ⟨rfl, rfl, rfl⟩
  | none h _ => exact absurd h (by decide)
  | reap _ h => exact absurd h (by decide)
  | halt _ h => exact absurd h (by decide)
  | other _ h => exact absurd rfl h
theorem stp3 {m : Ms} {ev : List E3} {er : List Int} (h : Stp ms2 dd3 m ev er) : m = ms3 ∧ ev = [(1, 1, 0)] ∧ er = [] := by
  cases h with
  | arg h | full h | sub h => exact absurd h (by decide)
  | nowork h _ => exact absurd h (by decide)
  | work _ _ h => exact absurd h (by decide)
  | none _ h => exact absurd h (by decide)
  | reap x _ _ hx =>
    have e : (cellAt ms2.v).1 = 257 := by decide
    obtain rfl : x = 257 := by rw [e] at hx; omega
    exact ⟨rfl, rfl, rfl⟩
  | halt _ h => exact absurd h (by decide)
  | other _ _ h => exact absurd rfl h
theorem stp4 {m : Ms} {ev : List E3} {er : List Int} (h : Stp ms3 dd3 m ev er) : m = ms3 ∧ ev = [] ∧ er = [] := by
  cases h with
  | arg h | full h | sub h => exact absurd h (by decide)
  | nowork h _ => exact absurd h (by decide)
  | work _ _ h => exact absurd h (by decide)
  | none _ h => exact ⟨rfl, rfl, rfl⟩
  | reap x _ h _ => exact absurd h (by decide)
  | halt _ h => exact absurd h (by decide)
  | other _ _ h => exact absurd rfl h
theorem run_lives {m : Ms} {ev : List E3} {er : List Int} (h : Run (startM 4 4) [dd1, dd2, dd3, dd3] m ev er) : m = ms3 ∧ ev = [(1, 1, 0)] ∧ er = [0] := by
  obtain ⟨m3, e3, f3, r3, q3, h3, s3, rfl, rfl⟩ := Run.last (ds := [dd1, dd2, dd3]) h
  obtain ⟨m2, e2, f2, r2, q2, h2, s2, rfl, rfl⟩ := Run.last (ds := [dd1, dd2]) h3
  obtain ⟨m1, e1, f1, r1, q1, h1, s1, rfl, rfl⟩ := Run.last (ds := [dd1]) h2
  obtain ⟨m0, e0, f0, r0, q0, h0, s0, rfl, rfl⟩ := Run.last (ds := []) h1
  obtain ⟨rfl, rfl, rfl⟩ := h0.first
  obtain ⟨rfl, rfl, rfl⟩ := stp1 s0
  obtain ⟨rfl, rfl, rfl⟩ := stp2 s1
  obtain ⟨rfl, rfl, rfl⟩ := stp3 s2
  obtain ⟨rfl, rfl, rfl⟩ := stp4 s3
  exact ⟨rfl, rfl, rfl⟩
end Go.Proofs.Ytidcbboonjenhaa
