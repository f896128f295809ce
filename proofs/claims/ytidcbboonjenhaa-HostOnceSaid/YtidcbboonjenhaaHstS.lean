/- host: the plain law of HostCuts. -/
import Derived.Test.YtidcbboonjenhaaHstR
namespace Go.Proofs.Ytidcbboonjenhaa
open Go.RowKit Classical Go.Proofs.Ytidcbboonjenhaa.Slt
theorem WkR.vs {M : Mv} {n j : Int} {m : Ms} (hk : Mk M) (hw : Wf M.r.cs) (hw2 : Wf M.v.cs) (hv : Vl M) (h : WkR M n m j) : Vs m := by
  have hs := vs_of hk hv hw hw2
  cases h with
  | no _ => exact hs
  | run k _ _ _ _ hp _ => exact hp.vs hs
theorem vl_ms {M X : Mv} (h : X.ms = M.ms) (hv : Vl X) : Vl M := by
  have hr : X.r = M.r := congrArg Ms.r h
  have he : X.v = M.v := congrArg Ms.v h
  have hl : X.l = M.l := congrArg Ms.l h
  exact ⟨hr ▸ hv.r, he ▸ hv.v, hl ▸ hv.b, hr ▸ hv.cw, he ▸ hv.ew⟩
/-- to work on for a and for b more is to work on for a + b -/
theorem cuts_plain {M X : Mv} {a b i j k : Int} {m2 m3 : Ms} (hk : Mk M) (hw : Wf M.r.cs) (hw2 : Wf M.v.cs) (a1 : 1 ≤ a) (a2 : a ≤ 500) (b1 : 1 ≤ b) (b2 : b ≤ 500)
    (h1 : WkR M a X.ms i) (h2 : WkR X b m2 j) (h3 : WkR M (a + b) m3 k) : i + j = k ∧ m2 = m3 ∧ i ≤ a ∧ (i = a ∨ j = 0) := by
  by_cases hv : Vl M
  · have hX : Vs X.ms := h1.vs hk hw hw2 hv
    have hvX : Vl X := hX.vl
    cases h2 with
    | no h => exact absurd ⟨hvX, b1, by omega⟩ h
    | run j' _ _ _ _ p2 s2 =>
      generalize hx : X.ms = x at h1 p2
      cases h1 with
      | no h => exact absurd ⟨hv, a1, by omega⟩ h
      | run i' _ _ _ _ p1 s1 =>
        cases h3 with
        | no h => exact absurd ⟨hv, by omega, by omega⟩ h
        | run k' _ _ _ _ p3 s3 =>
          rcases s1 with s1 | ⟨s1, st⟩
          · have := run_fun (p1.add p2) (n := a + b) (by rcases s2 with s2 | ⟨s2, s4⟩; exact .inl (by omega); exact .inr ⟨by omega, s4⟩) p3 s3
            exact ⟨by omega, this.2, by omega, .inl s1⟩
          · have hj : j' = 0 := Classical.byContradiction fun hne => by
              obtain ⟨n0, rfl⟩ : ∃ n0, j' = 1 + n0 := ⟨j' - 1, by omega⟩
              obtain ⟨z, r1, _⟩ := p2.part
              cases r1 with
              | step r2 r3 => cases r2; exact st.no r3
            subst hj
            cases p2
            have := run_fun p1 (n := a + b) (.inr ⟨by omega, st⟩) p3 s3
            exact ⟨by omega, this.2, by omega, .inr rfl⟩
  · have e1 : X.ms = M.ms ∧ i = 0 := by
      generalize X.ms = x at h1
      cases h1 with
      | run _ _ h => exact absurd h hv
      | no _ => exact ⟨rfl, rfl⟩
    have hvX : ¬ Vl X := fun h => hv (vl_ms e1.1 h)
    have e2 : m2 = X.ms ∧ j = 0 := by
      cases h2 with
      | run _ _ h => exact absurd h hvX
      | no _ => exact ⟨rfl, rfl⟩
    have e3 : m3 = M.ms ∧ k = 0 := by
      cases h3 with
      | run _ _ h => exact absurd h hv
      | no _ => exact ⟨rfl, rfl⟩
    exact ⟨by omega, by rw [e2.1, e1.1, e3.1], by omega, .inr e2.2⟩
end Go.Proofs.Ytidcbboonjenhaa
