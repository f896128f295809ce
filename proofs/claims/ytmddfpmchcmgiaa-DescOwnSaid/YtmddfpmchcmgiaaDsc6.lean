/- DescOwn: the frame's bounds. -/
import Derived.Test.YtmddfpmchcmgiaaDsc4
namespace Go.Proofs.Ytmddfpmchcmgiaa
open Go.RowKit Go.Proofs.Ytmddfpmchcmgiaa.Dsc
theorem own_walk (v0 : Value) (w : World) (r0 : Fr.RdV w reachBytes cfgS v0)
    (n0 : ∀ (cs : Array Value) a l c, v0 = .agg cs → (cs.toList.drop 4).take 1 = [.slice a l c] → l * Try.prog.bytesOf 32 ≤ reachBytes)
    (s4 : ∀ (cs : Array Value) ad l c, v0 = .agg cs → (cs.toList.drop 4).take 1 = [.slice (some ad) l c] → ∀ k, k < l → ∀ a n c', w.cell? ((ad.add (k * Try.prog.cellsOf 32)).add 4) = some (.slice a n c') → n * Try.prog.bytesOf 9 ≤ reachBytes)
    (s5 : ∀ (cs : Array Value) ad l c, v0 = .agg cs → (cs.toList.drop 4).take 1 = [.slice (some ad) l c] → ∀ k, k < l → ∀ a n c', w.cell? ((ad.add (k * Try.prog.cellsOf 32)).add 5) = some (.slice a n c') → n * Try.prog.bytesOf 43 ≤ reachBytes) :
    Calls Try.prog 5 #[v0] w fun e w' => e = .returned (.bool true) ∧ Below w.heap.size w w' := by
  have hb1 : Try.prog.bytesOf 32 = 80 := by kernel_rfl
  have hb2 : Try.prog.bytesOf 9 = 16 := by kernel_rfl
  have hb3 : Try.prog.bytesOf 43 = 40 := by kernel_rfl
  have hc1 : Try.prog.cellsOf 32 = 6 := by kernel_rfl
  have hr : reachBytes = 140737488351232 := rfl
  rw [hb1, hr] at n0
  rw [hb2, hc1, hr] at s4
  rw [hb3, hc1, hr] at s5
  obtain ⟨c, hc, _⟩ := cfg_rd r0
  have hc0 := hc
  obtain ⟨F, css, rfl, hF, hcl, hcr⟩ := hc
  obtain ⟨A, fc, rfl, _, hx⟩ := hF.form
  have key : ∀ (k : Nat) (hk : k < c.fs.length), c.fs[k].ex.length * 16 ≤ 140737488355328 ∧ c.fs[k].es.length * 40 ≤ 140737488355328 := fun k hk => by
    obtain ⟨b, o, rfl, _, hcell⟩ := hx (Nat.lt_of_le_of_lt (Nat.zero_le _) hk)
    have hk2 : k < css.length := by rw [hcl]; exact hk
    obtain ⟨X, E, hcs, hX, hE⟩ := hcr k hk hk2
    obtain ⟨XA, xc, rfl, _, _⟩ := hX.form
    obtain ⟨EA, ec, rfl, _, _⟩ := hE.form
    have hl6 : ∀ x ∈ css, x.length = 6 := fun x hx => by
      obtain ⟨i, hi, rfl⟩ := List.getElem_of_mem hx
      obtain ⟨_, _, he, _, _⟩ := hcr i (by rw [← hcl]; exact hi) hi
      rw [he]; rfl
    have hat : ∀ q u, q < 6 → css[k][q]? = some u → w.cell? ⟨b, o + k * 6 + q, none⟩ = some u := fun q u hq hu => by
      have h1 := flat_get css hl6 k hk2 q hq
      rw [hu] at h1
      obtain ⟨h2, h3⟩ := List.getElem?_eq_some_iff.1 h1
      rw [Nat.add_assoc]
      exact (hcell _ h2).trans (by rw [h3])
    have x4 := s4 _ ⟨b, o, none⟩ _ _ rfl rfl k hk XA _ xc (by rw [Addr.add_lit, Addr.add_lit]; exact hat 4 _ (by decide) (by rw [hcs]; rfl))
    have x5 := s5 _ ⟨b, o, none⟩ _ _ rfl rfl k hk EA _ ec (by rw [Addr.add_lit, Addr.add_lit]; exact hat 5 _ (by decide) (by rw [hcs]; rfl))
    omega
  refine own_calls c _ w hc0 ⟨?_, fun f hf => ?_, fun f hf => ?_⟩
  · have := n0 _ _ _ _ rfl rfl
    omega
  · obtain ⟨k, hk, rfl⟩ := List.mem_iff_getElem.1 hf
    exact (key k hk).1
  · obtain ⟨k, hk, rfl⟩ := List.mem_iff_getElem.1 hf
    exact (key k hk).2
end Go.Proofs.Ytmddfpmchcmgiaa
