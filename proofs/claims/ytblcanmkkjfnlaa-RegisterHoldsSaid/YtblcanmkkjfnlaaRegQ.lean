/- Handles that have ended, and such as are held: the plain law. -/
import Derived.Test.YtblcanmkkjfnlaaRegA
namespace Go.Proofs.Ytblcanmkkjfnlaa
open Go.RowKit Go.Proofs.Ytblcanmkkjfnlaa.RegP
/-- h was let, and ended; own: what was let behind it, and is live -/
structure Stale (rs : List Room) (h : Int) (own : List Int) : Prop where
  ok : AllOk rs
  len : rs.length = 16
  has : ∀ k ∈ own, Has rs k
  nodup : own.Nodup
  gone : ∃ m, ∃ hm : m < rs.length, ∃ g : Int, h = m + 16 * g ∧ g ≤ rs[m].gen ∧ (rs[m].live = true → g < rs[m].gen)
theorem Stale.none {rs : List Room} {h : Int} {own : List Int} (s : Stale rs h own) : ∀ j (hj : j < rs.length), ¬ holds h j rs[j] := by
  intro j hj ⟨h1, h2⟩
  obtain ⟨m, hm, g, e, h3, h4⟩ := s.gone
  have := s.len
  obtain rfl : j = m := by omega
  have := h4 h1
  omega
theorem has_set {rs : List Room} {k : Int} (h : Has rs k) (m : Nat) (hm : m < rs.length) (hne : ¬ holds k m rs[m]) (x : Room) : Has (rs.set m x) k := by
  obtain ⟨j, hj, hh⟩ := h
  have hne : m ≠ j := by rintro rfl; exact hne hh
  refine ⟨j, by simpa using hj, ?_⟩
  rw [List.getElem_set, if_neg hne]; exact hh
theorem free_open {x : Room} (h : free x = true) : x.live = false ∧ x.gen < 65535 := by
  simp [free] at h; exact h
theorem let_ok {rs : List Room} (h : AllOk rs) (m : Nat) (hm : m < rs.length) (hf : free rs[m] = true) (u : Int) : AllOk (rs.set m ⟨rs[m].gen + 1, true, u⟩) := by
  have ho := h m hm
  have := free_open hf
  exact all_set h m _ ⟨by have := ho.1; simp only; omega, by simp only; omega, fun _ => by have := ho.1; simp only; omega, fun h => (by cases h)⟩
theorem end_ok {rs : List Room} (h : AllOk rs) (m : Nat) (hm : m < rs.length) : AllOk (rs.set m ⟨rs[m].gen, false, 0⟩) := by
  have ho := h m hm
  exact all_set h m _ ⟨ho.1, ho.2.1, fun h => (by cases h), fun _ => rfl⟩
theorem new_not {rs : List Room} {own : List Int} (hl : rs.length = 16) (hs : ∀ k ∈ own, Has rs k) {m : Nat} {hm : m < rs.length} (hf : free rs[m] = true) : (m + 16 * (rs[m].gen + 1) : Int) ∉ own := by
  intro hk
  obtain ⟨j, hj, h1, h2⟩ := hs _ hk
  have hjm : j = m := by omega
  subst hjm
  rw [(free_open hf).1] at h1
  cases h1
theorem Stale.let_ {rs : List Room} {h : Int} {own : List Int} (s : Stale rs h own) {m : Nat} {hm : m < rs.length} (hf : free rs[m] = true) (u : Int) :
    Stale (rs.set m ⟨rs[m].gen + 1, true, u⟩) h (own ++ [m + 16 * (rs[m].gen + 1)]) ∧ (m + 16 * (rs[m].gen + 1) : Int) ≠ h := by
  have hlen := s.len
  have hlv := (free_open hf).1
  refine ⟨⟨let_ok s.ok m hm hf u, by simpa using s.len, fun k hk => ?_, ?_, ?_⟩, ?_⟩
  · rcases List.mem_append.1 hk with hk | hk
    · exact has_set (s.has k hk) m hm (fun c => by have := c.1; rw [hlv] at this; cases this) _
    · simp at hk; subst hk
      exact ⟨m, by simpa using hm, by simp, by simp⟩
  · rw [List.nodup_append]
    exact ⟨s.nodup, by simp, fun a ha b hb => by simp at hb; subst hb; rintro rfl; exact new_not s.len s.has hf ha⟩
  · obtain ⟨m', hm', g, e, h3, h4⟩ := s.gone
    refine ⟨m', by simpa using hm', g, e, ?_⟩
    rw [List.getElem_set]
    split
    · rename_i hh; subst hh; simp only; exact ⟨by omega, fun _ => by omega⟩
    · exact ⟨h3, h4⟩
  · obtain ⟨m', hm', g, e, h3, h4⟩ := s.gone
    intro c
    have : m = m' := by omega
    subst this
    omega
theorem Stale.end_ {rs : List Room} {h k : Int} {own : List Int} (s : Stale rs h (k :: own)) {m : Nat} {hm : m < rs.length} (hf : holds k m rs[m]) : Stale (rs.set m ⟨rs[m].gen, false, 0⟩) h own := by
  have hn := List.nodup_cons.1 s.nodup
  refine ⟨end_ok s.ok m hm, by simpa using s.len, fun x hx => ?_, hn.2, ?_⟩
  · refine has_set (s.has x (by simp [hx])) m hm (fun c => ?_) _
    have : x = k := c.2.trans hf.2.symm
    subst this
    exact hn.1 hx
  · obtain ⟨m', hm', g, e, h3, h4⟩ := s.gone
    refine ⟨m', by simpa using hm', g, e, ?_⟩
    rw [List.getElem_set]
    split
    · rename_i hh; subst hh; exact ⟨h3, fun h => (by cases h)⟩
    · exact ⟨h3, h4⟩
theorem stale_start {rs : List Room} (ha : AllOk rs) (hl : rs.length = 16) {m : Nat} {hm : m < rs.length} (hf : free rs[m] = true) : Stale (rs.set m ⟨rs[m].gen + 1, false, 0⟩) (m + 16 * (rs[m].gen + 1)) [] := by
  have ho := ha m hm
  have := free_open hf
  refine ⟨all_set ha m _ ⟨by have := ho.1; simp only; omega, by simp only; omega, fun h => (by cases h), fun _ => rfl⟩, by simpa using hl, by simp, by simp, m, by simpa using hm, rs[m].gen + 1, rfl, ?_⟩
  rw [List.getElem_set_self]
  exact ⟨Int.le_refl _, fun h => (by cases h)⟩
theorem Stale.look {rs : List Room} {h : Int} {own : List Int} (s : Stale rs h own) : Lk rs h 0 12 := look_none rs s.len h s.ok s.none
theorem Stale.gone_ {rs : List Room} {h : Int} {own : List Int} (s : Stale rs h own) : En rs h zeros 12 := end_none rs s.len h s.ok s.none
/-- what Let does at a register that is right -/
theorem let_cases {rs : List Room} (ha : AllOk rs) (hl : rs.length = 16) (u : Int) : Lt rs u zeros 0 11 ∨ ∃ m, ∃ hm : m < rs.length, free rs[m] = true ∧ Lt rs u (rs.set m ⟨rs[m].gen + 1, true, u⟩) (m + 16 * (rs[m].gen + 1)) 0 := by
  by_cases hh : ∀ j (hj : j < rs.length), free rs[j] = false
  · exact .inl (let_full rs hl u ha hh)
  · obtain ⟨m, hm, hf, hj⟩ := free_first hh
    exact .inr ⟨m, hm, hf, let_good rs hl u ha m hm hf hj⟩
end Go.Proofs.Ytblcanmkkjfnlaa
