/- A configuration that came in, read. -/
import Derived.Test.YtmddfpmchcmgiaaDscC
import Derived.Test.YtmddfpmchcmgiaaGen
namespace Go.Proofs.Ytmddfpmchcmgiaa
open Go.RowKit Go.Proofs.Ytmddfpmchcmgiaa.Dsc
def bs' (l : List UInt8) : ByteArray := ⟨l.toArray⟩
theorem bs_list (l : List UInt8) : (bs' l).data.toList = l := by simp [bs']
theorem bs_size (l : List UInt8) : (bs' l).size = l.length := by simp [bs', ByteArray.size]
theorem bs_of (s : ByteArray) : bs' s.data.toList = s := rfl
def ec1 (x : En) : List Value := [.int .i64 x.ad, .bool x.inn, .int .i64 x.ki, .int .i64 x.mx, .int .i64 x.iv]
def ecells (l : List En) : List Value := l.flatMap ec1
def xcells (l : List (List UInt8)) : List Value := l.map fun s => Value.string (bs' s)
def FRd (w : World) (f : Fa) (cs : List Value) : Prop := ∃ X E, cs = [.int .i64 f.cl, .int .i64 f.su, .int .i64 f.pr, .int .i64 f.nm, X, E] ∧ Kt.Ar w X 1 f.ex.length (xcells f.ex) ∧ Kt.Ar w E 5 f.es.length (ecells f.es)
def CRd (w : World) (v : Value) (c : Cf) : Prop := ∃ (F : Value) (cs : List (List Value)), v = .agg #[.int .i64 c.va, .int .i64 c.nm, .int .i64 c.at_, .int .i64 c.pw, F] ∧ Kt.Ar w F 6 c.fs.length cs.flatten ∧ cs.length = c.fs.length ∧
  ∀ i (h : i < c.fs.length) (h2 : i < cs.length), FRd w c.fs[i] cs[i]
def endS : Fr.Ty := .cat 1 (.int .i64) (.cat 1 .bool (.cat 1 (.int .i64) (.cat 1 (.int .i64) (.cat 1 (.int .i64) .nil))))
def faceS : Fr.Ty := .cat 1 (.int .i64) (.cat 1 (.int .i64) (.cat 1 (.int .i64) (.cat 1 (.int .i64) (.cat 1 (.slice 1 .string) (.cat 1 (.slice 5 endS) .nil)))))
def cfgS : Fr.Ty := .cat 1 (.int .i64) (.cat 1 (.int .i64) (.cat 1 (.int .i64) (.cat 1 (.int .i64) (.cat 1 (.slice 6 faceS) .nil))))
section
variable {w : World} {B : Nat}
theorem end_rd {x : List Value} (h : Fr.Rd w B endS x) : ∃ e : En, x = ec1 e := by
  obtain ⟨_, ⟨a, h1, _⟩, _, ⟨b, h2⟩, _, ⟨k, h3, _⟩, _, ⟨m, h4, _⟩, _, ⟨v, h5, _⟩, h6⟩ := h
  refine ⟨⟨a, b, k, m, v⟩, ?_⟩
  have e1 := (List.take_append_drop 1 x).symm
  have e2 := (List.take_append_drop 1 (x.drop 1)).symm
  have e3 := (List.take_append_drop 1 ((x.drop 1).drop 1)).symm
  have e4 := (List.take_append_drop 1 (((x.drop 1).drop 1).drop 1)).symm
  have e5 := (List.take_append_drop 1 ((((x.drop 1).drop 1).drop 1).drop 1)).symm
  rw [h5, h6] at e5
  rw [h4, e5] at e4
  rw [h3, e4] at e3
  rw [h2, e3] at e2
  rw [h1, e2] at e1
  exact e1
theorem ends_rd {E : Value} (h : Fr.Rd w B (.slice 5 endS) [E]) : ∃ es : List En, es.length ≤ B ∧ Kt.Ar w E 5 es.length (ecells es) := by
  obtain ⟨els, h1, h2, h3⟩ := Kt.ar_open (w := w) (B := B) (sz := 5) (e := endS) (v := E) h (by decide)
  have key : ∀ els : List (List Value), (∀ x ∈ els, x.length = 5 ∧ Fr.Rd w B endS x) → ∃ es : List En, es.length = els.length ∧ els.flatten = ecells es := by
    intro els
    induction els with
    | nil => exact fun _ => ⟨[], rfl, rfl⟩
    | cons x els ih =>
      intro h
      obtain ⟨es, i1, i2⟩ := ih (fun y hy => h y (List.mem_cons_of_mem _ hy))
      obtain ⟨e, he⟩ := end_rd (h x (List.mem_cons_self ..)).2
      exact ⟨e :: es, by simp [i1], by rw [List.flatten_cons, i2, he]; rfl⟩
  obtain ⟨es, i1, i2⟩ := key els h1
  rw [i2, ← i1] at h3
  exact ⟨es, by omega, h3⟩
theorem exs_rd {X : Value} (h : Fr.Rd w B (.slice 1 .string) [X]) : ∃ ex : List (List UInt8), ex.length ≤ B ∧ (∀ s ∈ ex, s.length ≤ B) ∧ Kt.Ar w X 1 ex.length (xcells ex) := by
  obtain ⟨ss, h1, h2, h3⟩ := Kt.ar_strs (w := w) (B := B) (v := X) h
  refine ⟨ss.map (fun s => s.data.toList), by simpa using h1, fun s hs => ?_, ?_⟩
  · obtain ⟨b, hb, rfl⟩ := List.mem_map.1 hs
    exact h2 b hb
  · have e : xcells (ss.map (fun s => s.data.toList)) = ss.map Value.string := by
      unfold xcells
      rw [List.map_map]
      apply List.map_congr_left
      intro s _
      rfl
    rw [e, List.length_map]
    exact h3
def FaB (B : Nat) (f : Fa) : Prop := f.ex.length ≤ B ∧ (∀ s ∈ f.ex, s.length ≤ B) ∧ f.es.length ≤ B
theorem face_rd {x : List Value} (h : Fr.Rd w B faceS x) : ∃ f : Fa, FRd w f x ∧ FaB B f := by
  obtain ⟨_, ⟨a, h1, _⟩, _, ⟨b, h2, _⟩, _, ⟨c, h3, _⟩, _, ⟨d, h4, _⟩, hl5, h5, hl6, h6, h7⟩ := h
  have e1 := (List.take_append_drop 1 x).symm
  have e2 := (List.take_append_drop 1 (x.drop 1)).symm
  have e3 := (List.take_append_drop 1 ((x.drop 1).drop 1)).symm
  have e4 := (List.take_append_drop 1 (((x.drop 1).drop 1).drop 1)).symm
  have e5 := (List.take_append_drop 1 ((((x.drop 1).drop 1).drop 1).drop 1)).symm
  have e6 := (List.take_append_drop 1 (((((x.drop 1).drop 1).drop 1).drop 1).drop 1)).symm
  obtain ⟨X, hX⟩ : ∃ X, ((((x.drop 1).drop 1).drop 1).drop 1).take 1 = [X] := by
    cases hq : (((x.drop 1).drop 1).drop 1).drop 1 with
    | nil => rw [hq] at hl5; exact absurd hl5 (by decide)
    | cons q r => exact ⟨q, rfl⟩
  obtain ⟨E, hE⟩ : ∃ E, (((((x.drop 1).drop 1).drop 1).drop 1).drop 1).take 1 = [E] := by
    cases hq : ((((x.drop 1).drop 1).drop 1).drop 1).drop 1 with
    | nil => rw [hq] at hl6; exact absurd hl6 (by decide)
    | cons q r => exact ⟨q, rfl⟩
  rw [hX] at h5
  rw [hE] at h6
  obtain ⟨ex, x1, x2, x3⟩ := exs_rd h5
  obtain ⟨es, y1, y2⟩ := ends_rd h6
  refine ⟨⟨a, b, c, d, ex, es⟩, ⟨X, E, ?_, x3, y2⟩, x1, x2, y1⟩
  rw [hE, h7] at e6
  rw [hX, e6] at e5
  rw [h4, e5] at e4
  rw [h3, e4] at e3
  rw [h2, e3] at e2
  rw [h1, e2] at e1
  exact e1
theorem faces_rd {F : Value} (h : Fr.Rd w B (.slice 6 faceS) [F]) : ∃ (fs : List Fa) (cs : List (List Value)), fs.length ≤ B ∧ (∀ f ∈ fs, FaB B f) ∧ Kt.Ar w F 6 fs.length cs.flatten ∧ cs.length = fs.length ∧ ∀ i (h : i < fs.length) (h2 : i < cs.length), FRd w fs[i] cs[i] := by
  obtain ⟨els, h1, h2, h3⟩ := Kt.ar_open (w := w) (B := B) (sz := 6) (e := faceS) (v := F) h (by decide)
  have key : ∀ els : List (List Value), (∀ x ∈ els, x.length = 6 ∧ Fr.Rd w B faceS x) → ∃ fs : List Fa, fs.length = els.length ∧ (∀ f ∈ fs, FaB B f) ∧ ∀ i (h : i < fs.length) (h2 : i < els.length), FRd w fs[i] els[i] := by
    intro els
    induction els with
    | nil => exact fun _ => ⟨[], rfl, fun f hf => (by cases hf), fun i h => absurd h (Nat.not_lt_zero _)⟩
    | cons x els ih =>
      intro h
      obtain ⟨fs, i1, i2, i3⟩ := ih (fun y hy => h y (List.mem_cons_of_mem _ hy))
      obtain ⟨f, hf, hb⟩ := face_rd (h x (List.mem_cons_self ..)).2
      refine ⟨f :: fs, by simp [i1], fun g hg => ?_, fun i hi h2 => ?_⟩
      · rcases List.mem_cons.1 hg with rfl | hg
        · exact hb
        · exact i2 g hg
      · cases i with
        | zero => exact hf
        | succ i => exact i3 i (by simpa using hi) (by simpa using h2)
  obtain ⟨fs, i1, i2, i3⟩ := key els h1
  rw [← i1] at h3
  exact ⟨fs, els, by omega, i2, h3, i1.symm, i3⟩
theorem cfg_rd {v : Value} (h : Fr.RdV w B cfgS v) : ∃ c : Cf, CRd w v c ∧ c.fs.length ≤ B ∧ ∀ f ∈ c.fs, FaB B f := by
  obtain ⟨cs, rfl, _, ⟨a, h1, _⟩, _, ⟨b, h2, _⟩, _, ⟨c, h3, _⟩, _, ⟨d, h4, _⟩, hl5, h5, h6⟩ := h
  generalize hx : cs.toList = x at *
  have e1 := (List.take_append_drop 1 x).symm
  have e2 := (List.take_append_drop 1 (x.drop 1)).symm
  have e3 := (List.take_append_drop 1 ((x.drop 1).drop 1)).symm
  have e4 := (List.take_append_drop 1 (((x.drop 1).drop 1).drop 1)).symm
  have e5 := (List.take_append_drop 1 ((((x.drop 1).drop 1).drop 1).drop 1)).symm
  obtain ⟨F, hF⟩ : ∃ F, ((((x.drop 1).drop 1).drop 1).drop 1).take 1 = [F] := by
    cases hq : (((x.drop 1).drop 1).drop 1).drop 1 with
    | nil => rw [hq] at hl5; exact absurd hl5 (by decide)
    | cons q r => exact ⟨q, rfl⟩
  rw [hF] at h5
  obtain ⟨fs, els, i1, i2, i3, i4, i5⟩ := faces_rd h5
  rw [hF, h6] at e5
  rw [h4, e5] at e4
  rw [h3, e4] at e3
  rw [h2, e3] at e2
  rw [h1, e2] at e1
  refine ⟨⟨a, b, c, d, fs⟩, ⟨F, els, ?_, i3, i4, i5⟩, i1, i2⟩
  have : cs = #[.int .i64 a, .int .i64 b, .int .i64 c, .int .i64 d, F] := by
    rw [← Array.toList_inj, hx, e1]; rfl
  rw [this]
theorem FRd.on {w' : World} {f : Fa} {cs : List Value} (h : FRd w f cs) (hb : Below w.heap.size w w') : FRd w' f cs := by
  obtain ⟨X, E, h1, h2, h3⟩ := h
  exact ⟨X, E, h1, h2.on hb, h3.on hb⟩
theorem CRd.on {w' : World} {v : Value} {c : Cf} (h : CRd w v c) (hb : Below w.heap.size w w') : CRd w' v c := by
  obtain ⟨F, cs, h1, h2, h3, h4⟩ := h
  exact ⟨F, cs, h1, h2.on hb, h3, fun i hi hi2 => (h4 i hi hi2).on hb⟩
end
end Go.Proofs.Ytmddfpmchcmgiaa
