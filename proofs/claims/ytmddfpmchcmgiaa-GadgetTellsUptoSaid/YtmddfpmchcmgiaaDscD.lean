/- ReadConfig walked. -/
import Derived.Test.YtmddfpmchcmgiaaDscB
import Derived.Test.YtmddfpmchcmgiaaDscL
namespace Go.Proofs.Ytmddfpmchcmgiaa
open Go.RowKit Go.Proofs.Ytmddfpmchcmgiaa.Dsc
theorem add_calls (w0 : World) (a1 a2 a3 a4 : Int) (b : Nat) (V : Value) (l : List Fh) (n : Nat) (w : World) (d : List UInt8) (hi : AddIn w0 a1 a2 a3 a4 b V l n w) (hd : 2 ≤ d.length) :
    Calls Try.prog 40 #[.pointer (some ⟨b, 0, none⟩), .string (bs' d)] w (AddOut w0 a1 a2 a3 a4 b (addF (l.map Fh.f) d)) := by
  by_cases c1 : at' d 1 = 4 ∧ d.length = 9
  · have e : addF (l.map Fh.f) d = some (l.map Fh.f ++ [⟨at' d 5, at' d 6, at' d 7, at' d 8, [], []⟩]) := by unfold addF; rw [if_pos c1]
    rw [e]
    exact add_face w0 a1 a2 a3 a4 b V l n w d hi c1.1 c1.2
  · obtain rfl | ⟨pre, h0, hl⟩ := List.eq_nil_or_concat l
    · have e : addF (([] : List Fh).map Fh.f) d = none := by unfold addF; rw [if_neg c1]; rfl
      rw [e]
      refine add_bad w0 a1 a2 a3 a4 b V _ n w d hi hd ?_
      by_cases q : at' d 1 = 4
      · exact .inl ⟨rfl, q, fun h9 => c1 ⟨q, h9⟩⟩
      · exact .inr (.inl ⟨rfl, q⟩)
    · rw [List.concat_eq_append] at hl
      subst hl
      have hg : ((pre ++ [h0]).map Fh.f).getLast? = some h0.f := by rw [List.map_append]; exact List.getLast?_concat
      have hdl : ((pre ++ [h0]).map Fh.f).dropLast = pre.map Fh.f := by rw [List.map_append]; exact List.dropLast_concat
      have hne : pre ++ [h0] ≠ [] := by simp
      by_cases c5 : at' d 1 = 5 ∧ d.length = 7
      · have e : addF ((pre ++ [h0]).map Fh.f) d = some (pre.map Fh.f ++ [⟨h0.f.cl, h0.f.su, h0.f.pr, h0.f.nm, h0.f.ex, h0.f.es ++ [⟨at' d 2 % 128, decide (128 ≤ at' d 2), at' d 3, at' d 4 + 256 * at' d 5, at' d 6⟩]⟩]) := by
          unfold addF; rw [if_neg c1, hg, hdl]; dsimp only; rw [if_pos c5]
        rw [e]
        exact add_end w0 a1 a2 a3 a4 b V pre h0 n w d hi c5.1 c5.2
      · by_cases c6 : 6 ≤ at' d 1
        · have e : addF ((pre ++ [h0]).map Fh.f) d = some (pre.map Fh.f ++ [⟨h0.f.cl, h0.f.su, h0.f.pr, h0.f.nm, h0.f.ex ++ [d], h0.f.es⟩]) := by
            unfold addF; rw [if_neg c1, hg, hdl]; dsimp only; rw [if_neg c5, if_pos c6]
          rw [e]
          exact add_ext w0 a1 a2 a3 a4 b V pre h0 n w d hi c6 hd
        · have e : addF ((pre ++ [h0]).map Fh.f) d = none := by
            unfold addF; rw [if_neg c1, hg]; dsimp only; rw [if_neg c5, if_neg c6]
          rw [e]
          refine add_bad w0 a1 a2 a3 a4 b V _ n w d hi hd ?_
          by_cases q : at' d 1 = 4
          · exact .inr (.inr (.inl ⟨hne, q, fun h9 => c1 ⟨q, h9⟩⟩))
          · by_cases q5 : at' d 1 = 5
            · exact .inr (.inr (.inr (.inl ⟨hne, q5, fun h7 => c5 ⟨q5, h7⟩⟩)))
            · exact .inr (.inr (.inr (.inr ⟨hne, by omega⟩)))
theorem addsF_append : ∀ (a b : List (List UInt8)) (fs : List Fa), addsF fs (a ++ b) = (addsF fs a).bind fun x => addsF x b
  | [], b, fs => rfl
  | d :: a, b, fs => by
    rw [List.cons_append]
    have e : ∀ x, addsF fs (d :: x) = match addF fs d with | none => none | some fs' => addsF fs' x := fun _ => rfl
    rw [e, e]
    cases addF fs d with
    | none => rfl
    | some fs' => exact addsF_append a b fs'
/-- so many faces, and so much in each -/
def bnd (n : Nat) (fs : List Fa) : Prop := fs.length ≤ n ∧ ∀ f ∈ fs, f.ex.length ≤ n ∧ f.es.length ≤ n
theorem bnd_step {n : Nat} {fs fs' : List Fa} {d : List UInt8} (h : bnd n fs) (ha : addF fs d = some fs') : bnd (n + 1) fs' := by
  unfold addF at ha
  split at ha
  · injection ha with ha
    subst ha
    refine ⟨by rw [List.length_append, List.length_singleton]; have := h.1; omega, fun f hf => ?_⟩
    rcases List.mem_append.1 hf with hf | hf
    · have := h.2 f hf
      omega
    · cases List.mem_singleton.1 hf
      exact ⟨Nat.zero_le _, Nat.zero_le _⟩
  · split at ha
    · cases ha
    next f hl =>
      have hm : f ∈ fs := List.mem_of_getLast? hl
      have hd : ∀ g ∈ fs.dropLast, g ∈ fs := fun g hg => (List.dropLast_sublist fs).subset hg
      have hle : fs.dropLast.length + 1 ≤ n := by
        rw [List.length_dropLast]
        have h1 := h.1
        have : 0 < fs.length := List.length_pos_of_mem hm
        omega
      split at ha
      · injection ha with ha
        subst ha
        refine ⟨by rw [List.length_append, List.length_singleton]; omega, fun g hg => ?_⟩
        rcases List.mem_append.1 hg with hg | hg
        · have := h.2 g (hd g hg)
          omega
        · cases List.mem_singleton.1 hg
          have := h.2 f hm
          exact ⟨by show f.ex.length ≤ _; omega, by show (f.es ++ [_]).length ≤ _; rw [List.length_append, List.length_singleton]; omega⟩
      · split at ha
        · injection ha with ha
          subst ha
          refine ⟨by rw [List.length_append, List.length_singleton]; omega, fun g hg => ?_⟩
          rcases List.mem_append.1 hg with hg | hg
          · have := h.2 g (hd g hg)
            omega
          · cases List.mem_singleton.1 hg
            have := h.2 f hm
            exact ⟨by show (f.ex ++ [_]).length ≤ _; rw [List.length_append, List.length_singleton]; omega, by show f.es.length ≤ _; omega⟩
        · cases ha
theorem bnd_all : ∀ (l : List (List UInt8)) (n : Nat) (fs fs' : List Fa), bnd n fs → addsF fs l = some fs' → bnd (n + l.length) fs'
  | [], n, fs, fs', h, ha => by injection ha with ha; subst ha; exact h
  | d :: l, n, fs, fs', h, ha => by
    unfold addsF at ha
    split at ha
    · cases ha
    next f1 h1 =>
      have := bnd_all l (n + 1) f1 fs' (bnd_step h h1) ha
      rw [List.length_cons]
      have e : n + (l.length + 1) = n + 1 + l.length := by omega
      rw [e]
      exact this
theorem Fo.crd {w : World} {B : Nat} {V : Value} {l : List Fh} (h : Fo w B V l) (a1 a2 a3 a4 : Int) : CRd w (.agg #[.int .i64 a1, .int .i64 a2, .int .i64 a3, .int .i64 a4, V]) ⟨a1, a2, a3, a4, l.map Fh.f⟩ := by
  refine ⟨V, l.map Fh.cs, rfl, ?_, by rw [List.length_map, List.length_map], fun i hi h2 => ?_⟩
  · rw [← List.flatMap_def]
    show Kt.Ar w V 6 (l.map Fh.f).length _
    rw [List.length_map]
    exact Kt.Ar.of_sl h.sl
  · have hi' : i < l.length := by simpa using hi
    have hm : l[i] ∈ l := List.getElem_mem _
    refine ⟨l[i].X, l[i].E, ?_, ?_, ?_⟩
    · simp only [List.getElem_map]; rfl
    · simp only [List.getElem_map]; exact Kt.Ar.of_sl (h.xs _ hm)
    · simp only [List.getElem_map]; exact Kt.Ar.of_sl (h.es _ hm)
theorem bs_len (h : ByteArray) : h.data.toList.length = h.size := by simp
theorem rCfg_cons {s h : List UInt8} {l : List (List UInt8)} (hs : spl s = (0, h :: l)) : rCfg s = if h.length ≠ 9 then ((zeroC, 4) : Cf × Int) else match addsF [] l with
    | none => ((zeroC, 4) : Cf × Int)
    | some fs => if wCfg ⟨at' h 5, at' h 6, at' h 7, at' h 8, fs⟩ = (s, 0) then ((⟨at' h 5, at' h 6, at' h 7, at' h 8, fs⟩, 0) : Cf × Int) else (zeroC, 4) := by
  unfold rCfg
  rw [hs]
  rfl
theorem at_byte (h : ByteArray) (i : Nat) (hi : i < h.size) : at' h.data.toList i = ((h[i]'hi).toNat : Int) := by
  have e := get_at h.data.toList i (by rw [bs_of]; exact hi)
  exact e.symm
theorem Fo.low {w : World} {B : Nat} {V : Value} {l : List Fh} (h : Fo w B V l) (g off : Nat) (news : List Value) (hg : g < B) : Fo (w.setCells g off news) B V l :=
  h.keep fun k hk _ => Kt.setCells_other _ _ _ _ _ (by omega)
/-- what ReadConfig leaves -/
def ReadOut (B : Nat) (s : List UInt8) (e : Ending) (w' : World) : Prop := ∃ V l, e = .returned (.tuple #[.agg #[.int .i64 (rCfg s).1.va, .int .i64 (rCfg s).1.nm, .int .i64 (rCfg s).1.at_, .int .i64 (rCfg s).1.pw, V], .int .i64 (rCfg s).2]) ∧ l.map Fh.f = (rCfg s).1.fs ∧ Fo w' B V l
set_option maxRecDepth 100000 in
set_option maxHeartbeats 3200000 in
theorem rcfg_calls (s : List UInt8) (w : World) : Calls Try.prog 17 #[.string (bs' s)] w fun e w' => ReadOut w.heap.size s e w' ∧ Below w.heap.size w w' := by
  have HSP := Lib.hid (split_calls (bs' s))
  have hsl := bs_list s
  rw [hsl] at HSP
  have HZ : Hid (w.heap.size < (w.alloc (.cells #[.int .i64 0, .int .i64 0, .int .i64 0, .int .i64 0, .slice none 0 0] 24)).heap.size) := Lib.hid (by rw [World.size_alloc]; omega)
  have HR := Lib.hid (heap_alloc_new w (.cells #[.int .i64 0, .int .i64 0, .int .i64 0, .int .i64 0, .slice none 0 0] 24))
  have HB := Lib.hid (Kt.balloc (Below.refl _ w) (.cells #[.int .i64 0, .int .i64 0, .int .i64 0, .int .i64 0, .slice none 0 0] 24))
  generalize hSd : bs' s = S at *
  clear hsl
  go_enter Try.func17, Try.ntmps17
  go_wp2_with fail
  refine (HSP.out _).mono ?_
  rintro e w1 ⟨⟨V, cd, ls, rfl, hs, hS, hln⟩, hb⟩
  have HB1 := Lib.hid (Kt.bthen HB.out hb)
  have HR1 := Lib.hid (Kt.row_on hb HR.out)
  have HS1 := Lib.hid hS
  have HZ1 := Lib.hid (Nat.lt_of_lt_of_le HZ.out hb.size)
  have HSS := Lib.hid hs
  clear hb hS HSP HR HB HZ hs
  by_cases hcd : cd = 0
  · subst hcd
    have hne : ((0 : Int) != 0) = false := rfl
    cases ls with
    | nil =>
      obtain ⟨A, c, rfl, _, _⟩ := HS1.out.form
      have q := fun i => cell_of_row _ _ i _ _ _ HR1.out
      have qf := fun i => frozen_of_row _ _ i _ _ HR1.out
      have hrc : rCfg s = (zeroC, 4) := by unfold rCfg; rw [HSS.out]; rfl
      have HRC := Lib.hid hrc
      clear hrc
      go_wp2_with fail
      change bodyPost _ _ _ _ _ (w1.setCells w.heap.size 0 [.int .i64 0, .int .i64 0, .int .i64 0, .int .i64 0, .slice none 0 0])
      have hrow := Kt.fill [.int .i64 0, .int .i64 0, .int .i64 0, .int .i64 0, .slice none 0 0] HR1.out rfl
      have hbel := Kt.below_setCells [.int .i64 0, .int .i64 0, .int .i64 0, .int .i64 0, .slice none 0 0] w.heap.size 0 _ _ (Nat.le_refl _) HB1.out
      generalize w1.setCells w.heap.size 0 [.int .i64 0, .int .i64 0, .int .i64 0, .int .i64 0, .slice none 0 0] = W' at *
      have hq := fun i => cell_of_row _ _ i _ _ _ hrow
      exact bodyPost_ret (v := .tuple #[.agg #[.int .i64 0, .int .i64 0, .int .i64 0, .int .i64 0, .slice none 0 0], .int .i64 4]) (by simp [results, Try.results17, go_sem, hq]) rfl ⟨⟨.slice none 0 0, [], by rw [HRC.out]; rfl, by rw [HRC.out]; rfl, Fo.nil _ _⟩, hbel⟩
    | cons h tl =>
      obtain ⟨g, o, cap, rfl, hg1, hg2, hn1, hn2, hcs, _⟩ := HS1.out.cells (Nat.succ_pos _)
      have hc0 : w1.cell? ⟨g, o, none⟩ = some (.string h) := hcs 0 (by simp [sts])
      have HCS := Lib.hid (fun (j : Nat) (hj : j < tl.length) => (show w1.cell? ⟨g, o + (j + 1), none⟩ = some (.string tl[j]) from (hcs (j + 1) (by simp [sts]; omega)).trans (by simp [sts])))
      have HG := Lib.hid hg2
      obtain ⟨n, hn⟩ : ∃ n, tl.length = n := ⟨_, rfl⟩
      have HN := Lib.hid hn
      have hn512 : n ≤ 512 := by rw [List.length_cons] at hln; omega
      rw [List.length_cons, hn] at hn1
      rw [List.length_cons, hn]
      clear hcs hg1 hg2 hln
      by_cases h9 : h.size = 9
      · have hsz : (h.size : Int) = 9 := by omega
        have HH := Lib.hid ((rCfg_cons HSS.out).trans (if_neg (by rw [bs_len]; exact fun q => q h9)))
        rw [at_byte h 5 (by omega), at_byte h 6 (by omega), at_byte h 7 (by omega), at_byte h 8 (by omega)] at HH
        have HP := Lib.hid (fun x (hx : x ∈ tl) => (((spl_ok S 0 (h :: tl) (by rw [← hSd, bs_list]; exact HSS.out)).2 rfl).2 x (List.mem_cons_of_mem _ hx)).1)
        obtain ⟨b5, hb5⟩ : ∃ b, h[5] = b := ⟨_, rfl⟩
        obtain ⟨b6, hb6⟩ : ∃ b, h[6] = b := ⟨_, rfl⟩
        obtain ⟨b7, hb7⟩ : ∃ b, h[7] = b := ⟨_, rfl⟩
        obtain ⟨b8, hb8⟩ : ∃ b, h[8] = b := ⟨_, rfl⟩
        rw [hb5, hb6, hb7, hb8] at HH
        have l5 := UInt8.toNat_lt b5
        have l6 := UInt8.toNat_lt b6
        have l7 := UInt8.toNat_lt b7
        have l8 := UInt8.toNat_lt b8
        have hn0 : ((n : Int) + 1 == 0) = false := by rw [beq_eq_false_iff_ne]; omega
        clear HSS
        by_cases hcap : cap = 1
        · subst hcap
          go_upto_region 7 with (fail)
          refine Kt.G.start 14 (Kt.Fb w1 []) (by kernel_rfl) (Kt.Fb.nil w1 (Below.refl _ _)).drew (fun hHeld => ?_)
          generalize hx1 : w1.drew = x1 at *
          refine Kt.G.takeP 0 { dst := some 35, op := Op.move (Operand.tmp 6), type := 9, pos := "desc.go:177", after := #[], guard := none } ?_ (fun _ => hHeld) rfl (by kernel_rfl) (fun _ _ _ h => h) (by rfl) ?_ ?_
          rotate_left
          · intro wq; go_simp; try with_reducible rfl
          try simp only [Act.put, List.setIfInBounds_toArray, List.set_cons_zero, List.set_cons_succ]
          refine Kt.G.takeP 1 { dst := some 36, op := Op.index 9 (Operand.tmp 35) (Operand.const (Value.int IntKind.i64 5)), type := 5, pos := "desc.go:177", after := #[{ on := 0, ground := Ground.data }], guard := none } ?_ (fun _ => hHeld) rfl (by kernel_rfl) (fun _ _ _ h => h) (by rfl) ?_ ?_
          rotate_left
          · intro wq; go_simp; try with_reducible rfl
          try simp only [Act.put, List.setIfInBounds_toArray, List.set_cons_zero, List.set_cons_succ]
          refine Kt.G.takeP 2 { dst := some 37, op := Op.convert 5 3 (Operand.tmp 36), type := 3, pos := "desc.go:177", after := #[{ on := 1, ground := Ground.data }], guard := none } ?_ (fun _ => hHeld) rfl (by kernel_rfl) (fun _ _ _ h => h) (by rfl) ?_ ?_
          rotate_left
          · intro wq; go_simp; try with_reducible rfl
          try simp only [Act.put, List.setIfInBounds_toArray, List.set_cons_zero, List.set_cons_succ]
          refine Kt.G.takeP 3 { dst := some 38, op := Op.move (Operand.tmp 6), type := 9, pos := "desc.go:177", after := #[], guard := none } ?_ (fun _ => hHeld) rfl (by kernel_rfl) (fun _ _ _ h => h) (by rfl) ?_ ?_
          rotate_left
          · intro wq; go_simp; try with_reducible rfl
          try simp only [Act.put, List.setIfInBounds_toArray, List.set_cons_zero, List.set_cons_succ]
          refine Kt.G.takeP 4 { dst := some 39, op := Op.index 9 (Operand.tmp 38) (Operand.const (Value.int IntKind.i64 6)), type := 5, pos := "desc.go:177", after := #[{ on := 3, ground := Ground.data }], guard := none } ?_ (fun _ => hHeld) rfl (by kernel_rfl) (fun _ _ _ h => h) (by rfl) ?_ ?_
          rotate_left
          · intro wq; go_simp; try with_reducible rfl
          try simp only [Act.put, List.setIfInBounds_toArray, List.set_cons_zero, List.set_cons_succ]
          refine Kt.G.takeP 5 { dst := some 40, op := Op.convert 5 3 (Operand.tmp 39), type := 3, pos := "desc.go:177", after := #[{ on := 4, ground := Ground.data }], guard := none } ?_ (fun _ => hHeld) rfl (by kernel_rfl) (fun _ _ _ h => h) (by rfl) ?_ ?_
          rotate_left
          · intro wq; go_simp; try with_reducible rfl
          try simp only [Act.put, List.setIfInBounds_toArray, List.set_cons_zero, List.set_cons_succ]
          refine Kt.G.takeP 6 { dst := some 41, op := Op.move (Operand.tmp 6), type := 9, pos := "desc.go:177", after := #[], guard := none } ?_ (fun _ => hHeld) rfl (by kernel_rfl) (fun _ _ _ h => h) (by rfl) ?_ ?_
          rotate_left
          · intro wq; go_simp; try with_reducible rfl
          try simp only [Act.put, List.setIfInBounds_toArray, List.set_cons_zero, List.set_cons_succ]
          refine Kt.G.takeP 7 { dst := some 42, op := Op.index 9 (Operand.tmp 41) (Operand.const (Value.int IntKind.i64 7)), type := 5, pos := "desc.go:177", after := #[{ on := 6, ground := Ground.data }], guard := none } ?_ (fun _ => hHeld) rfl (by kernel_rfl) (fun _ _ _ h => h) (by rfl) ?_ ?_
          rotate_left
          · intro wq; go_simp; try with_reducible rfl
          try simp only [Act.put, List.setIfInBounds_toArray, List.set_cons_zero, List.set_cons_succ]
          refine Kt.G.takeP 8 { dst := some 43, op := Op.convert 5 3 (Operand.tmp 42), type := 3, pos := "desc.go:177", after := #[{ on := 7, ground := Ground.data }], guard := none } ?_ (fun _ => hHeld) rfl (by kernel_rfl) (fun _ _ _ h => h) (by rfl) ?_ ?_
          rotate_left
          · intro wq; go_simp; try with_reducible rfl
          try simp only [Act.put, List.setIfInBounds_toArray, List.set_cons_zero, List.set_cons_succ]
          refine Kt.G.takeP 9 { dst := some 44, op := Op.move (Operand.tmp 6), type := 9, pos := "desc.go:177", after := #[], guard := none } ?_ (fun _ => hHeld) rfl (by kernel_rfl) (fun _ _ _ h => h) (by rfl) ?_ ?_
          rotate_left
          · intro wq; go_simp; try with_reducible rfl
          try simp only [Act.put, List.setIfInBounds_toArray, List.set_cons_zero, List.set_cons_succ]
          refine Kt.G.takeP 10 { dst := some 45, op := Op.index 9 (Operand.tmp 44) (Operand.const (Value.int IntKind.i64 8)), type := 5, pos := "desc.go:177", after := #[{ on := 9, ground := Ground.data }], guard := none } ?_ (fun _ => hHeld) rfl (by kernel_rfl) (fun _ _ _ h => h) (by rfl) ?_ ?_
          rotate_left
          · intro wq; go_simp; try with_reducible rfl
          try simp only [Act.put, List.setIfInBounds_toArray, List.set_cons_zero, List.set_cons_succ]
          refine Kt.G.takeP 11 { dst := some 46, op := Op.convert 5 3 (Operand.tmp 45), type := 3, pos := "desc.go:177", after := #[{ on := 10, ground := Ground.data }], guard := none } ?_ (fun _ => hHeld) rfl (by kernel_rfl) (fun _ _ _ h => h) (by rfl) ?_ ?_
          rotate_left
          · intro wq; go_simp; try with_reducible rfl
          try simp only [Act.put, List.setIfInBounds_toArray, List.set_cons_zero, List.set_cons_succ]
          refine Kt.G.takeP 12 { dst := some 47, op := Op.build 24 #[(0, Operand.tmp 37), (1, Operand.tmp 40), (2, Operand.tmp 43), (3, Operand.tmp 46)], type := 24, pos := "desc.go:177", after := #[{ on := 2, ground := Ground.data }, { on := 5, ground := Ground.data }, { on := 8, ground := Ground.data }, { on := 11, ground := Ground.data }], guard := none } ?_ (fun _ => hHeld) rfl (by kernel_rfl) (fun _ _ _ h => h) (by rfl) ?_ ?_
          rotate_left
          · intro wq; go_simp; try with_reducible rfl
          try simp only [Act.put, List.setIfInBounds_toArray, List.set_cons_zero, List.set_cons_succ]
          refine Kt.G.one 13 { dst := some 7, op := Op.alloc 24, type := 0, pos := "desc.go:177", after := #[], guard := none } rfl (by kernel_rfl) (by rfl) (fun K hK => ?_)
          have hsz1 := hHeld.bel.size
          go_simp
          refine hK.out _ _ (fun _ => hHeld.alloc _) (fun hHeld => ?_)
          have hHeld := hHeld rfl
          clear hK K
          try simp only [Act.put, List.setIfInBounds_toArray, List.set_cons_zero, List.set_cons_succ]
          have HRK := Lib.hid (heap_alloc_new x1 (.cells #[.int .i64 0, .int .i64 0, .int .i64 0, .int .i64 0, .slice none 0 0] 24))
          generalize hkK : x1.heap.size = kK at *
          clear hkK
          generalize x1.alloc (.cells #[.int .i64 0, .int .i64 0, .int .i64 0, .int .i64 0, .slice none 0 0] 24) = xk at *
          refine Kt.G.one 14 { dst := none, op := Op.store 24 (Operand.tmp 7) (Operand.tmp 47), type := 0, pos := "desc.go:177", after := #[{ on := 13, ground := Ground.data }, { on := 12, ground := Ground.data }, { on := 0, ground := Ground.phase }, { on := 1, ground := Ground.phase }, { on := 2, ground := Ground.phase }, { on := 3, ground := Ground.phase }, { on := 4, ground := Ground.phase }, { on := 5, ground := Ground.phase }, { on := 6, ground := Ground.phase }, { on := 7, ground := Ground.phase }, { on := 8, ground := Ground.phase }, { on := 9, ground := Ground.phase }, { on := 10, ground := Ground.phase }, { on := 11, ground := Ground.phase }, { on := 12, ground := Ground.phase }, { on := 13, ground := Ground.phase }], guard := none } rfl (by kernel_rfl) (by rfl) (fun K hK => ?_)
          have cK := fun i => cell_of_row _ _ i _ _ _ HRK.out; have fK := fun i => frozen_of_row _ _ i _ _ HRK.out
          go_simp
          refine hK.out _ _ (Kt.G.late (by kernel_rfl)) (fun _ => ?_)
          clear hK K
          try simp only [Act.put, List.setIfInBounds_toArray, List.set_cons_zero, List.set_cons_succ]
          refine Kt.G.done (by kernel_rfl) (NoPanic.normal ?_) _
          have HBX := Lib.hid hHeld.bel
          clear cK fK hHeld
          go_upto_region 8 with (fail)
          have e5 : IntKind.i64.wrap (b5.toNat : Int) = b5.toNat := IntWalk.i64_in _ (by omega)
          have e6 : IntKind.i64.wrap (b6.toNat : Int) = b6.toNat := IntWalk.i64_in _ (by omega)
          have e7 : IntKind.i64.wrap (b7.toNat : Int) = b7.toNat := IntWalk.i64_in _ (by omega)
          have e8 : IntKind.i64.wrap (b8.toNat : Int) = b8.toNat := IntWalk.i64_in _ (by omega)
          rw [e5, e6, e7, e8]
          refine Kt.fold (fun X => Hid (X.heap[kK]? = some (.cells #[.int .i64 b5.toNat, .int .i64 b6.toNat, .int .i64 b7.toNat, .int .i64 b8.toNat, .slice none 0 0] 24 (0, 0)) ∧ Below w1.heap.size w1 X)) (Lib.hid ⟨Kt.fill [.int .i64 b5.toNat, .int .i64 b6.toNat, .int .i64 b7.toNat, .int .i64 b8.toNat, .slice none 0 0] HRK.out rfl, Kt.below_setCells [.int .i64 b5.toNat, .int .i64 b6.toNat, .int .i64 b7.toNat, .int .i64 b8.toNat, .slice none 0 0] kK 0 _ _ hsz1 HBX.out⟩) (fun W0 HW0 => ?_)
          clear HRK HBX e5 e6 e7 e8
          have hZK : w1.heap.size ≤ kK := hsz1
          have HK := Lib.hid hZK
          clear hsz1 hZK hx1 hb5 hb6 hb7 hb8 l5 l6 l7 l8
          generalize (b5.toNat : Int) = a5 at *
          generalize (b6.toNat : Int) = a6 at *
          generalize (b7.toNat : Int) = a7 at *
          generalize (b8.toNat : Int) = a8 at *
          go_cut [49, 50, 51] from 48 to 52 (fun a b c wx => ∃ A' c', a = .slice A' n c' ∧ (0 < n → A' = some ⟨g, o + 1, none⟩) ∧ b = .int .i64 n ∧ c = .int .i64 0 ∧ wx = W0)
          case first =>
            go_wp2_with fail
            go_meet
            case rel =>
              have hn0 : n = 0 := by omega
              rw [hn0]
              exact ⟨_, _, rfl, fun h0 => absurd h0 (Nat.lt_irrefl _), rfl, rfl, rfl⟩
          case rest =>
            obtain ⟨A', c', rfl, hA', rfl, rfl, rfl⟩ := hcut
            have HA := Lib.hid hA'
            clear hA'
            go_wp2_with fail
            go_loopw [51] (fun vi wr => ∃ k : Nat, k ≤ n ∧ vi = .int .i64 k ∧ Hid (∃ (fl : List Fh) (V : Value), addsF [] ((tl.take k).map (·.data.toList)) = some (fl.map Fh.f) ∧ wr.heap[kK]? = some (.cells #[.int .i64 a5, .int .i64 a6, .int .i64 a7, .int .i64 a8, V] 24 (0, 0)) ∧ Fo wr w1.heap.size V fl ∧ Below w1.heap.size w1 wr)) (fun vi _ => n - (intOf vi).toNat)
            case atStart => exact ⟨0, Nat.zero_le _, rfl, Lib.hid ⟨[], .slice none 0 0, rfl, HW0.out.1, Fo.nil _ _, HW0.out.2⟩⟩
            case round =>
              obtain ⟨k, hk, rfl, HI⟩ := hrel
              by_cases hlt : k < n
              · exact absurd hlt (by omega)
              · obtain rfl : k = n := by omega
                obtain ⟨fl, V, i1, i2, i3, i4⟩ := HI.out
                obtain ⟨VA, vc, rfl, _, _⟩ := i3.sl.form
                rw [List.take_of_length_le (by rw [HN.out]; exact Nat.le_refl _)] at i1
                have HH2 := HH.out
                rw [i1] at HH2
                dsimp only at HH2
                have HH3 := Lib.hid HH2
                have q5 := fun i => cell_of_row _ _ i _ _ _ i2
                have HWC := Lib.hid (wcfg_calls ⟨a5, a6, a7, a8, fl.map Fh.f⟩ _ wr (i3.crd a5 a6 a7 a8))
                have HFO := Lib.hid i3
                have HKR := Lib.hid i2
                have HBR := Lib.hid i4
                obtain ⟨t, code, hw⟩ : ∃ t code, wCfg ⟨a5, a6, a7, a8, fl.map Fh.f⟩ = (t, code) := ⟨_, _, rfl⟩
                rw [hw] at HWC
                have HT := Lib.hid hw
                dsimp only at HWC
                clear HH2 HH i1 i2 i3 i4 HI hw
                go_wp2_with fail
                refine HWC.out.mono ?_
                rintro e w3 ⟨rfl, hb3⟩
                have HB3 := Lib.hid (Kt.bthen HBR.out hb3)
                have HFO3 := Lib.hid (HFO.out.on hb3)
                have HK3 := Lib.hid (Kt.row_on hb3 HKR.out)
                have HR3 := Lib.hid ((HB3.out.block _ HZ1.out).trans HR1.out)
                have HB4 := Lib.hid (HB1.out.trans (HB3.out.mono (Nat.le_of_lt HZ1.out)))
                clear HWC hb3 q5 HFO HKR HBR
                have q := fun i => cell_of_row _ _ i _ _ _ HR3.out
                have qf := fun i => frozen_of_row _ _ i _ _ HR3.out
                have q5 := fun i => cell_of_row _ _ i _ _ _ HK3.out
                by_cases hc : code = 0
                · subst hc
                  by_cases ht : t = s
                  · have hst : ((bs' t).toList == S.toList) = true := by rw [ht, hSd]; simp
                    have HRC : Hid (rCfg s = (⟨a5, a6, a7, a8, fl.map Fh.f⟩, 0)) := Lib.hid (by rw [HH3.out, HT.out, ht, if_pos rfl])
                    have hn00 : ((0 : Int) != 0) = false := rfl
                    clear ht
                    go_wp2_with fail
                    change bodyPost _ _ _ _ _ (w3.setCells w.heap.size 0 [.int .i64 a5, .int .i64 a6, .int .i64 a7, .int .i64 a8, .slice VA fl.length vc])
                    have hrow := Kt.fill [.int .i64 a5, .int .i64 a6, .int .i64 a7, .int .i64 a8, .slice VA fl.length vc] HR3.out rfl
                    have hbel := Kt.below_setCells [.int .i64 a5, .int .i64 a6, .int .i64 a7, .int .i64 a8, .slice VA fl.length vc] w.heap.size 0 _ _ (Nat.le_refl _) HB4.out
                    have hfo := (HFO3.out.low w.heap.size 0 [.int .i64 a5, .int .i64 a6, .int .i64 a7, .int .i64 a8, .slice VA fl.length vc] HZ1.out).mono (Nat.le_of_lt HZ1.out)
                    generalize w3.setCells w.heap.size 0 [.int .i64 a5, .int .i64 a6, .int .i64 a7, .int .i64 a8, .slice VA fl.length vc] = W' at *
                    have hq := fun i => cell_of_row _ _ i _ _ _ hrow
                    exact bodyPost_ret (v := .tuple #[.agg #[.int .i64 a5, .int .i64 a6, .int .i64 a7, .int .i64 a8, .slice VA fl.length vc], .int .i64 0]) (by simp [results, Try.results17, go_sem, hq]) rfl ⟨⟨.slice VA fl.length vc, fl, by rw [HRC.out], by rw [HRC.out], hfo⟩, hbel⟩
                  · have hst : ((bs' t).toList == S.toList) = false := by
                      rw [beq_eq_false_iff_ne, ← hSd]
                      intro e
                      rw [ByteArray.toList_eq, ByteArray.toList_eq, bs_list, bs_list] at e
                      exact ht e
                    have HRC : Hid (rCfg s = (zeroC, 4)) := Lib.hid (by rw [HH3.out, HT.out]; exact if_neg fun e => ht (congrArg Prod.fst e))
                    have hn00 : ((0 : Int) != 0) = false := rfl
                    clear ht
                    go_wp2_with fail
                    change bodyPost _ _ _ _ _ (w3.setCells w.heap.size 0 [.int .i64 0, .int .i64 0, .int .i64 0, .int .i64 0, .slice none 0 0])
                    have hrow := Kt.fill [.int .i64 0, .int .i64 0, .int .i64 0, .int .i64 0, .slice none 0 0] HR3.out rfl
                    have hbel := Kt.below_setCells [.int .i64 0, .int .i64 0, .int .i64 0, .int .i64 0, .slice none 0 0] w.heap.size 0 _ _ (Nat.le_refl _) HB4.out
                    generalize w3.setCells w.heap.size 0 [.int .i64 0, .int .i64 0, .int .i64 0, .int .i64 0, .slice none 0 0] = W' at *
                    have hq := fun i => cell_of_row _ _ i _ _ _ hrow
                    exact bodyPost_ret (v := .tuple #[.agg #[.int .i64 0, .int .i64 0, .int .i64 0, .int .i64 0, .slice none 0 0], .int .i64 4]) (by simp [results, Try.results17, go_sem, hq]) rfl ⟨⟨.slice none 0 0, [], by rw [HRC.out]; rfl, by rw [HRC.out]; rfl, Fo.nil _ _⟩, hbel⟩
                · have hne2 : (code != 0) = true := by rw [bne_iff_ne]; exact hc
                  have HRC : Hid (rCfg s = (zeroC, 4)) := Lib.hid (by rw [HH3.out, HT.out]; exact if_neg fun e => hc (congrArg Prod.snd e))
                  clear hc
                  go_wp2_with fail
                  change bodyPost _ _ _ _ _ (w3.setCells w.heap.size 0 [.int .i64 0, .int .i64 0, .int .i64 0, .int .i64 0, .slice none 0 0])
                  have hrow := Kt.fill [.int .i64 0, .int .i64 0, .int .i64 0, .int .i64 0, .slice none 0 0] HR3.out rfl
                  have hbel := Kt.below_setCells [.int .i64 0, .int .i64 0, .int .i64 0, .int .i64 0, .slice none 0 0] w.heap.size 0 _ _ (Nat.le_refl _) HB4.out
                  generalize w3.setCells w.heap.size 0 [.int .i64 0, .int .i64 0, .int .i64 0, .int .i64 0, .slice none 0 0] = W' at *
                  have hq := fun i => cell_of_row _ _ i _ _ _ hrow
                  exact bodyPost_ret (v := .tuple #[.agg #[.int .i64 0, .int .i64 0, .int .i64 0, .int .i64 0, .slice none 0 0], .int .i64 4]) (by simp [results, Try.results17, go_sem, hq]) rfl ⟨⟨.slice none 0 0, [], by rw [HRC.out]; rfl, by rw [HRC.out]; rfl, Fo.nil _ _⟩, hbel⟩
        · go_upto_region 7 with (fail)
          refine Kt.G.start 14 (Kt.Fb w1 []) (by kernel_rfl) (Kt.Fb.nil w1 (Below.refl _ _)).drew (fun hHeld => ?_)
          generalize hx1 : w1.drew = x1 at *
          refine Kt.G.takeP 0 { dst := some 35, op := Op.move (Operand.tmp 6), type := 9, pos := "desc.go:177", after := #[], guard := none } ?_ (fun _ => hHeld) rfl (by kernel_rfl) (fun _ _ _ h => h) (by rfl) ?_ ?_
          rotate_left
          · intro wq; go_simp; try with_reducible rfl
          try simp only [Act.put, List.setIfInBounds_toArray, List.set_cons_zero, List.set_cons_succ]
          refine Kt.G.takeP 1 { dst := some 36, op := Op.index 9 (Operand.tmp 35) (Operand.const (Value.int IntKind.i64 5)), type := 5, pos := "desc.go:177", after := #[{ on := 0, ground := Ground.data }], guard := none } ?_ (fun _ => hHeld) rfl (by kernel_rfl) (fun _ _ _ h => h) (by rfl) ?_ ?_
          rotate_left
          · intro wq; go_simp; try with_reducible rfl
          try simp only [Act.put, List.setIfInBounds_toArray, List.set_cons_zero, List.set_cons_succ]
          refine Kt.G.takeP 2 { dst := some 37, op := Op.convert 5 3 (Operand.tmp 36), type := 3, pos := "desc.go:177", after := #[{ on := 1, ground := Ground.data }], guard := none } ?_ (fun _ => hHeld) rfl (by kernel_rfl) (fun _ _ _ h => h) (by rfl) ?_ ?_
          rotate_left
          · intro wq; go_simp; try with_reducible rfl
          try simp only [Act.put, List.setIfInBounds_toArray, List.set_cons_zero, List.set_cons_succ]
          refine Kt.G.takeP 3 { dst := some 38, op := Op.move (Operand.tmp 6), type := 9, pos := "desc.go:177", after := #[], guard := none } ?_ (fun _ => hHeld) rfl (by kernel_rfl) (fun _ _ _ h => h) (by rfl) ?_ ?_
          rotate_left
          · intro wq; go_simp; try with_reducible rfl
          try simp only [Act.put, List.setIfInBounds_toArray, List.set_cons_zero, List.set_cons_succ]
          refine Kt.G.takeP 4 { dst := some 39, op := Op.index 9 (Operand.tmp 38) (Operand.const (Value.int IntKind.i64 6)), type := 5, pos := "desc.go:177", after := #[{ on := 3, ground := Ground.data }], guard := none } ?_ (fun _ => hHeld) rfl (by kernel_rfl) (fun _ _ _ h => h) (by rfl) ?_ ?_
          rotate_left
          · intro wq; go_simp; try with_reducible rfl
          try simp only [Act.put, List.setIfInBounds_toArray, List.set_cons_zero, List.set_cons_succ]
          refine Kt.G.takeP 5 { dst := some 40, op := Op.convert 5 3 (Operand.tmp 39), type := 3, pos := "desc.go:177", after := #[{ on := 4, ground := Ground.data }], guard := none } ?_ (fun _ => hHeld) rfl (by kernel_rfl) (fun _ _ _ h => h) (by rfl) ?_ ?_
          rotate_left
          · intro wq; go_simp; try with_reducible rfl
          try simp only [Act.put, List.setIfInBounds_toArray, List.set_cons_zero, List.set_cons_succ]
          refine Kt.G.takeP 6 { dst := some 41, op := Op.move (Operand.tmp 6), type := 9, pos := "desc.go:177", after := #[], guard := none } ?_ (fun _ => hHeld) rfl (by kernel_rfl) (fun _ _ _ h => h) (by rfl) ?_ ?_
          rotate_left
          · intro wq; go_simp; try with_reducible rfl
          try simp only [Act.put, List.setIfInBounds_toArray, List.set_cons_zero, List.set_cons_succ]
          refine Kt.G.takeP 7 { dst := some 42, op := Op.index 9 (Operand.tmp 41) (Operand.const (Value.int IntKind.i64 7)), type := 5, pos := "desc.go:177", after := #[{ on := 6, ground := Ground.data }], guard := none } ?_ (fun _ => hHeld) rfl (by kernel_rfl) (fun _ _ _ h => h) (by rfl) ?_ ?_
          rotate_left
          · intro wq; go_simp; try with_reducible rfl
          try simp only [Act.put, List.setIfInBounds_toArray, List.set_cons_zero, List.set_cons_succ]
          refine Kt.G.takeP 8 { dst := some 43, op := Op.convert 5 3 (Operand.tmp 42), type := 3, pos := "desc.go:177", after := #[{ on := 7, ground := Ground.data }], guard := none } ?_ (fun _ => hHeld) rfl (by kernel_rfl) (fun _ _ _ h => h) (by rfl) ?_ ?_
          rotate_left
          · intro wq; go_simp; try with_reducible rfl
          try simp only [Act.put, List.setIfInBounds_toArray, List.set_cons_zero, List.set_cons_succ]
          refine Kt.G.takeP 9 { dst := some 44, op := Op.move (Operand.tmp 6), type := 9, pos := "desc.go:177", after := #[], guard := none } ?_ (fun _ => hHeld) rfl (by kernel_rfl) (fun _ _ _ h => h) (by rfl) ?_ ?_
          rotate_left
          · intro wq; go_simp; try with_reducible rfl
          try simp only [Act.put, List.setIfInBounds_toArray, List.set_cons_zero, List.set_cons_succ]
          refine Kt.G.takeP 10 { dst := some 45, op := Op.index 9 (Operand.tmp 44) (Operand.const (Value.int IntKind.i64 8)), type := 5, pos := "desc.go:177", after := #[{ on := 9, ground := Ground.data }], guard := none } ?_ (fun _ => hHeld) rfl (by kernel_rfl) (fun _ _ _ h => h) (by rfl) ?_ ?_
          rotate_left
          · intro wq; go_simp; try with_reducible rfl
          try simp only [Act.put, List.setIfInBounds_toArray, List.set_cons_zero, List.set_cons_succ]
          refine Kt.G.takeP 11 { dst := some 46, op := Op.convert 5 3 (Operand.tmp 45), type := 3, pos := "desc.go:177", after := #[{ on := 10, ground := Ground.data }], guard := none } ?_ (fun _ => hHeld) rfl (by kernel_rfl) (fun _ _ _ h => h) (by rfl) ?_ ?_
          rotate_left
          · intro wq; go_simp; try with_reducible rfl
          try simp only [Act.put, List.setIfInBounds_toArray, List.set_cons_zero, List.set_cons_succ]
          refine Kt.G.takeP 12 { dst := some 47, op := Op.build 24 #[(0, Operand.tmp 37), (1, Operand.tmp 40), (2, Operand.tmp 43), (3, Operand.tmp 46)], type := 24, pos := "desc.go:177", after := #[{ on := 2, ground := Ground.data }, { on := 5, ground := Ground.data }, { on := 8, ground := Ground.data }, { on := 11, ground := Ground.data }], guard := none } ?_ (fun _ => hHeld) rfl (by kernel_rfl) (fun _ _ _ h => h) (by rfl) ?_ ?_
          rotate_left
          · intro wq; go_simp; try with_reducible rfl
          try simp only [Act.put, List.setIfInBounds_toArray, List.set_cons_zero, List.set_cons_succ]
          refine Kt.G.one 13 { dst := some 7, op := Op.alloc 24, type := 0, pos := "desc.go:177", after := #[], guard := none } rfl (by kernel_rfl) (by rfl) (fun K hK => ?_)
          have hsz1 := hHeld.bel.size
          go_simp
          refine hK.out _ _ (fun _ => hHeld.alloc _) (fun hHeld => ?_)
          have hHeld := hHeld rfl
          clear hK K
          try simp only [Act.put, List.setIfInBounds_toArray, List.set_cons_zero, List.set_cons_succ]
          have HRK := Lib.hid (heap_alloc_new x1 (.cells #[.int .i64 0, .int .i64 0, .int .i64 0, .int .i64 0, .slice none 0 0] 24))
          generalize hkK : x1.heap.size = kK at *
          clear hkK
          generalize x1.alloc (.cells #[.int .i64 0, .int .i64 0, .int .i64 0, .int .i64 0, .slice none 0 0] 24) = xk at *
          refine Kt.G.one 14 { dst := none, op := Op.store 24 (Operand.tmp 7) (Operand.tmp 47), type := 0, pos := "desc.go:177", after := #[{ on := 13, ground := Ground.data }, { on := 12, ground := Ground.data }, { on := 0, ground := Ground.phase }, { on := 1, ground := Ground.phase }, { on := 2, ground := Ground.phase }, { on := 3, ground := Ground.phase }, { on := 4, ground := Ground.phase }, { on := 5, ground := Ground.phase }, { on := 6, ground := Ground.phase }, { on := 7, ground := Ground.phase }, { on := 8, ground := Ground.phase }, { on := 9, ground := Ground.phase }, { on := 10, ground := Ground.phase }, { on := 11, ground := Ground.phase }, { on := 12, ground := Ground.phase }, { on := 13, ground := Ground.phase }], guard := none } rfl (by kernel_rfl) (by rfl) (fun K hK => ?_)
          have cK := fun i => cell_of_row _ _ i _ _ _ HRK.out; have fK := fun i => frozen_of_row _ _ i _ _ HRK.out
          go_simp
          refine hK.out _ _ (Kt.G.late (by kernel_rfl)) (fun _ => ?_)
          clear hK K
          try simp only [Act.put, List.setIfInBounds_toArray, List.set_cons_zero, List.set_cons_succ]
          refine Kt.G.done (by kernel_rfl) (NoPanic.normal ?_) _
          have HBX := Lib.hid hHeld.bel
          clear cK fK hHeld
          go_upto_region 8 with (fail)
          have e5 : IntKind.i64.wrap (b5.toNat : Int) = b5.toNat := IntWalk.i64_in _ (by omega)
          have e6 : IntKind.i64.wrap (b6.toNat : Int) = b6.toNat := IntWalk.i64_in _ (by omega)
          have e7 : IntKind.i64.wrap (b7.toNat : Int) = b7.toNat := IntWalk.i64_in _ (by omega)
          have e8 : IntKind.i64.wrap (b8.toNat : Int) = b8.toNat := IntWalk.i64_in _ (by omega)
          rw [e5, e6, e7, e8]
          refine Kt.fold (fun X => Hid (X.heap[kK]? = some (.cells #[.int .i64 b5.toNat, .int .i64 b6.toNat, .int .i64 b7.toNat, .int .i64 b8.toNat, .slice none 0 0] 24 (0, 0)) ∧ Below w1.heap.size w1 X)) (Lib.hid ⟨Kt.fill [.int .i64 b5.toNat, .int .i64 b6.toNat, .int .i64 b7.toNat, .int .i64 b8.toNat, .slice none 0 0] HRK.out rfl, Kt.below_setCells [.int .i64 b5.toNat, .int .i64 b6.toNat, .int .i64 b7.toNat, .int .i64 b8.toNat, .slice none 0 0] kK 0 _ _ hsz1 HBX.out⟩) (fun W0 HW0 => ?_)
          clear HRK HBX e5 e6 e7 e8
          have hZK : w1.heap.size ≤ kK := hsz1
          have HK := Lib.hid hZK
          clear hsz1 hZK hx1 hb5 hb6 hb7 hb8 l5 l6 l7 l8
          generalize (b5.toNat : Int) = a5 at *
          generalize (b6.toNat : Int) = a6 at *
          generalize (b7.toNat : Int) = a7 at *
          generalize (b8.toNat : Int) = a8 at *
          go_cut [49, 50, 51] from 48 to 52 (fun a b c wx => ∃ A' c', a = .slice A' n c' ∧ (0 < n → A' = some ⟨g, o + 1, none⟩) ∧ b = .int .i64 n ∧ c = .int .i64 0 ∧ wx = W0)
          case first =>
            go_wp2_with fail
            go_meet
            case rel => exact ⟨_, _, rfl, fun h0 => rfl, rfl, rfl, rfl⟩
          case rest =>
            obtain ⟨A', c', rfl, hA', rfl, rfl, rfl⟩ := hcut
            have HA := Lib.hid hA'
            clear hA'
            go_wp2_with fail
            go_loopw [51] (fun vi wr => ∃ k : Nat, k ≤ n ∧ vi = .int .i64 k ∧ Hid (∃ (fl : List Fh) (V : Value), addsF [] ((tl.take k).map (·.data.toList)) = some (fl.map Fh.f) ∧ wr.heap[kK]? = some (.cells #[.int .i64 a5, .int .i64 a6, .int .i64 a7, .int .i64 a8, V] 24 (0, 0)) ∧ Fo wr w1.heap.size V fl ∧ Below w1.heap.size w1 wr)) (fun vi _ => n - (intOf vi).toNat)
            case atStart => exact ⟨0, Nat.zero_le _, rfl, Lib.hid ⟨[], .slice none 0 0, rfl, HW0.out.1, Fo.nil _ _, HW0.out.2⟩⟩
            case round =>
              obtain ⟨k, hk, rfl, HI⟩ := hrel
              by_cases hlt : k < n
              · obtain rfl := HA.out (by omega)
                have hd : wr.cell? ⟨g, o + 1 + k, none⟩ = some (.string (tl[k]'(by rw [HN.out]; exact hlt))) := by
                  rw [Nat.add_assoc, Nat.add_comm 1 k]
                  obtain ⟨fl, V, _, _, _, h4⟩ := HI.out
                  exact (h4.cell (p := ⟨g, o + (k + 1), none⟩) HG.out).trans (HCS.out k (by rw [HN.out]; exact hlt))
                obtain ⟨x, hx⟩ : ∃ x, tl[k]'(by rw [HN.out]; exact hlt) = x := ⟨_, rfl⟩
                have HX2 := Lib.hid (HP.out _ (List.getElem_mem (l := tl) (n := k) (by rw [HN.out]; exact hlt)))
                have HTK := Lib.hid (show (tl.take (k + 1)).map (fun y => y.data.toList) = (tl.take k).map (fun y => y.data.toList) ++ [x.data.toList] by rw [List.take_succ_eq_append_getElem (by rw [HN.out]; exact hlt), List.map_append, hx]; rfl)
                rw [hx] at hd HX2
                clear hx
                go_wp2_with fail
                obtain ⟨fl, V, i1, i2, i3, i4⟩ := HI.out
                have hbd := bnd_all _ 0 [] _ ⟨Nat.le_refl _, fun f hf => (by cases hf)⟩ i1
                rw [List.length_map, List.length_take, Nat.zero_add] at hbd
                have hmk : min k tl.length ≤ k := Nat.min_le_left _ _
                have hin : AddIn w1 a5 a6 a7 a8 kK V fl k wr := ⟨i4, HK.out, i2, i3, by omega, by have := hbd.1; rw [List.length_map] at this; omega, fun h hh => by have := hbd.2 h.f (List.mem_map_of_mem hh); omega⟩
                have hadd := add_calls w1 a5 a6 a7 a8 kK V fl k wr x.data.toList hin (by rw [bs_len]; exact HX2.out)
                rw [bs_of] at hadd
                have hap := addsF_append ((tl.take k).map (fun y => y.data.toList)) [x.data.toList] []
                rw [← HTK.out, i1] at hap
                have HAP : Hid (addsF [] ((tl.take (k + 1)).map (fun y => y.data.toList)) = addF (fl.map Fh.f) x.data.toList) := Lib.hid (by
                  rw [hap]
                  show (match addF (fl.map Fh.f) x.data.toList with | none => none | some fs' => some fs') = _
                  cases addF (fl.map Fh.f) x.data.toList <;> rfl)
                clear hap i1 i2 i3 hbd hin
                refine hadd.mono ?_
                rintro e w3 ⟨hb3, hout⟩
                have HB3 := Lib.hid hb3
                cases hq : addF (fl.map Fh.f) x.data.toList with
                | none =>
                  rw [hq] at hout
                  obtain rfl : e = .returned (.bool false) := hout
                  have hall : addsF [] (tl.map fun y => y.data.toList) = none := by
                    have h1 := addsF_append ((tl.take (k + 1)).map fun y => y.data.toList) ((tl.drop (k + 1)).map fun y => y.data.toList) []
                    rw [← List.map_append, List.take_append_drop, HAP.out, hq] at h1
                    exact h1
                  have HRC : Hid (rCfg s = (zeroC, 4)) := Lib.hid (by rw [HH.out, hall])
                  have HR3 := Lib.hid ((hb3.block _ HZ1.out).trans HR1.out)
                  have HB4 := Lib.hid (HB1.out.trans (hb3.mono (Nat.le_of_lt HZ1.out)))
                  have q := fun i => cell_of_row _ _ i _ _ _ HR3.out
                  have qf := fun i => frozen_of_row _ _ i _ _ HR3.out
                  clear hall hq hadd HI hb3 hd i4 hmk
                  go_wp2_with fail
                  change bodyPost _ _ _ _ _ (w3.setCells w.heap.size 0 [.int .i64 0, .int .i64 0, .int .i64 0, .int .i64 0, .slice none 0 0])
                  have hrow := Kt.fill [.int .i64 0, .int .i64 0, .int .i64 0, .int .i64 0, .slice none 0 0] HR3.out rfl
                  have hbel := Kt.below_setCells [.int .i64 0, .int .i64 0, .int .i64 0, .int .i64 0, .slice none 0 0] w.heap.size 0 _ _ (Nat.le_refl _) HB4.out
                  generalize w3.setCells w.heap.size 0 [.int .i64 0, .int .i64 0, .int .i64 0, .int .i64 0, .slice none 0 0] = W' at *
                  have hq := fun i => cell_of_row _ _ i _ _ _ hrow
                  exact bodyPost_ret (v := .tuple #[.agg #[.int .i64 0, .int .i64 0, .int .i64 0, .int .i64 0, .slice none 0 0], .int .i64 4]) (by simp [results, Try.results17, go_sem, hq]) rfl ⟨⟨.slice none 0 0, [], by rw [HRC.out]; rfl, by rw [HRC.out]; rfl, Fo.nil _ _⟩, hbel⟩
                | some fs' =>
                  rw [hq] at hout
                  obtain ⟨rfl, V', l', hl', hr', ho'⟩ := hout
                  have HNX : Hid (∃ (fl : List Fh) (V : Value), addsF [] ((tl.take (k + 1)).map (·.data.toList)) = some (fl.map Fh.f) ∧ w3.heap[kK]? = some (.cells #[.int .i64 a5, .int .i64 a6, .int .i64 a7, .int .i64 a8, V] 24 (0, 0)) ∧ Fo w3 w1.heap.size V fl ∧ Below w1.heap.size w1 w3) := Lib.hid ⟨l', V', by rw [HAP.out, hq, hl'], hr', ho', hb3⟩
                  have hwk : wrap64 ((k : Int) + 1) = ((k + 1 : Nat) : Int) := by unfold wrap64; omega
                  have HWK := Lib.hid hwk
                  clear hl' hr' ho' hq hadd HI hb3 hd i4 hmk hwk
                  go_wp2_with fail
                  go_roundw
                  case rel => exact ⟨k + 1, hlt, congrArg _ (by first | exact HWK.out | rfl), HNX⟩
                  case measure => (try rw [HWK.out]); show n - (k + 1) < n - k; omega
              · obtain rfl : k = n := by omega
                obtain ⟨fl, V, i1, i2, i3, i4⟩ := HI.out
                obtain ⟨VA, vc, rfl, _, _⟩ := i3.sl.form
                rw [List.take_of_length_le (by rw [HN.out]; exact Nat.le_refl _)] at i1
                have HH2 := HH.out
                rw [i1] at HH2
                dsimp only at HH2
                have HH3 := Lib.hid HH2
                have q5 := fun i => cell_of_row _ _ i _ _ _ i2
                have HWC := Lib.hid (wcfg_calls ⟨a5, a6, a7, a8, fl.map Fh.f⟩ _ wr (i3.crd a5 a6 a7 a8))
                have HFO := Lib.hid i3
                have HKR := Lib.hid i2
                have HBR := Lib.hid i4
                obtain ⟨t, code, hw⟩ : ∃ t code, wCfg ⟨a5, a6, a7, a8, fl.map Fh.f⟩ = (t, code) := ⟨_, _, rfl⟩
                rw [hw] at HWC
                have HT := Lib.hid hw
                dsimp only at HWC
                clear HH2 HH i1 i2 i3 i4 HI hw
                go_wp2_with fail
                refine HWC.out.mono ?_
                rintro e w3 ⟨rfl, hb3⟩
                have HB3 := Lib.hid (Kt.bthen HBR.out hb3)
                have HFO3 := Lib.hid (HFO.out.on hb3)
                have HK3 := Lib.hid (Kt.row_on hb3 HKR.out)
                have HR3 := Lib.hid ((HB3.out.block _ HZ1.out).trans HR1.out)
                have HB4 := Lib.hid (HB1.out.trans (HB3.out.mono (Nat.le_of_lt HZ1.out)))
                clear HWC hb3 q5 HFO HKR HBR
                have q := fun i => cell_of_row _ _ i _ _ _ HR3.out
                have qf := fun i => frozen_of_row _ _ i _ _ HR3.out
                have q5 := fun i => cell_of_row _ _ i _ _ _ HK3.out
                by_cases hc : code = 0
                · subst hc
                  by_cases ht : t = s
                  · have hst : ((bs' t).toList == S.toList) = true := by rw [ht, hSd]; simp
                    have HRC : Hid (rCfg s = (⟨a5, a6, a7, a8, fl.map Fh.f⟩, 0)) := Lib.hid (by rw [HH3.out, HT.out, ht, if_pos rfl])
                    have hn00 : ((0 : Int) != 0) = false := rfl
                    clear ht
                    go_wp2_with fail
                    change bodyPost _ _ _ _ _ (w3.setCells w.heap.size 0 [.int .i64 a5, .int .i64 a6, .int .i64 a7, .int .i64 a8, .slice VA fl.length vc])
                    have hrow := Kt.fill [.int .i64 a5, .int .i64 a6, .int .i64 a7, .int .i64 a8, .slice VA fl.length vc] HR3.out rfl
                    have hbel := Kt.below_setCells [.int .i64 a5, .int .i64 a6, .int .i64 a7, .int .i64 a8, .slice VA fl.length vc] w.heap.size 0 _ _ (Nat.le_refl _) HB4.out
                    have hfo := (HFO3.out.low w.heap.size 0 [.int .i64 a5, .int .i64 a6, .int .i64 a7, .int .i64 a8, .slice VA fl.length vc] HZ1.out).mono (Nat.le_of_lt HZ1.out)
                    generalize w3.setCells w.heap.size 0 [.int .i64 a5, .int .i64 a6, .int .i64 a7, .int .i64 a8, .slice VA fl.length vc] = W' at *
                    have hq := fun i => cell_of_row _ _ i _ _ _ hrow
                    exact bodyPost_ret (v := .tuple #[.agg #[.int .i64 a5, .int .i64 a6, .int .i64 a7, .int .i64 a8, .slice VA fl.length vc], .int .i64 0]) (by simp [results, Try.results17, go_sem, hq]) rfl ⟨⟨.slice VA fl.length vc, fl, by rw [HRC.out], by rw [HRC.out], hfo⟩, hbel⟩
                  · have hst : ((bs' t).toList == S.toList) = false := by
                      rw [beq_eq_false_iff_ne, ← hSd]
                      intro e
                      rw [ByteArray.toList_eq, ByteArray.toList_eq, bs_list, bs_list] at e
                      exact ht e
                    have HRC : Hid (rCfg s = (zeroC, 4)) := Lib.hid (by rw [HH3.out, HT.out]; exact if_neg fun e => ht (congrArg Prod.fst e))
                    have hn00 : ((0 : Int) != 0) = false := rfl
                    clear ht
                    go_wp2_with fail
                    change bodyPost _ _ _ _ _ (w3.setCells w.heap.size 0 [.int .i64 0, .int .i64 0, .int .i64 0, .int .i64 0, .slice none 0 0])
                    have hrow := Kt.fill [.int .i64 0, .int .i64 0, .int .i64 0, .int .i64 0, .slice none 0 0] HR3.out rfl
                    have hbel := Kt.below_setCells [.int .i64 0, .int .i64 0, .int .i64 0, .int .i64 0, .slice none 0 0] w.heap.size 0 _ _ (Nat.le_refl _) HB4.out
                    generalize w3.setCells w.heap.size 0 [.int .i64 0, .int .i64 0, .int .i64 0, .int .i64 0, .slice none 0 0] = W' at *
                    have hq := fun i => cell_of_row _ _ i _ _ _ hrow
                    exact bodyPost_ret (v := .tuple #[.agg #[.int .i64 0, .int .i64 0, .int .i64 0, .int .i64 0, .slice none 0 0], .int .i64 4]) (by simp [results, Try.results17, go_sem, hq]) rfl ⟨⟨.slice none 0 0, [], by rw [HRC.out]; rfl, by rw [HRC.out]; rfl, Fo.nil _ _⟩, hbel⟩
                · have hne2 : (code != 0) = true := by rw [bne_iff_ne]; exact hc
                  have HRC : Hid (rCfg s = (zeroC, 4)) := Lib.hid (by rw [HH3.out, HT.out]; exact if_neg fun e => hc (congrArg Prod.snd e))
                  clear hc
                  go_wp2_with fail
                  change bodyPost _ _ _ _ _ (w3.setCells w.heap.size 0 [.int .i64 0, .int .i64 0, .int .i64 0, .int .i64 0, .slice none 0 0])
                  have hrow := Kt.fill [.int .i64 0, .int .i64 0, .int .i64 0, .int .i64 0, .slice none 0 0] HR3.out rfl
                  have hbel := Kt.below_setCells [.int .i64 0, .int .i64 0, .int .i64 0, .int .i64 0, .slice none 0 0] w.heap.size 0 _ _ (Nat.le_refl _) HB4.out
                  generalize w3.setCells w.heap.size 0 [.int .i64 0, .int .i64 0, .int .i64 0, .int .i64 0, .slice none 0 0] = W' at *
                  have hq := fun i => cell_of_row _ _ i _ _ _ hrow
                  exact bodyPost_ret (v := .tuple #[.agg #[.int .i64 0, .int .i64 0, .int .i64 0, .int .i64 0, .slice none 0 0], .int .i64 4]) (by simp [results, Try.results17, go_sem, hq]) rfl ⟨⟨.slice none 0 0, [], by rw [HRC.out]; rfl, by rw [HRC.out]; rfl, Fo.nil _ _⟩, hbel⟩
      · have hh9 : ((h.size : Int) != 9) = true := by rw [bne_iff_ne]; omega
        have q := fun i => cell_of_row _ _ i _ _ _ HR1.out
        have qf := fun i => frozen_of_row _ _ i _ _ HR1.out
        have hrc : rCfg s = (zeroC, 4) := by
          rw [rCfg_cons HSS.out, if_pos (by rw [bs_len h]; exact h9)]
        have HRC := Lib.hid hrc
        have hn0 : ((n : Int) + 1 == 0) = false := by rw [beq_eq_false_iff_ne]; omega
        clear hrc h9
        go_wp2_with fail
        change bodyPost _ _ _ _ _ (w1.setCells w.heap.size 0 [.int .i64 0, .int .i64 0, .int .i64 0, .int .i64 0, .slice none 0 0])
        have hrow := Kt.fill [.int .i64 0, .int .i64 0, .int .i64 0, .int .i64 0, .slice none 0 0] HR1.out rfl
        have hbel := Kt.below_setCells [.int .i64 0, .int .i64 0, .int .i64 0, .int .i64 0, .slice none 0 0] w.heap.size 0 _ _ (Nat.le_refl _) HB1.out
        generalize w1.setCells w.heap.size 0 [.int .i64 0, .int .i64 0, .int .i64 0, .int .i64 0, .slice none 0 0] = W' at *
        have hq := fun i => cell_of_row _ _ i _ _ _ hrow
        exact bodyPost_ret (v := .tuple #[.agg #[.int .i64 0, .int .i64 0, .int .i64 0, .int .i64 0, .slice none 0 0], .int .i64 4]) (by simp [results, Try.results17, go_sem, hq]) rfl ⟨⟨.slice none 0 0, [], by rw [HRC.out]; rfl, by rw [HRC.out]; rfl, Fo.nil _ _⟩, hbel⟩
  · have hne : (cd != 0) = true := by rw [bne_iff_ne]; exact hcd
    have q := fun i => cell_of_row _ _ i _ _ _ HR1.out
    have qf := fun i => frozen_of_row _ _ i _ _ HR1.out
    have hrc : rCfg s = (zeroC, cd) := by unfold rCfg; rw [HSS.out]; exact if_neg hcd
    have HRC := Lib.hid hrc
    clear hcd hrc
    go_wp2_with fail
    change bodyPost _ _ _ _ _ (w1.setCells w.heap.size 0 [.int .i64 0, .int .i64 0, .int .i64 0, .int .i64 0, .slice none 0 0])
    have hrow := Kt.fill [.int .i64 0, .int .i64 0, .int .i64 0, .int .i64 0, .slice none 0 0] HR1.out rfl
    have hbel := Kt.below_setCells [.int .i64 0, .int .i64 0, .int .i64 0, .int .i64 0, .slice none 0 0] w.heap.size 0 _ _ (Nat.le_refl _) HB1.out
    generalize w1.setCells w.heap.size 0 [.int .i64 0, .int .i64 0, .int .i64 0, .int .i64 0, .slice none 0 0] = W' at *
    have hq := fun i => cell_of_row _ _ i _ _ _ hrow
    exact bodyPost_ret (v := .tuple #[.agg #[.int .i64 0, .int .i64 0, .int .i64 0, .int .i64 0, .slice none 0 0], .int .i64 cd]) (by simp [results, Try.results17, go_sem, hq]) rfl ⟨⟨.slice none 0 0, [], by rw [HRC.out]; rfl, by rw [HRC.out]; rfl, Fo.nil _ _⟩, hbel⟩
end Go.Proofs.Ytmddfpmchcmgiaa
