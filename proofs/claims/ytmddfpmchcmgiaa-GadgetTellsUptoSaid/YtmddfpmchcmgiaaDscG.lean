/- desc.WriteConfig walked. -/
import Derived.Test.YtmddfpmchcmgiaaDscF
import Derived.Deep.CutBlock
namespace Go.Proofs.Ytmddfpmchcmgiaa
open Go.RowKit Go.Proofs.Ytmddfpmchcmgiaa.Dsc Go.Maps
theorem put_row (ns : List Int) (W : World) (K n : Nat) (hn : ns.length = n) (hK : W.heap[K]? = some (.cells (ics ns).toArray 3 (0, 0))) (h : n ≤ 1000) :
    Calls Try.prog 35 #[.slice (some ⟨K, 0, none⟩) n n] W fun e w' => e = .returned (.string (bs' (putB ns))) ∧ Below W.heap.size W w' := by
  subst hn
  refine put_calls _ ns W ⟨by rw [ics_len, Nat.mul_one], _, _, rfl, Nat.le_refl _, fun _ => ⟨K, 0, rfl, (Array.getElem?_eq_some_iff.1 hK).1, fun j hj => ?_⟩⟩ h
  rw [cell_of_row W K _ _ _ _ hK, Nat.zero_add]
  simp [hj]
theorem Kt.G.push {P : Program} {md : Region.Mode} {ops : Array Oper} {Q : Exit → Act → World → Prop} {st fuel : Nat} {listed : Array Bool} {a : Act} {w0 w : World} {c : Nat × Array Value × TypeId} {cs : List (Nat × Array Value × TypeId)}
    (h : Kt.Fb w0 (c :: cs) w) (k : Kt.Fb w0 (c :: cs) w → Kt.wpG P md ops Q st (Kt.Fb w0 (c :: cs)) fuel listed a w) : Kt.wpG P md ops Q st (Kt.Fb w0 cs) fuel listed a w :=
  Kt.G.more (fun _ h => Kt.Fb.less h) _ _ _ _ (k h)
theorem facesP_snoc : ∀ (l : List Fa) (i : Nat) (f : Fa), facesP i (l ++ [f]) = facesP i l ++ faceP (i + l.length) f
  | [], i, f => by show faceP i f ++ [] = [] ++ faceP (i + 0) f; simp
  | g :: l, i, f => by
    rw [List.cons_append]
    unfold facesP
    rw [facesP_snoc l (i + 1) f, List.append_assoc, List.length_cons, show i + 1 + l.length = i + (l.length + 1) by omega]
theorem cfg_head (c : Cf) : (headC c) ↔ (1 ≤ c.va ∧ c.va ≤ 255 ∧ inB 255 [c.nm, c.at_, c.pw] = true) := by
  unfold headC inB isB
  simp [and_assoc]
theorem run_makeMap' {P : Program} (t : TypeId) (w : World) : (Instr.makeMap t none).run P w = .ok (.map (some w.heap.size)) (w.alloc (.map #[] 0)) := rfl
theorem flat_get {n : Nat} : ∀ (css : List (List Value)) (_ : ∀ x ∈ css, x.length = n) (k : Nat) (h : k < css.length) (j : Nat) (_ : j < n), css.flatten[k * n + j]? = css[k][j]?
  | x :: css, hl, 0, h, j, hj => by
    show (x ++ css.flatten)[0 * n + j]? = x[j]?
    rw [Nat.zero_mul, Nat.zero_add, List.getElem?_append_left (by rw [hl x (List.mem_cons_self ..)]; exact hj)]
  | x :: css, hl, k + 1, h, j, hj => by
    have h' : k < css.length := by simpa using h
    have hx := hl x (List.mem_cons_self ..)
    show (x ++ css.flatten)[(k + 1) * n + j]? = css[k][j]?
    rw [Nat.succ_mul, List.getElem?_append_right (by rw [hx]; omega), show k * n + n + j - x.length = k * n + j by rw [hx]; omega]
    exact flat_get css (fun y hy => hl y (List.mem_cons_of_mem _ hy)) k h' j hj
theorem join_flat (l : List (List UInt8)) : Lib.join ((l.map bs').map (·.data.toList)) (⟨#[]⟩ : ByteArray).data.toList = l.flatten := by
  have e : (l.map bs').map (·.data.toList) = l := by
    rw [List.map_map]
    have : ((fun x : ByteArray => x.data.toList) ∘ bs') = id := by funext x; exact bs_list x
    rw [this, List.map_id]
  rw [e]
  show List.intercalate ([] : List UInt8) l = _
  induction l with
  | nil => rfl
  | cons x m ih =>
    cases m with
    | nil => simp
    | cons y m =>
      rw [List.intercalate_cons_cons, ih (by
        rw [List.map_map]
        have : ((fun x : ByteArray => x.data.toList) ∘ bs') = id := by funext x; exact bs_list x
        rw [this, List.map_id])]
      simp
theorem xjoin (V : Value) (ex : List (List UInt8)) (w : World) (h : Kt.Ar w V 1 ex.length (xcells ex)) (hn : ex.length ≤ 140737488355328) (hl : ex.flatten.length ≤ 140737488355328) : Calls Try.prog 15 #[V, .string ⟨#[]⟩] w fun e w' => e = .returned (.string (bs' ex.flatten)) ∧ Below w.heap.size w w' := by
  obtain ⟨A, c, rfl, hc, hx⟩ := h.form
  by_cases h0 : 0 < ex.length
  · obtain ⟨b, o, rfl, hb, hx⟩ := hx h0
    have hlen : (ex.map bs').length = ex.length := List.length_map _
    have hj := Try.strings_Join b o c (ex.map bs') ⟨#[]⟩ w (fun j x hj => by
      obtain ⟨hlt, he⟩ := List.getElem?_eq_some_iff.1 hj
      rw [hlen] at hlt
      rw [hx j (by unfold xcells; rw [List.length_map]; exact hlt)]
      rw [List.getElem_map] at he
      simp [xcells, he]) hb (by rw [hlen]; exact hn) (by rw [hlen]; exact hc) (by rw [join_flat]; exact hl)
    rw [join_flat, hlen] at hj
    exact hj
  · obtain rfl : ex = [] := List.eq_nil_of_length_eq_zero (by omega)
    exact (Try.strings_Join_none A c ⟨#[]⟩ w).mono fun e w' ⟨h1, h2⟩ => ⟨h1, h2 ▸ Below.refl _ _⟩
def cfgV (c : Cf) (F : Value) : Value := .agg #[.int .i64 c.va, .int .i64 c.nm, .int .i64 c.at_, .int .i64 c.pw, F]
theorem facesC_cons (l : List (Int × Bool)) (f : Fa) (r : List Fa) : facesC l (f :: r) = if (faceC l f).1 = 0 then facesC (faceC l f).2 r else (faceC l f).1 := rfl
set_option maxRecDepth 100000 in
set_option maxHeartbeats 1600000 in
theorem wcfg_main (c : Cf) (FA : Option Addr) (fc : Nat) (css : List (List Value)) (w : World) (hF : Kt.Ar w (.slice FA c.fs.length fc) 6 c.fs.length css.flatten) (hcl : css.length = c.fs.length) (hcr : ∀ i (h : i < c.fs.length) (h2 : i < css.length), FRd w c.fs[i] css[i])
    (hh : headC c) (h4 : c.fs.length ≤ 4) :
    Calls Try.prog 13 #[cfgV c (.slice FA c.fs.length fc)] w fun e w' => e = .returned (.tuple #[.string (bs' (wCfg c).1), .int .i64 (wCfg c).2]) ∧ Below w.heap.size w w' := by
  obtain ⟨v1, v2, v3⟩ := (cfg_head c).1 hh
  have HB := Lib.hid (fun W V (hV : Kt.Ar W V 1 3 (ics [c.nm, c.at_, c.pw])) => bytesB_calls V [c.nm, c.at_, c.pw] W hV (by simp))
  rw [v3] at HB
  have i1 : ¬ c.va < 1 := by omega
  have i2 : ¬ 255 < c.va := by omega
  have i3 : ¬ (4 : Int) < c.fs.length := by omega
  have HWC : Hid (wCfg c = if facesC [] c.fs = 0 then (cfgT c, 0) else ([], facesC [] c.fs)) := Lib.hid (by
    have : cfgC c = facesC [] c.fs := by unfold cfgC; rw [if_pos hh, if_neg (by omega)]
    unfold wCfg
    rw [this])
  have HF := Lib.hid hF
  have HCR := Lib.hid hcr
  have HCL := Lib.hid hcl
  have H4 := Lib.hid h4
  have hmm := @run_makeMap' Try.prog
  clear v1 v2 v3 hF hcl hcr hh h4
  go_enter Try.func13, Try.ntmps13
  dsimp only [cfgV]
  go_wp2_with fail
  refine (HB.out _ _ (Kt.Ar.new' (w.alloc (.cells #[.int .i64 c.va, .int .i64 c.nm, .int .i64 c.at_, .int .i64 c.pw, .slice FA c.fs.length fc] 24)) #[.int .i64 c.nm, .int .i64 c.at_, .int .i64 c.pw] 3 3 1 (w.heap.size + 1) (World.size_alloc w _) rfl)).mono ?_
  rintro e w1 ⟨rfl, rfl⟩
  go_wp2_with fail
  obtain ⟨W0, hW0⟩ : ∃ x, (w.alloc (.cells #[.int .i64 c.va, .int .i64 c.nm, .int .i64 c.at_, .int .i64 c.pw, .slice FA c.fs.length fc] 24)).alloc (.cells #[.int .i64 c.nm, .int .i64 c.at_, .int .i64 c.pw] 3) = x := ⟨_, rfl⟩
  have HB0 : Hid (Below w.heap.size w W0) := Lib.hid (by rw [← hW0]; exact Kt.balloc (Kt.balloc (Below.refl _ _) _) _)
  have HR0 : Hid (W0.heap[w.heap.size]? = some (.cells #[.int .i64 c.va, .int .i64 c.nm, .int .i64 c.at_, .int .i64 c.pw, .slice FA c.fs.length fc] 24 (0, 0))) := Lib.hid (by rw [← hW0]; exact heap_alloc2_old w _ _)
  have HZ0 : Hid (W0.heap.size = w.heap.size + 2) := Lib.hid (by rw [← hW0, World.size_alloc, World.size_alloc])
  have hz0 : w.heap.size + 1 + 1 = W0.heap.size := HZ0.out.symm
  rw [hW0, hz0]
  have HS0 := Lib.hid (Seen.made W0)
  have HB1 := Lib.hid (Kt.balloc HB0.out (.map #[] 0))
  have HR1 := Lib.hid ((Below.heap_alloc W0 (.map #[] 0) _ (Array.getElem?_eq_some_iff.1 HR0.out).1).trans HR0.out)
  have HM := Lib.hid (show w.heap.size ≤ W0.heap.size ∧ w.heap.size ≠ W0.heap.size by have := HZ0.out; omega)
  have HSZ := Lib.hid (show w.heap.size ≤ (W0.alloc (.map #[] 0)).heap.size by rw [World.size_alloc]; have := HM.out.1; omega)
  clear hW0 hz0 HB hmm
  generalize (W0.alloc (.map #[] 0)) = W1 at *
  generalize W0.heap.size = mb at *
  go_loopw [5, 41] (fun vr vi wr => ∃ (k n : Nat) (l : List (Int × Bool)), k ≤ c.fs.length ∧ vi = .int .i64 k ∧ vr = .string (bs' (facesP 0 (c.fs.take k)).flatten) ∧ Hid (facesC [] c.fs = facesC l (c.fs.drop k)) ∧ Hid (n ≤ 4 * k) ∧ Hid ((facesP 0 (c.fs.take k)).flatten.length ≤ 101 * k) ∧ Hid (Seen wr mb n l) ∧ Hid (W1.grownBy wr (some mb))) (fun _ vi _ => c.fs.length - (intOf vi).toNat)
  case atStart => exact ⟨0, 0, [], Nat.zero_le _, rfl, rfl, Lib.hid rfl, Lib.hid (Nat.le_refl _), Lib.hid (Nat.le_refl _), HS0, Lib.hid (gb_refl _ _)⟩
  case round =>
    obtain ⟨k, n, l, hk, rfl, rfl, HFC, HNN, HLN, HSN, HGB⟩ := hrel
    have HBW := Lib.hid (HB1.out.grown HGB.out HSZ.out (fun j hj => by injection hj with hj; subst hj; exact HM.out.1))
    by_cases hlt : k < c.fs.length
    · obtain ⟨f, hf⟩ : ∃ f, c.fs[k] = f := ⟨_, rfl⟩
      obtain ⟨X, E, hcs, hX, hE⟩ := HCR.out k hlt (by rw [HCL.out]; exact hlt)
      rw [hf] at hcs hX hE
      obtain ⟨_, _, hfe, _, hfx⟩ := HF.out.form
      injection hfe with hfe1 _ hfe2
      subst hfe1 hfe2
      obtain ⟨fb, fo, rfl, hfb, hfc⟩ := hfx (Nat.lt_of_le_of_lt (Nat.zero_le _) hlt)
      have hcell : ∀ j u, [Value.int .i64 f.cl, .int .i64 f.su, .int .i64 f.pr, .int .i64 f.nm, X, E][j]? = some u → wr.cell? ⟨fb, fo + k * 6 + j, none⟩ = some u := fun j u hj => by
        have hl6 : ∀ x ∈ css, x.length = 6 := fun x hx => by
          obtain ⟨i, hi, rfl⟩ := List.getElem_of_mem hx
          obtain ⟨_, _, he, _, _⟩ := HCR.out i (by rw [← HCL.out]; exact hi) hi
          rw [he]; rfl
        have hj6 : j < 6 := (List.getElem?_eq_some_iff.1 hj).1
        have h1 := flat_get css hl6 k (by rw [HCL.out]; exact hlt) j hj6
        rw [hcs, hj] at h1
        obtain ⟨h2, h3⟩ := List.getElem?_eq_some_iff.1 h1
        rw [Nat.add_assoc]
        exact (HBW.out.cell (p := ⟨fb, fo + (k * 6 + j), none⟩) hfb).trans ((hfc _ h2).trans (by rw [h3]))
      have k0 : wr.cell? ⟨fb, fo + k * 6, none⟩ = some (.int .i64 f.cl) := hcell 0 _ rfl
      have k1 : wr.cell? ⟨fb, fo + k * 6 + 1, none⟩ = some (.int .i64 f.su) := hcell 1 _ rfl
      have k2 : wr.cell? ⟨fb, fo + k * 6 + 2, none⟩ = some (.int .i64 f.pr) := hcell 2 _ rfl
      have k3 : wr.cell? ⟨fb, fo + k * 6 + 3, none⟩ = some (.int .i64 f.nm) := hcell 3 _ rfl
      have k4 : wr.cell? ⟨fb, fo + k * 6 + 4, none⟩ = some X := hcell 4 _ rfl
      have k5 : wr.cell? ⟨fb, fo + k * 6 + 5, none⟩ = some E := hcell 5 _ rfl
      have HX := Lib.hid hX
      have HE := Lib.hid hE
      obtain ⟨XA, xc, rfl, _, _⟩ := hX.form
      obtain ⟨EA, ec, rfl, _, _⟩ := hE.form
      have HBX := Lib.hid (Kt.balloc HBW.out (.cells #[.int .i64 f.cl, .int .i64 f.su, .int .i64 f.pr, .int .i64 f.nm, .slice XA f.ex.length xc, .slice EA f.es.length ec] 32))
      have HFA := Lib.hid (face_calls f (.slice XA f.ex.length xc) (.slice EA f.es.length ec) mb n l (wr.alloc (.cells #[.int .i64 f.cl, .int .i64 f.su, .int .i64 f.pr, .int .i64 f.nm, .slice XA f.ex.length xc, .slice EA f.es.length ec] 32)) (HX.out.on HBX.out) (HE.out.on HBX.out) (HSN.out.alloc _) (by have := HNN.out; have := H4.out; omega))
      have HFRW := Lib.hid (heap_alloc_new wr (.cells #[.int .i64 f.cl, .int .i64 f.su, .int .i64 f.pr, .int .i64 f.nm, .slice XA f.ex.length xc, .slice EA f.es.length ec] 32))
      have HDR := Lib.hid (show c.fs.drop k = f :: c.fs.drop (k + 1) by rw [List.drop_eq_getElem_cons hlt, hf])
      have HTK := Lib.hid (show c.fs.take (k + 1) = c.fs.take k ++ [f] by rw [List.take_succ_eq_append_getElem hlt, hf])
      dsimp only [faceV] at HFA
      clear hcell hcs hX hE hf hfb hfc hfx
      go_wp2_with fail
      refine HFA.out.mono ?_
      rintro e w2 ⟨rfl, ⟨n2, hn2, hs2⟩, hg2⟩
      have hfr2 := (hg2.block wr.heap.size (by rw [World.size_alloc]; exact Nat.lt_succ_self _) (fun q => by injection q with q; have := HSN.out.lt; omega)).trans HFRW.out
      have HS2 := Lib.hid hs2
      have HN2 := Lib.hid hn2
      have HG2 := Lib.hid ((HGB.out.trans (gb_alloc wr (.cells #[.int .i64 f.cl, .int .i64 f.su, .int .i64 f.pr, .int .i64 f.nm, .slice XA f.ex.length xc, .slice EA f.es.length ec] 32) (some mb))).trans hg2)
      have HFR2 := Lib.hid hfr2
      clear hs2 hn2 hg2 hfr2 HFA k0 k1 k2 k3 k4 k5
      by_cases hc : (faceC l f).1 = 0
      · have hne : ((faceC l f).1 != 0) = false := by rw [hc]; rfl
        have hofk := faceC_ok hc
        have hxl := ex_len f.ex hofk.xs
        have HBE := Lib.hid (HB1.out.grown HG2.out HSZ.out (fun j hj => by injection hj with hj; subst hj; exact HM.out.1))
        have HJ := Lib.hid (fun W (hW : Below w2.heap.size w2 W) => xjoin (.slice XA f.ex.length xc) f.ex W (HX.out.on (Kt.bthen HBE.out hW)) (by have := hofk.nx; omega) (by have := hofk.nx; omega))
        have HOF := Lib.hid hofk
        have HXL := Lib.hid hxl
        have z1 : ¬ 9223372036854775807 < (bs' (putB [9, 4, (k : Int), 0, (f.es.length : Int), f.cl, f.su, f.pr, f.nm])).size + (bs' f.ex.flatten).size := by
          rw [bs_size, bs_size, putB_len]
          have := hofk.nx
          show ¬ 9223372036854775807 < 9 + _
          omega
        have z2 : ¬ 9223372036854775807 < (bs' (facesP 0 (c.fs.take k)).flatten).size + ((bs' (putB [9, 4, (k : Int), 0, (f.es.length : Int), f.cl, f.su, f.pr, f.nm])).size + (bs' f.ex.flatten).size) := by
          rw [bs_size, bs_size, bs_size, putB_len]
          have := hofk.nx
          have := HLN.out
          have := H4.out
          show ¬ 9223372036854775807 < _ + (9 + _)
          omega
        obtain ⟨P9, hP9⟩ : ∃ x, bs' (putB [9, 4, (k : Int), 0, (f.es.length : Int), f.cl, f.su, f.pr, f.nm]) = x := ⟨_, rfl⟩
        obtain ⟨JX, hJX⟩ : ∃ x, bs' f.ex.flatten = x := ⟨_, rfl⟩
        obtain ⟨RS, hRS⟩ : ∃ x, bs' (facesP 0 (c.fs.take k)).flatten = x := ⟨_, rfl⟩
        have HPR := Lib.hid (fun W K (hK : W.heap[K]? = some (.cells #[.int .i64 9, .int .i64 4, .int .i64 k, .int .i64 0, .int .i64 f.es.length, .int .i64 f.cl, .int .i64 f.su, .int .i64 f.pr, .int .i64 f.nm] 3 (0, 0))) => put_row [9, 4, (k : Int), 0, (f.es.length : Int), f.cl, f.su, f.pr, f.nm] W K 9 rfl hK (by decide))
        rw [hP9] at z1 z2 HPR
        rw [hJX] at z1 z2 HJ
        rw [hRS] at z2 ⊢
        have HNM := Lib.hid (And.intro hP9 (And.intro hJX hRS))
        clear hP9 hJX hRS hofk hxl hc
        go_upto_region 13 with fail
        refine Kt.G.start 20 (Kt.Fb w2 [(wr.heap.size, #[.int .i64 f.cl, .int .i64 f.su, .int .i64 f.pr, .int .i64 f.nm, .slice XA f.ex.length xc, .slice EA f.es.length ec], 32)]) (by kernel_rfl) ((Kt.Fb.nil w2 (Below.refl _ w2)).add HFR2.out).drew (fun hHeld => ?_)
        refine Kt.G.takeP 0 { dst := some 52, op := Op.move (Operand.tmp 5), type := 9, pos := "desc.go:135", after := #[], guard := none } ?_ (fun _ => hHeld) rfl (by kernel_rfl) (fun _ _ _ h => h) (by rfl) ?_ ?_
        rotate_left
        · intro w; go_simp; try with_reducible rfl
        try simp only [Act.put, List.setIfInBounds_toArray, List.set_cons_zero, List.set_cons_succ]
        refine Kt.G.takeP 1 { dst := some 53, op := Op.move (Operand.tmp 6), type := 3, pos := "desc.go:135", after := #[], guard := none } ?_ (fun _ => hHeld) rfl (by kernel_rfl) (fun _ _ _ h => h) (by rfl) ?_ ?_
        rotate_left
        · intro w; go_simp; try with_reducible rfl
        try simp only [Act.put, List.setIfInBounds_toArray, List.set_cons_zero, List.set_cons_succ]
        refine Kt.G.takeP 2 { dst := some 54, op := Op.fieldAddr 32 (Operand.tmp 7) 5, type := 0, pos := "desc.go:135", after := #[], guard := none } ?_ (fun _ => hHeld) rfl (by kernel_rfl) (fun _ _ _ h => h) (by rfl) ?_ ?_
        rotate_left
        · intro w; go_simp; try with_reducible rfl
        try simp only [Act.put, List.setIfInBounds_toArray, List.set_cons_zero, List.set_cons_succ]
        refine Kt.G.take 3 { dst := some 55, op := Op.load 30 (Operand.tmp 54), type := 30, pos := "desc.go:135", after := #[{ on := 2, ground := Ground.data }], guard := none } ?_ hHeld rfl (by kernel_rfl) (fun _ _ _ h => h) (by rfl) ?_ ?_
        rotate_left
        · intro w hSw; have r0 := hSw.row (wr.heap.size, #[.int .i64 f.cl, .int .i64 f.su, .int .i64 f.pr, .int .i64 f.nm, .slice XA f.ex.length xc, .slice EA f.es.length ec], 32) (by simp); have c0 := fun i => cell_of_row _ _ i _ _ _ r0; dsimp only at *; go_simp; try with_reducible rfl
        try simp only [Act.put, List.setIfInBounds_toArray, List.set_cons_zero, List.set_cons_succ]
        refine Kt.G.takeP 4 { dst := some 56, op := Op.call { callee := Callee.builtin Builtin.len, args := #[Operand.tmp 55], argTypes := #[30] }, type := 3, pos := "desc.go:135", after := #[{ on := 3, ground := Ground.data }], guard := none } ?_ (fun _ => hHeld) rfl (by kernel_rfl) (fun _ _ _ h => h) (by rfl) ?_ ?_
        rotate_left
        · intro w; go_simp; try with_reducible rfl
        try simp only [Act.put, List.setIfInBounds_toArray, List.set_cons_zero, List.set_cons_succ]
        refine Kt.G.takeP 5 { dst := some 57, op := Op.fieldAddr 32 (Operand.tmp 7) 0, type := 0, pos := "desc.go:135", after := #[], guard := none } ?_ (fun _ => hHeld) rfl (by kernel_rfl) (fun _ _ _ h => h) (by rfl) ?_ ?_
        rotate_left
        · intro w; go_simp; try with_reducible rfl
        try simp only [Act.put, List.setIfInBounds_toArray, List.set_cons_zero, List.set_cons_succ]
        refine Kt.G.take 6 { dst := some 58, op := Op.load 3 (Operand.tmp 57), type := 3, pos := "desc.go:135", after := #[{ on := 5, ground := Ground.data }], guard := none } ?_ hHeld rfl (by kernel_rfl) (fun _ _ _ h => h) (by rfl) ?_ ?_
        rotate_left
        · intro w hSw; have r0 := hSw.row (wr.heap.size, #[.int .i64 f.cl, .int .i64 f.su, .int .i64 f.pr, .int .i64 f.nm, .slice XA f.ex.length xc, .slice EA f.es.length ec], 32) (by simp); have c0 := fun i => cell_of_row _ _ i _ _ _ r0; dsimp only at *; go_simp; try with_reducible rfl
        try simp only [Act.put, List.setIfInBounds_toArray, List.set_cons_zero, List.set_cons_succ]
        refine Kt.G.takeP 7 { dst := some 59, op := Op.fieldAddr 32 (Operand.tmp 7) 1, type := 0, pos := "desc.go:135", after := #[], guard := none } ?_ (fun _ => hHeld) rfl (by kernel_rfl) (fun _ _ _ h => h) (by rfl) ?_ ?_
        rotate_left
        · intro w; go_simp; try with_reducible rfl
        try simp only [Act.put, List.setIfInBounds_toArray, List.set_cons_zero, List.set_cons_succ]
        refine Kt.G.take 8 { dst := some 60, op := Op.load 3 (Operand.tmp 59), type := 3, pos := "desc.go:135", after := #[{ on := 7, ground := Ground.data }], guard := none } ?_ hHeld rfl (by kernel_rfl) (fun _ _ _ h => h) (by rfl) ?_ ?_
        rotate_left
        · intro w hSw; have r0 := hSw.row (wr.heap.size, #[.int .i64 f.cl, .int .i64 f.su, .int .i64 f.pr, .int .i64 f.nm, .slice XA f.ex.length xc, .slice EA f.es.length ec], 32) (by simp); have c0 := fun i => cell_of_row _ _ i _ _ _ r0; dsimp only at *; go_simp; try with_reducible rfl
        try simp only [Act.put, List.setIfInBounds_toArray, List.set_cons_zero, List.set_cons_succ]
        refine Kt.G.takeP 9 { dst := some 61, op := Op.fieldAddr 32 (Operand.tmp 7) 2, type := 0, pos := "desc.go:135", after := #[], guard := none } ?_ (fun _ => hHeld) rfl (by kernel_rfl) (fun _ _ _ h => h) (by rfl) ?_ ?_
        rotate_left
        · intro w; go_simp; try with_reducible rfl
        try simp only [Act.put, List.setIfInBounds_toArray, List.set_cons_zero, List.set_cons_succ]
        refine Kt.G.take 10 { dst := some 62, op := Op.load 3 (Operand.tmp 61), type := 3, pos := "desc.go:135", after := #[{ on := 9, ground := Ground.data }], guard := none } ?_ hHeld rfl (by kernel_rfl) (fun _ _ _ h => h) (by rfl) ?_ ?_
        rotate_left
        · intro w hSw; have r0 := hSw.row (wr.heap.size, #[.int .i64 f.cl, .int .i64 f.su, .int .i64 f.pr, .int .i64 f.nm, .slice XA f.ex.length xc, .slice EA f.es.length ec], 32) (by simp); have c0 := fun i => cell_of_row _ _ i _ _ _ r0; dsimp only at *; go_simp; try with_reducible rfl
        try simp only [Act.put, List.setIfInBounds_toArray, List.set_cons_zero, List.set_cons_succ]
        refine Kt.G.takeP 11 { dst := some 63, op := Op.fieldAddr 32 (Operand.tmp 7) 3, type := 0, pos := "desc.go:135", after := #[], guard := none } ?_ (fun _ => hHeld) rfl (by kernel_rfl) (fun _ _ _ h => h) (by rfl) ?_ ?_
        rotate_left
        · intro w; go_simp; try with_reducible rfl
        try simp only [Act.put, List.setIfInBounds_toArray, List.set_cons_zero, List.set_cons_succ]
        refine Kt.G.take 12 { dst := some 64, op := Op.load 3 (Operand.tmp 63), type := 3, pos := "desc.go:135", after := #[{ on := 11, ground := Ground.data }], guard := none } ?_ hHeld rfl (by kernel_rfl) (fun _ _ _ h => h) (by rfl) ?_ ?_
        rotate_left
        · intro w hSw; have r0 := hSw.row (wr.heap.size, #[.int .i64 f.cl, .int .i64 f.su, .int .i64 f.pr, .int .i64 f.nm, .slice XA f.ex.length xc, .slice EA f.es.length ec], 32) (by simp); have c0 := fun i => cell_of_row _ _ i _ _ _ r0; dsimp only at *; go_simp; try with_reducible rfl
        try simp only [Act.put, List.setIfInBounds_toArray, List.set_cons_zero, List.set_cons_succ]
        refine Kt.G.takeP 15 { dst := some 67, op := Op.fieldAddr 32 (Operand.tmp 7) 4, type := 0, pos := "desc.go:135", after := #[], guard := none } ?_ (fun _ => hHeld) rfl (by kernel_rfl) (fun _ _ _ h => h) (by rfl) ?_ ?_
        rotate_left
        · intro w; go_simp; try with_reducible rfl
        try simp only [Act.put, List.setIfInBounds_toArray, List.set_cons_zero, List.set_cons_succ]
        refine Kt.G.take 16 { dst := some 68, op := Op.load 29 (Operand.tmp 67), type := 29, pos := "desc.go:135", after := #[{ on := 15, ground := Ground.data }], guard := none } ?_ hHeld rfl (by kernel_rfl) (fun _ _ _ h => h) (by rfl) ?_ ?_
        rotate_left
        · intro w hSw; have r0 := hSw.row (wr.heap.size, #[.int .i64 f.cl, .int .i64 f.su, .int .i64 f.pr, .int .i64 f.nm, .slice XA f.ex.length xc, .slice EA f.es.length ec], 32) (by simp); have c0 := fun i => cell_of_row _ _ i _ _ _ r0; dsimp only at *; go_simp; try with_reducible rfl
        try simp only [Act.put, List.setIfInBounds_toArray, List.set_cons_zero, List.set_cons_succ]
        refine Kt.G.one 13 { dst := some 65, op := Op.buildSlice 103 9 #[(0, Operand.const (Value.int IntKind.i64 9)), (1, Operand.const (Value.int IntKind.i64 4)), (2, Operand.tmp 53), (3, Operand.const (Value.int IntKind.i64 0)), (4, Operand.tmp 56), (5, Operand.tmp 58), (6, Operand.tmp 60), (7, Operand.tmp 62), (8, Operand.tmp 64)], type := 103, pos := "desc.go:135", after := #[{ on := 1, ground := Ground.data }, { on := 4, ground := Ground.data }, { on := 6, ground := Ground.data }, { on := 8, ground := Ground.data }, { on := 10, ground := Ground.data }, { on := 12, ground := Ground.data }], guard := none } rfl (by kernel_rfl) (by rfl) (fun K hK => ?_)
        go_simp
        refine hK.out _ _ (fun _ => hHeld.alloc _) (fun hHeld => ?_)
        replace hHeld := (hHeld rfl).add (heap_alloc_new _ _)
        clear hK K
        try simp only [Act.put, List.setIfInBounds_toArray, List.set_cons_zero, List.set_cons_succ]
        refine Kt.G.push hHeld (fun _ => ?_)
        refine Kt.G.one 14 { dst := some 66, op := Op.call { callee := Callee.value (Operand.func 35), args := #[Operand.tmp 65], argTypes := #[103] }, type := 9, pos := "desc.go:135", after := #[{ on := 13, ground := Ground.data }], guard := none } rfl (by kernel_rfl) (by rfl) (fun K hK => ?_)
        go_simp
        refine (HPR.out _ _ (by first | exact hHeld.row _ (List.Mem.head _) | exact hHeld.row _ (List.Mem.tail _ (List.Mem.head _)))).mono ?_; rintro en xw ⟨rfl, hb⟩
        refine hK.out _ _ (fun _ => hHeld.on hb) (fun hHeld => ?_)
        have hHeld := hHeld rfl
        clear hK K
        try simp only [Act.put, List.setIfInBounds_toArray, List.set_cons_zero, List.set_cons_succ]
        clear hb
        refine Kt.G.one 17 { dst := some 69, op := Op.call { callee := Callee.value (Operand.func 15), args := #[Operand.tmp 68, Operand.const (Value.string { data := #[] })], argTypes := #[29, 9] }, type := 9, pos := "desc.go:135", after := #[{ on := 16, ground := Ground.data }, { on := 14, ground := Ground.chain }], guard := none } rfl (by kernel_rfl) (by rfl) (fun K hK => ?_)
        go_simp
        refine (HJ.out _ hHeld.bel).mono ?_; rintro en xw ⟨rfl, hb⟩
        refine hK.out _ _ (fun _ => hHeld.on hb) (fun hHeld => ?_)
        have hHeld := hHeld rfl
        clear hK K
        try simp only [Act.put, List.setIfInBounds_toArray, List.set_cons_zero, List.set_cons_succ]
        clear hb
        refine Kt.G.takeP 18 { dst := some 70, op := Op.binOp BinOp.add 9 (Operand.tmp 66) (Operand.tmp 69) 9, type := 9, pos := "desc.go:135", after := #[{ on := 14, ground := Ground.data }, { on := 17, ground := Ground.data }], guard := none } ?_ (fun _ => hHeld) rfl (by kernel_rfl) (fun _ _ _ h => h) (by rfl) ?_ ?_
        rotate_left
        · intro w; go_simp; try with_reducible rfl
        try simp only [Act.put, List.setIfInBounds_toArray, List.set_cons_zero, List.set_cons_succ]
        refine Kt.G.takeP 19 { dst := some 71, op := Op.binOp BinOp.add 9 (Operand.tmp 52) (Operand.tmp 70) 9, type := 9, pos := "desc.go:135", after := #[{ on := 0, ground := Ground.data }, { on := 18, ground := Ground.data }], guard := none } ?_ (fun _ => hHeld) rfl (by kernel_rfl) (fun _ _ _ h => h) (by rfl) ?_ ?_
        rotate_left
        · intro w; go_simp; try with_reducible rfl
        try simp only [Act.put, List.setIfInBounds_toArray, List.set_cons_zero, List.set_cons_succ]
        refine Kt.G.one 20 { dst := some 5, op := Op.assign (Operand.tmp 71), type := 9, pos := "desc.go:135", after := #[{ on := 19, ground := Ground.data }, { on := 17, ground := Ground.chain }, { on := 0, ground := Ground.phase }, { on := 1, ground := Ground.phase }, { on := 2, ground := Ground.phase }, { on := 3, ground := Ground.phase }, { on := 4, ground := Ground.phase }, { on := 5, ground := Ground.phase }, { on := 6, ground := Ground.phase }, { on := 7, ground := Ground.phase }, { on := 8, ground := Ground.phase }, { on := 9, ground := Ground.phase }, { on := 10, ground := Ground.phase }, { on := 11, ground := Ground.phase }, { on := 12, ground := Ground.phase }, { on := 13, ground := Ground.phase }, { on := 14, ground := Ground.phase }, { on := 15, ground := Ground.phase }, { on := 16, ground := Ground.phase }, { on := 17, ground := Ground.phase }, { on := 18, ground := Ground.phase }, { on := 19, ground := Ground.phase }], guard := none } rfl (by kernel_rfl) (by rfl) (fun K hK => ?_)
        go_simp
        refine hK.out _ _ (Kt.G.late (by kernel_rfl)) (fun _ => ?_)
        clear hK K
        try simp only [Act.put, List.setIfInBounds_toArray, List.set_cons_zero, List.set_cons_succ]
        refine Kt.G.done (by kernel_rfl) (NoPanic.normal ?_) _
        have HBX2 := Lib.hid (Kt.bthen HBE.out hHeld.bel)
        have HGX2 := Lib.hid (HG2.out.trans (gb_below hHeld.bel (some mb)))
        have HSX2 := Lib.hid (HS2.out.on hHeld.bel)
        have HFX2 := Lib.hid (hHeld.row _ (List.Mem.tail _ (List.Mem.head _)))
        have HR1 : Hid (RS ++ (P9 ++ JX) = bs' ((facesP 0 (c.fs.take k)).flatten ++ (faceD k f ++ f.ex.flatten) ++ ((f.es.take 0).map endT).flatten)) := Lib.hid (by
          rw [← HNM.out.1, ← HNM.out.2.1, ← HNM.out.2.2]
          apply Kt.bytes_eq
          simp [bs', faceD])
        rw [HR1.out]
        have hfr := HFX2.out
        dsimp only at hfr
        have hfc := fun i => cell_of_row _ _ i _ _ _ hfr
        have hfz := (Array.getElem?_eq_some_iff.1 hfr).1
        clear hHeld hfr z1 z2
        go_wp2_with fail
        clear hfc hfz
        go_loopw [5, 75] (fun vr vj wy => ∃ j : Nat, j ≤ f.es.length ∧ vj = .int .i64 j ∧ vr = .string (bs' ((facesP 0 (c.fs.take k)).flatten ++ (faceD k f ++ f.ex.flatten) ++ ((f.es.take j).map endT).flatten)) ∧ Hid (Below xw.heap.size xw wy)) (fun _ vj _ => f.es.length - (intOf vj).toNat)
        case atStart => exact ⟨0, Nat.zero_le _, rfl, by simp, Lib.hid (Below.refl _ _)⟩
        case round =>
          obtain ⟨j, hj, rfl, rfl, HBY⟩ := hrel
          by_cases hjl : j < f.es.length
          · obtain ⟨x, hx⟩ : ∃ x, f.es[j] = x := ⟨_, rfl⟩
            have hok := HOF.out.es x (by rw [← hx]; exact List.getElem_mem ..)
            obtain ⟨_, _, hee, _, hex⟩ := HE.out.form
            injection hee with hee1 _ hee2
            subst hee1 hee2
            obtain ⟨g, o, rfl, hg, hc⟩ := hex (Nat.lt_of_le_of_lt (Nat.zero_le _) hjl)
            have hbw := Kt.bthen HBX2.out HBY.out
            have hcj : ∀ i u, (ec1 x)[i]? = some u → wr.cell? ⟨g, o + j * 5 + i, none⟩ = some u := fun i u hi => by
              have hi5 : i < 5 := (List.getElem?_eq_some_iff.1 hi).1
              have h1 := ecells_get hjl i hi5
              rw [hx, hi] at h1
              obtain ⟨h2, h3⟩ := List.getElem?_eq_some_iff.1 h1
              rw [Nat.add_assoc]
              exact (hbw.cell (p := ⟨g, o + (j * 5 + i), none⟩) hg).trans ((hc _ h2).trans (by rw [h3]))
            have k0 : wr.cell? ⟨g, o + j * 5, none⟩ = some (.int .i64 x.ad) := hcj 0 _ rfl
            have k1 : wr.cell? ⟨g, o + j * 5 + 1, none⟩ = some (.bool x.inn) := hcj 1 _ rfl
            have k2 : wr.cell? ⟨g, o + j * 5 + 2, none⟩ = some (.int .i64 x.ki) := hcj 2 _ rfl
            have k3 : wr.cell? ⟨g, o + j * 5 + 3, none⟩ = some (.int .i64 x.mx) := hcj 3 _ rfl
            have k4 : wr.cell? ⟨g, o + j * 5 + 4, none⟩ = some (.int .i64 x.iv) := hcj 4 _ rfl
            obtain ⟨ad, hae⟩ : ∃ ad : Int, x.ad + (if x.inn then 128 else 0) = ad := ⟨_, rfl⟩
            have HPA := Lib.hid (fun W K (hK : W.heap[K]? = some (.cells #[.int .i64 7, .int .i64 5, .int .i64 ad, .int .i64 x.ki] 3 (0, 0))) => put_row [7, 5, ad, x.ki] W K 4 rfl hK (by decide))
            have HPW := Lib.hid (fun W => dword_calls x.mx ⟨by have := hok.2.2.2.2.1; omega, by have := hok.2.2.2.2.2.1; omega⟩ W)
            have HPV := Lib.hid (fun W K (hK : W.heap[K]? = some (.cells #[.int .i64 x.iv] 3 (0, 0))) => put_row [x.iv] W K 1 rfl hK (by decide))
            have HTJ := Lib.hid (show f.es.take (j + 1) = f.es.take j ++ [x] by rw [List.take_succ_eq_append_getElem hjl, hx])
            have HENT := Lib.hid (show endT x = putB [7, 5, ad, x.ki] ++ putB [x.mx, x.mx / 256] ++ putB [x.iv] by unfold endT; rw [hae])
            have hadb : x.ad ≤ 15 ∧ 1 ≤ x.ad := ⟨hok.2.1, hok.1⟩
            have hbl : (bs' ((facesP 0 (c.fs.take k)).flatten ++ (faceD k f ++ f.ex.flatten) ++ ((f.es.take j).map endT).flatten)).size ≤ 1000000 := by
              rw [bs_size, List.length_append, List.length_append, List.length_append, es_len, faceD_len, List.length_take]
              have := HLN.out
              have := HXL.out
              have := HOF.out.nx
              have := HOF.out.ne
              have := H4.out
              omega
            obtain ⟨BS, hBS⟩ : ∃ b, bs' ((facesP 0 (c.fs.take k)).flatten ++ (faceD k f ++ f.ex.flatten) ++ ((f.es.take j).map endT).flatten) = b := ⟨_, rfl⟩
            obtain ⟨A4, hA4⟩ : ∃ b, bs' (putB [7, 5, ad, x.ki]) = b := ⟨_, rfl⟩
            obtain ⟨B2, hB2⟩ : ∃ b, bs' (putB [x.mx, x.mx / 256]) = b := ⟨_, rfl⟩
            obtain ⟨C1, hC1⟩ : ∃ b, bs' (putB [x.iv]) = b := ⟨_, rfl⟩
            have sA : A4.size = 4 := by rw [← hA4, bs_size]; rfl
            have sB : B2.size = 2 := by rw [← hB2, bs_size]; rfl
            have sC : C1.size = 1 := by rw [← hC1, bs_size]; rfl
            rw [hBS] at hbl ⊢
            rw [hA4] at HPA
            rw [hB2] at HPW
            rw [hC1] at HPV
            have HNQ := Lib.hid (And.intro hBS (And.intro hA4 (And.intro hB2 hC1)))
            have z1 : ¬ 9223372036854775807 < A4.size + B2.size := by omega
            have z2 : ¬ 9223372036854775807 < A4.size + B2.size + C1.size := by omega
            have z3 : ¬ 9223372036854775807 < BS.size + (A4.size + B2.size + C1.size) := by omega
            clear hbw hcj hc hx hok hg hex hBS hA4 hB2 hC1 sA sB sC hbl
            cases hin : x.inn with
            | true =>
              rw [hin] at hae k1
              have hae' : x.ad + 128 = ad := hae
              have HAE := Lib.hid hae'
              clear hae hae'
              go_upto_region 20 with fail
              rw [HAE.out]
              obtain ⟨w3, hw3⟩ : ∃ W, wr.alloc (.cells #[.int .i64 x.ad, .bool true, .int .i64 x.ki, .int .i64 x.mx, .int .i64 x.iv] 43) = W := ⟨_, rfl⟩
              have HR3 : Hid (w3.heap[wr.heap.size]? = some (.cells #[.int .i64 x.ad, .bool true, .int .i64 x.ki, .int .i64 x.mx, .int .i64 x.iv] 43 (0, 0))) := Lib.hid (by rw [← hw3]; exact heap_alloc_new _ _)
              have HB3 : Hid (Below xw.heap.size xw w3) := Lib.hid (by rw [← hw3]; exact Kt.balloc HBY.out _)
              have HR5 : Hid (BS ++ (A4 ++ B2 ++ C1) = bs' ((facesP 0 (c.fs.take k)).flatten ++ (faceD k f ++ f.ex.flatten) ++ ((f.es.take (j + 1)).map endT).flatten)) := Lib.hid (by
                rw [← HNQ.out.1, ← HNQ.out.2.1, ← HNQ.out.2.2.1, ← HNQ.out.2.2.2, HTJ.out, List.map_append, List.map_cons, List.map_nil, List.flatten_append, List.flatten_cons, List.flatten_nil, HENT.out]
                apply Kt.bytes_eq
                simp [bs'])
              have hwj := wrap_d (show j ≤ 2097152 by have := HOF.out.ne; omega)
              rw [hw3]
              clear hw3 k0 k1 k2 k3 k4
              refine Kt.G.start 16 (Kt.Fb w3 [(wr.heap.size, #[.int .i64 x.ad, .bool true, .int .i64 x.ki, .int .i64 x.mx, .int .i64 x.iv], 43)]) (by kernel_rfl) ((Kt.Fb.nil w3 (Below.refl _ w3)).add HR3.out).drew (fun hHeld => ?_)
              refine Kt.G.takeP 0 { dst := some 85, op := Op.move (Operand.tmp 5), type := 9, pos := "desc.go:141", after := #[], guard := none } ?_ (fun _ => hHeld) rfl (by kernel_rfl) (fun _ _ _ h => h) (by rfl) ?_ ?_
              rotate_left
              · intro w; go_simp; try with_reducible rfl
              try simp only [Act.put, List.setIfInBounds_toArray, List.set_cons_zero, List.set_cons_succ]
              refine Kt.G.takeP 1 { dst := some 86, op := Op.move (Operand.tmp 11), type := 3, pos := "desc.go:141", after := #[], guard := none } ?_ (fun _ => hHeld) rfl (by kernel_rfl) (fun _ _ _ h => h) (by rfl) ?_ ?_
              rotate_left
              · intro w; go_simp; try with_reducible rfl
              try simp only [Act.put, List.setIfInBounds_toArray, List.set_cons_zero, List.set_cons_succ]
              refine Kt.G.takeP 2 { dst := some 87, op := Op.fieldAddr 43 (Operand.tmp 10) 2, type := 0, pos := "desc.go:141", after := #[], guard := none } ?_ (fun _ => hHeld) rfl (by kernel_rfl) (fun _ _ _ h => h) (by rfl) ?_ ?_
              rotate_left
              · intro w; go_simp; try with_reducible rfl
              try simp only [Act.put, List.setIfInBounds_toArray, List.set_cons_zero, List.set_cons_succ]
              refine Kt.G.take 3 { dst := some 88, op := Op.load 3 (Operand.tmp 87), type := 3, pos := "desc.go:141", after := #[{ on := 2, ground := Ground.data }], guard := none } ?_ hHeld rfl (by kernel_rfl) (fun _ _ _ h => h) (by rfl) ?_ ?_
              rotate_left
              · intro w hSw; have r0 := hSw.row (wr.heap.size, #[.int .i64 x.ad, .bool true, .int .i64 x.ki, .int .i64 x.mx, .int .i64 x.iv], 43) (by simp); have c0 := fun i => cell_of_row _ _ i _ _ _ r0; dsimp only at *; go_simp; try with_reducible rfl
              try simp only [Act.put, List.setIfInBounds_toArray, List.set_cons_zero, List.set_cons_succ]
              refine Kt.G.takeP 6 { dst := some 91, op := Op.fieldAddr 43 (Operand.tmp 10) 3, type := 0, pos := "desc.go:141", after := #[], guard := none } ?_ (fun _ => hHeld) rfl (by kernel_rfl) (fun _ _ _ h => h) (by rfl) ?_ ?_
              rotate_left
              · intro w; go_simp; try with_reducible rfl
              try simp only [Act.put, List.setIfInBounds_toArray, List.set_cons_zero, List.set_cons_succ]
              refine Kt.G.take 7 { dst := some 92, op := Op.load 3 (Operand.tmp 91), type := 3, pos := "desc.go:141", after := #[{ on := 6, ground := Ground.data }], guard := none } ?_ hHeld rfl (by kernel_rfl) (fun _ _ _ h => h) (by rfl) ?_ ?_
              rotate_left
              · intro w hSw; have r0 := hSw.row (wr.heap.size, #[.int .i64 x.ad, .bool true, .int .i64 x.ki, .int .i64 x.mx, .int .i64 x.iv], 43) (by simp); have c0 := fun i => cell_of_row _ _ i _ _ _ r0; dsimp only at *; go_simp; try with_reducible rfl
              try simp only [Act.put, List.setIfInBounds_toArray, List.set_cons_zero, List.set_cons_succ]
              refine Kt.G.takeP 10 { dst := some 95, op := Op.fieldAddr 43 (Operand.tmp 10) 4, type := 0, pos := "desc.go:141", after := #[], guard := none } ?_ (fun _ => hHeld) rfl (by kernel_rfl) (fun _ _ _ h => h) (by rfl) ?_ ?_
              rotate_left
              · intro w; go_simp; try with_reducible rfl
              try simp only [Act.put, List.setIfInBounds_toArray, List.set_cons_zero, List.set_cons_succ]
              refine Kt.G.take 11 { dst := some 96, op := Op.load 3 (Operand.tmp 95), type := 3, pos := "desc.go:141", after := #[{ on := 10, ground := Ground.data }], guard := none } ?_ hHeld rfl (by kernel_rfl) (fun _ _ _ h => h) (by rfl) ?_ ?_
              rotate_left
              · intro w hSw; have r0 := hSw.row (wr.heap.size, #[.int .i64 x.ad, .bool true, .int .i64 x.ki, .int .i64 x.mx, .int .i64 x.iv], 43) (by simp); have c0 := fun i => cell_of_row _ _ i _ _ _ r0; dsimp only at *; go_simp; try with_reducible rfl
              try simp only [Act.put, List.setIfInBounds_toArray, List.set_cons_zero, List.set_cons_succ]
              refine Kt.G.two 4 12 { dst := some 89, op := Op.buildSlice 103 4 #[(0, Operand.const (Value.int IntKind.i64 7)), (1, Operand.const (Value.int IntKind.i64 5)), (2, Operand.tmp 86), (3, Operand.tmp 88)], type := 103, pos := "desc.go:141", after := #[{ on := 1, ground := Ground.data }, { on := 3, ground := Ground.data }], guard := none } { dst := some 97, op := Op.buildSlice 103 1 #[(0, Operand.tmp 96)], type := 103, pos := "desc.go:141", after := #[{ on := 11, ground := Ground.data }], guard := none } rfl rfl (by kernel_rfl) (by rfl) (by rfl) (fun K hK => ?_) (fun K hK => ?_)
              · go_simp
                refine hK.out _ _ (fun _ => hHeld.alloc _) (fun hHeld => ?_)
                replace hHeld := (hHeld rfl).add (heap_alloc_new _ _)
                clear hK K
                try simp only [Act.put, List.setIfInBounds_toArray, List.set_cons_zero, List.set_cons_succ]
                refine Kt.G.push hHeld (fun _ => ?_)
                refine Kt.G.two 5 12 { dst := some 90, op := Op.call { callee := Callee.value (Operand.func 35), args := #[Operand.tmp 89], argTypes := #[103] }, type := 9, pos := "desc.go:141", after := #[{ on := 4, ground := Ground.data }], guard := none } { dst := some 97, op := Op.buildSlice 103 1 #[(0, Operand.tmp 96)], type := 103, pos := "desc.go:141", after := #[{ on := 11, ground := Ground.data }], guard := none } rfl rfl (by kernel_rfl) (by rfl) (by rfl) (fun K hK => ?_) (fun K hK => ?_)
                · go_simp
                  refine (HPA.out _ _ (by first | exact hHeld.row _ (List.Mem.head _) | exact hHeld.row _ (List.Mem.tail _ (List.Mem.head _)) | (have h := hHeld.row _ (List.Mem.head _); dsimp only at h; rw [World.size_alloc] at h; exact h) | (have h := hHeld.row _ (List.Mem.tail _ (List.Mem.head _)); dsimp only at h; rw [World.size_alloc] at h; exact h))).mono ?_; rintro en xw ⟨rfl, hb⟩
                  refine hK.out _ _ (fun _ => hHeld.on hb) (fun hHeld => ?_)
                  have hHeld := hHeld rfl
                  clear hK K
                  try simp only [Act.put, List.setIfInBounds_toArray, List.set_cons_zero, List.set_cons_succ]
                  clear hb
                  refine Kt.G.two 8 12 { dst := some 93, op := Op.call { callee := Callee.value (Operand.func 36), args := #[Operand.tmp 92], argTypes := #[3] }, type := 9, pos := "desc.go:141", after := #[{ on := 7, ground := Ground.data }, { on := 5, ground := Ground.chain }], guard := none } { dst := some 97, op := Op.buildSlice 103 1 #[(0, Operand.tmp 96)], type := 103, pos := "desc.go:141", after := #[{ on := 11, ground := Ground.data }], guard := none } rfl rfl (by kernel_rfl) (by rfl) (by rfl) (fun K hK => ?_) (fun K hK => ?_)
                  · go_simp
                    refine (HPW.out _).mono ?_; rintro en xw ⟨rfl, hb⟩
                    refine hK.out _ _ (fun _ => hHeld.on hb) (fun hHeld => ?_)
                    have hHeld := hHeld rfl
                    clear hK K
                    try simp only [Act.put, List.setIfInBounds_toArray, List.set_cons_zero, List.set_cons_succ]
                    clear hb
                    refine Kt.G.takeP 9 { dst := some 94, op := Op.binOp BinOp.add 9 (Operand.tmp 90) (Operand.tmp 93) 9, type := 9, pos := "desc.go:141", after := #[{ on := 5, ground := Ground.data }, { on := 8, ground := Ground.data }], guard := none } ?_ (fun _ => hHeld) rfl (by kernel_rfl) (fun _ _ _ h => h) (by rfl) ?_ ?_
                    rotate_left
                    · intro w; go_simp; try with_reducible rfl
                    try simp only [Act.put, List.setIfInBounds_toArray, List.set_cons_zero, List.set_cons_succ]
                    refine Kt.G.one 12 { dst := some 97, op := Op.buildSlice 103 1 #[(0, Operand.tmp 96)], type := 103, pos := "desc.go:141", after := #[{ on := 11, ground := Ground.data }], guard := none } rfl (by kernel_rfl) (by rfl) (fun K hK => ?_)
                    go_simp
                    refine hK.out _ _ (fun _ => hHeld.alloc _) (fun hHeld => ?_)
                    replace hHeld := (hHeld rfl).add (heap_alloc_new _ _)
                    clear hK K
                    try simp only [Act.put, List.setIfInBounds_toArray, List.set_cons_zero, List.set_cons_succ]
                    refine Kt.G.push hHeld (fun _ => ?_)
                    refine Kt.G.one 13 { dst := some 98, op := Op.call { callee := Callee.value (Operand.func 35), args := #[Operand.tmp 97], argTypes := #[103] }, type := 9, pos := "desc.go:141", after := #[{ on := 12, ground := Ground.data }, { on := 8, ground := Ground.chain }], guard := none } rfl (by kernel_rfl) (by rfl) (fun K hK => ?_)
                    go_simp
                    refine (HPV.out _ _ (by first | exact hHeld.row _ (List.Mem.head _) | exact hHeld.row _ (List.Mem.tail _ (List.Mem.head _)) | (have h := hHeld.row _ (List.Mem.head _); dsimp only at h; rw [World.size_alloc] at h; exact h) | (have h := hHeld.row _ (List.Mem.tail _ (List.Mem.head _)); dsimp only at h; rw [World.size_alloc] at h; exact h))).mono ?_; rintro en xw ⟨rfl, hb⟩
                    refine hK.out _ _ (fun _ => hHeld.on hb) (fun hHeld => ?_)
                    have hHeld := hHeld rfl
                    clear hK K
                    try simp only [Act.put, List.setIfInBounds_toArray, List.set_cons_zero, List.set_cons_succ]
                    clear hb
                    refine Kt.G.takeP 14 { dst := some 99, op := Op.binOp BinOp.add 9 (Operand.tmp 94) (Operand.tmp 98) 9, type := 9, pos := "desc.go:141", after := #[{ on := 9, ground := Ground.data }, { on := 13, ground := Ground.data }], guard := none } ?_ (fun _ => hHeld) rfl (by kernel_rfl) (fun _ _ _ h => h) (by rfl) ?_ ?_
                    rotate_left
                    · intro w; go_simp; try with_reducible rfl
                    try simp only [Act.put, List.setIfInBounds_toArray, List.set_cons_zero, List.set_cons_succ]
                    refine Kt.G.takeP 15 { dst := some 100, op := Op.binOp BinOp.add 9 (Operand.tmp 85) (Operand.tmp 99) 9, type := 9, pos := "desc.go:141", after := #[{ on := 0, ground := Ground.data }, { on := 14, ground := Ground.data }], guard := none } ?_ (fun _ => hHeld) rfl (by kernel_rfl) (fun _ _ _ h => h) (by rfl) ?_ ?_
                    rotate_left
                    · intro w; go_simp; try with_reducible rfl
                    try simp only [Act.put, List.setIfInBounds_toArray, List.set_cons_zero, List.set_cons_succ]
                    refine Kt.G.one 16 { dst := some 5, op := Op.assign (Operand.tmp 100), type := 9, pos := "desc.go:141", after := #[{ on := 15, ground := Ground.data }, { on := 13, ground := Ground.chain }, { on := 0, ground := Ground.phase }, { on := 1, ground := Ground.phase }, { on := 2, ground := Ground.phase }, { on := 3, ground := Ground.phase }, { on := 4, ground := Ground.phase }, { on := 5, ground := Ground.phase }, { on := 6, ground := Ground.phase }, { on := 7, ground := Ground.phase }, { on := 8, ground := Ground.phase }, { on := 9, ground := Ground.phase }, { on := 10, ground := Ground.phase }, { on := 11, ground := Ground.phase }, { on := 12, ground := Ground.phase }, { on := 13, ground := Ground.phase }, { on := 14, ground := Ground.phase }, { on := 15, ground := Ground.phase }], guard := none } rfl (by kernel_rfl) (by rfl) (fun K hK => ?_)
                    go_simp
                    refine hK.out _ _ (Kt.G.late (by kernel_rfl)) (fun _ => ?_)
                    clear hK K
                    try simp only [Act.put, List.setIfInBounds_toArray, List.set_cons_zero, List.set_cons_succ]
                    refine Kt.G.done (by kernel_rfl) (NoPanic.normal ?_) _
                    have HBZ := Lib.hid (Kt.bthen HB3.out hHeld.bel)
                    rw [HR5.out]
                    clear hHeld z1 z2 z3
                    go_wp2_with fail
                    go_roundw
                    case rel => exact ⟨j + 1, hjl, congrArg (Value.int .i64) hwj, rfl, HBZ⟩
                    case measure => rw [hwj]; exact meas_d hjl
                  · go_simp
                    refine hK.out _ _ (fun _ => hHeld.alloc _) (fun hHeld => ?_)
                    replace hHeld := (hHeld rfl).add (heap_alloc_new _ _)
                    clear hK K
                    try simp only [Act.put, List.setIfInBounds_toArray, List.set_cons_zero, List.set_cons_succ]
                    refine Kt.G.push hHeld (fun _ => ?_)
                    refine Kt.G.one 8 { dst := some 93, op := Op.call { callee := Callee.value (Operand.func 36), args := #[Operand.tmp 92], argTypes := #[3] }, type := 9, pos := "desc.go:141", after := #[{ on := 7, ground := Ground.data }, { on := 5, ground := Ground.chain }], guard := none } rfl (by kernel_rfl) (by rfl) (fun K hK => ?_)
                    go_simp
                    refine (HPW.out _).mono ?_; rintro en xw ⟨rfl, hb⟩
                    refine hK.out _ _ (fun _ => hHeld.on hb) (fun hHeld => ?_)
                    have hHeld := hHeld rfl
                    clear hK K
                    try simp only [Act.put, List.setIfInBounds_toArray, List.set_cons_zero, List.set_cons_succ]
                    clear hb
                    refine Kt.G.takeP 9 { dst := some 94, op := Op.binOp BinOp.add 9 (Operand.tmp 90) (Operand.tmp 93) 9, type := 9, pos := "desc.go:141", after := #[{ on := 5, ground := Ground.data }, { on := 8, ground := Ground.data }], guard := none } ?_ (fun _ => hHeld) rfl (by kernel_rfl) (fun _ _ _ h => h) (by rfl) ?_ ?_
                    rotate_left
                    · intro w; go_simp; try with_reducible rfl
                    try simp only [Act.put, List.setIfInBounds_toArray, List.set_cons_zero, List.set_cons_succ]
                    refine Kt.G.one 13 { dst := some 98, op := Op.call { callee := Callee.value (Operand.func 35), args := #[Operand.tmp 97], argTypes := #[103] }, type := 9, pos := "desc.go:141", after := #[{ on := 12, ground := Ground.data }, { on := 8, ground := Ground.chain }], guard := none } rfl (by kernel_rfl) (by rfl) (fun K hK => ?_)
                    go_simp
                    refine (HPV.out _ _ (by first | exact hHeld.row _ (List.Mem.head _) | exact hHeld.row _ (List.Mem.tail _ (List.Mem.head _)) | (have h := hHeld.row _ (List.Mem.head _); dsimp only at h; rw [World.size_alloc] at h; exact h) | (have h := hHeld.row _ (List.Mem.tail _ (List.Mem.head _)); dsimp only at h; rw [World.size_alloc] at h; exact h))).mono ?_; rintro en xw ⟨rfl, hb⟩
                    refine hK.out _ _ (fun _ => hHeld.on hb) (fun hHeld => ?_)
                    have hHeld := hHeld rfl
                    clear hK K
                    try simp only [Act.put, List.setIfInBounds_toArray, List.set_cons_zero, List.set_cons_succ]
                    clear hb
                    refine Kt.G.takeP 14 { dst := some 99, op := Op.binOp BinOp.add 9 (Operand.tmp 94) (Operand.tmp 98) 9, type := 9, pos := "desc.go:141", after := #[{ on := 9, ground := Ground.data }, { on := 13, ground := Ground.data }], guard := none } ?_ (fun _ => hHeld) rfl (by kernel_rfl) (fun _ _ _ h => h) (by rfl) ?_ ?_
                    rotate_left
                    · intro w; go_simp; try with_reducible rfl
                    try simp only [Act.put, List.setIfInBounds_toArray, List.set_cons_zero, List.set_cons_succ]
                    refine Kt.G.takeP 15 { dst := some 100, op := Op.binOp BinOp.add 9 (Operand.tmp 85) (Operand.tmp 99) 9, type := 9, pos := "desc.go:141", after := #[{ on := 0, ground := Ground.data }, { on := 14, ground := Ground.data }], guard := none } ?_ (fun _ => hHeld) rfl (by kernel_rfl) (fun _ _ _ h => h) (by rfl) ?_ ?_
                    rotate_left
                    · intro w; go_simp; try with_reducible rfl
                    try simp only [Act.put, List.setIfInBounds_toArray, List.set_cons_zero, List.set_cons_succ]
                    refine Kt.G.one 16 { dst := some 5, op := Op.assign (Operand.tmp 100), type := 9, pos := "desc.go:141", after := #[{ on := 15, ground := Ground.data }, { on := 13, ground := Ground.chain }, { on := 0, ground := Ground.phase }, { on := 1, ground := Ground.phase }, { on := 2, ground := Ground.phase }, { on := 3, ground := Ground.phase }, { on := 4, ground := Ground.phase }, { on := 5, ground := Ground.phase }, { on := 6, ground := Ground.phase }, { on := 7, ground := Ground.phase }, { on := 8, ground := Ground.phase }, { on := 9, ground := Ground.phase }, { on := 10, ground := Ground.phase }, { on := 11, ground := Ground.phase }, { on := 12, ground := Ground.phase }, { on := 13, ground := Ground.phase }, { on := 14, ground := Ground.phase }, { on := 15, ground := Ground.phase }], guard := none } rfl (by kernel_rfl) (by rfl) (fun K hK => ?_)
                    go_simp
                    refine hK.out _ _ (Kt.G.late (by kernel_rfl)) (fun _ => ?_)
                    clear hK K
                    try simp only [Act.put, List.setIfInBounds_toArray, List.set_cons_zero, List.set_cons_succ]
                    refine Kt.G.done (by kernel_rfl) (NoPanic.normal ?_) _
                    have HBZ := Lib.hid (Kt.bthen HB3.out hHeld.bel)
                    rw [HR5.out]
                    clear hHeld z1 z2 z3
                    go_wp2_with fail
                    go_roundw
                    case rel => exact ⟨j + 1, hjl, congrArg (Value.int .i64) hwj, rfl, HBZ⟩
                    case measure => rw [hwj]; exact meas_d hjl
                · go_simp
                  refine hK.out _ _ (fun _ => hHeld.alloc _) (fun hHeld => ?_)
                  replace hHeld := (hHeld rfl).add (heap_alloc_new _ _)
                  clear hK K
                  try simp only [Act.put, List.setIfInBounds_toArray, List.set_cons_zero, List.set_cons_succ]
                  refine Kt.G.push hHeld (fun _ => ?_)
                  refine Kt.G.one 5 { dst := some 90, op := Op.call { callee := Callee.value (Operand.func 35), args := #[Operand.tmp 89], argTypes := #[103] }, type := 9, pos := "desc.go:141", after := #[{ on := 4, ground := Ground.data }], guard := none } rfl (by kernel_rfl) (by rfl) (fun K hK => ?_)
                  go_simp
                  refine (HPA.out _ _ (by first | exact hHeld.row _ (List.Mem.head _) | exact hHeld.row _ (List.Mem.tail _ (List.Mem.head _)) | (have h := hHeld.row _ (List.Mem.head _); dsimp only at h; rw [World.size_alloc] at h; exact h) | (have h := hHeld.row _ (List.Mem.tail _ (List.Mem.head _)); dsimp only at h; rw [World.size_alloc] at h; exact h))).mono ?_; rintro en xw ⟨rfl, hb⟩
                  refine hK.out _ _ (fun _ => hHeld.on hb) (fun hHeld => ?_)
                  have hHeld := hHeld rfl
                  clear hK K
                  try simp only [Act.put, List.setIfInBounds_toArray, List.set_cons_zero, List.set_cons_succ]
                  clear hb
                  refine Kt.G.one 8 { dst := some 93, op := Op.call { callee := Callee.value (Operand.func 36), args := #[Operand.tmp 92], argTypes := #[3] }, type := 9, pos := "desc.go:141", after := #[{ on := 7, ground := Ground.data }, { on := 5, ground := Ground.chain }], guard := none } rfl (by kernel_rfl) (by rfl) (fun K hK => ?_)
                  go_simp
                  refine (HPW.out _).mono ?_; rintro en xw ⟨rfl, hb⟩
                  refine hK.out _ _ (fun _ => hHeld.on hb) (fun hHeld => ?_)
                  have hHeld := hHeld rfl
                  clear hK K
                  try simp only [Act.put, List.setIfInBounds_toArray, List.set_cons_zero, List.set_cons_succ]
                  clear hb
                  refine Kt.G.takeP 9 { dst := some 94, op := Op.binOp BinOp.add 9 (Operand.tmp 90) (Operand.tmp 93) 9, type := 9, pos := "desc.go:141", after := #[{ on := 5, ground := Ground.data }, { on := 8, ground := Ground.data }], guard := none } ?_ (fun _ => hHeld) rfl (by kernel_rfl) (fun _ _ _ h => h) (by rfl) ?_ ?_
                  rotate_left
                  · intro w; go_simp; try with_reducible rfl
                  try simp only [Act.put, List.setIfInBounds_toArray, List.set_cons_zero, List.set_cons_succ]
                  refine Kt.G.one 13 { dst := some 98, op := Op.call { callee := Callee.value (Operand.func 35), args := #[Operand.tmp 97], argTypes := #[103] }, type := 9, pos := "desc.go:141", after := #[{ on := 12, ground := Ground.data }, { on := 8, ground := Ground.chain }], guard := none } rfl (by kernel_rfl) (by rfl) (fun K hK => ?_)
                  go_simp
                  refine (HPV.out _ _ (by first | exact hHeld.row _ (List.Mem.head _) | exact hHeld.row _ (List.Mem.tail _ (List.Mem.head _)) | (have h := hHeld.row _ (List.Mem.head _); dsimp only at h; rw [World.size_alloc] at h; exact h) | (have h := hHeld.row _ (List.Mem.tail _ (List.Mem.head _)); dsimp only at h; rw [World.size_alloc] at h; exact h))).mono ?_; rintro en xw ⟨rfl, hb⟩
                  refine hK.out _ _ (fun _ => hHeld.on hb) (fun hHeld => ?_)
                  have hHeld := hHeld rfl
                  clear hK K
                  try simp only [Act.put, List.setIfInBounds_toArray, List.set_cons_zero, List.set_cons_succ]
                  clear hb
                  refine Kt.G.takeP 14 { dst := some 99, op := Op.binOp BinOp.add 9 (Operand.tmp 94) (Operand.tmp 98) 9, type := 9, pos := "desc.go:141", after := #[{ on := 9, ground := Ground.data }, { on := 13, ground := Ground.data }], guard := none } ?_ (fun _ => hHeld) rfl (by kernel_rfl) (fun _ _ _ h => h) (by rfl) ?_ ?_
                  rotate_left
                  · intro w; go_simp; try with_reducible rfl
                  try simp only [Act.put, List.setIfInBounds_toArray, List.set_cons_zero, List.set_cons_succ]
                  refine Kt.G.takeP 15 { dst := some 100, op := Op.binOp BinOp.add 9 (Operand.tmp 85) (Operand.tmp 99) 9, type := 9, pos := "desc.go:141", after := #[{ on := 0, ground := Ground.data }, { on := 14, ground := Ground.data }], guard := none } ?_ (fun _ => hHeld) rfl (by kernel_rfl) (fun _ _ _ h => h) (by rfl) ?_ ?_
                  rotate_left
                  · intro w; go_simp; try with_reducible rfl
                  try simp only [Act.put, List.setIfInBounds_toArray, List.set_cons_zero, List.set_cons_succ]
                  refine Kt.G.one 16 { dst := some 5, op := Op.assign (Operand.tmp 100), type := 9, pos := "desc.go:141", after := #[{ on := 15, ground := Ground.data }, { on := 13, ground := Ground.chain }, { on := 0, ground := Ground.phase }, { on := 1, ground := Ground.phase }, { on := 2, ground := Ground.phase }, { on := 3, ground := Ground.phase }, { on := 4, ground := Ground.phase }, { on := 5, ground := Ground.phase }, { on := 6, ground := Ground.phase }, { on := 7, ground := Ground.phase }, { on := 8, ground := Ground.phase }, { on := 9, ground := Ground.phase }, { on := 10, ground := Ground.phase }, { on := 11, ground := Ground.phase }, { on := 12, ground := Ground.phase }, { on := 13, ground := Ground.phase }, { on := 14, ground := Ground.phase }, { on := 15, ground := Ground.phase }], guard := none } rfl (by kernel_rfl) (by rfl) (fun K hK => ?_)
                  go_simp
                  refine hK.out _ _ (Kt.G.late (by kernel_rfl)) (fun _ => ?_)
                  clear hK K
                  try simp only [Act.put, List.setIfInBounds_toArray, List.set_cons_zero, List.set_cons_succ]
                  refine Kt.G.done (by kernel_rfl) (NoPanic.normal ?_) _
                  have HBZ := Lib.hid (Kt.bthen HB3.out hHeld.bel)
                  rw [HR5.out]
                  clear hHeld z1 z2 z3
                  go_wp2_with fail
                  go_roundw
                  case rel => exact ⟨j + 1, hjl, congrArg (Value.int .i64) hwj, rfl, HBZ⟩
                  case measure => rw [hwj]; exact meas_d hjl
              · go_simp
                refine hK.out _ _ (fun _ => hHeld.alloc _) (fun hHeld => ?_)
                replace hHeld := (hHeld rfl).add (heap_alloc_new _ _)
                clear hK K
                try simp only [Act.put, List.setIfInBounds_toArray, List.set_cons_zero, List.set_cons_succ]
                refine Kt.G.push hHeld (fun _ => ?_)
                refine Kt.G.one 4 { dst := some 89, op := Op.buildSlice 103 4 #[(0, Operand.const (Value.int IntKind.i64 7)), (1, Operand.const (Value.int IntKind.i64 5)), (2, Operand.tmp 86), (3, Operand.tmp 88)], type := 103, pos := "desc.go:141", after := #[{ on := 1, ground := Ground.data }, { on := 3, ground := Ground.data }], guard := none } rfl (by kernel_rfl) (by rfl) (fun K hK => ?_)
                go_simp
                refine hK.out _ _ (fun _ => hHeld.alloc _) (fun hHeld => ?_)
                replace hHeld := (hHeld rfl).add (heap_alloc_new _ _)
                clear hK K
                try simp only [Act.put, List.setIfInBounds_toArray, List.set_cons_zero, List.set_cons_succ]
                refine Kt.G.push hHeld (fun _ => ?_)
                refine Kt.G.one 5 { dst := some 90, op := Op.call { callee := Callee.value (Operand.func 35), args := #[Operand.tmp 89], argTypes := #[103] }, type := 9, pos := "desc.go:141", after := #[{ on := 4, ground := Ground.data }], guard := none } rfl (by kernel_rfl) (by rfl) (fun K hK => ?_)
                go_simp
                refine (HPA.out _ _ (by first | exact hHeld.row _ (List.Mem.head _) | exact hHeld.row _ (List.Mem.tail _ (List.Mem.head _)) | (have h := hHeld.row _ (List.Mem.head _); dsimp only at h; rw [World.size_alloc] at h; exact h) | (have h := hHeld.row _ (List.Mem.tail _ (List.Mem.head _)); dsimp only at h; rw [World.size_alloc] at h; exact h))).mono ?_; rintro en xw ⟨rfl, hb⟩
                refine hK.out _ _ (fun _ => hHeld.on hb) (fun hHeld => ?_)
                have hHeld := hHeld rfl
                clear hK K
                try simp only [Act.put, List.setIfInBounds_toArray, List.set_cons_zero, List.set_cons_succ]
                clear hb
                refine Kt.G.one 8 { dst := some 93, op := Op.call { callee := Callee.value (Operand.func 36), args := #[Operand.tmp 92], argTypes := #[3] }, type := 9, pos := "desc.go:141", after := #[{ on := 7, ground := Ground.data }, { on := 5, ground := Ground.chain }], guard := none } rfl (by kernel_rfl) (by rfl) (fun K hK => ?_)
                go_simp
                refine (HPW.out _).mono ?_; rintro en xw ⟨rfl, hb⟩
                refine hK.out _ _ (fun _ => hHeld.on hb) (fun hHeld => ?_)
                have hHeld := hHeld rfl
                clear hK K
                try simp only [Act.put, List.setIfInBounds_toArray, List.set_cons_zero, List.set_cons_succ]
                clear hb
                refine Kt.G.takeP 9 { dst := some 94, op := Op.binOp BinOp.add 9 (Operand.tmp 90) (Operand.tmp 93) 9, type := 9, pos := "desc.go:141", after := #[{ on := 5, ground := Ground.data }, { on := 8, ground := Ground.data }], guard := none } ?_ (fun _ => hHeld) rfl (by kernel_rfl) (fun _ _ _ h => h) (by rfl) ?_ ?_
                rotate_left
                · intro w; go_simp; try with_reducible rfl
                try simp only [Act.put, List.setIfInBounds_toArray, List.set_cons_zero, List.set_cons_succ]
                refine Kt.G.one 13 { dst := some 98, op := Op.call { callee := Callee.value (Operand.func 35), args := #[Operand.tmp 97], argTypes := #[103] }, type := 9, pos := "desc.go:141", after := #[{ on := 12, ground := Ground.data }, { on := 8, ground := Ground.chain }], guard := none } rfl (by kernel_rfl) (by rfl) (fun K hK => ?_)
                go_simp
                refine (HPV.out _ _ (by first | exact hHeld.row _ (List.Mem.head _) | exact hHeld.row _ (List.Mem.tail _ (List.Mem.head _)) | (have h := hHeld.row _ (List.Mem.head _); dsimp only at h; rw [World.size_alloc] at h; exact h) | (have h := hHeld.row _ (List.Mem.tail _ (List.Mem.head _)); dsimp only at h; rw [World.size_alloc] at h; exact h))).mono ?_; rintro en xw ⟨rfl, hb⟩
                refine hK.out _ _ (fun _ => hHeld.on hb) (fun hHeld => ?_)
                have hHeld := hHeld rfl
                clear hK K
                try simp only [Act.put, List.setIfInBounds_toArray, List.set_cons_zero, List.set_cons_succ]
                clear hb
                refine Kt.G.takeP 14 { dst := some 99, op := Op.binOp BinOp.add 9 (Operand.tmp 94) (Operand.tmp 98) 9, type := 9, pos := "desc.go:141", after := #[{ on := 9, ground := Ground.data }, { on := 13, ground := Ground.data }], guard := none } ?_ (fun _ => hHeld) rfl (by kernel_rfl) (fun _ _ _ h => h) (by rfl) ?_ ?_
                rotate_left
                · intro w; go_simp; try with_reducible rfl
                try simp only [Act.put, List.setIfInBounds_toArray, List.set_cons_zero, List.set_cons_succ]
                refine Kt.G.takeP 15 { dst := some 100, op := Op.binOp BinOp.add 9 (Operand.tmp 85) (Operand.tmp 99) 9, type := 9, pos := "desc.go:141", after := #[{ on := 0, ground := Ground.data }, { on := 14, ground := Ground.data }], guard := none } ?_ (fun _ => hHeld) rfl (by kernel_rfl) (fun _ _ _ h => h) (by rfl) ?_ ?_
                rotate_left
                · intro w; go_simp; try with_reducible rfl
                try simp only [Act.put, List.setIfInBounds_toArray, List.set_cons_zero, List.set_cons_succ]
                refine Kt.G.one 16 { dst := some 5, op := Op.assign (Operand.tmp 100), type := 9, pos := "desc.go:141", after := #[{ on := 15, ground := Ground.data }, { on := 13, ground := Ground.chain }, { on := 0, ground := Ground.phase }, { on := 1, ground := Ground.phase }, { on := 2, ground := Ground.phase }, { on := 3, ground := Ground.phase }, { on := 4, ground := Ground.phase }, { on := 5, ground := Ground.phase }, { on := 6, ground := Ground.phase }, { on := 7, ground := Ground.phase }, { on := 8, ground := Ground.phase }, { on := 9, ground := Ground.phase }, { on := 10, ground := Ground.phase }, { on := 11, ground := Ground.phase }, { on := 12, ground := Ground.phase }, { on := 13, ground := Ground.phase }, { on := 14, ground := Ground.phase }, { on := 15, ground := Ground.phase }], guard := none } rfl (by kernel_rfl) (by rfl) (fun K hK => ?_)
                go_simp
                refine hK.out _ _ (Kt.G.late (by kernel_rfl)) (fun _ => ?_)
                clear hK K
                try simp only [Act.put, List.setIfInBounds_toArray, List.set_cons_zero, List.set_cons_succ]
                refine Kt.G.done (by kernel_rfl) (NoPanic.normal ?_) _
                have HBZ := Lib.hid (Kt.bthen HB3.out hHeld.bel)
                rw [HR5.out]
                clear hHeld z1 z2 z3
                go_wp2_with fail
                go_roundw
                case rel => exact ⟨j + 1, hjl, congrArg (Value.int .i64) hwj, rfl, HBZ⟩
                case measure => rw [hwj]; exact meas_d hjl
            | false =>
              rw [hin] at hae k1
              have hae' : x.ad = ad := by rw [← hae]; simp
              subst hae'
              clear hae
              go_upto_region 20 with fail
              obtain ⟨w3, hw3⟩ : ∃ W, wr.alloc (.cells #[.int .i64 x.ad, .bool false, .int .i64 x.ki, .int .i64 x.mx, .int .i64 x.iv] 43) = W := ⟨_, rfl⟩
              have HR3 : Hid (w3.heap[wr.heap.size]? = some (.cells #[.int .i64 x.ad, .bool false, .int .i64 x.ki, .int .i64 x.mx, .int .i64 x.iv] 43 (0, 0))) := Lib.hid (by rw [← hw3]; exact heap_alloc_new _ _)
              have HB3 : Hid (Below xw.heap.size xw w3) := Lib.hid (by rw [← hw3]; exact Kt.balloc HBY.out _)
              have HR5 : Hid (BS ++ (A4 ++ B2 ++ C1) = bs' ((facesP 0 (c.fs.take k)).flatten ++ (faceD k f ++ f.ex.flatten) ++ ((f.es.take (j + 1)).map endT).flatten)) := Lib.hid (by
                rw [← HNQ.out.1, ← HNQ.out.2.1, ← HNQ.out.2.2.1, ← HNQ.out.2.2.2, HTJ.out, List.map_append, List.map_cons, List.map_nil, List.flatten_append, List.flatten_cons, List.flatten_nil, HENT.out]
                apply Kt.bytes_eq
                simp [bs'])
              have hwj := wrap_d (show j ≤ 2097152 by have := HOF.out.ne; omega)
              rw [hw3]
              clear hw3 k0 k1 k2 k3 k4
              refine Kt.G.start 16 (Kt.Fb w3 [(wr.heap.size, #[.int .i64 x.ad, .bool false, .int .i64 x.ki, .int .i64 x.mx, .int .i64 x.iv], 43)]) (by kernel_rfl) ((Kt.Fb.nil w3 (Below.refl _ w3)).add HR3.out).drew (fun hHeld => ?_)
              refine Kt.G.takeP 0 { dst := some 85, op := Op.move (Operand.tmp 5), type := 9, pos := "desc.go:141", after := #[], guard := none } ?_ (fun _ => hHeld) rfl (by kernel_rfl) (fun _ _ _ h => h) (by rfl) ?_ ?_
              rotate_left
              · intro w; go_simp; try with_reducible rfl
              try simp only [Act.put, List.setIfInBounds_toArray, List.set_cons_zero, List.set_cons_succ]
              refine Kt.G.takeP 1 { dst := some 86, op := Op.move (Operand.tmp 11), type := 3, pos := "desc.go:141", after := #[], guard := none } ?_ (fun _ => hHeld) rfl (by kernel_rfl) (fun _ _ _ h => h) (by rfl) ?_ ?_
              rotate_left
              · intro w; go_simp; try with_reducible rfl
              try simp only [Act.put, List.setIfInBounds_toArray, List.set_cons_zero, List.set_cons_succ]
              refine Kt.G.takeP 2 { dst := some 87, op := Op.fieldAddr 43 (Operand.tmp 10) 2, type := 0, pos := "desc.go:141", after := #[], guard := none } ?_ (fun _ => hHeld) rfl (by kernel_rfl) (fun _ _ _ h => h) (by rfl) ?_ ?_
              rotate_left
              · intro w; go_simp; try with_reducible rfl
              try simp only [Act.put, List.setIfInBounds_toArray, List.set_cons_zero, List.set_cons_succ]
              refine Kt.G.take 3 { dst := some 88, op := Op.load 3 (Operand.tmp 87), type := 3, pos := "desc.go:141", after := #[{ on := 2, ground := Ground.data }], guard := none } ?_ hHeld rfl (by kernel_rfl) (fun _ _ _ h => h) (by rfl) ?_ ?_
              rotate_left
              · intro w hSw; have r0 := hSw.row (wr.heap.size, #[.int .i64 x.ad, .bool false, .int .i64 x.ki, .int .i64 x.mx, .int .i64 x.iv], 43) (by simp); have c0 := fun i => cell_of_row _ _ i _ _ _ r0; dsimp only at *; go_simp; try with_reducible rfl
              try simp only [Act.put, List.setIfInBounds_toArray, List.set_cons_zero, List.set_cons_succ]
              refine Kt.G.takeP 6 { dst := some 91, op := Op.fieldAddr 43 (Operand.tmp 10) 3, type := 0, pos := "desc.go:141", after := #[], guard := none } ?_ (fun _ => hHeld) rfl (by kernel_rfl) (fun _ _ _ h => h) (by rfl) ?_ ?_
              rotate_left
              · intro w; go_simp; try with_reducible rfl
              try simp only [Act.put, List.setIfInBounds_toArray, List.set_cons_zero, List.set_cons_succ]
              refine Kt.G.take 7 { dst := some 92, op := Op.load 3 (Operand.tmp 91), type := 3, pos := "desc.go:141", after := #[{ on := 6, ground := Ground.data }], guard := none } ?_ hHeld rfl (by kernel_rfl) (fun _ _ _ h => h) (by rfl) ?_ ?_
              rotate_left
              · intro w hSw; have r0 := hSw.row (wr.heap.size, #[.int .i64 x.ad, .bool false, .int .i64 x.ki, .int .i64 x.mx, .int .i64 x.iv], 43) (by simp); have c0 := fun i => cell_of_row _ _ i _ _ _ r0; dsimp only at *; go_simp; try with_reducible rfl
              try simp only [Act.put, List.setIfInBounds_toArray, List.set_cons_zero, List.set_cons_succ]
              refine Kt.G.takeP 10 { dst := some 95, op := Op.fieldAddr 43 (Operand.tmp 10) 4, type := 0, pos := "desc.go:141", after := #[], guard := none } ?_ (fun _ => hHeld) rfl (by kernel_rfl) (fun _ _ _ h => h) (by rfl) ?_ ?_
              rotate_left
              · intro w; go_simp; try with_reducible rfl
              try simp only [Act.put, List.setIfInBounds_toArray, List.set_cons_zero, List.set_cons_succ]
              refine Kt.G.take 11 { dst := some 96, op := Op.load 3 (Operand.tmp 95), type := 3, pos := "desc.go:141", after := #[{ on := 10, ground := Ground.data }], guard := none } ?_ hHeld rfl (by kernel_rfl) (fun _ _ _ h => h) (by rfl) ?_ ?_
              rotate_left
              · intro w hSw; have r0 := hSw.row (wr.heap.size, #[.int .i64 x.ad, .bool false, .int .i64 x.ki, .int .i64 x.mx, .int .i64 x.iv], 43) (by simp); have c0 := fun i => cell_of_row _ _ i _ _ _ r0; dsimp only at *; go_simp; try with_reducible rfl
              try simp only [Act.put, List.setIfInBounds_toArray, List.set_cons_zero, List.set_cons_succ]
              refine Kt.G.two 4 12 { dst := some 89, op := Op.buildSlice 103 4 #[(0, Operand.const (Value.int IntKind.i64 7)), (1, Operand.const (Value.int IntKind.i64 5)), (2, Operand.tmp 86), (3, Operand.tmp 88)], type := 103, pos := "desc.go:141", after := #[{ on := 1, ground := Ground.data }, { on := 3, ground := Ground.data }], guard := none } { dst := some 97, op := Op.buildSlice 103 1 #[(0, Operand.tmp 96)], type := 103, pos := "desc.go:141", after := #[{ on := 11, ground := Ground.data }], guard := none } rfl rfl (by kernel_rfl) (by rfl) (by rfl) (fun K hK => ?_) (fun K hK => ?_)
              · go_simp
                refine hK.out _ _ (fun _ => hHeld.alloc _) (fun hHeld => ?_)
                replace hHeld := (hHeld rfl).add (heap_alloc_new _ _)
                clear hK K
                try simp only [Act.put, List.setIfInBounds_toArray, List.set_cons_zero, List.set_cons_succ]
                refine Kt.G.push hHeld (fun _ => ?_)
                refine Kt.G.two 5 12 { dst := some 90, op := Op.call { callee := Callee.value (Operand.func 35), args := #[Operand.tmp 89], argTypes := #[103] }, type := 9, pos := "desc.go:141", after := #[{ on := 4, ground := Ground.data }], guard := none } { dst := some 97, op := Op.buildSlice 103 1 #[(0, Operand.tmp 96)], type := 103, pos := "desc.go:141", after := #[{ on := 11, ground := Ground.data }], guard := none } rfl rfl (by kernel_rfl) (by rfl) (by rfl) (fun K hK => ?_) (fun K hK => ?_)
                · go_simp
                  refine (HPA.out _ _ (by first | exact hHeld.row _ (List.Mem.head _) | exact hHeld.row _ (List.Mem.tail _ (List.Mem.head _)) | (have h := hHeld.row _ (List.Mem.head _); dsimp only at h; rw [World.size_alloc] at h; exact h) | (have h := hHeld.row _ (List.Mem.tail _ (List.Mem.head _)); dsimp only at h; rw [World.size_alloc] at h; exact h))).mono ?_; rintro en xw ⟨rfl, hb⟩
                  refine hK.out _ _ (fun _ => hHeld.on hb) (fun hHeld => ?_)
                  have hHeld := hHeld rfl
                  clear hK K
                  try simp only [Act.put, List.setIfInBounds_toArray, List.set_cons_zero, List.set_cons_succ]
                  clear hb
                  refine Kt.G.two 8 12 { dst := some 93, op := Op.call { callee := Callee.value (Operand.func 36), args := #[Operand.tmp 92], argTypes := #[3] }, type := 9, pos := "desc.go:141", after := #[{ on := 7, ground := Ground.data }, { on := 5, ground := Ground.chain }], guard := none } { dst := some 97, op := Op.buildSlice 103 1 #[(0, Operand.tmp 96)], type := 103, pos := "desc.go:141", after := #[{ on := 11, ground := Ground.data }], guard := none } rfl rfl (by kernel_rfl) (by rfl) (by rfl) (fun K hK => ?_) (fun K hK => ?_)
                  · go_simp
                    refine (HPW.out _).mono ?_; rintro en xw ⟨rfl, hb⟩
                    refine hK.out _ _ (fun _ => hHeld.on hb) (fun hHeld => ?_)
                    have hHeld := hHeld rfl
                    clear hK K
                    try simp only [Act.put, List.setIfInBounds_toArray, List.set_cons_zero, List.set_cons_succ]
                    clear hb
                    refine Kt.G.takeP 9 { dst := some 94, op := Op.binOp BinOp.add 9 (Operand.tmp 90) (Operand.tmp 93) 9, type := 9, pos := "desc.go:141", after := #[{ on := 5, ground := Ground.data }, { on := 8, ground := Ground.data }], guard := none } ?_ (fun _ => hHeld) rfl (by kernel_rfl) (fun _ _ _ h => h) (by rfl) ?_ ?_
                    rotate_left
                    · intro w; go_simp; try with_reducible rfl
                    try simp only [Act.put, List.setIfInBounds_toArray, List.set_cons_zero, List.set_cons_succ]
                    refine Kt.G.one 12 { dst := some 97, op := Op.buildSlice 103 1 #[(0, Operand.tmp 96)], type := 103, pos := "desc.go:141", after := #[{ on := 11, ground := Ground.data }], guard := none } rfl (by kernel_rfl) (by rfl) (fun K hK => ?_)
                    go_simp
                    refine hK.out _ _ (fun _ => hHeld.alloc _) (fun hHeld => ?_)
                    replace hHeld := (hHeld rfl).add (heap_alloc_new _ _)
                    clear hK K
                    try simp only [Act.put, List.setIfInBounds_toArray, List.set_cons_zero, List.set_cons_succ]
                    refine Kt.G.push hHeld (fun _ => ?_)
                    refine Kt.G.one 13 { dst := some 98, op := Op.call { callee := Callee.value (Operand.func 35), args := #[Operand.tmp 97], argTypes := #[103] }, type := 9, pos := "desc.go:141", after := #[{ on := 12, ground := Ground.data }, { on := 8, ground := Ground.chain }], guard := none } rfl (by kernel_rfl) (by rfl) (fun K hK => ?_)
                    go_simp
                    refine (HPV.out _ _ (by first | exact hHeld.row _ (List.Mem.head _) | exact hHeld.row _ (List.Mem.tail _ (List.Mem.head _)) | (have h := hHeld.row _ (List.Mem.head _); dsimp only at h; rw [World.size_alloc] at h; exact h) | (have h := hHeld.row _ (List.Mem.tail _ (List.Mem.head _)); dsimp only at h; rw [World.size_alloc] at h; exact h))).mono ?_; rintro en xw ⟨rfl, hb⟩
                    refine hK.out _ _ (fun _ => hHeld.on hb) (fun hHeld => ?_)
                    have hHeld := hHeld rfl
                    clear hK K
                    try simp only [Act.put, List.setIfInBounds_toArray, List.set_cons_zero, List.set_cons_succ]
                    clear hb
                    refine Kt.G.takeP 14 { dst := some 99, op := Op.binOp BinOp.add 9 (Operand.tmp 94) (Operand.tmp 98) 9, type := 9, pos := "desc.go:141", after := #[{ on := 9, ground := Ground.data }, { on := 13, ground := Ground.data }], guard := none } ?_ (fun _ => hHeld) rfl (by kernel_rfl) (fun _ _ _ h => h) (by rfl) ?_ ?_
                    rotate_left
                    · intro w; go_simp; try with_reducible rfl
                    try simp only [Act.put, List.setIfInBounds_toArray, List.set_cons_zero, List.set_cons_succ]
                    refine Kt.G.takeP 15 { dst := some 100, op := Op.binOp BinOp.add 9 (Operand.tmp 85) (Operand.tmp 99) 9, type := 9, pos := "desc.go:141", after := #[{ on := 0, ground := Ground.data }, { on := 14, ground := Ground.data }], guard := none } ?_ (fun _ => hHeld) rfl (by kernel_rfl) (fun _ _ _ h => h) (by rfl) ?_ ?_
                    rotate_left
                    · intro w; go_simp; try with_reducible rfl
                    try simp only [Act.put, List.setIfInBounds_toArray, List.set_cons_zero, List.set_cons_succ]
                    refine Kt.G.one 16 { dst := some 5, op := Op.assign (Operand.tmp 100), type := 9, pos := "desc.go:141", after := #[{ on := 15, ground := Ground.data }, { on := 13, ground := Ground.chain }, { on := 0, ground := Ground.phase }, { on := 1, ground := Ground.phase }, { on := 2, ground := Ground.phase }, { on := 3, ground := Ground.phase }, { on := 4, ground := Ground.phase }, { on := 5, ground := Ground.phase }, { on := 6, ground := Ground.phase }, { on := 7, ground := Ground.phase }, { on := 8, ground := Ground.phase }, { on := 9, ground := Ground.phase }, { on := 10, ground := Ground.phase }, { on := 11, ground := Ground.phase }, { on := 12, ground := Ground.phase }, { on := 13, ground := Ground.phase }, { on := 14, ground := Ground.phase }, { on := 15, ground := Ground.phase }], guard := none } rfl (by kernel_rfl) (by rfl) (fun K hK => ?_)
                    go_simp
                    refine hK.out _ _ (Kt.G.late (by kernel_rfl)) (fun _ => ?_)
                    clear hK K
                    try simp only [Act.put, List.setIfInBounds_toArray, List.set_cons_zero, List.set_cons_succ]
                    refine Kt.G.done (by kernel_rfl) (NoPanic.normal ?_) _
                    have HBZ := Lib.hid (Kt.bthen HB3.out hHeld.bel)
                    rw [HR5.out]
                    clear hHeld z1 z2 z3
                    go_wp2_with fail
                    go_roundw
                    case rel => exact ⟨j + 1, hjl, congrArg (Value.int .i64) hwj, rfl, HBZ⟩
                    case measure => rw [hwj]; exact meas_d hjl
                  · go_simp
                    refine hK.out _ _ (fun _ => hHeld.alloc _) (fun hHeld => ?_)
                    replace hHeld := (hHeld rfl).add (heap_alloc_new _ _)
                    clear hK K
                    try simp only [Act.put, List.setIfInBounds_toArray, List.set_cons_zero, List.set_cons_succ]
                    refine Kt.G.push hHeld (fun _ => ?_)
                    refine Kt.G.one 8 { dst := some 93, op := Op.call { callee := Callee.value (Operand.func 36), args := #[Operand.tmp 92], argTypes := #[3] }, type := 9, pos := "desc.go:141", after := #[{ on := 7, ground := Ground.data }, { on := 5, ground := Ground.chain }], guard := none } rfl (by kernel_rfl) (by rfl) (fun K hK => ?_)
                    go_simp
                    refine (HPW.out _).mono ?_; rintro en xw ⟨rfl, hb⟩
                    refine hK.out _ _ (fun _ => hHeld.on hb) (fun hHeld => ?_)
                    have hHeld := hHeld rfl
                    clear hK K
                    try simp only [Act.put, List.setIfInBounds_toArray, List.set_cons_zero, List.set_cons_succ]
                    clear hb
                    refine Kt.G.takeP 9 { dst := some 94, op := Op.binOp BinOp.add 9 (Operand.tmp 90) (Operand.tmp 93) 9, type := 9, pos := "desc.go:141", after := #[{ on := 5, ground := Ground.data }, { on := 8, ground := Ground.data }], guard := none } ?_ (fun _ => hHeld) rfl (by kernel_rfl) (fun _ _ _ h => h) (by rfl) ?_ ?_
                    rotate_left
                    · intro w; go_simp; try with_reducible rfl
                    try simp only [Act.put, List.setIfInBounds_toArray, List.set_cons_zero, List.set_cons_succ]
                    refine Kt.G.one 13 { dst := some 98, op := Op.call { callee := Callee.value (Operand.func 35), args := #[Operand.tmp 97], argTypes := #[103] }, type := 9, pos := "desc.go:141", after := #[{ on := 12, ground := Ground.data }, { on := 8, ground := Ground.chain }], guard := none } rfl (by kernel_rfl) (by rfl) (fun K hK => ?_)
                    go_simp
                    refine (HPV.out _ _ (by first | exact hHeld.row _ (List.Mem.head _) | exact hHeld.row _ (List.Mem.tail _ (List.Mem.head _)) | (have h := hHeld.row _ (List.Mem.head _); dsimp only at h; rw [World.size_alloc] at h; exact h) | (have h := hHeld.row _ (List.Mem.tail _ (List.Mem.head _)); dsimp only at h; rw [World.size_alloc] at h; exact h))).mono ?_; rintro en xw ⟨rfl, hb⟩
                    refine hK.out _ _ (fun _ => hHeld.on hb) (fun hHeld => ?_)
                    have hHeld := hHeld rfl
                    clear hK K
                    try simp only [Act.put, List.setIfInBounds_toArray, List.set_cons_zero, List.set_cons_succ]
                    clear hb
                    refine Kt.G.takeP 14 { dst := some 99, op := Op.binOp BinOp.add 9 (Operand.tmp 94) (Operand.tmp 98) 9, type := 9, pos := "desc.go:141", after := #[{ on := 9, ground := Ground.data }, { on := 13, ground := Ground.data }], guard := none } ?_ (fun _ => hHeld) rfl (by kernel_rfl) (fun _ _ _ h => h) (by rfl) ?_ ?_
                    rotate_left
                    · intro w; go_simp; try with_reducible rfl
                    try simp only [Act.put, List.setIfInBounds_toArray, List.set_cons_zero, List.set_cons_succ]
                    refine Kt.G.takeP 15 { dst := some 100, op := Op.binOp BinOp.add 9 (Operand.tmp 85) (Operand.tmp 99) 9, type := 9, pos := "desc.go:141", after := #[{ on := 0, ground := Ground.data }, { on := 14, ground := Ground.data }], guard := none } ?_ (fun _ => hHeld) rfl (by kernel_rfl) (fun _ _ _ h => h) (by rfl) ?_ ?_
                    rotate_left
                    · intro w; go_simp; try with_reducible rfl
                    try simp only [Act.put, List.setIfInBounds_toArray, List.set_cons_zero, List.set_cons_succ]
                    refine Kt.G.one 16 { dst := some 5, op := Op.assign (Operand.tmp 100), type := 9, pos := "desc.go:141", after := #[{ on := 15, ground := Ground.data }, { on := 13, ground := Ground.chain }, { on := 0, ground := Ground.phase }, { on := 1, ground := Ground.phase }, { on := 2, ground := Ground.phase }, { on := 3, ground := Ground.phase }, { on := 4, ground := Ground.phase }, { on := 5, ground := Ground.phase }, { on := 6, ground := Ground.phase }, { on := 7, ground := Ground.phase }, { on := 8, ground := Ground.phase }, { on := 9, ground := Ground.phase }, { on := 10, ground := Ground.phase }, { on := 11, ground := Ground.phase }, { on := 12, ground := Ground.phase }, { on := 13, ground := Ground.phase }, { on := 14, ground := Ground.phase }, { on := 15, ground := Ground.phase }], guard := none } rfl (by kernel_rfl) (by rfl) (fun K hK => ?_)
                    go_simp
                    refine hK.out _ _ (Kt.G.late (by kernel_rfl)) (fun _ => ?_)
                    clear hK K
                    try simp only [Act.put, List.setIfInBounds_toArray, List.set_cons_zero, List.set_cons_succ]
                    refine Kt.G.done (by kernel_rfl) (NoPanic.normal ?_) _
                    have HBZ := Lib.hid (Kt.bthen HB3.out hHeld.bel)
                    rw [HR5.out]
                    clear hHeld z1 z2 z3
                    go_wp2_with fail
                    go_roundw
                    case rel => exact ⟨j + 1, hjl, congrArg (Value.int .i64) hwj, rfl, HBZ⟩
                    case measure => rw [hwj]; exact meas_d hjl
                · go_simp
                  refine hK.out _ _ (fun _ => hHeld.alloc _) (fun hHeld => ?_)
                  replace hHeld := (hHeld rfl).add (heap_alloc_new _ _)
                  clear hK K
                  try simp only [Act.put, List.setIfInBounds_toArray, List.set_cons_zero, List.set_cons_succ]
                  refine Kt.G.push hHeld (fun _ => ?_)
                  refine Kt.G.one 5 { dst := some 90, op := Op.call { callee := Callee.value (Operand.func 35), args := #[Operand.tmp 89], argTypes := #[103] }, type := 9, pos := "desc.go:141", after := #[{ on := 4, ground := Ground.data }], guard := none } rfl (by kernel_rfl) (by rfl) (fun K hK => ?_)
                  go_simp
                  refine (HPA.out _ _ (by first | exact hHeld.row _ (List.Mem.head _) | exact hHeld.row _ (List.Mem.tail _ (List.Mem.head _)) | (have h := hHeld.row _ (List.Mem.head _); dsimp only at h; rw [World.size_alloc] at h; exact h) | (have h := hHeld.row _ (List.Mem.tail _ (List.Mem.head _)); dsimp only at h; rw [World.size_alloc] at h; exact h))).mono ?_; rintro en xw ⟨rfl, hb⟩
                  refine hK.out _ _ (fun _ => hHeld.on hb) (fun hHeld => ?_)
                  have hHeld := hHeld rfl
                  clear hK K
                  try simp only [Act.put, List.setIfInBounds_toArray, List.set_cons_zero, List.set_cons_succ]
                  clear hb
                  refine Kt.G.one 8 { dst := some 93, op := Op.call { callee := Callee.value (Operand.func 36), args := #[Operand.tmp 92], argTypes := #[3] }, type := 9, pos := "desc.go:141", after := #[{ on := 7, ground := Ground.data }, { on := 5, ground := Ground.chain }], guard := none } rfl (by kernel_rfl) (by rfl) (fun K hK => ?_)
                  go_simp
                  refine (HPW.out _).mono ?_; rintro en xw ⟨rfl, hb⟩
                  refine hK.out _ _ (fun _ => hHeld.on hb) (fun hHeld => ?_)
                  have hHeld := hHeld rfl
                  clear hK K
                  try simp only [Act.put, List.setIfInBounds_toArray, List.set_cons_zero, List.set_cons_succ]
                  clear hb
                  refine Kt.G.takeP 9 { dst := some 94, op := Op.binOp BinOp.add 9 (Operand.tmp 90) (Operand.tmp 93) 9, type := 9, pos := "desc.go:141", after := #[{ on := 5, ground := Ground.data }, { on := 8, ground := Ground.data }], guard := none } ?_ (fun _ => hHeld) rfl (by kernel_rfl) (fun _ _ _ h => h) (by rfl) ?_ ?_
                  rotate_left
                  · intro w; go_simp; try with_reducible rfl
                  try simp only [Act.put, List.setIfInBounds_toArray, List.set_cons_zero, List.set_cons_succ]
                  refine Kt.G.one 13 { dst := some 98, op := Op.call { callee := Callee.value (Operand.func 35), args := #[Operand.tmp 97], argTypes := #[103] }, type := 9, pos := "desc.go:141", after := #[{ on := 12, ground := Ground.data }, { on := 8, ground := Ground.chain }], guard := none } rfl (by kernel_rfl) (by rfl) (fun K hK => ?_)
                  go_simp
                  refine (HPV.out _ _ (by first | exact hHeld.row _ (List.Mem.head _) | exact hHeld.row _ (List.Mem.tail _ (List.Mem.head _)) | (have h := hHeld.row _ (List.Mem.head _); dsimp only at h; rw [World.size_alloc] at h; exact h) | (have h := hHeld.row _ (List.Mem.tail _ (List.Mem.head _)); dsimp only at h; rw [World.size_alloc] at h; exact h))).mono ?_; rintro en xw ⟨rfl, hb⟩
                  refine hK.out _ _ (fun _ => hHeld.on hb) (fun hHeld => ?_)
                  have hHeld := hHeld rfl
                  clear hK K
                  try simp only [Act.put, List.setIfInBounds_toArray, List.set_cons_zero, List.set_cons_succ]
                  clear hb
                  refine Kt.G.takeP 14 { dst := some 99, op := Op.binOp BinOp.add 9 (Operand.tmp 94) (Operand.tmp 98) 9, type := 9, pos := "desc.go:141", after := #[{ on := 9, ground := Ground.data }, { on := 13, ground := Ground.data }], guard := none } ?_ (fun _ => hHeld) rfl (by kernel_rfl) (fun _ _ _ h => h) (by rfl) ?_ ?_
                  rotate_left
                  · intro w; go_simp; try with_reducible rfl
                  try simp only [Act.put, List.setIfInBounds_toArray, List.set_cons_zero, List.set_cons_succ]
                  refine Kt.G.takeP 15 { dst := some 100, op := Op.binOp BinOp.add 9 (Operand.tmp 85) (Operand.tmp 99) 9, type := 9, pos := "desc.go:141", after := #[{ on := 0, ground := Ground.data }, { on := 14, ground := Ground.data }], guard := none } ?_ (fun _ => hHeld) rfl (by kernel_rfl) (fun _ _ _ h => h) (by rfl) ?_ ?_
                  rotate_left
                  · intro w; go_simp; try with_reducible rfl
                  try simp only [Act.put, List.setIfInBounds_toArray, List.set_cons_zero, List.set_cons_succ]
                  refine Kt.G.one 16 { dst := some 5, op := Op.assign (Operand.tmp 100), type := 9, pos := "desc.go:141", after := #[{ on := 15, ground := Ground.data }, { on := 13, ground := Ground.chain }, { on := 0, ground := Ground.phase }, { on := 1, ground := Ground.phase }, { on := 2, ground := Ground.phase }, { on := 3, ground := Ground.phase }, { on := 4, ground := Ground.phase }, { on := 5, ground := Ground.phase }, { on := 6, ground := Ground.phase }, { on := 7, ground := Ground.phase }, { on := 8, ground := Ground.phase }, { on := 9, ground := Ground.phase }, { on := 10, ground := Ground.phase }, { on := 11, ground := Ground.phase }, { on := 12, ground := Ground.phase }, { on := 13, ground := Ground.phase }, { on := 14, ground := Ground.phase }, { on := 15, ground := Ground.phase }], guard := none } rfl (by kernel_rfl) (by rfl) (fun K hK => ?_)
                  go_simp
                  refine hK.out _ _ (Kt.G.late (by kernel_rfl)) (fun _ => ?_)
                  clear hK K
                  try simp only [Act.put, List.setIfInBounds_toArray, List.set_cons_zero, List.set_cons_succ]
                  refine Kt.G.done (by kernel_rfl) (NoPanic.normal ?_) _
                  have HBZ := Lib.hid (Kt.bthen HB3.out hHeld.bel)
                  rw [HR5.out]
                  clear hHeld z1 z2 z3
                  go_wp2_with fail
                  go_roundw
                  case rel => exact ⟨j + 1, hjl, congrArg (Value.int .i64) hwj, rfl, HBZ⟩
                  case measure => rw [hwj]; exact meas_d hjl
              · go_simp
                refine hK.out _ _ (fun _ => hHeld.alloc _) (fun hHeld => ?_)
                replace hHeld := (hHeld rfl).add (heap_alloc_new _ _)
                clear hK K
                try simp only [Act.put, List.setIfInBounds_toArray, List.set_cons_zero, List.set_cons_succ]
                refine Kt.G.push hHeld (fun _ => ?_)
                refine Kt.G.one 4 { dst := some 89, op := Op.buildSlice 103 4 #[(0, Operand.const (Value.int IntKind.i64 7)), (1, Operand.const (Value.int IntKind.i64 5)), (2, Operand.tmp 86), (3, Operand.tmp 88)], type := 103, pos := "desc.go:141", after := #[{ on := 1, ground := Ground.data }, { on := 3, ground := Ground.data }], guard := none } rfl (by kernel_rfl) (by rfl) (fun K hK => ?_)
                go_simp
                refine hK.out _ _ (fun _ => hHeld.alloc _) (fun hHeld => ?_)
                replace hHeld := (hHeld rfl).add (heap_alloc_new _ _)
                clear hK K
                try simp only [Act.put, List.setIfInBounds_toArray, List.set_cons_zero, List.set_cons_succ]
                refine Kt.G.push hHeld (fun _ => ?_)
                refine Kt.G.one 5 { dst := some 90, op := Op.call { callee := Callee.value (Operand.func 35), args := #[Operand.tmp 89], argTypes := #[103] }, type := 9, pos := "desc.go:141", after := #[{ on := 4, ground := Ground.data }], guard := none } rfl (by kernel_rfl) (by rfl) (fun K hK => ?_)
                go_simp
                refine (HPA.out _ _ (by first | exact hHeld.row _ (List.Mem.head _) | exact hHeld.row _ (List.Mem.tail _ (List.Mem.head _)) | (have h := hHeld.row _ (List.Mem.head _); dsimp only at h; rw [World.size_alloc] at h; exact h) | (have h := hHeld.row _ (List.Mem.tail _ (List.Mem.head _)); dsimp only at h; rw [World.size_alloc] at h; exact h))).mono ?_; rintro en xw ⟨rfl, hb⟩
                refine hK.out _ _ (fun _ => hHeld.on hb) (fun hHeld => ?_)
                have hHeld := hHeld rfl
                clear hK K
                try simp only [Act.put, List.setIfInBounds_toArray, List.set_cons_zero, List.set_cons_succ]
                clear hb
                refine Kt.G.one 8 { dst := some 93, op := Op.call { callee := Callee.value (Operand.func 36), args := #[Operand.tmp 92], argTypes := #[3] }, type := 9, pos := "desc.go:141", after := #[{ on := 7, ground := Ground.data }, { on := 5, ground := Ground.chain }], guard := none } rfl (by kernel_rfl) (by rfl) (fun K hK => ?_)
                go_simp
                refine (HPW.out _).mono ?_; rintro en xw ⟨rfl, hb⟩
                refine hK.out _ _ (fun _ => hHeld.on hb) (fun hHeld => ?_)
                have hHeld := hHeld rfl
                clear hK K
                try simp only [Act.put, List.setIfInBounds_toArray, List.set_cons_zero, List.set_cons_succ]
                clear hb
                refine Kt.G.takeP 9 { dst := some 94, op := Op.binOp BinOp.add 9 (Operand.tmp 90) (Operand.tmp 93) 9, type := 9, pos := "desc.go:141", after := #[{ on := 5, ground := Ground.data }, { on := 8, ground := Ground.data }], guard := none } ?_ (fun _ => hHeld) rfl (by kernel_rfl) (fun _ _ _ h => h) (by rfl) ?_ ?_
                rotate_left
                · intro w; go_simp; try with_reducible rfl
                try simp only [Act.put, List.setIfInBounds_toArray, List.set_cons_zero, List.set_cons_succ]
                refine Kt.G.one 13 { dst := some 98, op := Op.call { callee := Callee.value (Operand.func 35), args := #[Operand.tmp 97], argTypes := #[103] }, type := 9, pos := "desc.go:141", after := #[{ on := 12, ground := Ground.data }, { on := 8, ground := Ground.chain }], guard := none } rfl (by kernel_rfl) (by rfl) (fun K hK => ?_)
                go_simp
                refine (HPV.out _ _ (by first | exact hHeld.row _ (List.Mem.head _) | exact hHeld.row _ (List.Mem.tail _ (List.Mem.head _)) | (have h := hHeld.row _ (List.Mem.head _); dsimp only at h; rw [World.size_alloc] at h; exact h) | (have h := hHeld.row _ (List.Mem.tail _ (List.Mem.head _)); dsimp only at h; rw [World.size_alloc] at h; exact h))).mono ?_; rintro en xw ⟨rfl, hb⟩
                refine hK.out _ _ (fun _ => hHeld.on hb) (fun hHeld => ?_)
                have hHeld := hHeld rfl
                clear hK K
                try simp only [Act.put, List.setIfInBounds_toArray, List.set_cons_zero, List.set_cons_succ]
                clear hb
                refine Kt.G.takeP 14 { dst := some 99, op := Op.binOp BinOp.add 9 (Operand.tmp 94) (Operand.tmp 98) 9, type := 9, pos := "desc.go:141", after := #[{ on := 9, ground := Ground.data }, { on := 13, ground := Ground.data }], guard := none } ?_ (fun _ => hHeld) rfl (by kernel_rfl) (fun _ _ _ h => h) (by rfl) ?_ ?_
                rotate_left
                · intro w; go_simp; try with_reducible rfl
                try simp only [Act.put, List.setIfInBounds_toArray, List.set_cons_zero, List.set_cons_succ]
                refine Kt.G.takeP 15 { dst := some 100, op := Op.binOp BinOp.add 9 (Operand.tmp 85) (Operand.tmp 99) 9, type := 9, pos := "desc.go:141", after := #[{ on := 0, ground := Ground.data }, { on := 14, ground := Ground.data }], guard := none } ?_ (fun _ => hHeld) rfl (by kernel_rfl) (fun _ _ _ h => h) (by rfl) ?_ ?_
                rotate_left
                · intro w; go_simp; try with_reducible rfl
                try simp only [Act.put, List.setIfInBounds_toArray, List.set_cons_zero, List.set_cons_succ]
                refine Kt.G.one 16 { dst := some 5, op := Op.assign (Operand.tmp 100), type := 9, pos := "desc.go:141", after := #[{ on := 15, ground := Ground.data }, { on := 13, ground := Ground.chain }, { on := 0, ground := Ground.phase }, { on := 1, ground := Ground.phase }, { on := 2, ground := Ground.phase }, { on := 3, ground := Ground.phase }, { on := 4, ground := Ground.phase }, { on := 5, ground := Ground.phase }, { on := 6, ground := Ground.phase }, { on := 7, ground := Ground.phase }, { on := 8, ground := Ground.phase }, { on := 9, ground := Ground.phase }, { on := 10, ground := Ground.phase }, { on := 11, ground := Ground.phase }, { on := 12, ground := Ground.phase }, { on := 13, ground := Ground.phase }, { on := 14, ground := Ground.phase }, { on := 15, ground := Ground.phase }], guard := none } rfl (by kernel_rfl) (by rfl) (fun K hK => ?_)
                go_simp
                refine hK.out _ _ (Kt.G.late (by kernel_rfl)) (fun _ => ?_)
                clear hK K
                try simp only [Act.put, List.setIfInBounds_toArray, List.set_cons_zero, List.set_cons_succ]
                refine Kt.G.done (by kernel_rfl) (NoPanic.normal ?_) _
                have HBZ := Lib.hid (Kt.bthen HB3.out hHeld.bel)
                rw [HR5.out]
                clear hHeld z1 z2 z3
                go_wp2_with fail
                go_roundw
                case rel => exact ⟨j + 1, hjl, congrArg (Value.int .i64) hwj, rfl, HBZ⟩
                case measure => rw [hwj]; exact meas_d hjl
          · obtain rfl : j = f.es.length := by omega
            have HNX : Hid (bs' ((facesP 0 (c.fs.take k)).flatten ++ (faceD k f ++ f.ex.flatten) ++ ((f.es.take f.es.length).map endT).flatten) = bs' (facesP 0 (c.fs.take (k + 1))).flatten) := Lib.hid (by
              rw [List.take_length, HTK.out, facesP_snoc, List.flatten_append, List.length_take, Nat.zero_add, Nat.min_eq_left hk]
              unfold faceP
              rw [List.flatten_cons, List.flatten_append, List.append_assoc, List.append_assoc])
            have HLX : Hid ((facesP 0 (c.fs.take (k + 1))).flatten.length ≤ 101 * (k + 1)) := Lib.hid (by
              rw [HTK.out, facesP_snoc, List.flatten_append, List.length_append, faceP_len]
              have := HLN.out
              have := HXL.out
              have := HOF.out.nx
              have := HOF.out.ne
              omega)
            have HFC2 : Hid (facesC [] c.fs = facesC (faceC l f).2 (c.fs.drop (k + 1))) := Lib.hid (by
              have h0 : (faceC l f).1 = 0 := by have := hne; simpa using this
              rw [HFC.out, HDR.out, facesC_cons, if_pos h0])
            have hwk := wrap_d (show k ≤ 2097152 by have := H4.out; omega)
            go_wp2_with fail
            rw [HNX.out]
            go_roundw
            case rel => exact ⟨k + 1, n2, (faceC l f).2, hlt, rfl, rfl, HFC2, Lib.hid (by have := HNN.out; have := HN2.out; omega), HLX, Lib.hid (HSX2.out.on HBY.out), Lib.hid (HGX2.out.trans (gb_below HBY.out _))⟩
            case measure => exact meas_d hlt
      · have hne : ((faceC l f).1 != 0) = true := by rw [bne_iff_ne]; exact hc
        have HWE : Hid (wCfg c = ([], (faceC l f).1)) := Lib.hid (by
          have e : facesC [] c.fs = (faceC l f).1 := by rw [HFC.out, HDR.out, facesC_cons, if_neg hc]
          rw [HWC.out, e, if_neg hc])
        have HBE := Lib.hid (HB1.out.grown HG2.out HSZ.out (fun j hj => by injection hj with hj; subst hj; exact HM.out.1))
        generalize (faceC l f).1 = code at *
        clear hc
        go_wp2_with fail
        go_ret2
        rw [HWE.out]
        exact ⟨rfl, HBE.out⟩
    · obtain rfl : k = c.fs.length := by omega
      have HR3 : Hid (wr.heap[w.heap.size]? = some (.cells #[.int .i64 c.va, .int .i64 c.nm, .int .i64 c.at_, .int .i64 c.pw, .slice FA c.fs.length fc] 24 (0, 0))) := Lib.hid ((HGB.out.block w.heap.size (Array.getElem?_eq_some_iff.1 HR1.out).1 (fun q => by injection q with q; have := HM.out.2; omega)).trans HR1.out)
      have HOK : Hid (wCfg c = (cfgT c, 0)) := Lib.hid (by
        have h0 : facesC [] c.fs = 0 := by rw [HFC.out, List.drop_length]; rfl
        rw [HWC.out, if_pos h0])
      obtain ⟨BS, hBS⟩ : ∃ b, bs' (facesP 0 (c.fs.take c.fs.length)).flatten = b := ⟨_, rfl⟩
      rw [hBS]
      have hbs : BS.size ≤ 404 := by rw [← hBS, bs_size]; have := HLN.out; have := H4.out; omega
      rw [List.take_length] at hBS
      have HBL : Hid ((bodyT c).length = BS.size) := Lib.hid (by rw [← hBS, bs_size]; rfl)
      obtain ⟨P2, hP2⟩ : ∃ b, bs' (putB [9, 2]) = b := ⟨_, rfl⟩
      obtain ⟨W2, hW2⟩ : ∃ b, bs' (putB [9 + (BS.size : Int), (9 + (BS.size : Int)) / 256]) = b := ⟨_, rfl⟩
      obtain ⟨P5, hP5⟩ : ∃ b, bs' (putB [(c.fs.length : Int), c.va, c.nm, c.at_, c.pw]) = b := ⟨_, rfl⟩
      have s2 : P2.size = 2 := by rw [← hP2, bs_size]; rfl
      have s3 : W2.size = 2 := by rw [← hW2, bs_size]; rfl
      have s5 : P5.size = 5 := by rw [← hP5, bs_size]; rfl
      have HP2 := Lib.hid (fun W K (hK : W.heap[K]? = some (.cells #[.int .i64 9, .int .i64 2] 3 (0, 0))) => put_row [9, 2] W K 2 rfl hK (by decide))
      have HPW := Lib.hid (fun W => dword_calls (9 + (BS.size : Int)) (by omega) W)
      have HP5 := Lib.hid (fun W K (hK : W.heap[K]? = some (.cells #[.int .i64 c.fs.length, .int .i64 c.va, .int .i64 c.nm, .int .i64 c.at_, .int .i64 c.pw] 3 (0, 0))) => put_row [(c.fs.length : Int), c.va, c.nm, c.at_, c.pw] W K 5 rfl hK (by simp))
      rw [hP2] at HP2
      rw [hW2] at HPW
      rw [hP5] at HP5
      have HR5 : Hid (P2 ++ W2 ++ P5 ++ BS = bs' (cfgT c)) := Lib.hid (by
        rw [← hP2, ← hP5, ← hBS]
        unfold cfgT headT
        rw [HBL.out, ← hW2]
        apply Kt.bytes_eq
        simp [bs', bodyT])
      have z1 : ¬ 9223372036854775807 < P2.size + W2.size := by omega
      have z2 : ¬ 9223372036854775807 < P2.size + W2.size + P5.size := by omega
      have z3 : ¬ 9223372036854775807 < P2.size + W2.size + P5.size + BS.size := by omega
      have h9 : IntKind.i64.wrap (9 + (BS.size : Int)) = 9 + (BS.size : Int) := by
        rw [IntKind.wrap_i64]
        omega
      rw [← h9] at HPW
      clear hP2 hW2 hP5 hBS s2 s3 s5 h9
      go_upto_region 23 with fail
      refine Kt.G.start 23 (Kt.Fb wr [(w.heap.size, #[.int .i64 c.va, .int .i64 c.nm, .int .i64 c.at_, .int .i64 c.pw, .slice FA c.fs.length fc], 24)]) (by kernel_rfl) ((Kt.Fb.nil wr (Below.refl _ wr)).add HR3.out).drew (fun hHeld => ?_)
      refine Kt.G.takeP 2 { dst := some 105, op := Op.move (Operand.tmp 5), type := 9, pos := "desc.go:144", after := #[], guard := none } ?_ (fun _ => hHeld) rfl (by kernel_rfl) (fun _ _ _ h => h) (by rfl) ?_ ?_
      rotate_left
      · intro wq; go_simp; try with_reducible rfl
      try simp only [Act.put, List.setIfInBounds_toArray, List.set_cons_zero, List.set_cons_succ]
      refine Kt.G.takeP 3 { dst := some 106, op := Op.call { callee := Callee.builtin Builtin.len, args := #[Operand.tmp 105], argTypes := #[9] }, type := 3, pos := "desc.go:144", after := #[{ on := 2, ground := Ground.data }], guard := none } ?_ (fun _ => hHeld) rfl (by kernel_rfl) (fun _ _ _ h => h) (by rfl) ?_ ?_
      rotate_left
      · intro wq; go_simp; try with_reducible rfl
      try simp only [Act.put, List.setIfInBounds_toArray, List.set_cons_zero, List.set_cons_succ]
      refine Kt.G.takeP 4 { dst := some 107, op := Op.binOp BinOp.add 3 (Operand.const (Value.int IntKind.i64 9)) (Operand.tmp 106) 3, type := 3, pos := "desc.go:144", after := #[{ on := 3, ground := Ground.data }], guard := none } ?_ (fun _ => hHeld) rfl (by kernel_rfl) (fun _ _ _ h => h) (by rfl) ?_ ?_
      rotate_left
      · intro wq; go_simp; try with_reducible rfl
      try simp only [Act.put, List.setIfInBounds_toArray, List.set_cons_zero, List.set_cons_succ]
      refine Kt.G.takeP 7 { dst := some 110, op := Op.fieldAddr 24 (Operand.tmp 1) 4, type := 0, pos := "desc.go:144", after := #[], guard := none } ?_ (fun _ => hHeld) rfl (by kernel_rfl) (fun _ _ _ h => h) (by rfl) ?_ ?_
      rotate_left
      · intro wq; go_simp; try with_reducible rfl
      try simp only [Act.put, List.setIfInBounds_toArray, List.set_cons_zero, List.set_cons_succ]
      refine Kt.G.take 8 { dst := some 111, op := Op.load 22 (Operand.tmp 110), type := 22, pos := "desc.go:144", after := #[{ on := 7, ground := Ground.data }], guard := none } ?_ hHeld rfl (by kernel_rfl) (fun _ _ _ h => h) (by rfl) ?_ ?_
      rotate_left
      · intro wq hSw; have r0 := hSw.row (w.heap.size, #[.int .i64 c.va, .int .i64 c.nm, .int .i64 c.at_, .int .i64 c.pw, .slice FA c.fs.length fc], 24) (by simp); have c0 := fun i => cell_of_row _ _ i _ _ _ r0; dsimp only at *; go_simp; try with_reducible rfl
      try simp only [Act.put, List.setIfInBounds_toArray, List.set_cons_zero, List.set_cons_succ]
      refine Kt.G.takeP 9 { dst := some 112, op := Op.call { callee := Callee.builtin Builtin.len, args := #[Operand.tmp 111], argTypes := #[22] }, type := 3, pos := "desc.go:144", after := #[{ on := 8, ground := Ground.data }], guard := none } ?_ (fun _ => hHeld) rfl (by kernel_rfl) (fun _ _ _ h => h) (by rfl) ?_ ?_
      rotate_left
      · intro wq; go_simp; try with_reducible rfl
      try simp only [Act.put, List.setIfInBounds_toArray, List.set_cons_zero, List.set_cons_succ]
      refine Kt.G.takeP 10 { dst := some 113, op := Op.fieldAddr 24 (Operand.tmp 1) 0, type := 0, pos := "desc.go:144", after := #[], guard := none } ?_ (fun _ => hHeld) rfl (by kernel_rfl) (fun _ _ _ h => h) (by rfl) ?_ ?_
      rotate_left
      · intro wq; go_simp; try with_reducible rfl
      try simp only [Act.put, List.setIfInBounds_toArray, List.set_cons_zero, List.set_cons_succ]
      refine Kt.G.take 11 { dst := some 114, op := Op.load 3 (Operand.tmp 113), type := 3, pos := "desc.go:144", after := #[{ on := 10, ground := Ground.data }], guard := none } ?_ hHeld rfl (by kernel_rfl) (fun _ _ _ h => h) (by rfl) ?_ ?_
      rotate_left
      · intro wq hSw; have r0 := hSw.row (w.heap.size, #[.int .i64 c.va, .int .i64 c.nm, .int .i64 c.at_, .int .i64 c.pw, .slice FA c.fs.length fc], 24) (by simp); have c0 := fun i => cell_of_row _ _ i _ _ _ r0; dsimp only at *; go_simp; try with_reducible rfl
      try simp only [Act.put, List.setIfInBounds_toArray, List.set_cons_zero, List.set_cons_succ]
      refine Kt.G.takeP 12 { dst := some 115, op := Op.fieldAddr 24 (Operand.tmp 1) 1, type := 0, pos := "desc.go:144", after := #[], guard := none } ?_ (fun _ => hHeld) rfl (by kernel_rfl) (fun _ _ _ h => h) (by rfl) ?_ ?_
      rotate_left
      · intro wq; go_simp; try with_reducible rfl
      try simp only [Act.put, List.setIfInBounds_toArray, List.set_cons_zero, List.set_cons_succ]
      refine Kt.G.take 13 { dst := some 116, op := Op.load 3 (Operand.tmp 115), type := 3, pos := "desc.go:144", after := #[{ on := 12, ground := Ground.data }], guard := none } ?_ hHeld rfl (by kernel_rfl) (fun _ _ _ h => h) (by rfl) ?_ ?_
      rotate_left
      · intro wq hSw; have r0 := hSw.row (w.heap.size, #[.int .i64 c.va, .int .i64 c.nm, .int .i64 c.at_, .int .i64 c.pw, .slice FA c.fs.length fc], 24) (by simp); have c0 := fun i => cell_of_row _ _ i _ _ _ r0; dsimp only at *; go_simp; try with_reducible rfl
      try simp only [Act.put, List.setIfInBounds_toArray, List.set_cons_zero, List.set_cons_succ]
      refine Kt.G.takeP 14 { dst := some 117, op := Op.fieldAddr 24 (Operand.tmp 1) 2, type := 0, pos := "desc.go:144", after := #[], guard := none } ?_ (fun _ => hHeld) rfl (by kernel_rfl) (fun _ _ _ h => h) (by rfl) ?_ ?_
      rotate_left
      · intro wq; go_simp; try with_reducible rfl
      try simp only [Act.put, List.setIfInBounds_toArray, List.set_cons_zero, List.set_cons_succ]
      refine Kt.G.take 15 { dst := some 118, op := Op.load 3 (Operand.tmp 117), type := 3, pos := "desc.go:144", after := #[{ on := 14, ground := Ground.data }], guard := none } ?_ hHeld rfl (by kernel_rfl) (fun _ _ _ h => h) (by rfl) ?_ ?_
      rotate_left
      · intro wq hSw; have r0 := hSw.row (w.heap.size, #[.int .i64 c.va, .int .i64 c.nm, .int .i64 c.at_, .int .i64 c.pw, .slice FA c.fs.length fc], 24) (by simp); have c0 := fun i => cell_of_row _ _ i _ _ _ r0; dsimp only at *; go_simp; try with_reducible rfl
      try simp only [Act.put, List.setIfInBounds_toArray, List.set_cons_zero, List.set_cons_succ]
      refine Kt.G.takeP 16 { dst := some 119, op := Op.fieldAddr 24 (Operand.tmp 1) 3, type := 0, pos := "desc.go:144", after := #[], guard := none } ?_ (fun _ => hHeld) rfl (by kernel_rfl) (fun _ _ _ h => h) (by rfl) ?_ ?_
      rotate_left
      · intro wq; go_simp; try with_reducible rfl
      try simp only [Act.put, List.setIfInBounds_toArray, List.set_cons_zero, List.set_cons_succ]
      refine Kt.G.take 17 { dst := some 120, op := Op.load 3 (Operand.tmp 119), type := 3, pos := "desc.go:144", after := #[{ on := 16, ground := Ground.data }], guard := none } ?_ hHeld rfl (by kernel_rfl) (fun _ _ _ h => h) (by rfl) ?_ ?_
      rotate_left
      · intro wq hSw; have r0 := hSw.row (w.heap.size, #[.int .i64 c.va, .int .i64 c.nm, .int .i64 c.at_, .int .i64 c.pw, .slice FA c.fs.length fc], 24) (by simp); have c0 := fun i => cell_of_row _ _ i _ _ _ r0; dsimp only at *; go_simp; try with_reducible rfl
      try simp only [Act.put, List.setIfInBounds_toArray, List.set_cons_zero, List.set_cons_succ]
      refine Kt.G.takeP 21 { dst := some 124, op := Op.move (Operand.tmp 5), type := 9, pos := "desc.go:144", after := #[], guard := none } ?_ (fun _ => hHeld) rfl (by kernel_rfl) (fun _ _ _ h => h) (by rfl) ?_ ?_
      rotate_left
      · intro wq; go_simp; try with_reducible rfl
      try simp only [Act.put, List.setIfInBounds_toArray, List.set_cons_zero, List.set_cons_succ]
      refine Kt.G.two 0 18 { dst := some 103, op := Op.buildSlice 103 2 #[(0, Operand.const (Value.int IntKind.i64 9)), (1, Operand.const (Value.int IntKind.i64 2))], type := 103, pos := "desc.go:144", after := #[], guard := none } { dst := some 121, op := Op.buildSlice 103 5 #[(0, Operand.tmp 112), (1, Operand.tmp 114), (2, Operand.tmp 116), (3, Operand.tmp 118), (4, Operand.tmp 120)], type := 103, pos := "desc.go:144", after := #[{ on := 9, ground := Ground.data }, { on := 11, ground := Ground.data }, { on := 13, ground := Ground.data }, { on := 15, ground := Ground.data }, { on := 17, ground := Ground.data }], guard := none } rfl rfl (by kernel_rfl) (by rfl) (by rfl) (fun K hK => ?_) (fun K hK => ?_)
      · go_simp
        refine hK.out _ _ (fun _ => hHeld.alloc _) (fun hHeld => ?_)
        replace hHeld := (hHeld rfl).add (heap_alloc_new _ _)
        clear hK K
        try simp only [Act.put, List.setIfInBounds_toArray, List.set_cons_zero, List.set_cons_succ]
        refine Kt.G.push hHeld (fun _ => ?_)
        refine Kt.G.two 1 18 { dst := some 104, op := Op.call { callee := Callee.value (Operand.func 35), args := #[Operand.tmp 103], argTypes := #[103] }, type := 9, pos := "desc.go:144", after := #[{ on := 0, ground := Ground.data }], guard := none } { dst := some 121, op := Op.buildSlice 103 5 #[(0, Operand.tmp 112), (1, Operand.tmp 114), (2, Operand.tmp 116), (3, Operand.tmp 118), (4, Operand.tmp 120)], type := 103, pos := "desc.go:144", after := #[{ on := 9, ground := Ground.data }, { on := 11, ground := Ground.data }, { on := 13, ground := Ground.data }, { on := 15, ground := Ground.data }, { on := 17, ground := Ground.data }], guard := none } rfl rfl (by kernel_rfl) (by rfl) (by rfl) (fun K hK => ?_) (fun K hK => ?_)
        · go_simp
          refine (HP2.out _ _ (by first | exact hHeld.row _ (List.Mem.head _) | exact hHeld.row _ (List.Mem.tail _ (List.Mem.head _)) | (have h := hHeld.row _ (List.Mem.head _); dsimp only at h; rw [World.size_alloc] at h; exact h) | (have h := hHeld.row _ (List.Mem.tail _ (List.Mem.head _)); dsimp only at h; rw [World.size_alloc] at h; exact h))).mono ?_; rintro en xw ⟨rfl, hb⟩
          refine hK.out _ _ (fun _ => hHeld.on hb) (fun hHeld => ?_)
          have hHeld := hHeld rfl
          clear hK K
          try simp only [Act.put, List.setIfInBounds_toArray, List.set_cons_zero, List.set_cons_succ]
          clear hb
          refine Kt.G.two 5 18 { dst := some 108, op := Op.call { callee := Callee.value (Operand.func 36), args := #[Operand.tmp 107], argTypes := #[3] }, type := 9, pos := "desc.go:144", after := #[{ on := 4, ground := Ground.data }, { on := 1, ground := Ground.chain }], guard := none } { dst := some 121, op := Op.buildSlice 103 5 #[(0, Operand.tmp 112), (1, Operand.tmp 114), (2, Operand.tmp 116), (3, Operand.tmp 118), (4, Operand.tmp 120)], type := 103, pos := "desc.go:144", after := #[{ on := 9, ground := Ground.data }, { on := 11, ground := Ground.data }, { on := 13, ground := Ground.data }, { on := 15, ground := Ground.data }, { on := 17, ground := Ground.data }], guard := none } rfl rfl (by kernel_rfl) (by rfl) (by rfl) (fun K hK => ?_) (fun K hK => ?_)
          · go_simp
            refine (HPW.out _).mono ?_; rintro en xw ⟨rfl, hb⟩
            refine hK.out _ _ (fun _ => hHeld.on hb) (fun hHeld => ?_)
            have hHeld := hHeld rfl
            clear hK K
            try simp only [Act.put, List.setIfInBounds_toArray, List.set_cons_zero, List.set_cons_succ]
            clear hb
            refine Kt.G.takeP 6 { dst := some 109, op := Op.binOp BinOp.add 9 (Operand.tmp 104) (Operand.tmp 108) 9, type := 9, pos := "desc.go:144", after := #[{ on := 1, ground := Ground.data }, { on := 5, ground := Ground.data }], guard := none } ?_ (fun _ => hHeld) rfl (by kernel_rfl) (fun _ _ _ h => h) (by rfl) ?_ ?_
            rotate_left
            · intro wq; go_simp; try with_reducible rfl
            try simp only [Act.put, List.setIfInBounds_toArray, List.set_cons_zero, List.set_cons_succ]
            refine Kt.G.one 18 { dst := some 121, op := Op.buildSlice 103 5 #[(0, Operand.tmp 112), (1, Operand.tmp 114), (2, Operand.tmp 116), (3, Operand.tmp 118), (4, Operand.tmp 120)], type := 103, pos := "desc.go:144", after := #[{ on := 9, ground := Ground.data }, { on := 11, ground := Ground.data }, { on := 13, ground := Ground.data }, { on := 15, ground := Ground.data }, { on := 17, ground := Ground.data }], guard := none } rfl (by kernel_rfl) (by rfl) (fun K hK => ?_)
            go_simp
            refine hK.out _ _ (fun _ => hHeld.alloc _) (fun hHeld => ?_)
            replace hHeld := (hHeld rfl).add (heap_alloc_new _ _)
            clear hK K
            try simp only [Act.put, List.setIfInBounds_toArray, List.set_cons_zero, List.set_cons_succ]
            refine Kt.G.push hHeld (fun _ => ?_)
            refine Kt.G.one 19 { dst := some 122, op := Op.call { callee := Callee.value (Operand.func 35), args := #[Operand.tmp 121], argTypes := #[103] }, type := 9, pos := "desc.go:144", after := #[{ on := 18, ground := Ground.data }, { on := 5, ground := Ground.chain }], guard := none } rfl (by kernel_rfl) (by rfl) (fun K hK => ?_)
            go_simp
            refine (HP5.out _ _ (by first | exact hHeld.row _ (List.Mem.head _) | exact hHeld.row _ (List.Mem.tail _ (List.Mem.head _)) | (have h := hHeld.row _ (List.Mem.head _); dsimp only at h; rw [World.size_alloc] at h; exact h) | (have h := hHeld.row _ (List.Mem.tail _ (List.Mem.head _)); dsimp only at h; rw [World.size_alloc] at h; exact h))).mono ?_; rintro en xw ⟨rfl, hb⟩
            refine hK.out _ _ (fun _ => hHeld.on hb) (fun hHeld => ?_)
            have hHeld := hHeld rfl
            clear hK K
            try simp only [Act.put, List.setIfInBounds_toArray, List.set_cons_zero, List.set_cons_succ]
            clear hb
            refine Kt.G.takeP 20 { dst := some 123, op := Op.binOp BinOp.add 9 (Operand.tmp 109) (Operand.tmp 122) 9, type := 9, pos := "desc.go:144", after := #[{ on := 6, ground := Ground.data }, { on := 19, ground := Ground.data }], guard := none } ?_ (fun _ => hHeld) rfl (by kernel_rfl) (fun _ _ _ h => h) (by rfl) ?_ ?_
            rotate_left
            · intro wq; go_simp; try with_reducible rfl
            try simp only [Act.put, List.setIfInBounds_toArray, List.set_cons_zero, List.set_cons_succ]
            refine Kt.G.takeP 22 { dst := some 125, op := Op.binOp BinOp.add 9 (Operand.tmp 123) (Operand.tmp 124) 9, type := 9, pos := "desc.go:144", after := #[{ on := 20, ground := Ground.data }, { on := 21, ground := Ground.data }], guard := none } ?_ (fun _ => hHeld) rfl (by kernel_rfl) (fun _ _ _ h => h) (by rfl) ?_ ?_
            rotate_left
            · intro wq; go_simp; try with_reducible rfl
            try simp only [Act.put, List.setIfInBounds_toArray, List.set_cons_zero, List.set_cons_succ]
            refine Kt.G.one 23 { dst := some 2, op := Op.assign (Operand.tmp 125), type := 9, pos := "desc.go:144", after := #[{ on := 22, ground := Ground.data }, { on := 19, ground := Ground.chain }, { on := 0, ground := Ground.phase }, { on := 1, ground := Ground.phase }, { on := 2, ground := Ground.phase }, { on := 3, ground := Ground.phase }, { on := 4, ground := Ground.phase }, { on := 5, ground := Ground.phase }, { on := 6, ground := Ground.phase }, { on := 7, ground := Ground.phase }, { on := 8, ground := Ground.phase }, { on := 9, ground := Ground.phase }, { on := 10, ground := Ground.phase }, { on := 11, ground := Ground.phase }, { on := 12, ground := Ground.phase }, { on := 13, ground := Ground.phase }, { on := 14, ground := Ground.phase }, { on := 15, ground := Ground.phase }, { on := 16, ground := Ground.phase }, { on := 17, ground := Ground.phase }, { on := 18, ground := Ground.phase }, { on := 19, ground := Ground.phase }, { on := 20, ground := Ground.phase }, { on := 21, ground := Ground.phase }, { on := 22, ground := Ground.phase }], guard := none } rfl (by kernel_rfl) (by rfl) (fun K hK => ?_)
            go_simp
            refine hK.out _ _ (Kt.G.late (by kernel_rfl)) (fun _ => ?_)
            clear hK K
            try simp only [Act.put, List.setIfInBounds_toArray, List.set_cons_zero, List.set_cons_succ]
            refine Kt.G.one 24 { dst := some 3, op := Op.assign (Operand.const (Value.int IntKind.i64 0)), type := 25, pos := "desc.go:144", after := #[{ on := 23, ground := Ground.chain }, { on := 0, ground := Ground.phase }, { on := 1, ground := Ground.phase }, { on := 2, ground := Ground.phase }, { on := 3, ground := Ground.phase }, { on := 4, ground := Ground.phase }, { on := 5, ground := Ground.phase }, { on := 6, ground := Ground.phase }, { on := 7, ground := Ground.phase }, { on := 8, ground := Ground.phase }, { on := 9, ground := Ground.phase }, { on := 10, ground := Ground.phase }, { on := 11, ground := Ground.phase }, { on := 12, ground := Ground.phase }, { on := 13, ground := Ground.phase }, { on := 14, ground := Ground.phase }, { on := 15, ground := Ground.phase }, { on := 16, ground := Ground.phase }, { on := 17, ground := Ground.phase }, { on := 18, ground := Ground.phase }, { on := 19, ground := Ground.phase }, { on := 20, ground := Ground.phase }, { on := 21, ground := Ground.phase }, { on := 22, ground := Ground.phase }, { on := 23, ground := Ground.phase }], guard := none } rfl (by kernel_rfl) (by rfl) (fun K hK => ?_)
            go_simp
            refine hK.out _ _ (Kt.G.late (by kernel_rfl)) (fun _ => ?_)
            clear hK K
            try simp only [Act.put, List.setIfInBounds_toArray, List.set_cons_zero, List.set_cons_succ]
            refine Kt.G.done (by kernel_rfl) (NoPanic.normal ?_) _
            have HBZ := Lib.hid (Kt.bthen HBW.out hHeld.bel)
            rw [HR5.out]
            clear hHeld z1 z2 z3
            go_wp2_with fail
            go_ret2
            rw [HOK.out]
            exact ⟨rfl, HBZ.out⟩
          · go_simp
            refine hK.out _ _ (fun _ => hHeld.alloc _) (fun hHeld => ?_)
            replace hHeld := (hHeld rfl).add (heap_alloc_new _ _)
            clear hK K
            try simp only [Act.put, List.setIfInBounds_toArray, List.set_cons_zero, List.set_cons_succ]
            refine Kt.G.push hHeld (fun _ => ?_)
            refine Kt.G.one 5 { dst := some 108, op := Op.call { callee := Callee.value (Operand.func 36), args := #[Operand.tmp 107], argTypes := #[3] }, type := 9, pos := "desc.go:144", after := #[{ on := 4, ground := Ground.data }, { on := 1, ground := Ground.chain }], guard := none } rfl (by kernel_rfl) (by rfl) (fun K hK => ?_)
            go_simp
            refine (HPW.out _).mono ?_; rintro en xw ⟨rfl, hb⟩
            refine hK.out _ _ (fun _ => hHeld.on hb) (fun hHeld => ?_)
            have hHeld := hHeld rfl
            clear hK K
            try simp only [Act.put, List.setIfInBounds_toArray, List.set_cons_zero, List.set_cons_succ]
            clear hb
            refine Kt.G.takeP 6 { dst := some 109, op := Op.binOp BinOp.add 9 (Operand.tmp 104) (Operand.tmp 108) 9, type := 9, pos := "desc.go:144", after := #[{ on := 1, ground := Ground.data }, { on := 5, ground := Ground.data }], guard := none } ?_ (fun _ => hHeld) rfl (by kernel_rfl) (fun _ _ _ h => h) (by rfl) ?_ ?_
            rotate_left
            · intro wq; go_simp; try with_reducible rfl
            try simp only [Act.put, List.setIfInBounds_toArray, List.set_cons_zero, List.set_cons_succ]
            refine Kt.G.one 19 { dst := some 122, op := Op.call { callee := Callee.value (Operand.func 35), args := #[Operand.tmp 121], argTypes := #[103] }, type := 9, pos := "desc.go:144", after := #[{ on := 18, ground := Ground.data }, { on := 5, ground := Ground.chain }], guard := none } rfl (by kernel_rfl) (by rfl) (fun K hK => ?_)
            go_simp
            refine (HP5.out _ _ (by first | exact hHeld.row _ (List.Mem.head _) | exact hHeld.row _ (List.Mem.tail _ (List.Mem.head _)) | (have h := hHeld.row _ (List.Mem.head _); dsimp only at h; rw [World.size_alloc] at h; exact h) | (have h := hHeld.row _ (List.Mem.tail _ (List.Mem.head _)); dsimp only at h; rw [World.size_alloc] at h; exact h))).mono ?_; rintro en xw ⟨rfl, hb⟩
            refine hK.out _ _ (fun _ => hHeld.on hb) (fun hHeld => ?_)
            have hHeld := hHeld rfl
            clear hK K
            try simp only [Act.put, List.setIfInBounds_toArray, List.set_cons_zero, List.set_cons_succ]
            clear hb
            refine Kt.G.takeP 20 { dst := some 123, op := Op.binOp BinOp.add 9 (Operand.tmp 109) (Operand.tmp 122) 9, type := 9, pos := "desc.go:144", after := #[{ on := 6, ground := Ground.data }, { on := 19, ground := Ground.data }], guard := none } ?_ (fun _ => hHeld) rfl (by kernel_rfl) (fun _ _ _ h => h) (by rfl) ?_ ?_
            rotate_left
            · intro wq; go_simp; try with_reducible rfl
            try simp only [Act.put, List.setIfInBounds_toArray, List.set_cons_zero, List.set_cons_succ]
            refine Kt.G.takeP 22 { dst := some 125, op := Op.binOp BinOp.add 9 (Operand.tmp 123) (Operand.tmp 124) 9, type := 9, pos := "desc.go:144", after := #[{ on := 20, ground := Ground.data }, { on := 21, ground := Ground.data }], guard := none } ?_ (fun _ => hHeld) rfl (by kernel_rfl) (fun _ _ _ h => h) (by rfl) ?_ ?_
            rotate_left
            · intro wq; go_simp; try with_reducible rfl
            try simp only [Act.put, List.setIfInBounds_toArray, List.set_cons_zero, List.set_cons_succ]
            refine Kt.G.one 23 { dst := some 2, op := Op.assign (Operand.tmp 125), type := 9, pos := "desc.go:144", after := #[{ on := 22, ground := Ground.data }, { on := 19, ground := Ground.chain }, { on := 0, ground := Ground.phase }, { on := 1, ground := Ground.phase }, { on := 2, ground := Ground.phase }, { on := 3, ground := Ground.phase }, { on := 4, ground := Ground.phase }, { on := 5, ground := Ground.phase }, { on := 6, ground := Ground.phase }, { on := 7, ground := Ground.phase }, { on := 8, ground := Ground.phase }, { on := 9, ground := Ground.phase }, { on := 10, ground := Ground.phase }, { on := 11, ground := Ground.phase }, { on := 12, ground := Ground.phase }, { on := 13, ground := Ground.phase }, { on := 14, ground := Ground.phase }, { on := 15, ground := Ground.phase }, { on := 16, ground := Ground.phase }, { on := 17, ground := Ground.phase }, { on := 18, ground := Ground.phase }, { on := 19, ground := Ground.phase }, { on := 20, ground := Ground.phase }, { on := 21, ground := Ground.phase }, { on := 22, ground := Ground.phase }], guard := none } rfl (by kernel_rfl) (by rfl) (fun K hK => ?_)
            go_simp
            refine hK.out _ _ (Kt.G.late (by kernel_rfl)) (fun _ => ?_)
            clear hK K
            try simp only [Act.put, List.setIfInBounds_toArray, List.set_cons_zero, List.set_cons_succ]
            refine Kt.G.one 24 { dst := some 3, op := Op.assign (Operand.const (Value.int IntKind.i64 0)), type := 25, pos := "desc.go:144", after := #[{ on := 23, ground := Ground.chain }, { on := 0, ground := Ground.phase }, { on := 1, ground := Ground.phase }, { on := 2, ground := Ground.phase }, { on := 3, ground := Ground.phase }, { on := 4, ground := Ground.phase }, { on := 5, ground := Ground.phase }, { on := 6, ground := Ground.phase }, { on := 7, ground := Ground.phase }, { on := 8, ground := Ground.phase }, { on := 9, ground := Ground.phase }, { on := 10, ground := Ground.phase }, { on := 11, ground := Ground.phase }, { on := 12, ground := Ground.phase }, { on := 13, ground := Ground.phase }, { on := 14, ground := Ground.phase }, { on := 15, ground := Ground.phase }, { on := 16, ground := Ground.phase }, { on := 17, ground := Ground.phase }, { on := 18, ground := Ground.phase }, { on := 19, ground := Ground.phase }, { on := 20, ground := Ground.phase }, { on := 21, ground := Ground.phase }, { on := 22, ground := Ground.phase }, { on := 23, ground := Ground.phase }], guard := none } rfl (by kernel_rfl) (by rfl) (fun K hK => ?_)
            go_simp
            refine hK.out _ _ (Kt.G.late (by kernel_rfl)) (fun _ => ?_)
            clear hK K
            try simp only [Act.put, List.setIfInBounds_toArray, List.set_cons_zero, List.set_cons_succ]
            refine Kt.G.done (by kernel_rfl) (NoPanic.normal ?_) _
            have HBZ := Lib.hid (Kt.bthen HBW.out hHeld.bel)
            rw [HR5.out]
            clear hHeld z1 z2 z3
            go_wp2_with fail
            go_ret2
            rw [HOK.out]
            exact ⟨rfl, HBZ.out⟩
        · go_simp
          refine hK.out _ _ (fun _ => hHeld.alloc _) (fun hHeld => ?_)
          replace hHeld := (hHeld rfl).add (heap_alloc_new _ _)
          clear hK K
          try simp only [Act.put, List.setIfInBounds_toArray, List.set_cons_zero, List.set_cons_succ]
          refine Kt.G.push hHeld (fun _ => ?_)
          refine Kt.G.one 1 { dst := some 104, op := Op.call { callee := Callee.value (Operand.func 35), args := #[Operand.tmp 103], argTypes := #[103] }, type := 9, pos := "desc.go:144", after := #[{ on := 0, ground := Ground.data }], guard := none } rfl (by kernel_rfl) (by rfl) (fun K hK => ?_)
          go_simp
          refine (HP2.out _ _ (by first | exact hHeld.row _ (List.Mem.head _) | exact hHeld.row _ (List.Mem.tail _ (List.Mem.head _)) | (have h := hHeld.row _ (List.Mem.head _); dsimp only at h; rw [World.size_alloc] at h; exact h) | (have h := hHeld.row _ (List.Mem.tail _ (List.Mem.head _)); dsimp only at h; rw [World.size_alloc] at h; exact h))).mono ?_; rintro en xw ⟨rfl, hb⟩
          refine hK.out _ _ (fun _ => hHeld.on hb) (fun hHeld => ?_)
          have hHeld := hHeld rfl
          clear hK K
          try simp only [Act.put, List.setIfInBounds_toArray, List.set_cons_zero, List.set_cons_succ]
          clear hb
          refine Kt.G.one 5 { dst := some 108, op := Op.call { callee := Callee.value (Operand.func 36), args := #[Operand.tmp 107], argTypes := #[3] }, type := 9, pos := "desc.go:144", after := #[{ on := 4, ground := Ground.data }, { on := 1, ground := Ground.chain }], guard := none } rfl (by kernel_rfl) (by rfl) (fun K hK => ?_)
          go_simp
          refine (HPW.out _).mono ?_; rintro en xw ⟨rfl, hb⟩
          refine hK.out _ _ (fun _ => hHeld.on hb) (fun hHeld => ?_)
          have hHeld := hHeld rfl
          clear hK K
          try simp only [Act.put, List.setIfInBounds_toArray, List.set_cons_zero, List.set_cons_succ]
          clear hb
          refine Kt.G.takeP 6 { dst := some 109, op := Op.binOp BinOp.add 9 (Operand.tmp 104) (Operand.tmp 108) 9, type := 9, pos := "desc.go:144", after := #[{ on := 1, ground := Ground.data }, { on := 5, ground := Ground.data }], guard := none } ?_ (fun _ => hHeld) rfl (by kernel_rfl) (fun _ _ _ h => h) (by rfl) ?_ ?_
          rotate_left
          · intro wq; go_simp; try with_reducible rfl
          try simp only [Act.put, List.setIfInBounds_toArray, List.set_cons_zero, List.set_cons_succ]
          refine Kt.G.one 19 { dst := some 122, op := Op.call { callee := Callee.value (Operand.func 35), args := #[Operand.tmp 121], argTypes := #[103] }, type := 9, pos := "desc.go:144", after := #[{ on := 18, ground := Ground.data }, { on := 5, ground := Ground.chain }], guard := none } rfl (by kernel_rfl) (by rfl) (fun K hK => ?_)
          go_simp
          refine (HP5.out _ _ (by first | exact hHeld.row _ (List.Mem.head _) | exact hHeld.row _ (List.Mem.tail _ (List.Mem.head _)) | (have h := hHeld.row _ (List.Mem.head _); dsimp only at h; rw [World.size_alloc] at h; exact h) | (have h := hHeld.row _ (List.Mem.tail _ (List.Mem.head _)); dsimp only at h; rw [World.size_alloc] at h; exact h))).mono ?_; rintro en xw ⟨rfl, hb⟩
          refine hK.out _ _ (fun _ => hHeld.on hb) (fun hHeld => ?_)
          have hHeld := hHeld rfl
          clear hK K
          try simp only [Act.put, List.setIfInBounds_toArray, List.set_cons_zero, List.set_cons_succ]
          clear hb
          refine Kt.G.takeP 20 { dst := some 123, op := Op.binOp BinOp.add 9 (Operand.tmp 109) (Operand.tmp 122) 9, type := 9, pos := "desc.go:144", after := #[{ on := 6, ground := Ground.data }, { on := 19, ground := Ground.data }], guard := none } ?_ (fun _ => hHeld) rfl (by kernel_rfl) (fun _ _ _ h => h) (by rfl) ?_ ?_
          rotate_left
          · intro wq; go_simp; try with_reducible rfl
          try simp only [Act.put, List.setIfInBounds_toArray, List.set_cons_zero, List.set_cons_succ]
          refine Kt.G.takeP 22 { dst := some 125, op := Op.binOp BinOp.add 9 (Operand.tmp 123) (Operand.tmp 124) 9, type := 9, pos := "desc.go:144", after := #[{ on := 20, ground := Ground.data }, { on := 21, ground := Ground.data }], guard := none } ?_ (fun _ => hHeld) rfl (by kernel_rfl) (fun _ _ _ h => h) (by rfl) ?_ ?_
          rotate_left
          · intro wq; go_simp; try with_reducible rfl
          try simp only [Act.put, List.setIfInBounds_toArray, List.set_cons_zero, List.set_cons_succ]
          refine Kt.G.one 23 { dst := some 2, op := Op.assign (Operand.tmp 125), type := 9, pos := "desc.go:144", after := #[{ on := 22, ground := Ground.data }, { on := 19, ground := Ground.chain }, { on := 0, ground := Ground.phase }, { on := 1, ground := Ground.phase }, { on := 2, ground := Ground.phase }, { on := 3, ground := Ground.phase }, { on := 4, ground := Ground.phase }, { on := 5, ground := Ground.phase }, { on := 6, ground := Ground.phase }, { on := 7, ground := Ground.phase }, { on := 8, ground := Ground.phase }, { on := 9, ground := Ground.phase }, { on := 10, ground := Ground.phase }, { on := 11, ground := Ground.phase }, { on := 12, ground := Ground.phase }, { on := 13, ground := Ground.phase }, { on := 14, ground := Ground.phase }, { on := 15, ground := Ground.phase }, { on := 16, ground := Ground.phase }, { on := 17, ground := Ground.phase }, { on := 18, ground := Ground.phase }, { on := 19, ground := Ground.phase }, { on := 20, ground := Ground.phase }, { on := 21, ground := Ground.phase }, { on := 22, ground := Ground.phase }], guard := none } rfl (by kernel_rfl) (by rfl) (fun K hK => ?_)
          go_simp
          refine hK.out _ _ (Kt.G.late (by kernel_rfl)) (fun _ => ?_)
          clear hK K
          try simp only [Act.put, List.setIfInBounds_toArray, List.set_cons_zero, List.set_cons_succ]
          refine Kt.G.one 24 { dst := some 3, op := Op.assign (Operand.const (Value.int IntKind.i64 0)), type := 25, pos := "desc.go:144", after := #[{ on := 23, ground := Ground.chain }, { on := 0, ground := Ground.phase }, { on := 1, ground := Ground.phase }, { on := 2, ground := Ground.phase }, { on := 3, ground := Ground.phase }, { on := 4, ground := Ground.phase }, { on := 5, ground := Ground.phase }, { on := 6, ground := Ground.phase }, { on := 7, ground := Ground.phase }, { on := 8, ground := Ground.phase }, { on := 9, ground := Ground.phase }, { on := 10, ground := Ground.phase }, { on := 11, ground := Ground.phase }, { on := 12, ground := Ground.phase }, { on := 13, ground := Ground.phase }, { on := 14, ground := Ground.phase }, { on := 15, ground := Ground.phase }, { on := 16, ground := Ground.phase }, { on := 17, ground := Ground.phase }, { on := 18, ground := Ground.phase }, { on := 19, ground := Ground.phase }, { on := 20, ground := Ground.phase }, { on := 21, ground := Ground.phase }, { on := 22, ground := Ground.phase }, { on := 23, ground := Ground.phase }], guard := none } rfl (by kernel_rfl) (by rfl) (fun K hK => ?_)
          go_simp
          refine hK.out _ _ (Kt.G.late (by kernel_rfl)) (fun _ => ?_)
          clear hK K
          try simp only [Act.put, List.setIfInBounds_toArray, List.set_cons_zero, List.set_cons_succ]
          refine Kt.G.done (by kernel_rfl) (NoPanic.normal ?_) _
          have HBZ := Lib.hid (Kt.bthen HBW.out hHeld.bel)
          rw [HR5.out]
          clear hHeld z1 z2 z3
          go_wp2_with fail
          go_ret2
          rw [HOK.out]
          exact ⟨rfl, HBZ.out⟩
      · go_simp
        refine hK.out _ _ (fun _ => hHeld.alloc _) (fun hHeld => ?_)
        replace hHeld := (hHeld rfl).add (heap_alloc_new _ _)
        clear hK K
        try simp only [Act.put, List.setIfInBounds_toArray, List.set_cons_zero, List.set_cons_succ]
        refine Kt.G.push hHeld (fun _ => ?_)
        refine Kt.G.one 0 { dst := some 103, op := Op.buildSlice 103 2 #[(0, Operand.const (Value.int IntKind.i64 9)), (1, Operand.const (Value.int IntKind.i64 2))], type := 103, pos := "desc.go:144", after := #[], guard := none } rfl (by kernel_rfl) (by rfl) (fun K hK => ?_)
        go_simp
        refine hK.out _ _ (fun _ => hHeld.alloc _) (fun hHeld => ?_)
        replace hHeld := (hHeld rfl).add (heap_alloc_new _ _)
        clear hK K
        try simp only [Act.put, List.setIfInBounds_toArray, List.set_cons_zero, List.set_cons_succ]
        refine Kt.G.push hHeld (fun _ => ?_)
        refine Kt.G.one 1 { dst := some 104, op := Op.call { callee := Callee.value (Operand.func 35), args := #[Operand.tmp 103], argTypes := #[103] }, type := 9, pos := "desc.go:144", after := #[{ on := 0, ground := Ground.data }], guard := none } rfl (by kernel_rfl) (by rfl) (fun K hK => ?_)
        go_simp
        refine (HP2.out _ _ (by first | exact hHeld.row _ (List.Mem.head _) | exact hHeld.row _ (List.Mem.tail _ (List.Mem.head _)) | (have h := hHeld.row _ (List.Mem.head _); dsimp only at h; rw [World.size_alloc] at h; exact h) | (have h := hHeld.row _ (List.Mem.tail _ (List.Mem.head _)); dsimp only at h; rw [World.size_alloc] at h; exact h))).mono ?_; rintro en xw ⟨rfl, hb⟩
        refine hK.out _ _ (fun _ => hHeld.on hb) (fun hHeld => ?_)
        have hHeld := hHeld rfl
        clear hK K
        try simp only [Act.put, List.setIfInBounds_toArray, List.set_cons_zero, List.set_cons_succ]
        clear hb
        refine Kt.G.one 5 { dst := some 108, op := Op.call { callee := Callee.value (Operand.func 36), args := #[Operand.tmp 107], argTypes := #[3] }, type := 9, pos := "desc.go:144", after := #[{ on := 4, ground := Ground.data }, { on := 1, ground := Ground.chain }], guard := none } rfl (by kernel_rfl) (by rfl) (fun K hK => ?_)
        go_simp
        refine (HPW.out _).mono ?_; rintro en xw ⟨rfl, hb⟩
        refine hK.out _ _ (fun _ => hHeld.on hb) (fun hHeld => ?_)
        have hHeld := hHeld rfl
        clear hK K
        try simp only [Act.put, List.setIfInBounds_toArray, List.set_cons_zero, List.set_cons_succ]
        clear hb
        refine Kt.G.takeP 6 { dst := some 109, op := Op.binOp BinOp.add 9 (Operand.tmp 104) (Operand.tmp 108) 9, type := 9, pos := "desc.go:144", after := #[{ on := 1, ground := Ground.data }, { on := 5, ground := Ground.data }], guard := none } ?_ (fun _ => hHeld) rfl (by kernel_rfl) (fun _ _ _ h => h) (by rfl) ?_ ?_
        rotate_left
        · intro wq; go_simp; try with_reducible rfl
        try simp only [Act.put, List.setIfInBounds_toArray, List.set_cons_zero, List.set_cons_succ]
        refine Kt.G.one 19 { dst := some 122, op := Op.call { callee := Callee.value (Operand.func 35), args := #[Operand.tmp 121], argTypes := #[103] }, type := 9, pos := "desc.go:144", after := #[{ on := 18, ground := Ground.data }, { on := 5, ground := Ground.chain }], guard := none } rfl (by kernel_rfl) (by rfl) (fun K hK => ?_)
        go_simp
        refine (HP5.out _ _ (by first | exact hHeld.row _ (List.Mem.head _) | exact hHeld.row _ (List.Mem.tail _ (List.Mem.head _)) | (have h := hHeld.row _ (List.Mem.head _); dsimp only at h; rw [World.size_alloc] at h; exact h) | (have h := hHeld.row _ (List.Mem.tail _ (List.Mem.head _)); dsimp only at h; rw [World.size_alloc] at h; exact h))).mono ?_; rintro en xw ⟨rfl, hb⟩
        refine hK.out _ _ (fun _ => hHeld.on hb) (fun hHeld => ?_)
        have hHeld := hHeld rfl
        clear hK K
        try simp only [Act.put, List.setIfInBounds_toArray, List.set_cons_zero, List.set_cons_succ]
        clear hb
        refine Kt.G.takeP 20 { dst := some 123, op := Op.binOp BinOp.add 9 (Operand.tmp 109) (Operand.tmp 122) 9, type := 9, pos := "desc.go:144", after := #[{ on := 6, ground := Ground.data }, { on := 19, ground := Ground.data }], guard := none } ?_ (fun _ => hHeld) rfl (by kernel_rfl) (fun _ _ _ h => h) (by rfl) ?_ ?_
        rotate_left
        · intro wq; go_simp; try with_reducible rfl
        try simp only [Act.put, List.setIfInBounds_toArray, List.set_cons_zero, List.set_cons_succ]
        refine Kt.G.takeP 22 { dst := some 125, op := Op.binOp BinOp.add 9 (Operand.tmp 123) (Operand.tmp 124) 9, type := 9, pos := "desc.go:144", after := #[{ on := 20, ground := Ground.data }, { on := 21, ground := Ground.data }], guard := none } ?_ (fun _ => hHeld) rfl (by kernel_rfl) (fun _ _ _ h => h) (by rfl) ?_ ?_
        rotate_left
        · intro wq; go_simp; try with_reducible rfl
        try simp only [Act.put, List.setIfInBounds_toArray, List.set_cons_zero, List.set_cons_succ]
        refine Kt.G.one 23 { dst := some 2, op := Op.assign (Operand.tmp 125), type := 9, pos := "desc.go:144", after := #[{ on := 22, ground := Ground.data }, { on := 19, ground := Ground.chain }, { on := 0, ground := Ground.phase }, { on := 1, ground := Ground.phase }, { on := 2, ground := Ground.phase }, { on := 3, ground := Ground.phase }, { on := 4, ground := Ground.phase }, { on := 5, ground := Ground.phase }, { on := 6, ground := Ground.phase }, { on := 7, ground := Ground.phase }, { on := 8, ground := Ground.phase }, { on := 9, ground := Ground.phase }, { on := 10, ground := Ground.phase }, { on := 11, ground := Ground.phase }, { on := 12, ground := Ground.phase }, { on := 13, ground := Ground.phase }, { on := 14, ground := Ground.phase }, { on := 15, ground := Ground.phase }, { on := 16, ground := Ground.phase }, { on := 17, ground := Ground.phase }, { on := 18, ground := Ground.phase }, { on := 19, ground := Ground.phase }, { on := 20, ground := Ground.phase }, { on := 21, ground := Ground.phase }, { on := 22, ground := Ground.phase }], guard := none } rfl (by kernel_rfl) (by rfl) (fun K hK => ?_)
        go_simp
        refine hK.out _ _ (Kt.G.late (by kernel_rfl)) (fun _ => ?_)
        clear hK K
        try simp only [Act.put, List.setIfInBounds_toArray, List.set_cons_zero, List.set_cons_succ]
        refine Kt.G.one 24 { dst := some 3, op := Op.assign (Operand.const (Value.int IntKind.i64 0)), type := 25, pos := "desc.go:144", after := #[{ on := 23, ground := Ground.chain }, { on := 0, ground := Ground.phase }, { on := 1, ground := Ground.phase }, { on := 2, ground := Ground.phase }, { on := 3, ground := Ground.phase }, { on := 4, ground := Ground.phase }, { on := 5, ground := Ground.phase }, { on := 6, ground := Ground.phase }, { on := 7, ground := Ground.phase }, { on := 8, ground := Ground.phase }, { on := 9, ground := Ground.phase }, { on := 10, ground := Ground.phase }, { on := 11, ground := Ground.phase }, { on := 12, ground := Ground.phase }, { on := 13, ground := Ground.phase }, { on := 14, ground := Ground.phase }, { on := 15, ground := Ground.phase }, { on := 16, ground := Ground.phase }, { on := 17, ground := Ground.phase }, { on := 18, ground := Ground.phase }, { on := 19, ground := Ground.phase }, { on := 20, ground := Ground.phase }, { on := 21, ground := Ground.phase }, { on := 22, ground := Ground.phase }, { on := 23, ground := Ground.phase }], guard := none } rfl (by kernel_rfl) (by rfl) (fun K hK => ?_)
        go_simp
        refine hK.out _ _ (Kt.G.late (by kernel_rfl)) (fun _ => ?_)
        clear hK K
        try simp only [Act.put, List.setIfInBounds_toArray, List.set_cons_zero, List.set_cons_succ]
        refine Kt.G.done (by kernel_rfl) (NoPanic.normal ?_) _
        have HBZ := Lib.hid (Kt.bthen HBW.out hHeld.bel)
        rw [HR5.out]
        clear hHeld z1 z2 z3
        go_wp2_with fail
        go_ret2
        rw [HOK.out]
        exact ⟨rfl, HBZ.out⟩
end Go.Proofs.Ytmddfpmchcmgiaa
