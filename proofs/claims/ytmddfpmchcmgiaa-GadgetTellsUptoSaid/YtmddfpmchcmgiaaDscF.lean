/- desc.face walked. -/
import Derived.Test.YtmddfpmchcmgiaaDscM
import Derived.Test.YtmddfpmchcmgiaaGen
namespace Go.Proofs.Ytmddfpmchcmgiaa
open Go.RowKit Go.Proofs.Ytmddfpmchcmgiaa.Dsc Go.Maps
theorem gb_below {w w' : World} (h : Below w.heap.size w w') (row : Option Nat) : w.grownBy w' row := ⟨h.os, h.tape, h.output, h.size, fun k hk _ => h.block k hk⟩
theorem gb_alloc (w : World) (o : Obj) (row : Option Nat) : w.grownBy (w.alloc o) row := gb_below (Kt.balloc (Below.refl _ w) o) row
theorem gb_refl (w : World) (row : Option Nat) : w.grownBy w row := gb_below (Below.refl _ w) row
theorem head_in (f : Fa) : inB 255 [f.cl, f.su, f.pr, f.nm] = decide (headF f) := by
  rw [Bool.eq_iff_iff, decide_eq_true_iff]
  unfold inB headF isB
  simp [Bool.and_eq_true]
/-- the map's block holds no cells -/
theorem Seen.cell_ne {w : World} {b n : Nat} {l : List (Int × Bool)} (h : Seen w b n l) {a : Addr} {v : Value} (hc : w.cell? a = some v) : a.block ≠ b := by
  intro e
  obtain ⟨_, ⟨es, clock, hb, _⟩, _⟩ := h
  unfold World.cell? at hc
  rw [e, hb] at hc
  cases hc
theorem Seen.gb_cell {w w' : World} {b n : Nat} {l : List (Int × Bool)} (h : Seen w b n l) (g : w.grownBy w' (some b)) {a : Addr} {v : Value} (hc : w.cell? a = some v) : w'.cell? a = some v := by
  have hne := h.cell_ne hc
  have hlt : a.block < w.heap.size := by
    unfold World.cell? at hc
    cases hq : w.heap[a.block]? with
    | none => rw [hq] at hc; cases hc
    | some o => exact (Array.getElem?_eq_some_iff.1 hq).1
  have := g.block a.block hlt (by intro q; injection q with q; exact hne q)
  unfold World.cell? at hc ⊢
  rw [this]; exact hc
theorem ecells_get : ∀ {l : List En} {i : Nat} (h : i < l.length) (j : Nat) (_hj : j < 5), (ecells l)[i * 5 + j]? = (ec1 l[i])[j]?
  | x :: l, 0, _, j, hj => by
    show (ec1 x ++ ecells l)[0 * 5 + j]? = (ec1 x)[j]?
    rw [Nat.zero_mul, Nat.zero_add, List.getElem?_append_left (by show j < 5; exact hj)]
  | x :: l, i + 1, h, j, hj => by
    have h' : i < l.length := by simpa using h
    have := ecells_get h' j hj
    show (ec1 x ++ ecells l)[(i + 1) * 5 + j]? = (ec1 l[i])[j]?
    rw [List.getElem?_append_right (by show 5 ≤ _; omega), show (i + 1) * 5 + j - (ec1 x).length = i * 5 + j by show (i + 1) * 5 + j - 5 = _; omega]
    exact this
theorem ecells_len (l : List En) : (ecells l).length = l.length * 5 := by
  induction l with
  | nil => rfl
  | cons x l ih => show (ecells l).length + 1 + 1 + 1 + 1 + 1 = _; rw [ih, List.length_cons]; omega
def faceV (f : Fa) (X E : Value) : Value := .agg #[.int .i64 f.cl, .int .i64 f.su, .int .i64 f.pr, .int .i64 f.nm, X, E]
set_option maxRecDepth 100000 in
theorem face_head (f : Fa) (X E : Value) (b : Nat) (w : World) (h : ¬ headF f) :
    Calls Try.prog 34 #[faceV f X E, .map (some b)] w fun e w' => e = .returned (.int .i64 1) ∧ Below w.heap.size w w' := by
  have HB := Lib.hid (fun W V (hV : Kt.Ar W V 1 4 (ics [f.cl, f.su, f.pr, f.nm])) => bytesB_calls V [f.cl, f.su, f.pr, f.nm] W hV (by simp))
  rw [head_in, decide_eq_false h] at HB
  clear h
  go_enter Try.func34, Try.ntmps34
  dsimp only [faceV]
  go_wp2_with fail
  refine (HB.out _ _ (Kt.Ar.new' (w.alloc (.cells #[.int .i64 f.cl, .int .i64 f.su, .int .i64 f.pr, .int .i64 f.nm, X, E] 32)) #[.int .i64 f.cl, .int .i64 f.su, .int .i64 f.pr, .int .i64 f.nm] 3 4 1 (w.heap.size + 1) (World.size_alloc w _) rfl)).mono ?_
  rintro e w1 ⟨rfl, rfl⟩
  go_wp2_with fail
  go_ret
  exact ⟨rfl, Kt.balloc (Kt.balloc (Below.refl _ _) _) _⟩
theorem endsC_cons (l : List (Int × Bool)) (x : En) (r : List En) : endsC l (x :: r) = if okE x then (if (x.ad, x.inn) ∈ l then (13, l) else endsC ((x.ad, x.inn) :: l) r) else (1, l) := rfl
def FaceOut (f : Fa) (b n : Nat) (l : List (Int × Bool)) (w : World) (e : Ending) (w' : World) : Prop := e = .returned (.int .i64 (faceC l f).1) ∧ (∃ n', n' ≤ n + 4 ∧ Seen w' b n' (faceC l f).2) ∧ w.grownBy w' (some b)
theorem face_out {f : Fa} {b n : Nat} {l l' : List (Int × Bool)} {w w' : World} {c : Int} (hc : faceC l f = (c, l')) {n' : Nat} (hn : n' ≤ n + 4) (hs : Seen w' b n' l') (g : w.grownBy w' (some b)) : FaceOut f b n l w (.returned (.int .i64 c)) w' := by
  unfold FaceOut
  rw [hc]
  exact ⟨rfl, ⟨n', hn, hs⟩, g⟩
set_option maxRecDepth 100000 in
set_option maxHeartbeats 1600000 in
theorem face_calls (f : Fa) (X E : Value) (b n : Nat) (l : List (Int × Bool)) (w : World) (hX : Kt.Ar w X 1 f.ex.length (xcells f.ex)) (hE : Kt.Ar w E 5 f.es.length (ecells f.es)) (hS : Seen w b n l) (hn : n ≤ 1000) :
    Calls Try.prog 34 #[faceV f X E, .map (some b)] w (FaceOut f b n l w) := by
  by_cases hh : headF f
  · have HB := Lib.hid (fun W V (hV : Kt.Ar W V 1 4 (ics [f.cl, f.su, f.pr, f.nm])) => bytesB_calls V [f.cl, f.su, f.pr, f.nm] W hV (by simp))
    rw [head_in, decide_eq_true hh] at HB
    obtain ⟨XA, xc, rfl, _, hxx⟩ := hX.form
    obtain ⟨EA, ec, rfl, _, hee⟩ := hE.form
    have HXX := Lib.hid hxx
    have HEE := Lib.hid hee
    have HS := Lib.hid hS
    have HN := Lib.hid hn
    have HH := Lib.hid hh
    have HG := Lib.hid ((gb_alloc w (.cells #[.int .i64 f.cl, .int .i64 f.su, .int .i64 f.pr, .int .i64 f.nm, .slice XA f.ex.length xc, .slice EA f.es.length ec] 32) (some b)).trans (gb_alloc _ (.cells #[.int .i64 f.cl, .int .i64 f.su, .int .i64 f.pr, .int .i64 f.nm] 3) (some b)))
    have HS1 := Lib.hid ((hS.alloc (.cells #[.int .i64 f.cl, .int .i64 f.su, .int .i64 f.pr, .int .i64 f.nm, .slice XA f.ex.length xc, .slice EA f.es.length ec] 32)).alloc (.cells #[.int .i64 f.cl, .int .i64 f.su, .int .i64 f.pr, .int .i64 f.nm] 3))
    have HR := Lib.hid (heap_alloc2_old w (.cells #[.int .i64 f.cl, .int .i64 f.su, .int .i64 f.pr, .int .i64 f.nm, .slice XA f.ex.length xc, .slice EA f.es.length ec] 32) (.cells #[.int .i64 f.cl, .int .i64 f.su, .int .i64 f.pr, .int .i64 f.nm] 3))
    clear hX hE hxx hee hS hn hh
    go_enter Try.func34, Try.ntmps34
    dsimp only [faceV]
    go_wp2_with fail
    refine (HB.out _ _ (Kt.Ar.new' (w.alloc (.cells #[.int .i64 f.cl, .int .i64 f.su, .int .i64 f.pr, .int .i64 f.nm, .slice XA f.ex.length xc, .slice EA f.es.length ec] 32)) #[.int .i64 f.cl, .int .i64 f.su, .int .i64 f.pr, .int .i64 f.nm] 3 4 1 (w.heap.size + 1) (World.size_alloc w _) rfl)).mono ?_
    rintro e w1 ⟨rfl, rfl⟩
    by_cases h2 : 2 < f.ex.length
    · have h2' : (2 : Int) < f.ex.length := by omega
      have HC : Hid (faceC l f = (2, l)) := Lib.hid (by unfold faceC; rw [if_pos HH.out, if_pos h2])
      clear h2
      go_wp2_with fail
      go_ret
      exact face_out HC.out (Nat.le_add_right _ _) HS1.out HG.out
    · have h2' : ¬ (2 : Int) < f.ex.length := by omega
      have h2n : f.ex.length ≤ 2 := by omega
      have HC := Lib.hid (show faceC l f = if ∀ x ∈ f.ex, okX x then (if 4 < f.es.length then (2, l) else endsC l f.es) else (1, l) by unfold faceC; rw [if_pos HH.out, if_neg h2])
      have HEE2 : Hid (0 < f.es.length → ∃ g o, EA = some ⟨g, o, none⟩ ∧ ∀ j (hj : j < (ecells f.es).length), ((w.alloc (.cells #[.int .i64 f.cl, .int .i64 f.su, .int .i64 f.pr, .int .i64 f.nm, .slice XA f.ex.length xc, .slice EA f.es.length ec] 32)).alloc (.cells #[.int .i64 f.cl, .int .i64 f.su, .int .i64 f.pr, .int .i64 f.nm] 3)).cell? ⟨g, o + j, none⟩ = some (ecells f.es)[j]) := Lib.hid (fun h0 => by
        obtain ⟨g, o, h1, h2, h3⟩ := HEE.out h0
        exact ⟨g, o, h1, fun j hj => by rw [World.cell?_alloc_lt _ _ _ (by rw [World.size_alloc]; exact Nat.lt_succ_of_lt h2), World.cell?_alloc_lt _ _ _ (by exact h2)]; exact h3 j hj⟩)
      have HXX2 : Hid (0 < f.ex.length → ∃ g o, XA = some ⟨g, o, none⟩ ∧ ∀ j (hj : j < (xcells f.ex).length), ((w.alloc (.cells #[.int .i64 f.cl, .int .i64 f.su, .int .i64 f.pr, .int .i64 f.nm, .slice XA f.ex.length xc, .slice EA f.es.length ec] 32)).alloc (.cells #[.int .i64 f.cl, .int .i64 f.su, .int .i64 f.pr, .int .i64 f.nm] 3)).cell? ⟨g, o + j, none⟩ = some (xcells f.ex)[j]) := Lib.hid (fun h0 => by
        obtain ⟨g, o, h1, h2, h3⟩ := HXX.out h0
        exact ⟨g, o, h1, fun j hj => by rw [World.cell?_alloc_lt _ _ _ (by rw [World.size_alloc]; exact Nat.lt_succ_of_lt h2), World.cell?_alloc_lt _ _ _ (by exact h2)]; exact h3 j hj⟩)
      generalize ((w.alloc (.cells #[.int .i64 f.cl, .int .i64 f.su, .int .i64 f.pr, .int .i64 f.nm, .slice XA f.ex.length xc, .slice EA f.es.length ec] 32)).alloc (.cells #[.int .i64 f.cl, .int .i64 f.su, .int .i64 f.pr, .int .i64 f.nm] 3)) = W at *
      have hR := HR.out
      have hRc := fun i => cell_of_row _ _ i _ _ _ hR
      have hRz := (Array.getElem?_eq_some_iff.1 hR).1
      clear hR h2 HB HXX HEE
      go_wp2_with fail
      go_loop [30] (fun i => ∃ k : Nat, k ≤ f.ex.length ∧ i = .int .i64 k ∧ Hid (∀ j (h : j < f.ex.length), j < k → okX f.ex[j])) (fun i => f.ex.length - (intOf i).toNat)
      case atStart => exact ⟨0, Nat.zero_le _, rfl, Lib.hid fun j _ h => absurd h (Nat.not_lt_zero _)⟩
      case round =>
        obtain ⟨k, hk, rfl, HA⟩ := hrel
        by_cases hlt : k < f.ex.length
        · obtain ⟨g, o, rfl, hc⟩ := HXX2.out (Nat.lt_of_le_of_lt (Nat.zero_le _) hlt)
          have hcell : W.cell? ⟨g, o + k, none⟩ = some (.string (bs' f.ex[k])) := (hc k (by unfold xcells; rw [List.length_map]; exact hlt)).trans (by simp [xcells])
          have HEX := Lib.hid (extra_calls f.ex[k] W)
          have HN1 : Hid (okX f.ex[k] → ∀ j (h : j < f.ex.length), j < k + 1 → okX f.ex[j]) := Lib.hid (fun q j hj hjk => by
            by_cases e : j = k
            · subst e; exact q
            · exact HA.out j hj (by omega))
          have HN2 : Hid (¬ okX f.ex[k] → faceC l f = (1, l)) := Lib.hid (fun q => by rw [HC.out, if_neg (fun h => q (h _ (List.getElem_mem ..)))])
          clear hc
          generalize f.ex[k] = s at *
          by_cases hs : okX s
          · rw [decide_eq_true hs] at HEX
            have HN3 := Lib.hid (HN1.out hs)
            clear hs
            generalize bs' s = S at *
            have hwk := wrap_d (show k ≤ 2097152 by omega)
            go_wp2_with fail
            refine HEX.out.mono ?_; rintro e w1 ⟨rfl, rfl⟩
            go_wp2_with fail
            go_round
            case rel => exact ⟨k + 1, hlt, rfl, HN3⟩
            case measure => exact meas_d hlt
          · rw [decide_eq_false hs] at HEX
            have HC1 := Lib.hid (HN2.out hs)
            clear hs
            generalize bs' s = S at *
            go_wp2_with fail
            refine HEX.out.mono ?_; rintro e w1 ⟨rfl, rfl⟩
            go_wp2_with fail
            go_ret
            exact face_out HC1.out (Nat.le_add_right _ _) HS1.out HG.out
        · obtain rfl : k = f.ex.length := by omega
          have HC2 := Lib.hid (show faceC l f = if 4 < f.es.length then (2, l) else endsC l f.es by
            rw [HC.out, if_pos (fun x hx => by obtain ⟨j, hj, rfl⟩ := List.getElem_of_mem hx; exact HA.out j hj hj)])
          by_cases h4 : 4 < f.es.length
          · have h4' : (4 : Int) < f.es.length := by omega
            have HC3 := Lib.hid (show faceC l f = (2, l) by rw [HC2.out, if_pos h4])
            clear h4
            go_wp2_with fail
            go_ret
            exact face_out HC3.out (Nat.le_add_right _ _) HS1.out HG.out
          · have h4' : ¬ (4 : Int) < f.es.length := by omega
            have h4n : f.es.length ≤ 4 := by omega
            have HC3 := Lib.hid (show faceC l f = endsC l f.es by rw [HC2.out, if_neg h4])
            clear h4
            go_wp2_with fail
            clear hRc hRz
            go_loopw [45] (fun vi wr => ∃ (k n' : Nat) (l' : List (Int × Bool)), k ≤ f.es.length ∧ vi = .int .i64 k ∧ Hid (endsC l f.es = endsC l' (f.es.drop k)) ∧ Hid (n' ≤ n + k) ∧ Hid (Seen wr b n' l') ∧ Hid (W.grownBy wr (some b))) (fun vi _ => f.es.length - (intOf vi).toNat)
            case atStart => exact ⟨0, n, l, Nat.zero_le _, rfl, Lib.hid rfl, Lib.hid (Nat.le_refl _), HS1, Lib.hid (gb_refl _ _)⟩
            case round =>
              obtain ⟨k, n', l', hk, rfl, HEN, HNN, HSW, HGW⟩ := hrel
              by_cases hlt : k < f.es.length
              · obtain ⟨g, o, rfl, hc⟩ := HEE2.out (Nat.lt_of_le_of_lt (Nat.zero_le _) hlt)
                obtain ⟨x, hx⟩ : ∃ x, f.es[k] = x := ⟨_, rfl⟩
                have HDR := Lib.hid (show f.es.drop k = x :: f.es.drop (k + 1) by rw [List.drop_eq_getElem_cons hlt, hx])
                have hcj : ∀ j (hj : j < 5), wr.cell? ⟨g, o + k * 5 + j, none⟩ = (ec1 x)[j]? := fun j hj => by
                  have h1 := ecells_get hlt j hj
                  rw [hx] at h1
                  have hj5 : j < (ec1 x).length := hj
                  obtain ⟨h2, h3⟩ := List.getElem?_eq_some_iff.1 (h1.trans (List.getElem?_eq_getElem hj5))
                  rw [List.getElem?_eq_getElem hj5]
                  exact HS1.out.gb_cell HGW.out (by rw [Nat.add_assoc]; exact (hc _ h2).trans (by rw [h3]))
                have k0 : wr.cell? ⟨g, o + k * 5, none⟩ = some (.int .i64 x.ad) := hcj 0 (by decide)
                have k1 : wr.cell? ⟨g, o + k * 5 + 1, none⟩ = some (.bool x.inn) := hcj 1 (by decide)
                have k2 : wr.cell? ⟨g, o + k * 5 + 2, none⟩ = some (.int .i64 x.ki) := hcj 2 (by decide)
                have k3 : wr.cell? ⟨g, o + k * 5 + 3, none⟩ = some (.int .i64 x.mx) := hcj 3 (by decide)
                have k4 : wr.cell? ⟨g, o + k * 5 + 4, none⟩ = some (.int .i64 x.iv) := hcj 4 (by decide)
                have HWI := Lib.hid (fun W V (hV : Kt.Ar W V 1 1 (ics [x.ki])) => within_calls 3 V [x.ki] W hV (by simp))
                have HBY := Lib.hid (fun W V (hV : Kt.Ar W V 1 1 (ics [x.iv])) => bytesB_calls V [x.iv] W hV (by simp))
                have HBAD : Hid (¬ okE x → faceC l f = (1, l')) := Lib.hid (fun q => by rw [HC3.out, HEN.out, HDR.out, endsC_cons, if_neg q])
                clear hc hx hcj
                have HGX := fun o => Lib.hid (HGW.out.trans (gb_alloc wr o (some b)))
                by_cases c1 : x.ad < 1
                · have HC4 := Lib.hid (HBAD.out (fun q => by have := q.1; omega))
                  go_wp2_with fail
                  go_ret
                  exact face_out HC4.out (by have := HNN.out; omega) (HSW.out.alloc _) (HG.out.trans (HGW.out.trans (gb_alloc _ _ _)))
                · by_cases c2 : 15 < x.ad
                  · have HC4 := Lib.hid (HBAD.out (fun q => by have := q.2.1; omega))
                    go_wp2_with fail
                    go_ret
                    exact face_out HC4.out (by have := HNN.out; omega) (HSW.out.alloc _) (HG.out.trans (HGW.out.trans (gb_alloc _ _ _)))
                  · have hin : inB 3 [x.ki] = (decide (0 ≤ x.ki) && decide (x.ki ≤ 3)) := by simp [inB]
                    have hby : inB 255 [x.iv] = decide (isB x.iv) := by
                      rw [Bool.eq_iff_iff, decide_eq_true_iff]
                      unfold inB isB
                      simp
                    have HG2 := Lib.hid (HG.out.trans ((HGW.out.trans (gb_alloc wr (.cells #[.int .i64 x.ad, .bool x.inn, .int .i64 x.ki, .int .i64 x.mx, .int .i64 x.iv] 43) (some b))).trans (gb_alloc _ (.cells #[.int .i64 x.ki] 3) _)))
                    have HS2 := Lib.hid ((HSW.out.alloc (.cells #[.int .i64 x.ad, .bool x.inn, .int .i64 x.ki, .int .i64 x.mx, .int .i64 x.iv] 43)).alloc (.cells #[.int .i64 x.ki] 3))
                    by_cases c3 : 0 ≤ x.ki ∧ x.ki ≤ 3
                    · rw [decide_eq_true c3.1, decide_eq_true c3.2] at hin
                      rw [hin] at HWI
                      by_cases c4 : x.mx < 1
                      · have HC4 := Lib.hid (HBAD.out (fun q => by have := q.2.2.2.2.1; omega))
                        clear hin hby c3
                        go_wp2_with fail
                        refine (HWI.out _ _ (Kt.Ar.new' (wr.alloc (.cells #[.int .i64 x.ad, .bool x.inn, .int .i64 x.ki, .int .i64 x.mx, .int .i64 x.iv] 43)) #[.int .i64 x.ki] 3 1 1 (wr.heap.size + 1) (World.size_alloc wr _) rfl)).mono ?_
                        rintro e wz ⟨rfl, rfl⟩
                        go_wp2_with fail
                        go_ret
                        exact face_out HC4.out (by have := HNN.out; omega) HS2.out HG2.out
                      · by_cases c5 : 64 < x.mx
                        · have HC4 := Lib.hid (HBAD.out (fun q => by have := q.2.2.2.2.2.1; omega))
                          clear hin hby c3
                          go_wp2_with fail
                          refine (HWI.out _ _ (Kt.Ar.new' (wr.alloc (.cells #[.int .i64 x.ad, .bool x.inn, .int .i64 x.ki, .int .i64 x.mx, .int .i64 x.iv] 43)) #[.int .i64 x.ki] 3 1 1 (wr.heap.size + 1) (World.size_alloc wr _) rfl)).mono ?_
                          rintro e wz ⟨rfl, rfl⟩
                          go_wp2_with fail
                          go_ret
                          exact face_out HC4.out (by have := HNN.out; omega) HS2.out HG2.out
                        · rw [hby] at HBY
                          have HG3 := Lib.hid (HG2.out.trans (gb_alloc _ (.cells #[.int .i64 x.iv] 3) _))
                          have HS3 := Lib.hid (HS2.out.alloc (.cells #[.int .i64 x.iv] 3))
                          by_cases c6 : isB x.iv
                          · rw [decide_eq_true c6] at HBY
                            have HOK : Hid (okE x) := Lib.hid ⟨by omega, by omega, c3.1, c3.2, by omega, by omega, c6⟩
                            have hwf : (Lit.int .i64 x.ad).wf = true := by
                              simp only [Lit.wf, Bool.and_eq_true, decide_eq_true_eq]
                              refine ⟨?_, ?_⟩
                              · show (-9223372036854775808 : Int) ≤ x.ad; omega
                              · show x.ad ≤ (9223372036854775807 : Int); omega
                            have HWF := Lib.hid hwf
                            clear hin hby c3 c6 hwf
                            go_wp2_with fail
                            refine (HWI.out _ _ (Kt.Ar.new' (wr.alloc (.cells #[.int .i64 x.ad, .bool x.inn, .int .i64 x.ki, .int .i64 x.mx, .int .i64 x.iv] 43)) #[.int .i64 x.ki] 3 1 1 (wr.heap.size + 1) (World.size_alloc wr _) rfl)).mono ?_
                            rintro e wz ⟨rfl, rfl⟩
                            go_wp2_with fail
                            refine (HBY.out _ _ (Kt.Ar.new' ((wr.alloc (.cells #[.int .i64 x.ad, .bool x.inn, .int .i64 x.ki, .int .i64 x.mx, .int .i64 x.iv] 43)).alloc (.cells #[.int .i64 x.ki] 3)) #[.int .i64 x.iv] 3 1 1 (wr.heap.size + 2) (by rw [World.size_alloc, World.size_alloc]) rfl)).mono ?_
                            rintro e wz ⟨rfl, rfl⟩
                            have HG4 := Lib.hid (HG3.out.trans (gb_alloc _ (.cells #[.int .i64 x.ad, .bool x.inn] 106) _))
                            have HGL := Lib.hid ((((HGW.out.trans (gb_alloc wr (.cells #[.int .i64 x.ad, .bool x.inn, .int .i64 x.ki, .int .i64 x.mx, .int .i64 x.iv] 43) (some b))).trans (gb_alloc _ (.cells #[.int .i64 x.ki] 3) _)).trans (gb_alloc _ (.cells #[.int .i64 x.iv] 3) _)).trans (gb_alloc _ (.cells #[.int .i64 x.ad, .bool x.inn] 106) _))
                            have HS4 := Lib.hid (HS3.out.alloc (.cells #[.int .i64 x.ad, .bool x.inn] 106))
                            have hlk := HS4.out.look x.ad x.inn HWF.out
                            obtain ⟨W5, hput, hs5, hg5⟩ := HS4.out.put x.ad x.inn HWF.out (by have := HNN.out; have := HN.out; unfold maxLen; omega)
                            dsimp only [plV] at hlk hput
                            have HS5 := Lib.hid hs5
                            have HG5 := Lib.hid hg5
                            clear hs5 hg5
                            by_cases c7 : (x.ad, x.inn) ∈ l'
                            · rw [decide_eq_true c7] at hlk
                              have HC4 : Hid (faceC l f = (13, l')) := Lib.hid (by rw [HC3.out, HEN.out, HDR.out, endsC_cons, if_pos HOK.out, if_pos c7])
                              clear c7 hput
                              go_wp2_with fail
                              go_ret
                              exact face_out HC4.out (by have := HNN.out; omega) HS4.out HG4.out
                            · rw [decide_eq_false c7] at hlk
                              have HEN2 : Hid (endsC l f.es = endsC ((x.ad, x.inn) :: l') (f.es.drop (k + 1))) := Lib.hid (by rw [HEN.out, HDR.out, endsC_cons, if_pos HOK.out, if_neg c7])
                              clear c7
                              go_wp2_with fail
                              go_roundw
                              case rel => exact ⟨k + 1, n' + 1, (x.ad, x.inn) :: l', hlt, rfl, HEN2, Lib.hid (by have := HNN.out; omega), HS5, Lib.hid (HGL.out.trans HG5.out)⟩
                              case measure => exact meas_d hlt
                          · rw [decide_eq_false c6] at HBY
                            have HC4 := Lib.hid (HBAD.out (fun q => c6 q.2.2.2.2.2.2))
                            clear hin hby c3 c6
                            go_wp2_with fail
                            refine (HWI.out _ _ (Kt.Ar.new' (wr.alloc (.cells #[.int .i64 x.ad, .bool x.inn, .int .i64 x.ki, .int .i64 x.mx, .int .i64 x.iv] 43)) #[.int .i64 x.ki] 3 1 1 (wr.heap.size + 1) (World.size_alloc wr _) rfl)).mono ?_
                            rintro e wz ⟨rfl, rfl⟩
                            go_wp2_with fail
                            refine (HBY.out _ _ (Kt.Ar.new' ((wr.alloc (.cells #[.int .i64 x.ad, .bool x.inn, .int .i64 x.ki, .int .i64 x.mx, .int .i64 x.iv] 43)).alloc (.cells #[.int .i64 x.ki] 3)) #[.int .i64 x.iv] 3 1 1 (wr.heap.size + 2) (by rw [World.size_alloc, World.size_alloc]) rfl)).mono ?_
                            rintro e wz ⟨rfl, rfl⟩
                            go_wp2_with fail
                            go_ret
                            exact face_out HC4.out (by have := HNN.out; omega) HS3.out HG3.out
                    · have hin2 : inB 3 [x.ki] = false := by
                        rw [hin, Bool.and_eq_false_iff, decide_eq_false_iff_not, decide_eq_false_iff_not]
                        omega
                      rw [hin2] at HWI
                      have HC4 := Lib.hid (HBAD.out (fun q => c3 ⟨q.2.2.1, q.2.2.2.1⟩))
                      clear hin hby c3 hin2
                      go_wp2_with fail
                      refine (HWI.out _ _ (Kt.Ar.new' (wr.alloc (.cells #[.int .i64 x.ad, .bool x.inn, .int .i64 x.ki, .int .i64 x.mx, .int .i64 x.iv] 43)) #[.int .i64 x.ki] 3 1 1 (wr.heap.size + 1) (World.size_alloc wr _) rfl)).mono ?_
                      rintro e wz ⟨rfl, rfl⟩
                      go_wp2_with fail
                      go_ret
                      exact face_out HC4.out (by have := HNN.out; omega) HS2.out HG2.out
              · obtain rfl : k = f.es.length := by omega
                have HC4 : Hid (faceC l f = (0, l')) := Lib.hid (by rw [HC3.out, HEN.out, List.drop_length]; rfl)
                go_wp2_with fail
                go_ret
                exact face_out HC4.out (by have := HNN.out; omega) HSW.out (HG.out.trans HGW.out)
  · refine (face_head f X E b w hh).mono ?_
    rintro e w' ⟨rfl, hb⟩
    exact face_out (by unfold faceC; rw [if_neg hh]) (Nat.le_add_right _ _) (hS.on hb) (gb_below hb _)
end Go.Proofs.Ytmddfpmchcmgiaa
