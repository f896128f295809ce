/- RingOwn, walked. -/
import Derived.Test.YtmgjgajpgjfaiaaRngS
namespace Go.Proofs.Ytmgjgajpgjfaiaa
open Go.RowKit
/-- every block of cells is there, and as great as it was -/
structure Shape (w w' : World) : Prop where
  size : w.heap.size ≤ w'.heap.size
  row : ∀ (k : Nat) (cur : Array Value) (t : TypeId), w.heap[k]? = some (.cells cur t (0, 0)) → ∃ cur', w'.heap[k]? = some (.cells cur' t (0, 0)) ∧ cur'.size = cur.size
theorem Shape.refl (w : World) : Shape w w := ⟨Nat.le_refl _, fun k cur t h => ⟨cur, h, rfl⟩⟩
theorem Shape.set {w w' : World} (h : Shape w w') (g i : Nat) (v : Value) {cs : Array Value} {t : TypeId} (hg : w'.heap[g]? = some (.cells cs t (0, 0))) : Shape w (w'.setCell ⟨g, i, none⟩ v) := by
  refine ⟨by simpa [World.setCell] using h.size, fun k cur t' hk => ?_⟩
  obtain ⟨cur', h1, h2⟩ := h.row k cur t' hk
  by_cases e : k = g
  · subst e
    exact ⟨_, heap_setCell_same w' k i cur' t' v h1, by simpa using h2⟩
  · exact ⟨cur', (heap_setCell_other _ _ _ _ e).trans h1, h2⟩
set_option maxHeartbeats 800000 in
theorem cloneCellL (v : Value) (n : Nat) (xs : List Value) (w : World) (h : Kt.Ar w v 3 n xs) (h1 : ∀ u ∈ xs, u.oneCell' = true) (hn : n ≤ 5864062014805) :
    Calls Try.prog 17 #[v] w fun e w' => ∃ A c, e = .returned (.slice A n c) ∧ Kt.Sl w' w.heap.size 47 3 (.slice A n c) n xs ∧ Below w.heap.size w w' := by
  have qT : ∀ (w : World) (a : Option Addr) (n c n' c' : Nat), (binOp .eql 23 (.slice a n c) (.slice none n' c')).run Try.prog w = .ok (.bool a.isNone) w := fun w a n c n' c' => Lib.run_eql_slice_nil w _ _ a n c n' c' Try.underlying23
  obtain ⟨A, c, rfl, hnc, hx⟩ := h.form
  have hlen := h.len
  cases A with
  | none =>
    have hn0 : n = 0 := by
      rcases Nat.eq_zero_or_pos n with h0 | h0
      · exact h0
      · obtain ⟨b, o, e, _⟩ := hx h0; cases e
    subst hn0
    obtain rfl : xs = [] := List.eq_nil_of_length_eq_zero (by simpa using hlen)
    go_enter Try.func17, Try.ntmps17
    go_wp2
    go_ret
    exact ⟨none, 0, rfl, Kt.Sl.nil _ _ _ _, Below.refl _ _⟩
  | some ad =>
    have hnews : ∀ j u, xs[j]? = some u → (w.alloc (.cells #[] 47)).cell? (ad.add j) = some u := by
      intro j u hj
      obtain ⟨hj1, hj2⟩ := List.getElem?_eq_some_iff.1 hj
      obtain ⟨b, o, e, hb, hc⟩ := hx (by omega)
      injection e with e
      subst e
      rw [Addr.add_lit, World.cell?_alloc_lt _ _ _ (by exact hb), hc j hj1, hj2]
    have hs0 : Kt.Sl (w.alloc (.cells #[] 47)) w.heap.size 47 3 (.slice (some ⟨w.heap.size, 0, none⟩) 0 0) 0 [] :=
      ⟨rfl, .inr ⟨w.heap.size, 0, 0, #[], rfl, Nat.le_refl _, heap_alloc_new w _, Nat.le_refl _, by simp [maxLen], by simp, fun j u hj => by simp at hj⟩⟩
    go_enter Try.func17, Try.ntmps17
    go_wp2_with (
      refine Kt.append_sl _ (by rfl) (.tmp 5) (.tmp 6) 23 rfl w.heap.size 47 (.agg #[.int .u64 0, .int .i64 0, .bool false]) 3 24 infoCell Try.underlying23 rfl (by decide) _ 0 [] rfl hs0 ad n c xs rfl hlen hnews h1 (by unfold maxLen; omega) (by omega) (by rw [World.size_alloc]; omega) ?_
      intro A' c' w1 hs1 hb1 hz1 hk1 hl1
      clear hk1 hl1 hs0 hnews hx)
    go_ret
    rw [Nat.zero_add] at hs1
    exact ⟨A', c', rfl, hs1, ((Below.refl _ w).alloc (Nat.le_refl _) _).trans hb1⟩
theorem eqCL_len (u v : Value) (ls ms : List (RC)) (w : World) (ha : Kt.Ar w u 3 ls.length (cvs ls)) (hb : Kt.Ar w v 3 ms.length (cvs ms)) (hl : ((ls.length : Int) != ms.length) = true) :
    Calls Try.prog 16 #[u, v] w fun e w' => e = .returned (.bool false) ∧ Below w.heap.size w w' := by
  obtain ⟨A, c, rfl, _, _⟩ := ha.form
  obtain ⟨A', c', rfl, _, _⟩ := hb.form
  go_enter Try.func16, Try.ntmps16
  go_wp2_with fail
  go_ret
  exact ⟨rfl, Below.refl _ _⟩
set_option maxHeartbeats 1600000 in
theorem eqCL_same (u v : Value) (ls ms : List (RC)) (w : World) (ha : Kt.Ar w u 3 ls.length (cvs ls)) (hb : Kt.Ar w v 3 ls.length (cvs ms)) (hl : ls.length = ms.length) (hm : ls.length ≤ 140737488355328) :
    Calls Try.prog 16 #[u, v] w fun e w' => e = .returned (.bool (decide (ls = ms))) ∧ Below w.heap.size w w' := by
  obtain ⟨A, c, rfl, _, hxa⟩ := ha.form
  obtain ⟨A', c', rfl, _, hxb⟩ := hb.form
  have HL := Lib.hid hl
  have HM := Lib.hid hm
  generalize hn : ls.length = n at *
  have HN := Lib.hid hn; clear hn hl ha hb
  go_enter Try.func16, Try.ntmps16
  go_wp2_with fail
  go_loopw [13] (fun i wr => ∃ k : Nat, k ≤ n ∧ i = .int .i64 k ∧ (∀ j (h1 : j < ls.length) (h2 : j < ms.length), j < k → ls[j] = ms[j]) ∧ Below w.heap.size w wr) (fun i _ => n - (intOf i).toNat)
  case atStart => exact ⟨0, Nat.zero_le _, rfl, fun j _ _ h => absurd h (by omega), Below.refl _ _⟩
  case round =>
    obtain ⟨k, hk, rfl, hpre, hbel⟩ := hrel
    have HP := Lib.hid hpre; clear hpre
    have hkm : k ≤ 140737488355328 := by have := HM.out; omega
    by_cases hlt : k < n
    · obtain ⟨b, o, rfl, hb, hc⟩ := hxa (by omega)
      obtain ⟨b', o', rfl, hb', hc'⟩ := hxb (by omega)
      have h1 : k < ls.length := by have := HN.out; omega
      have h2 : k < ms.length := by have := HN.out; have := HL.out; omega
      obtain ⟨x, hx⟩ : ∃ x, ls[k] = x := ⟨_, rfl⟩
      obtain ⟨y, hy⟩ : ∃ y, ms[k] = y := ⟨_, rfl⟩
      obtain ⟨x0, x1, x2⟩ := x
      have xc0 : wr.cell? ⟨b, o + k * 3, none⟩ = some (.int .u64 x0) := by
        have h := hc (k * 3 + 0) (by rw [cvs_len]; omega)
        rw [← List.getElem?_eq_getElem, cvs_get _ _ _ (by omega), List.getElem?_eq_getElem h1, hx] at h
        rw [hbel.cell (p := ⟨b, o + k * 3, none⟩) hb]
        exact h
      have xc1 : wr.cell? ⟨b, o + k * 3 + 1, none⟩ = some (.int .i64 x1) := by
        have h := hc (k * 3 + 1) (by rw [cvs_len]; omega)
        rw [← List.getElem?_eq_getElem, cvs_get _ _ _ (by omega), List.getElem?_eq_getElem h1, hx] at h
        rw [hbel.cell (p := ⟨b, o + k * 3 + 1, none⟩) hb]
        exact h
      have xc2 : wr.cell? ⟨b, o + k * 3 + 2, none⟩ = some (.bool x2) := by
        have h := hc (k * 3 + 2) (by rw [cvs_len]; omega)
        rw [← List.getElem?_eq_getElem, cvs_get _ _ _ (by omega), List.getElem?_eq_getElem h1, hx] at h
        rw [hbel.cell (p := ⟨b, o + k * 3 + 2, none⟩) hb]
        exact h
      obtain ⟨y0, y1, y2⟩ := y
      have yc0 : wr.cell? ⟨b', o' + k * 3, none⟩ = some (.int .u64 y0) := by
        have h := hc' (k * 3 + 0) (by rw [cvs_len]; omega)
        rw [← List.getElem?_eq_getElem, cvs_get _ _ _ (by omega), List.getElem?_eq_getElem h2, hy] at h
        rw [hbel.cell (p := ⟨b', o' + k * 3, none⟩) hb']
        exact h
      have yc1 : wr.cell? ⟨b', o' + k * 3 + 1, none⟩ = some (.int .i64 y1) := by
        have h := hc' (k * 3 + 1) (by rw [cvs_len]; omega)
        rw [← List.getElem?_eq_getElem, cvs_get _ _ _ (by omega), List.getElem?_eq_getElem h2, hy] at h
        rw [hbel.cell (p := ⟨b', o' + k * 3 + 1, none⟩) hb']
        exact h
      have yc2 : wr.cell? ⟨b', o' + k * 3 + 2, none⟩ = some (.bool y2) := by
        have h := hc' (k * 3 + 2) (by rw [cvs_len]; omega)
        rw [← List.getElem?_eq_getElem, cvs_get _ _ _ (by omega), List.getElem?_eq_getElem h2, hy] at h
        rw [hbel.cell (p := ⟨b', o' + k * 3 + 2, none⟩) hb']
        exact h
      have HX := Lib.hid hx; have HY := Lib.hid hy; clear hx hy hxa hxb hc hc'
      have b1 : (0 : Int) ≤ k := by omega
      have b2 : (k : Int) < n := by omega
      by_cases he : (x0, x1, x2) = (y0, y1, y2)
      · simp only [Prod.mk.injEq] at he; obtain ⟨rfl, rfl, rfl⟩ := he
        go_wp2_with fail
        go_quiet (fail)
        go_wp2
        go_roundw
        case rel =>
          refine ⟨k + 1, by omega, by go_num, fun j a b hj => ?_, bdrewN hbel _⟩
          by_cases hjk : j = k
          · subst hjk; exact HX.out.trans HY.out.symm
          · exact HP.out j a b (by omega)
        case measure => simp [intOf]; omega
      · have HNE := Lib.hid he
        have hparts : (¬ x0 = y0) ∨ (x0 = y0 ∧ ¬ x1 = y1) ∨ (x0 = y0 ∧ x1 = y1 ∧ ¬ x2 = y2) := by
          simp only [Prod.mk.injEq, not_and] at he
          first | (revert he; grind) | grind
        clear he
        rcases hparts with e0 | ⟨rfl, e1⟩ | ⟨rfl, rfl, e2⟩
        all_goals
          go_wp2_with fail
          go_quiet (fail)
          go_wp2
          go_ret
          refine ⟨?_, bdrewN hbel _⟩
          have : decide (ls = ms) = false := by
            rw [decide_eq_false_iff_not]
            rintro rfl
            exact HNE.out (HX.out.symm.trans HY.out)
          rw [this]; rfl
    · obtain rfl : k = n := by omega
      go_wp2
      go_ret
      have : decide (ls = ms) = true := by
        rw [decide_eq_true_iff]
        exact List.ext_getElem (HN.out.trans HL.out) fun j a b => HP.out j a b (by have := HN.out; omega)
      rw [this]
      exact ⟨rfl, hbel⟩
theorem eqCL (u v : Value) (ls ms : List (RC)) (w : World) (ha : Kt.Ar w u 3 ls.length (cvs ls)) (hb : Kt.Ar w v 3 ms.length (cvs ms)) (hm : ls.length ≤ 140737488355328) :
    Calls Try.prog 16 #[u, v] w fun e w' => e = .returned (.bool (decide (ls = ms))) ∧ Below w.heap.size w w' := by
  by_cases hl : ls.length = ms.length
  · exact eqCL_same u v ls ms w ha (by rw [hl]; exact hb) hl hm
  · refine (eqCL_len u v ls ms w ha hb (by rw [bne_iff_ne]; omega)).mono fun e w' ⟨h1, h2⟩ => ⟨?_, h2⟩
    have : decide (ls = ms) = false := by
      rw [decide_eq_false_iff_not]
      rintro rfl
      exact hl rfl
    rw [h1, this]
set_option maxHeartbeats 800000 in
theorem same_trueL (V U : Value) (r : Rg) (w : World) (hV : RA w V r) (hU : RA w U r) (h1 : r.cs.length ≤ 140737488355328) : Calls Try.prog 14 #[V, U] w fun e w' => e = .returned (.bool true) ∧ Below w.heap.size w w' := by
  obtain ⟨C, rfl, hC⟩ := hV
  obtain ⟨C', rfl, hC'⟩ := hU
  have gC := hC; have gC' := hC'
  obtain ⟨LA, Lc, rfl, _, _⟩ := hC.form
  obtain ⟨LA', Lc', rfl, _, _⟩ := hC'.form
  clear hC hC'
  unfold rgV
  go_enter Try.func14, Try.ntmps14
  go_wp2_with fail
  refine (eqCL _ _ r.cs r.cs _ (gC.on (Kt.balloc (Kt.balloc (Below.refl _ w) _) _)) (gC'.on (Kt.balloc (Kt.balloc (Below.refl _ w) _) _)) (by omega)).mono ?_
  rintro en w1 ⟨rfl, hb⟩
  have hbel := Kt.bthen (Kt.balloc (Kt.balloc (Below.refl _ w) _) _) hb
  have e1 : decide (r.cs = r.cs) = true := by simp
  rw [e1]
  clear hb e1
  go_wp2_with fail
  go_ret
  exact ⟨rfl, hbel⟩
def Owns (w : World) (B : Nat) (v : Value) : Prop := ∃ n xs, Kt.Sl w B 47 3 v n xs
theorem Owns.on {w w' : World} {B : Nat} {v : Value} (h : Owns w B v) (b : Below w.heap.size w w') : Owns w' B v := by
  obtain ⟨n, xs, h⟩ := h; exact ⟨n, xs, h.on b⟩
theorem Owns.mono {w : World} {B B' : Nat} {v : Value} (h : Owns w B v) (hb : B' ≤ B) : Owns w B' v := by
  obtain ⟨n, xs, h⟩ := h; exact ⟨n, xs, h.mono hb⟩
theorem Owns.sl {w : World} {B : Nat} {A : Option Addr} {n c : Nat} (h : Owns w B (.slice A n c)) : ∃ xs, Kt.Sl w B 47 3 (.slice A n c) n xs := by
  obtain ⟨m, xs, h⟩ := h
  obtain ⟨A', c', e, _⟩ := h.form
  cases e
  exact ⟨xs, h⟩
/-- three slices, none of them in the block that holds them -/
def Listed (W : World) (B L : Nat) (cs : Array Value) : Prop := ∀ j, j < 3 → ∃ A n c xs, cs[j]? = some (.slice A n c) ∧ Kt.Sl W B 47 3 (.slice A n c) n xs ∧ ∀ k, (Value.slice A n c).ownBlock = some k → k ≠ L
theorem listed3 {w : World} {B : Nat} {A1 A2 A3 : Option Addr} {n1 n2 n3 c1 c2 c3 : Nat} {o : Obj} (h1 : Owns w B (.slice A1 n1 c1)) (h2 : Owns w B (.slice A2 n2 c2)) (h3 : Owns w B (.slice A3 n3 c3)) :
    Listed (w.alloc o) B w.heap.size #[.slice A1 n1 c1, .slice A2 n2 c2, .slice A3 n3 c3] := by
  intro j hj
  obtain ⟨x1, h1⟩ := h1.sl
  obtain ⟨x2, h2⟩ := h2.sl
  obtain ⟨x3, h3⟩ := h3.sl
  match j, hj with
  | 0, _ => exact ⟨_, _, _, x1, rfl, h1.alloc o, fun k hk => by have := (h1.lt k hk).2; omega⟩
  | 1, _ => exact ⟨_, _, _, x2, rfl, h2.alloc o, fun k hk => by have := (h2.lt k hk).2; omega⟩
  | 2, _ => exact ⟨_, _, _, x3, rfl, h3.alloc o, fun k hk => by have := (h3.lt k hk).2; omega⟩
/-- some ring, its cells new -/
def Some1 (w : World) (e : Ending) (w' : World) : Prop := ∃ A n c r k, e = .returned (.tuple #[rgV (.slice A n c) r, .int .i64 k]) ∧ Owns w' w.heap.size (.slice A n c) ∧ Below w.heap.size w w'
theorem owns_nil (w : World) (B : Nat) : Owns w B (.slice none 0 0) := ⟨0, [], Kt.Sl.nil _ _ _ _⟩
theorem gives_some {w : World} {r : Rg} {e : Ending} {w' : World} (h : Gives w r e w') : Some1 w e w' := by
  obtain ⟨v, he, ⟨C, rfl, hs⟩, hb⟩ := h
  obtain ⟨A, c, rfl, _, _⟩ := hs.form
  exact ⟨A, _, c, r, 0, he, ⟨_, _, hs⟩, hb⟩
theorem put_any (V : Value) (r : Rg) (x : Int) (w : World) (h : RA w V r) (hn : r.cs.length ≤ 140737488355328) : Calls Try.prog 10 #[V, .int .u64 x] w (Some1 w) := by
  by_cases hr : Right r
  · cases hf : fullB r
    · exact (put_ok V r x w h hr hf).mono fun e w' h => gives_some h
    · exact (put_full V r x w h hr hf).mono fun e w' ⟨n, _, he, hb⟩ => ⟨none, 0, 0, _, n, he, owns_nil _ _, hb⟩
  · exact (put_badL V r x w h hn hr).mono fun e w' ⟨n, _, he, hb⟩ => ⟨none, 0, 0, _, n, he, owns_nil _ _, hb⟩
theorem learn_any (V : Value) (r : Rg) (w : World) (h : RA w V r) (hn : r.cs.length ≤ 140737488355328) : Calls Try.prog 12 #[V] w (Some1 w) := by
  by_cases hr : Right r
  · exact (learn_ok V r w h hr).mono fun e w' h => gives_some h
  · exact (learn_badL V r w h hn hr).mono fun e w' ⟨n, _, he, hb⟩ => ⟨none, 0, 0, _, n, he, owns_nil _ _, hb⟩
def Some2 (w : World) (e : Ending) (w' : World) : Prop := ∃ A n c r y b k, e = .returned (.tuple #[rgV (.slice A n c) r, .int .u64 y, .bool b, .int .i64 k]) ∧ Owns w' w.heap.size (.slice A n c) ∧ Below w.heap.size w w'
theorem gives_some2 {w : World} {r : Rg} {x : Int} {ok : Bool} {e : Ending} {w' : World} (h : GetGives w r x ok e w') : Some2 w e w' := by
  obtain ⟨v, he, ⟨C, rfl, hs⟩, hb⟩ := h
  obtain ⟨A, c, rfl, _, _⟩ := hs.form
  exact ⟨A, _, c, r, _, _, 0, he, ⟨_, _, hs⟩, hb⟩
theorem get_any (V : Value) (r : Rg) (w : World) (h : RA w V r) (hn : r.cs.length ≤ 140737488355328) : Calls Try.prog 11 #[V] w (Some2 w) := by
  by_cases hr : Right r
  · cases hg : getB r
    · exact (get_no V r w h hr hg).mono fun e w' h => gives_some2 h
    · exact (get_yes V r w h hr hg).mono fun e w' h => gives_some2 h
  · exact (get_badL V r w h hn hr).mono fun e w' ⟨n, _, he, hb⟩ => ⟨none, 0, 0, _, _, _, n, he, owns_nil _ _, hb⟩
set_option maxHeartbeats 6400000 in
set_option maxRecDepth 100000 in
theorem own_main (V : Value) (r : Rg) (x : Int) (w : World) (h : RA w V r) (hn : r.cs.length ≤ 5864062014805) :
    Calls Try.prog 7 #[V, .int .u64 x] w fun e w' => e = .returned (.bool true) ∧ Below w.heap.size w w' := by
  have h0 := h
  obtain ⟨C, rfl, hC⟩ := h
  have hC0 := hC
  obtain ⟨CA, Cc, rfl, _, _⟩ := hC.form
  unfold rgV
  clear hC
  go_enter Try.func7, Try.ntmps7
  go_wp2_with fail
  refine (cloneCellL _ _ _ _ (hC0.on (Kt.balloc (Kt.balloc (Below.refl _ w) _) _)) (cvs_one _) hn).mono ?_
  rintro en w1 ⟨DA, Dc, rfl, hD, hb1⟩
  obtain ⟨r2, r5⟩ := Kt.box2 hb1
  have hbel := Kt.bthen (Kt.balloc (Kt.balloc (Below.refl _ w) _) _) hb1
  have hz1 : w.heap.size + 1 < w1.heap.size := (Array.getElem?_eq_some_iff.1 r5).1
  have q2 := fun i => cell_of_row _ _ i _ _ _ r2
  have q5 := fun i => cell_of_row _ _ i _ _ _ r5
  have qf5 := fun i => frozen_of_row _ _ i _ _ r5
  clear hb1
  go_wp2_with fail
  refine Kt.foldC (fun W => W.heap[w.heap.size]? = some (.cells #[.slice CA r.cs.length Cc, .int .i64 r.pa, .int .i64 r.pb, .int .i64 r.ga, .int .i64 r.gb, .int .i64 r.sn] 27 (0, 0)) ∧ W.heap[w.heap.size + 1]? = some (.cells #[.slice DA r.cs.length Dc, .int .i64 r.pa, .int .i64 r.pb, .int .i64 r.ga, .int .i64 r.gb, .int .i64 r.sn] 27 (0, 0)) ∧ RA W (.agg #[.slice CA r.cs.length Cc, .int .i64 r.pa, .int .i64 r.pb, .int .i64 r.ga, .int .i64 r.gb, .int .i64 r.sn]) r ∧ RA W (.agg #[.slice DA r.cs.length Dc, .int .i64 r.pa, .int .i64 r.pb, .int .i64 r.ga, .int .i64 r.gb, .int .i64 r.sn]) r ∧ Below w.heap.size w W)
    ⟨(heap_setCell_other _ _ _ _ (by simp)).trans r2, heap_setCell_same _ _ _ _ _ _ r5, ⟨_, rfl, hC0.on (Kt.bset hbel (by simp) _)⟩, ⟨_, rfl, Kt.Ar.of_sl ((hD.mono (B' := w.heap.size + 2) (by simp)).low (by simp) _)⟩, Kt.bset hbel (by simp) _⟩ ?_
  clear q2 q5 qf5 r2 r5 hbel hD h0
  rintro wq ⟨r2, r5, hr, hd, hbel⟩
  have hzq : w.heap.size + 1 < wq.heap.size := (Array.getElem?_eq_some_iff.1 r5).1
  have hzq0 : w.heap.size < wq.heap.size := by omega
  refine (put_any _ r x _ hr (by omega)).mono ?_
  rintro en w2 ⟨A1, n1, c1, ra, k1, rfl, ho1, hb2⟩
  have hba := hb2
  have HR2 := Lib.hid r2; have HR5 := Lib.hid r5
  replace r2 := Kt.row_on hba r2
  have q2 := fun i => cell_of_row _ _ i _ _ _ r2
  have hz2 : w.heap.size < w2.heap.size := (Array.getElem?_eq_some_iff.1 r2).1
  clear hb2 r5
  unfold rgV
  go_wp2_with fail
  refine (get_any _ r _ (hr.on (Kt.balloc hba _)) (by omega)).mono ?_
  rintro en w3 ⟨A2, n2, c2, rb, y, ok, k2, rfl, ho2, hb3⟩
  have r6 := Kt.box1 hb3
  have hz6 : w2.heap.size < w3.heap.size := (Array.getElem?_eq_some_iff.1 r6).1
  have hb3' := Kt.bthen (Kt.balloc (Below.refl _ w2) _) hb3
  replace ho1 := ho1.on hb3'
  replace ho2 := ho2.mono (B' := wq.heap.size) (Nat.le_trans hba.size (by simp))
  replace r2 := Kt.row_on hb3' r2
  replace hba := Kt.bthen hba hb3'
  clear hb3 q2
  have q2 := fun i => cell_of_row _ _ i _ _ _ r2
  have hz3 : w.heap.size < w3.heap.size := (Array.getElem?_eq_some_iff.1 r2).1
  unfold rgV
  go_wp2_with fail
  refine (learn_any _ r _ (hr.on (Kt.balloc hba _)) (by omega)).mono ?_
  rintro en w4 ⟨A3, n3, c3, rc, k3, rfl, ho3, hb4⟩
  have r8 := Kt.box1 hb4
  have hz8 : w3.heap.size < w4.heap.size := (Array.getElem?_eq_some_iff.1 r8).1
  have hb4' := Kt.bthen (Kt.balloc (Below.refl _ w3) _) hb4
  replace ho1 := ho1.on hb4'
  replace ho2 := ho2.on hb4'
  replace ho3 := ho3.mono (B' := wq.heap.size) (Nat.le_trans hba.size (by simp))
  replace r2 := Kt.row_on hb4' r2
  replace r6 := Kt.row_on hb4' r6
  replace hba := Kt.bthen hba hb4'
  have r5 := Kt.row_on hba HR5.out
  clear hb4 q2
  have q2 := fun i => cell_of_row _ _ i _ _ _ r2
  have q5 := fun i => cell_of_row _ _ i _ _ _ r5
  have hz4 : w.heap.size < w4.heap.size := (Array.getElem?_eq_some_iff.1 r2).1
  have hz4a : w.heap.size + 1 < w4.heap.size := (Array.getElem?_eq_some_iff.1 r5).1
  unfold rgV
  go_wp2_with fail
  refine (same_trueL _ _ r _ (hr.on (Kt.balloc hba _)) (hd.on (Kt.balloc hba _)) (by omega)).mono ?_
  rintro en w5 ⟨rfl, hb5⟩
  have r12 := Kt.box1 hb5
  have hz12 : w4.heap.size < w5.heap.size := (Array.getElem?_eq_some_iff.1 r12).1
  have hb5' := Kt.bthen (Kt.balloc (Below.refl _ w4) _) hb5
  replace ho1 := ho1.on hb5'
  replace ho2 := ho2.on hb5'
  replace ho3 := ho3.on hb5'
  replace r6 := Kt.row_on hb5' r6
  replace r8 := Kt.row_on hb5' r8
  replace hba := Kt.bthen hba hb5'
  clear hb5 q2 q5 r2 r5
  have q6 := fun i => cell_of_row _ _ i _ _ _ r6
  have q8 := fun i => cell_of_row _ _ i _ _ _ r8
  have q12 := fun i => cell_of_row _ _ i _ _ _ r12
  go_wp2_with fail
  refine Kt.fold (fun W => W.heap[w5.heap.size]? = some (.cells #[.slice A1 n1 c1, .slice A2 n2 c2, .slice A3 n3 c3] 23 (0, 0)) ∧ Listed W wq.heap.size w5.heap.size #[.slice A1 n1 c1, .slice A2 n2 c2, .slice A3 n3 c3] ∧ Below wq.heap.size wq W)
    ⟨heap_alloc_new _ _, listed3 ho1 ho2 ho3, Kt.balloc hba _⟩ ?_
  clear ho1 ho2 ho3 hba q6 q8 q12 r6 r8 r12
  rintro W ⟨rL, hL, hba⟩
  have hB := hba.size
  go_loopw [52] (fun i wr => ∃ k : Nat, k ≤ 3 ∧ i = .int .i64 k ∧ Shape W wr ∧ Below wq.heap.size W wr ∧ wr.heap[w5.heap.size]? = some (.cells #[.slice A1 n1 c1, .slice A2 n2 c2, .slice A3 n3 c3] 23 (0, 0))) (fun i _ => 3 - (intOf i).toNat)
  case atStart => exact ⟨0, by omega, rfl, Shape.refl _, Below.refl _ _, rL⟩
  case round =>
    obtain ⟨k, hk, rfl, hsh, hbe, rLr⟩ := hrel
    have qL := fun i => cell_of_row _ _ i _ _ _ rLr
    by_cases hlt : k < 3
    · obtain ⟨A, n, c, xs, hx, hs, hne⟩ := hL k hlt
      have qk := qL k
      rw [hx] at qk
      have hk3 : (k : Int) < 3 := by omega
      clear qL
      rcases hs.2 with ⟨hv, hn0⟩ | ⟨g, o, cap, cur, hv, hb, hg, hnc, hc, hz, _⟩
      · cases hv
        go_wp2_with fail
        refine wp_loop_rounds 1 ?_
        rw [rounds_succ]
        go_wp2_with fail
        go_roundw
        case rel => exact ⟨k + 1, by omega, by go_num, hsh, hbe, rLr⟩
        case measure => simp [intOf]; omega
      · cases hv
        unfold maxLen at hc
        have hci : (c : Int) ≤ 9223372036854775807 := by omega
        have hgL : g ≠ w5.heap.size := hne g rfl
        clear hs hne hx
        go_wp2_with fail
        clear qk
        go_loopw [62] (fun i wi => ∃ j : Nat, j ≤ c ∧ i = .int .i64 j ∧ Shape W wi ∧ Below wq.heap.size W wi ∧ wi.heap[w5.heap.size]? = some (.cells #[.slice A1 n1 c1, .slice A2 n2 c2, .slice A3 n3 c3] 23 (0, 0))) (fun i _ => c - (intOf i).toNat)
        case atStart => exact ⟨0, Nat.zero_le _, rfl, hsh, hbe, rLr⟩
        case round =>
          clear hsh hbe rLr
          obtain ⟨j, hj, rfl, hsh, hbe, rLr⟩ := hrel
          by_cases hjc : j < c
          · obtain ⟨cur', e1, e2⟩ := hsh.row g cur _ hg
            have v0 := fun (x : Nat) (hx : x < 3) => (cell_of_row _ g (o + j * 3 + x) _ _ _ e1).trans (Array.getElem?_eq_getElem (show o + j * 3 + x < cur'.size by omega))
            have f0 := fun i => frozen_of_row _ g i _ _ e1
            obtain ⟨y0, hy0⟩ : ∃ y, wr.cell? ⟨g, o + j * 3, none⟩ = some y := ⟨_, v0 0 (by omega)⟩
            obtain ⟨y1, hy1⟩ : ∃ y, wr.cell? ⟨g, o + j * 3 + 1, none⟩ = some y := ⟨_, v0 1 (by omega)⟩
            obtain ⟨y2, hy2⟩ : ∃ y, wr.cell? ⟨g, o + j * 3 + 2, none⟩ = some y := ⟨_, v0 2 (by omega)⟩
            have E1 := Lib.hid e1
            clear v0 e1
            go_wp2_with fail
            go_roundw
            case rel =>
              have s1 := hsh.set g (o + j * 3) (.int .u64 77) E1.out
              have e1 := heap_setCell_same wr g (o + j * 3) _ _ (.int .u64 77) E1.out
              have s2 := s1.set g (o + j * 3 + 1) (.int .i64 0) e1
              have e2 := heap_setCell_same _ g (o + j * 3 + 1) _ _ (.int .i64 0) e1
              have s3 := s2.set g (o + j * 3 + 2) (.bool false) e2
              exact ⟨j + 1, by omega, by go_num, s3, ((hbe.setCell hb _).setCell hb _).setCell hb _, (heap_setCell_other _ _ _ _ (Ne.symm hgL)).trans ((heap_setCell_other _ _ _ _ (Ne.symm hgL)).trans ((heap_setCell_other _ _ _ _ (Ne.symm hgL)).trans rLr))⟩
            case measure => simp [intOf]; omega
          · obtain rfl : j = c := by omega
            go_wp2_with fail
            go_roundw
            case rel => exact ⟨k + 1, by omega, by go_num, hsh, hbe, rLr⟩
            case measure => simp [intOf]; omega
    · obtain rfl : k = 3 := by omega
      have hbq := hba.trans hbe
      have r2 := (hbq.block _ hzq0).trans HR2.out
      have r5 := (hbq.block _ hzq).trans HR5.out
      have q2 := fun i => cell_of_row _ _ i _ _ _ r2
      have q5 := fun i => cell_of_row _ _ i _ _ _ r5
      clear qL rLr hsh
      go_wp2_with fail
      refine (lives_calls _).mono ?_
      rintro en w8 ⟨rfl, hb8⟩
      replace r2 := Kt.row_on hb8 r2
      replace r5 := Kt.row_on hb8 r5
      replace hbq := hbq.trans (hb8.mono hbq.size)
      clear hb8 q2 q5
      have q2 := fun i => cell_of_row _ _ i _ _ _ r2
      have q5 := fun i => cell_of_row _ _ i _ _ _ r5
      go_wp2_with fail
      refine (same_trueL _ _ r _ (hr.on hbq) (hd.on hbq) (by omega)).mono ?_
      rintro en w9 ⟨rfl, hb9⟩
      have hfin := Kt.bthen hbel (hbq.trans (hb9.mono hbq.size))
      clear hb9
      go_wp2_with fail
      go_ret
      exact ⟨rfl, hfin⟩
theorem own_walk (v0 v1 : Value) (w : World) (r0 : Fr.RdV w reachBytes (.cat 1 (.slice 3 (.cat 1 (.int .u64) (.cat 1 (.int .i64) (.cat 1 .bool .nil)))) (.cat 2 (.cat 1 (.int .i64) (.cat 1 (.int .i64) .nil)) (.cat 2 (.cat 1 (.int .i64) (.cat 1 (.int .i64) .nil)) (.cat 1 (.int .i64) .nil)))) v0) (r1 : Fr.RdV w reachBytes (.int .u64) v1)
    (m1 : ∀ (cs : Array Value) a l c, v0 = .agg cs → (cs.toList.drop 0).take 1 = [.slice a l c] → l * Try.prog.bytesOf 47 ≤ reachBytes) :
    Calls Try.prog 7 #[v0, v1] w fun e w' => e = .returned (.bool true) ∧ Below w.heap.size w w' := by
  obtain ⟨r, hr, _⟩ := ra_of r0
  obtain ⟨x, h, _⟩ := r1
  simp only [List.cons.injEq, and_true] at h
  subst h
  have hby : Try.prog.bytesOf 47 = 24 := by kernel_rfl
  have hR : reachBytes ≤ 140737488355328 := by unfold reachBytes; omega
  have h0 := hr
  obtain ⟨C, rfl, hC⟩ := hr
  obtain ⟨A, c, rfl, _, _⟩ := hC.form
  have b1 := m1 _ A r.cs.length c rfl rfl
  rw [hby] at b1
  exact own_main _ r x w h0 (by omega)
end Go.Proofs.Ytmgjgajpgjfaiaa
