/- The law SlotsTwice, walked. -/
import Derived.Test.YtmnfajndklmpbaaSltT
namespace Go.Proofs.Ytmnfajndklmpbaa
open Go.RowKit Classical Go.Proofs.Ytmnfajndklmpbaa.Slt
theorem did_conf {l x : List Int} {s a c m : Int} (h : Did l 5 s 0 a x c m) (hc : c = 1) : ∃ (n : Nat) (y : List Int), Ok l ∧ s = n ∧ 1 ≤ n ∧ n ≤ 8 ∧ G (at_ l n) 0 ≠ 0 ∧ confCode (at_ l n) a = 1 ∧ Conf (at_ l n) a y ∧ x = put l n y := by
  cases h with
  | bad _ => omega
  | noop _ h => omega
  | enable i ho h hF => omega
  | full _ _ _ => omega
  | trb _ _ _ _ => omega
  | done n y ho _ _ hs n1 n2 hcc hM =>
    have hcc' := hcc
    unfold cmdCode at hcc
    split at hcc
    · omega
    next h0 =>
    rw [if_neg (by decide), if_neg (by decide), if_pos rfl] at hcc
    cases hM with
    | off h => omega
    | call _ h _ => omega
    | conf _ _ hC => exact ⟨n, y, ho, hs, n1, n2, h0, hcc, hC, rfl⟩
    | ends h => omega
  | refused _ _ _ _ _ _ _ hne => exact absurd hc hne
theorem conf_range {x : List Int} {a : Int} (h : confCode x a = 1) : 0 ≤ a ∧ a < 4294967296 ∧ a % 4 = 0 ∧ G x 0 ≠ 1 := by
  unfold confCode at h
  split at h
  · omega
  next h1 =>
  split at h
  · omega
  next h2 => exact ⟨by omega, by omega, by omega, h2⟩
theorem Slt.Conf.st2 {x y : List Int} {a : Int} (h : Conf x a y) : G y 0 = 2 ∨ G y 0 = 3 := by rw [h.st]; split <;> simp
theorem Slt.Conf.ne {x y : List Int} {a : Int} (h : Conf x a y) (k : Nat) (h1 : 2 ≤ k) (h2 : k < 32) (hb : a.toNat.testBit k = true) : G y (2 + k) ≠ 0 := by
  rw [(h.on k h1 h2 hb).1]; split <;> omega
theorem Slt.Conf.again {x y z : List Int} {a : Int} (h : Conf x a y) (g : Conf y a z) : z = y := by
  refine G_ext (by rw [h.len, g.len]) fun i hi => ?_
  rw [g.len] at hi
  by_cases e0 : i = 0
  · subst e0; rw [g.st, h.st]
  by_cases e1 : i = 1
  · subst e1; rw [g.ad]
  by_cases e2 : i < 34
  · obtain ⟨k, rfl⟩ : ∃ k, i = 2 + k := ⟨i - 2, by omega⟩
    by_cases hk : k < 2
    · exact (g.low k hk).1
    · cases hb : a.toNat.testBit k
      · rw [(g.off k (by omega) (by omega) hb).1, (h.off k (by omega) (by omega) hb).1]
      · rw [(g.on k (by omega) (by omega) hb).1, if_neg (h.ne k (by omega) (by omega) hb)]
  · obtain ⟨k, rfl⟩ : ∃ k, i = 34 + k := ⟨i - 34, by omega⟩
    by_cases hk : k < 2
    · exact (g.low k hk).2
    · cases hb : a.toNat.testBit k
      · rw [(g.off k (by omega) (by omega) hb).2, (h.off k (by omega) (by omega) hb).2]
      · rw [(g.on k (by omega) (by omega) hb).2]
theorem did_conf_again {l y : List Int} {n : Nat} {a : Int} {x : List Int} {c m : Int} (hl : l.length = 594) (ho : Ok l) (n1 : 1 ≤ n) (n2 : n ≤ 8) (h0 : G (at_ l n) 0 ≠ 0) (hcc : confCode (at_ l n) a = 1) (hC : Conf (at_ l n) a y) (h : Did (put l n y) 5 n 0 a x c m) : x = put l n y ∧ c = 1 := by
  have hat := at_put l hl n (by omega) y hC.len
  have hok : Ok (put l n y) := made_ok (k := 5) (e := 0) (a := a) hl ho n1 n2 (by unfold cmdCode; rw [if_neg h0, if_neg (by decide), if_neg (by decide), if_pos rfl]; exact hcc) (.conf y rfl hC)
  obtain ⟨r1, r2, r3, _⟩ := conf_range hcc
  have hcy : confCode y a = 1 := conf1 (by omega) (by rcases hC.st2 with h | h <;> rw [h] <;> decide)
  have hcmd : cmdCode (at_ (put l n y) n) 5 0 a = 1 := by
    rw [hat]; unfold cmdCode
    rw [if_neg (by rcases hC.st2 with h | h <;> rw [h] <;> decide), if_neg (by decide), if_neg (by decide), if_pos rfl]; exact hcy
  have hc : c = 1 := by
    cases h with
    | bad h => exact absurd hok h
    | noop _ h => omega
    | enable i ho h hF => rfl
    | full _ h _ => omega
    | trb _ _ _ h => omega
    | done _ _ _ _ _ _ _ _ _ _ => rfl
    | refused j _ _ _ hs _ _ hne =>
      obtain rfl : n = j := by omega
      exact absurd hcmd hne
  obtain ⟨j, z, _, hs, _, _, _, _, hZ, rfl⟩ := did_conf h hc
  obtain rfl : n = j := by omega
  rw [hat] at hZ
  rw [put_put l hl n (by omega) _ _ hC.len hZ.len, hC.again hZ]
  exact ⟨rfl, hc⟩
/-- what stays in both sets -/
theorem did_conf_other {l y : List Int} {n : Nat} {a o : Int} {x : List Int} {c m : Int} (hl : l.length = 594) (n2 : n ≤ 8) (hC : Conf (at_ l n) a y) (h : Did (put l n y) 5 n 0 o x c m) (hc : c = 1) : 0 ≤ o ∧ o < 4294967296 ∧ ∀ k, k < 32 → (k < 2 ∨ (a.toNat.testBit k = true ∧ o.toNat.testBit k = true)) → G x (n * 66 + 2 + k) = G (put l n y) (n * 66 + 2 + k) ∧ G x (n * 66 + 34 + k) = G (put l n y) (n * 66 + 34 + k) := by
  have hat := at_put l hl n (by omega) y hC.len
  obtain ⟨j, z, _, hs, _, _, _, hcc, hZ, rfl⟩ := did_conf h hc
  obtain rfl : n = j := by omega
  rw [hat] at hZ hcc
  obtain ⟨r1, r2, r3, _⟩ := conf_range hcc
  refine ⟨r1, r2, fun k hk hor => ?_⟩
  rw [put_put l hl n (by omega) _ _ hC.len hZ.len]
  rw [Nat.add_assoc, Nat.add_assoc, G_put_in l hl n (by omega) _ hZ.len (2 + k) (by omega), G_put_in l hl n (by omega) _ hZ.len (34 + k) (by omega), G_put_in l hl n (by omega) _ hC.len (2 + k) (by omega), G_put_in l hl n (by omega) _ hC.len (34 + k) (by omega)]
  by_cases h2 : k < 2
  · exact hZ.low k h2
  · rcases hor with h | ⟨ha, hb⟩
    · exact absurd h h2
    · have := hZ.on k (by omega) hk hb
      rw [if_neg (hC.ne k (by omega) hk ha)] at this
      exact this
theorem bit_of (a : Int) (k : Nat) (h1 : 0 ≤ a) (h2 : a < 4294967296) : (bits .and .i64 (a / 2 ^ k) 1 == 1) = a.toNat.testBit k := by
  have := bit_test a.toNat k (by omega)
  rwa [Int.toNat_of_nonneg h1] at this
theorem int_in {w : World} {B : Nat} {v : Value} (h : Fr.RdV w B (.int .i64) v) : ∃ a : Int, v = .int .i64 a := by
  obtain ⟨ns, e, _⟩ := Kt.ints_of (w := w) (B := B) (k := .i64) [[v]] (fun x hx => by simp at hx; subst hx; exact ⟨rfl, h⟩)
  match ns, e with
  | [n], _ =>
    rename_i hq
    simp at hq
    exact ⟨n, hq.1⟩
set_option maxRecDepth 100000 in
set_option maxHeartbeats 3200000 in
theorem twice_walk {B : Nat} (v0 v1 v2 v3 : Value) (w : World) (r0 : Fr.RdV w B boardTy v0) (r1 : Fr.RdV w B (.int .i64) v1) (r2 : Fr.RdV w B (.int .i64) v2) (r3 : Fr.RdV w B (.int .i64) v3) :
    Calls Try.prog 6 #[v0, v1, v2, v3] w fun e w' => e = .returned (.bool true) ∧ Below w.heap.size w w' := by
  obtain ⟨l, rfl, hl⟩ := board_in r0
  obtain ⟨s, rfl⟩ := int_in r1
  obtain ⟨a, rfl⟩ := int_in r2
  obtain ⟨o, rfl⟩ := int_in r3
  clear r0 r1 r2 r3
  have HD := Lib.hid (fun W => do_calls l hl 5 s 0 a W)
  unfold cmdV at *
  have hsz : (Try.prog.info? 27).map (·.size) = some l.length := by rw [hl]; exact size_board
  have Z0 := zero_board
  have b0 : Bx 27 w.heap.size l (w.alloc (.cells (Kt.ia .i64 l) 27)) := heap_alloc_new w _
  have hbel : Below w.heap.size w _ := Kt.balloc (Below.refl _ w) (.cells (Kt.ia .i64 l) 27)
  have EG := fun op p q y z w => guard_board op p q y z w
  go_enter Try.func6, Try.ntmps6
  go_wp2_with (refine load_bx rfl 27 (.tmp 4) rfl w.heap.size rfl l b0 Try.underlying27 hsz ?_)
  refine (HD.out _).mono ?_
  rintro en w1 ⟨x, c, m, hd, rfl, hb⟩
  have hxl : x.length = 594 := hd.len hl
  have hsx : (Try.prog.info? 27).map (·.size) = some x.length := by rw [hxl]; exact size_board
  have hb9 : Bx 27 w1.heap.size x (w1.alloc (.cells (Kt.ia .i64 x) 27)) := heap_alloc_new _ _
  replace b0 := (b0.on hb).on (Kt.balloc (Below.refl _ _) (.cells (Kt.ia .i64 x) 27))
  replace hbel := Kt.balloc (Kt.bthen hbel hb) (.cells (Kt.ia .i64 x) 27)
  have HDD := Lib.hid hd
  clear hb hd
  go_wp2_with (refine store_new rfl 27 (.tmp 9) (.tmp 24) rfl w1.heap.size rfl rfl x rfl _ (by rw [Kt.ia_size, zb_len, hxl]) hsx ?_)
  generalize w1.alloc (.cells (Kt.ia .i64 x) 27) = W at *
  generalize w1.heap.size = g at *
  refine (lives_calls _).mono ?_
  rintro en w2 ⟨rfl, hb⟩
  replace b0 := b0.on hb
  replace hb9 := hb9.on hb
  replace hbel := Kt.bthen hbel hb
  clear hb
  by_cases hc : c = 1
  · subst hc
    obtain ⟨n, y, ho, rfl, n1, n2, h0, hcc, hC, rfl⟩ := did_conf HDD.out rfl
    have HO := Lib.hid ho
    have HN := Lib.hid (And.intro n1 n2)
    have HH := Lib.hid (And.intro h0 (And.intro hcc hC))
    have d1 : decide ((n : Int) < 1) = false := decide_eq_false (by omega)
    have d2 : decide (8 < (n : Int)) = false := decide_eq_false (by omega)
    have HD2 := Lib.hid (fun W => do_calls (put l n y) hxl 5 n 0 a W)
    unfold cmdV at *
    clear ho n1 n2 h0 hcc hC
    go_wp2_with (refine load_bx rfl 27 (.tmp 9) rfl g rfl _ hb9 Try.underlying27 hsx ?_)
    refine (HD2.out _).mono ?_
    rintro en w3 ⟨x2, c, m2, hd, rfl, hb⟩
    obtain ⟨rfl, rfl⟩ := did_conf_again hl HO.out HN.out.1 HN.out.2 HH.out.1 HH.out.2.1 HH.out.2.2 hd
    generalize hX : put l n y = X at *
    have HX := Lib.hid hX
    clear hX
    have hb12 : Bx 27 w3.heap.size X (w3.alloc (.cells (Kt.ia .i64 X) 27)) := heap_alloc_new _ _
    replace hb9 := (hb9.on hb).on (Kt.balloc (Below.refl _ _) (.cells (Kt.ia .i64 X) 27))
    replace hbel := Kt.balloc (Kt.bthen hbel hb) (.cells (Kt.ia .i64 X) 27)
    have EQ1 := fun w => ((eq_board X X hxl hxl).1 rfl w).2
    have HD3 := Lib.hid (fun W => do_calls X hxl 5 n 0 o W)
    unfold cmdV at *
    clear hb hd d1 d2
    go_upto_region 5 with (refine store_new rfl 27 (.tmp 12) (.tmp 53) rfl w3.heap.size rfl rfl X rfl _ (by rw [Kt.ia_size, zb_len, hxl]) hsx ?_)
    generalize w3.alloc (.cells (Kt.ia .i64 X) 27) = W3 at *
    generalize w3.heap.size = g3 at *
    go_wp2_with (first
      | (refine load_bx rfl 27 (.tmp 12) rfl g3 rfl _ hb12 Try.underlying27 hsx ?_)
      | (refine load_bx rfl 27 (.tmp 9) rfl g rfl _ hb9 Try.underlying27 hsx ?_))
    refine (HD3.out _).mono ?_
    rintro en w4 ⟨z, c, m3, hd, rfl, hb⟩
    have hzl : z.length = 594 := hd.len hxl
    have hsz2 : (Try.prog.info? 27).map (·.size) = some z.length := by rw [hzl]; exact size_board
    have hb15 : Bx 27 w4.heap.size z (w4.alloc (.cells (Kt.ia .i64 z) 27)) := heap_alloc_new _ _
    replace hb9 := (hb9.on hb).on (Kt.balloc (Below.refl _ _) (.cells (Kt.ia .i64 z) 27))
    replace hbel := Kt.balloc (Kt.bthen hbel hb) (.cells (Kt.ia .i64 z) 27)
    have HD4 := Lib.hid hd
    have H0 := Lib.hid (And.intro hb9 (And.intro hb15 hbel))
    clear hb hd hb9 hb15 hbel hb12 b0
    go_wp2_with (refine store_new rfl 27 (.tmp 15) (.tmp 69) rfl w4.heap.size rfl rfl z rfl _ (by rw [Kt.ia_size, zb_len, hzl]) hsz2 ?_)
    generalize w4.alloc (.cells (Kt.ia .i64 z) 27) = W4 at *
    generalize w4.heap.size = g4 at *
    clear Z0 EG EQ1 hsz hsx hsz2 HD HD2 HD3
    go_loopw [72] (fun ii wr => ∃ k : Nat, Hid (k ≤ 32) ∧ ii = .int .i64 k ∧ Hid (Bx 27 g X wr ∧ Bx 27 g4 z wr ∧ Below w.heap.size w wr)) (fun ii _ => 32 - (intOf ii).toNat)
    case atStart => exact ⟨0, Lib.hid (by omega), rfl, H0⟩
    case round =>
      clear H0
      obtain ⟨k, HK, rfl, H0⟩ := hrel
      by_cases hk : k < 32
      · have hk' : (k : Int) < 32 := by omega
        have hn' : (n : Int) < 9 := by have := HN.out.2; omega
        by_cases hc : c = 1
        · subst hc
          obtain ⟨o1, o2, HST⟩ := did_conf_other hl HN.out.2 HH.out.2.2 (by rw [HX.out]; exact HD4.out) rfl
          have HST2 := Lib.hid (HST k hk)
          obtain ⟨a1, a2, _, _⟩ := conf_range HH.out.2.1
          have FA := bit_of a k a1 a2
          have FO := bit_of o k o1 o2
          clear HST o1 o2 a1 a2
          have c1 := H0.out.1.cell (n * 66 + 2 + k) (by have := HN.out.2; omega)
          have c2 := H0.out.2.1.cell (n * 66 + 2 + k) (by have := HN.out.2; omega)
          have c3 := H0.out.1.cell (n * 66 + 34 + k) (by have := HN.out.2; omega)
          have c4 := H0.out.2.1.cell (n * 66 + 34 + k) (by have := HN.out.2; omega)
          rw [HX.out] at HST2
          generalize G X (n * 66 + 2 + k) = p1 at *
          generalize G X (n * 66 + 34 + k) = p2 at *
          generalize G z (n * 66 + 2 + k) = p3 at *
          generalize G z (n * 66 + 34 + k) = p4 at *
          by_cases h2 : k < 2
          · have h2' : (k : Int) < 2 := by omega
            obtain ⟨rfl, rfl⟩ := HST2.out (.inl h2)
            clear FA FO h2
            go_upto_region 11 with (fail)
            go_quiet (fail)
            go_wp2_with fail
            exact ⟨⟨k + 1, Lib.hid hk, rfl, Lib.hid ⟨H0.out.1.drewN _, H0.out.2.1.drewN _, bdrewN H0.out.2.2 _⟩⟩, next_i hk⟩
          · have h2' : ¬ (k : Int) < 2 := by omega
            cases hA : a.toNat.testBit k
            · rw [hA] at FA
              clear FO h2
              go_upto_region 11 with (fail)
              go_quiet (fail)
              go_wp2_with fail
              exact ⟨⟨k + 1, Lib.hid hk, rfl, Lib.hid ⟨H0.out.1.drewN _, H0.out.2.1.drewN _, bdrewN H0.out.2.2 _⟩⟩, next_i hk⟩
            · cases hO : o.toNat.testBit k
              · rw [hA] at FA
                rw [hO] at FO
                clear h2
                go_upto_region 11 with (fail)
                go_quiet (fail)
                go_wp2_with fail
                exact ⟨⟨k + 1, Lib.hid hk, rfl, Lib.hid ⟨H0.out.1.drewN _, H0.out.2.1.drewN _, bdrewN H0.out.2.2 _⟩⟩, next_i hk⟩
              · rw [hA] at FA
                rw [hO] at FO
                obtain ⟨rfl, rfl⟩ := HST2.out (.inr ⟨hA, hO⟩)
                clear h2 hA hO
                go_upto_region 11 with (fail)
                go_quiet (fail)
                go_wp2_with fail
                exact ⟨⟨k + 1, Lib.hid hk, rfl, Lib.hid ⟨H0.out.1.drewN _, H0.out.2.1.drewN _, bdrewN H0.out.2.2 _⟩⟩, next_i hk⟩
        · have f1 : (c == 1) = false := beq_eq_false_iff_ne.2 hc
          clear hc
          go_upto_region 11 with (fail)
          go_quiet (fail)
          go_wp2_with fail
          exact ⟨⟨k + 1, Lib.hid hk, rfl, Lib.hid ⟨H0.out.1.drewN _, H0.out.2.1.drewN _, bdrewN H0.out.2.2 _⟩⟩, next_i hk⟩
      · have hk' : ¬ (k : Int) < 32 := by omega
        go_wp2_with fail
        go_ret
        exact ⟨rfl, H0.out.2.2⟩
  · have f1 : (c != 1) = true := bne_iff_ne.2 hc
    have hx := HDD.out.kept hc
    subst hx
    go_wp2_with fail
    refine (lives_calls _).mono ?_
    rintro en w3 ⟨rfl, hb⟩
    replace b0 := b0.on hb
    replace hb9 := hb9.on hb
    replace hbel := Kt.bthen hbel hb
    have EQ := fun w => ((eq_board x x hl hl).1 rfl w).1
    go_wp2_with (first
      | (refine load_bx_g rfl 27 (.tmp 9) rfl g rfl x hb9 Try.underlying27 hsz ?_)
      | (refine load_bx_g rfl 27 (.tmp 4) rfl w.heap.size rfl x b0 Try.underlying27 hsz ?_))
    go_ret
    exact ⟨rfl, hbel⟩
end Go.Proofs.Ytmnfajndklmpbaa
