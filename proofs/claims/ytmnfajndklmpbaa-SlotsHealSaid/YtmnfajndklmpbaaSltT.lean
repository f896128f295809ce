/- The law SlotsBack, walked. -/
import Derived.Test.YtmnfajndklmpbaaSltS
namespace Go.Proofs.Ytmnfajndklmpbaa
open Go.RowKit Classical Go.Proofs.Ytmnfajndklmpbaa.Slt
theorem first_one {l : List Int} {i j : Nat} (h : FirstOff l i) (g : FirstOff l j) : i = j := by
  obtain ⟨h1, h2, h3, h4⟩ := h
  obtain ⟨g1, g2, g3, g4⟩ := g
  rcases Nat.lt_trichotomy i j with q | q | q
  · exact absurd h3 (g4 i h1 q)
  · exact q
  · exact absurd g3 (h4 j g1 q)
theorem did_two {l x : List Int} {s : Int} (h : Did l 2 0 0 0 x 1 s) : ∃ i : Nat, Ok l ∧ FirstOff l i ∧ x = l.set (i * 66) 1 ∧ s = i := by
  generalize hc : (1 : Int) = c at h
  cases h with
  | bad _ => omega
  | noop _ h => omega
  | enable i ho _ hF => exact ⟨i, ho, hF, by rw [hc], rfl⟩
  | full _ _ _ => omega
  | trb _ _ h _ => omega
  | done _ _ _ h => omega
  | refused _ _ h => omega
theorem did_two_again {l x : List Int} {i : Nat} {c s : Int} (hF : FirstOff l i) (ho : Ok l) (h : Did l 2 0 0 0 x c s) : x = l.set (i * 66) 1 ∧ c = 1 ∧ s = i := by
  cases h with
  | bad h => exact absurd ho h
  | noop _ h => omega
  | enable j _ _ hG => obtain rfl := first_one hF hG; exact ⟨rfl, rfl, rfl⟩
  | full _ _ hN => exact absurd hF.2.2.1 (hN i hF.1 hF.2.1)
  | trb _ _ h _ => omega
  | done _ _ _ h => omega
  | refused _ _ h => omega
theorem did_three {l y : List Int} {i : Nat} {c n : Int} (hl : l.length = 594) (ho : Ok l) (hF : FirstOff l i) (h : Did (l.set (i * 66) 1) 3 i 0 0 y c n) : y = l ∧ c = 1 ∧ n = i := by
  have e := set_put hl ho hF 1
  have hx := put_len l hl i hF.2.1 (1 :: zs) rfl
  have hat : at_ (l.set (i * 66) 1) i = 1 :: zs := by rw [e]; exact at_put l hl i hF.2.1 _ rfl
  have hox : Ok (l.set (i * 66) 1) := by rw [e]; exact put_ok l hl ho i hF.1 (by have := hF.2.1; omega) _ rfl one_ok (.inl (by decide))
  have hcc : cmdCode (1 :: zs) 3 0 0 = 1 := by unfold cmdCode; rw [if_neg (by decide), if_pos rfl]
  have h1 := hF.1
  have h2 := hF.2.1
  cases h with
  | bad h => exact absurd hox h
  | noop _ h => omega
  | enable j _ h _ => omega
  | full _ h _ => omega
  | trb _ _ _ h => omega
  | done m z _ _ _ hs _ _ _ hM =>
    obtain rfl : m = i := by omega
    cases hM with
    | off _ =>
      refine ⟨?_, rfl, rfl⟩
      rw [e, put_put l hl m h2 _ _ rfl rfl, ← off_zero hl ho hF.1 hF.2.1 hF.2.2.1, put_at l hl m h2]
    | call _ h _ => omega
    | conf _ h _ => omega
    | ends h => omega
  | refused m _ _ _ hs _ _ hne =>
    obtain rfl : m = i := by omega
    rw [hat] at hne
    exact absurd hcc hne
set_option maxRecDepth 100000 in
set_option maxHeartbeats 3200000 in
theorem back_walk {B : Nat} (v0 : Value) (w : World) (r0 : Fr.RdV w B boardTy v0) :
    Calls Try.prog 5 #[v0] w fun e w' => e = .returned (.bool true) ∧ Below w.heap.size w w' := by
  obtain ⟨l, rfl, hl⟩ := board_in r0
  clear r0
  have HD := Lib.hid (fun W => do_calls l hl 2 0 0 0 W)
  unfold cmdV at *
  have hsz : (Try.prog.info? 27).map (·.size) = some l.length := by rw [hl]; exact size_board
  have Z0 := zero_board
  have b0 : Bx 27 w.heap.size l (w.alloc (.cells (Kt.ia .i64 l) 27)) := heap_alloc_new w _
  have hbel : Below w.heap.size w _ := Kt.balloc (Below.refl _ w) (.cells (Kt.ia .i64 l) 27)
  have EG := fun p q y z w => guard_board .eql p q y z w
  go_enter Try.func5, Try.ntmps5
  go_wp2_with (refine load_bx rfl 27 (.tmp 1) rfl w.heap.size rfl l b0 Try.underlying27 hsz ?_)
  refine (HD.out _).mono ?_
  rintro en w1 ⟨x, c, s, hd, rfl, hb⟩
  have hxl : x.length = 594 := hd.len hl
  have hsx : (Try.prog.info? 27).map (·.size) = some x.length := by rw [hxl]; exact size_board
  have hb3 : Bx 27 w1.heap.size x (w1.alloc (.cells (Kt.ia .i64 x) 27)) := heap_alloc_new _ _
  replace b0 := (b0.on hb).on (Kt.balloc (Below.refl _ _) (.cells (Kt.ia .i64 x) 27))
  replace hbel := Kt.balloc (Kt.bthen hbel hb) (.cells (Kt.ia .i64 x) 27)
  have HDD := Lib.hid hd
  clear hb hd
  go_wp2_with (refine store_new rfl 27 (.tmp 3) (.tmp 15) rfl w1.heap.size rfl rfl x rfl _ (by rw [Kt.ia_size, zb_len, hxl]) hsx ?_)
  generalize w1.alloc (.cells (Kt.ia .i64 x) 27) = W at *
  generalize w1.heap.size = g at *
  refine (lives_calls _).mono ?_
  rintro en w2 ⟨rfl, hb⟩
  replace b0 := b0.on hb
  replace hb3 := hb3.on hb
  replace hbel := Kt.bthen hbel hb
  clear hb
  by_cases hc : c = 1
  · subst hc
    obtain ⟨i, ho, hF, rfl, rfl⟩ := did_two HDD.out
    have HO := Lib.hid ho
    have HF := Lib.hid hF
    have HD3 := Lib.hid (fun W => do_calls (l.set (i * 66) 1) hxl 3 i 0 0 W)
    unfold cmdV at *
    clear ho hF
    go_wp2_with (refine load_bx rfl 27 (.tmp 3) rfl g rfl _ hb3 Try.underlying27 hsx ?_)
    refine (HD3.out _).mono ?_
    rintro en w3 ⟨y, c, n, hd, rfl, hb⟩
    obtain ⟨rfl, rfl, rfl⟩ := did_three hl HO.out HF.out hd
    have hb6 : Bx 27 w3.heap.size y (w3.alloc (.cells (Kt.ia .i64 y) 27)) := heap_alloc_new _ _
    replace b0 := (b0.on hb).on (Kt.balloc (Below.refl _ _) (.cells (Kt.ia .i64 y) 27))
    replace hb3 := (hb3.on hb).on (Kt.balloc (Below.refl _ _) (.cells (Kt.ia .i64 y) 27))
    replace hbel := Kt.balloc (Kt.bthen hbel hb) (.cells (Kt.ia .i64 y) 27)
    clear hb hd
    go_upto_region 5 with (refine store_new rfl 27 (.tmp 6) (.tmp 35) rfl w3.heap.size rfl rfl y rfl _ (by rw [Kt.ia_size, zb_len, hl]) hsz ?_)
    generalize w3.alloc (.cells (Kt.ia .i64 y) 27) = W3 at *
    generalize w3.heap.size = g3 at *
    go_wp2_with (refine load_bx rfl 27 (.tmp 6) rfl g3 rfl _ hb6 Try.underlying27 hsz ?_)
    refine (HD.out _).mono ?_
    rintro en w4 ⟨z, c, m, hd, rfl, hb⟩
    obtain ⟨rfl, rfl, rfl⟩ := did_two_again HF.out HO.out hd
    generalize y.set (i * 66) 1 = z at *
    have hb8 : Bx 27 w4.heap.size z (w4.alloc (.cells (Kt.ia .i64 z) 27)) := heap_alloc_new _ _
    replace b0 := (b0.on hb).on (Kt.balloc (Below.refl _ _) (.cells (Kt.ia .i64 z) 27))
    replace hb3 := (hb3.on hb).on (Kt.balloc (Below.refl _ _) (.cells (Kt.ia .i64 z) 27))
    replace hb6 := (hb6.on hb).on (Kt.balloc (Below.refl _ _) (.cells (Kt.ia .i64 z) 27))
    replace hbel := Kt.balloc (Kt.bthen hbel hb) (.cells (Kt.ia .i64 z) 27)
    have EQ1 := fun w => ((eq_board y y hl hl).1 rfl w).1
    have EQ2 := fun w => ((eq_board z z hxl hxl).1 rfl w).1
    clear hb hd
    go_upto_region 6 with (refine store_new rfl 27 (.tmp 8) (.tmp 42) rfl w4.heap.size rfl rfl z rfl _ (by rw [Kt.ia_size, zb_len, hxl]) hsx ?_)
    generalize w4.alloc (.cells (Kt.ia .i64 z) 27) = W4 at *
    generalize w4.heap.size = g4 at *
    go_wp2_with (first
      | (refine load_bx rfl 27 (.tmp 6) rfl g3 rfl _ hb6 Try.underlying27 hsz ?_)
      | (refine load_bx rfl 27 (.tmp 1) rfl w.heap.size rfl _ b0 Try.underlying27 hsz ?_)
      | (refine load_bx_g rfl 27 (.tmp 8) rfl g4 rfl _ hb8 Try.underlying27 hsx ?_)
      | (refine load_bx_g rfl 27 (.tmp 3) rfl g rfl _ hb3 Try.underlying27 hsx ?_))
    go_ret
    exact ⟨rfl, hbel⟩
  · have f1 : (c != 1) = true := bne_iff_ne.2 hc
    have hx := HDD.out.kept hc
    subst hx
    go_wp2_with fail
    refine (lives_calls _).mono ?_
    rintro en w3 ⟨rfl, hb⟩
    replace b0 := b0.on hb
    replace hb3 := hb3.on hb
    replace hbel := Kt.bthen hbel hb
    have EQ := fun w => ((eq_board x x hl hl).1 rfl w).1
    go_wp2_with (first
      | (refine load_bx_g rfl 27 (.tmp 3) rfl g rfl x hb3 Try.underlying27 hsz ?_)
      | (refine load_bx_g rfl 27 (.tmp 1) rfl w.heap.size rfl x b0 Try.underlying27 hsz ?_))
    go_ret
    exact ⟨rfl, hbel⟩
end Go.Proofs.Ytmnfajndklmpbaa
