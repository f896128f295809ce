/- Ways: routeLives walked. -/
import Derived.Test.YteekckglpinkpaaDoorRouS
namespace Go.Proofs.YteekckglpinkpaaDoor
open Go.RowKit Go.Proofs.YteekckglpinkpaaDoor.Rou
def l3 : List Int := [2, 15, 1]
theorem l3_ok : chk l3 = 0 := chk_ok (by decide) (by decide) (fun j h => by
  match j, h with
  | 0, _ => exact ⟨by show (1 : Int) ≤ 2; decide, by show (2 : Int) ≤ 15; decide⟩
  | 1, _ => exact ⟨by show (1 : Int) ≤ 15; decide, by show (15 : Int) ≤ 15; decide⟩
  | 2, _ => exact ⟨by show (1 : Int) ≤ 1; decide, by show (1 : Int) ≤ 15; decide⟩)
theorem l3_show : showS l3 = ⟨#[50, 46, 49, 53, 46, 49]⟩ := by
  have h2 : dec 2 = ⟨#[50]⟩ := by unfold dec; rw [Lib.decDigits_one (by decide)]; rfl
  have h15 : dec 15 = ⟨#[49, 53]⟩ := by unfold dec; rw [Lib.decDigits_two (by decide) (by decide)]; rfl
  have h1 : dec 1 = ⟨#[49]⟩ := by unfold dec; rw [Lib.decDigits_one (by decide)]; rfl
  unfold showS l3
  simp only [List.map_cons, List.map_nil, h2, h15, h1]
  rfl
theorem wy_new (w : World) (l : List Int) (cs : Array Value) (hc : cs = (inv l).toArray) (n : Nat) (hn : n = l.length) : Wy (w.alloc (.cells cs 3)) (some ⟨w.heap.size, 0, none⟩) n l := by
  subst hc hn
  have := Kt.Ar.new w (inv l).toArray 3 l.length 1 (by simp [inv])
  unfold Wy
  simpa using this
theorem wy_new' (w : World) (l : List Int) (cs : Array Value) (hc : cs = (inv l).toArray) (n : Nat) (hn : n = l.length) (H : Nat) (hH : w.heap.size = H) : Wy (w.alloc (.cells cs 3)) (some ⟨H, 0, none⟩) n l := by
  subst hH; exact wy_new w l cs hc n hn
set_option maxRecDepth 100000 in
theorem pack3_calls (A : Option Addr) (c : Nat) (w : World) (h : Wy w A c l3) : Calls Tryd.prog 17 #[.slice A 3 c] w fun e w' => e = .returned (.tuple #[.int .i64 498, .int .i64 0]) ∧ w = w' := by
  have hc := rcheck_calls l3 A c w h
  rw [l3_ok] at hc
  have HC := Lib.hid hc
  obtain ⟨b, o, rfl, _, c0⟩ := h.cell 0 (by decide)
  obtain ⟨b1, o1, e1, _, c1⟩ := h.cell 1 (by decide)
  obtain ⟨b2, o2, e2, _, c2⟩ := h.cell 2 (by decide)
  cases e1; cases e2
  replace c0 : w.cell? ⟨b, o, none⟩ = some (.int .i64 2) := c0
  replace c1 : w.cell? ⟨b, o + 1, none⟩ = some (.int .i64 15) := c1
  replace c2 : w.cell? ⟨b, o + 2, none⟩ = some (.int .i64 1) := c2
  clear hc h
  go_enter Tryd.func17, Tryd.ntmps17
  go_wp2_with fail
  refine HC.out.mono ?_; rintro e w1 ⟨rfl, rfl⟩
  go_wp2_with fail
  refine wp_loop_rounds 4 ?_
  have b1 : bits .or .i64 0 2 = 2 := by decide +kernel
  have b2 : bits .or .i64 2 240 = 242 := by decide +kernel
  have b3 : bits .or .i64 242 256 = 498 := by decide +kernel
  rw [rounds_succ]
  go_wp2_with fail
  rw [rounds_succ]
  go_wp2_with fail
  rw [rounds_succ]
  go_wp2_with fail
  rw [rounds_succ]
  go_wp2_with fail
  refine bodyPost_ret (v := .tuple #[.int .i64 498, .int .i64 0]) (by simp [results, Tryd.results17]) rfl ?_
  exact ⟨rfl, rfl⟩
set_option maxRecDepth 100000 in
theorem rlives_calls (w : World) : Calls Tryd.prog 10 #[] w fun e w' => e = .returned (.bool true) ∧ Below w.heap.size w w' := by
  have HS := Lib.hid (fun W => show_calls l3 (some ⟨W.heap.size, 0, none⟩) 3 _ (wy_new W l3 #[.int .i64 2, .int .i64 15, .int .i64 1] rfl 3 rfl))
  rw [l3_ok, if_pos rfl, l3_show] at HS
  go_enter Tryd.func10, Tryd.ntmps10
  go_wp2_with fail
  refine (HS.out _).mono ?_
  rintro e w1 ⟨rfl, hb⟩
  have HB1 := Lib.hid (Kt.bthen (Kt.balloc (Below.refl _ w) _) hb)
  clear hb HS
  go_wp2_with fail
  refine (pack3_calls _ 3 _ (wy_new w1 l3 #[.int .i64 2, .int .i64 15, .int .i64 1] rfl 3 rfl)).mono ?_
  rintro e w2 ⟨rfl, rfl⟩
  have HB2 := Lib.hid (Kt.bthen HB1.out (Kt.balloc (Below.refl _ w1) (.cells #[.int .i64 2, .int .i64 15, .int .i64 1] 3)))
  clear HB1
  go_wp2_with fail
  have h1 := (wy_new' (w1.alloc (.cells #[.int .i64 2, .int .i64 15, .int .i64 1] 3)) [1, 2] #[.int .i64 1, .int .i64 2] rfl 2 rfl (w1.heap.size + 1) (World.size_alloc _ _)).on (Kt.balloc (Below.refl _ _) (.cells #[.int .i64 1, .int .i64 3, .int .i64 4] 3))
  have h2 := wy_new' ((w1.alloc (.cells #[.int .i64 2, .int .i64 15, .int .i64 1] 3)).alloc (.cells #[.int .i64 1, .int .i64 2] 3)) [1, 3, 4] #[.int .i64 1, .int .i64 3, .int .i64 4] rfl 3 rfl (w1.heap.size + 2) (by rw [World.size_alloc, World.size_alloc])
  have hh := hops_calls [1, 2] [1, 3, 4] _ _ 2 3 _ h1 h2 (by decide) (by decide)
  rw [show hops [1, 2] [1, 3, 4] = 3 by decide] at hh
  refine hh.mono ?_
  rintro e w3 ⟨rfl, hb⟩
  have HB3 := Lib.hid (Kt.bthen (Kt.balloc (Kt.balloc HB2.out (.cells #[.int .i64 1, .int .i64 2] 3)) (.cells #[.int .i64 1, .int .i64 3, .int .i64 4] 3)) hb)
  clear hb h1 h2 hh
  go_wp2_with fail
  go_ret
  exact ⟨rfl, HB3.out⟩
end Go.Proofs.YteekckglpinkpaaDoor
