/- arenaLives. -/
import Derived.Test.YtdckakjfplhanaaArnE
namespace Go.Proofs.Ytdckakjfplhanaa
open Go.RowKit Go.Proofs.Ytdckakjfplhanaa.Arn
def L0 : List (Int × Int) := [(0, 5), (16, 1)]
def L1 : List (Int × Int) := [(0, 5), (8, 8), (16, 1)]
theorem chk_L0 : chk 100 L0 = 0 := by decide +kernel
theorem args_8 : argsOk 8 8 := ⟨by decide, by decide, by decide, by decide, by decide +kernel⟩
theorem fit_8 : fit L0 8 8 := ⟨by decide, fun s hs => by
  rcases List.mem_cons.1 hs with rfl | hs
  · decide
  · rcases List.mem_cons.1 hs with rfl | hs
    · decide
    · simp at hs⟩
theorem fit_0 : ¬ fit L0 8 0 := fun h => h.2 (0, 5) (List.Mem.head _) (by decide)
theorem ins_8 : ins L0 8 8 = L1 := by decide +kernel
theorem lives_take (V : Value) (w : World) (hv : Kt.Ar w V 2 2 (spv L0)) :
    Calls Try.prog 9 #[.agg #[.int .i64 100, V], .int .i64 8, .int .i64 8] w fun e w' => (∃ A c, e = .returned (.tuple #[.agg #[.int .i64 100, .slice A 3 c], .int .i64 8, .int .i64 0]) ∧ Kt.Sl w' w.heap.size 30 2 (.slice A 3 c) 3 (spv L1)) ∧ Below w.heap.size w w' := by
  refine (take_calls 100 L0 V 8 8 w hv (by decide)).mono ?_
  rintro e w' ⟨h, hb⟩
  refine ⟨?_, hb⟩
  rcases h with ⟨n, hn, _, h | ⟨_, ⟨h, _⟩ | ⟨_, _, h | ⟨_, h⟩⟩⟩⟩ | ⟨_, _, _, a, A, c, a1, a2, a3, a4, a5, rfl, a6⟩
  · exact absurd (chk_L0.symm.trans h) (Ne.symm hn)
  · exact absurd args_8 h
  · exact absurd h (by decide)
  · exact absurd fit_8 (h 8 (by decide) (by decide) (by decide))
  · have h8 : a ≤ 8 := by
      by_cases h : 8 < a
      · exact absurd fit_8 (a5 8 (by decide) h (by decide))
      · omega
    have h0 : a ≠ 0 := fun e => fit_0 (e ▸ a4)
    obtain rfl : a = 8 := by omega
    rw [ins_8] at a6
    exact ⟨A, c, rfl, a6⟩
set_option maxRecDepth 100000 in
set_option maxHeartbeats 1600000 in
theorem lives_calls (w : World) : Calls Try.prog 10 #[] w fun e w' => e = .returned (.bool true) ∧ Below w.heap.size w w' := by
  have HT := Lib.hid (lives_take (.slice (some ⟨w.heap.size, 0, none⟩) 2 2) _ (Kt.Ar.new' w #[.int .i64 0, .int .i64 5, .int .i64 16, .int .i64 1] 30 2 2 w.heap.size rfl rfl))
  have HB0 := Lib.hid (Kt.balloc (Below.refl _ w) (.cells #[.int .i64 0, .int .i64 5, .int .i64 16, .int .i64 1] 30))
  go_enter Try.func10, Try.ntmps10
  go_wp2_with fail
  refine HT.out.mono ?_
  rintro e w1 ⟨⟨A, c, rfl, hs⟩, hb⟩
  have HB1 := Lib.hid (Kt.bthen HB0.out hb)
  have HS := Lib.hid hs
  clear hb hs HT HB0
  go_wp2_with fail
  have HB2 := Lib.hid (Kt.balloc (Kt.balloc HB1.out (.cells #[.int .i64 100, .slice A 3 c] 24)) (.cells #[.int .i64 0, .int .i64 5, .int .i64 8, .int .i64 8, .int .i64 16, .int .i64 1] 30))
  have ha := (Kt.Ar.of_sl HS.out).on (Kt.balloc (Kt.balloc (Below.refl _ _) (.cells #[.int .i64 100, .slice A 3 c] 24)) (.cells #[.int .i64 0, .int .i64 5, .int .i64 8, .int .i64 8, .int .i64 16, .int .i64 1] 30))
  have hn := Kt.Ar.new' (w1.alloc (.cells #[.int .i64 100, .slice A 3 c] 24)) #[.int .i64 0, .int .i64 5, .int .i64 8, .int .i64 8, .int .i64 16, .int .i64 1] 30 3 2 (w1.heap.size + 1) (by rw [World.size_alloc]) rfl
  refine (same_calls 100 100 L1 L1 _ _ _ ha hn (by decide)).mono ?_
  rintro e w3 ⟨q, rfl, hq, hb⟩
  obtain rfl : q = true := hq.2 ⟨rfl, rfl⟩
  have HB3 := Lib.hid (Kt.bthen HB2.out hb)
  clear hq hb ha hn HB2 HS HB1
  go_wp2_with fail
  go_ret
  exact ⟨rfl, HB3.out⟩
end Go.Proofs.Ytdckakjfplhanaa
