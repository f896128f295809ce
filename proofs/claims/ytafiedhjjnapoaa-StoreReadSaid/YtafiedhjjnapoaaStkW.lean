/- The walks of package strike: Split. -/
import Derived.Test.YtafiedhjjnapoaaStkP
import Derived.Test.YtafiedhjjnapoaaPipW
namespace Go.Proofs.Ytafiedhjjnapoaa
open Go.RowKit
theorem split_bad (t : ByteArray) (s : Int) (w : World) (h : s < 1 ∨ (1 ≤ s ∧ 64 < s)) : Calls Try.prog 77 #[.string t, .int .i64 s] w fun e w' => e = .returned (.tuple #[.slice none 0 0, .int .i64 1]) ∧ w = w' := by
  rcases h with h | ⟨h1, h⟩
  all_goals
    go_enter Try.func77, Try.ntmps77
    go_wp2
    go_ret2
    exact ⟨rfl, rfl⟩
theorem split_large (t : ByteArray) (s : Int) (w : World) (h1 : 1 ≤ s) (h2 : s ≤ 64) (h : (4096 : Int) < t.size) : Calls Try.prog 77 #[.string t, .int .i64 s] w fun e w' => e = .returned (.tuple #[.slice none 0 0, .int .i64 2]) ∧ w = w' := by
  go_enter Try.func77, Try.ntmps77
  go_wp2
  go_ret2
  exact ⟨rfl, rfl⟩
def strSize : Value → Nat
  | .string s => s.size
  | _ => 0
/-- what hands back pieces leaves -/
def Pieces (w : World) (l : List ByteArray) (e : Ending) (w' : World) : Prop := ∃ V, e = .returned (.tuple #[V, .int .i64 0]) ∧ Kt.Sl w' w.heap.size 9 1 V l.length (sts l) ∧ Below w.heap.size w w'
set_option maxHeartbeats 1600000 in
theorem split_ok (t : ByteArray) (s : Nat) (w : World) (h1 : 1 ≤ s) (h2 : s ≤ 64) (h : t.size ≤ 4096) : Calls Try.prog 77 #[.string t, .int .i64 s] w (Pieces w (chop s t)) := by
  have d1 : (1 : Int) ≤ s := by omega
  have d2 : (s : Int) ≤ 64 := by omega
  have d3 : (t.size : Int) ≤ 4096 := by omega
  have d4 : decide ((s : Int) < 1) = false := decide_eq_false (by omega)
  have d5 : decide ((64 : Int) < s) = false := decide_eq_false (by omega)
  have d6 : decide ((4096 : Int) < t.size) = false := decide_eq_false (by omega)
  have hlen := chop_len h1 t
  have hdiv : t.size / s ≤ t.size := Nat.div_le_self _ _
  have HL := Lib.hid (show (chop s t).length ≤ 4097 by omega)
  clear hlen hdiv
  go_enter Try.func77, Try.ntmps77
  go_wp2_with fail
  go_loopw [6, 0] (fun out cur wr => ∃ (done : List ByteArray) (c : ByteArray), cur = .string c ∧ Kt.Sl wr w.heap.size 9 1 out done.length (sts done) ∧ done ++ chop s c = chop s t ∧ Below w.heap.size w wr ∧ c.size ≤ 4096) (fun _ cur _ => strSize cur)
  case atStart => exact ⟨[], t, rfl, Kt.Sl.nil _ _ _ _, rfl, Below.refl _ _, h⟩
  case round =>
    obtain ⟨done, c, rfl, hs, hd, hbel, hc⟩ := hrel
    have hdl : done.length ≤ 4097 := by have := HL.out; rw [← hd] at this; simp at this; omega
    have HD := Lib.hid hd; clear hd
    by_cases hlt : c.size < s
    · go_wp2_with (
        refine Kt.append_sl _ (by rfl) (.tmp 31) (.tmp 33) 22 rfl w.heap.size 9 (.string ByteArray.empty) 1 16 infoS Try.underlying22 rfl (by decide) _ _ _ rfl (hs.alloc _) ⟨wr.heap.size, 0, none⟩ 1 1 [.string c] rfl rfl (Kt.new_cells wr #[.string c] _) (by simp [Value.oneCell']) (by unfold maxLen; omega) (by omega) (by rw [World.size_alloc]; have := hbel.size; omega) ?_
        intro A' c' w1 hs1 hb1 _ _ _)
      go_ret2
      refine ⟨.slice A' (done.length + 1) c', rfl, ?_, (hbel.alloc hbel.size _).trans hb1⟩
      have e := HD.out
      rw [chop_small hlt] at e
      rw [← e]
      simp only [sts, List.map_append, List.map_cons, List.map_nil, List.length_append, List.length_cons, List.length_nil]
      exact hs1
    · have hle : s ≤ c.size := by omega
      go_wp2_with (
        refine Kt.append_sl _ (by rfl) (.tmp 22) (.tmp 26) 22 rfl w.heap.size 9 (.string ByteArray.empty) 1 16 infoS Try.underlying22 rfl (by decide) _ _ _ rfl (hs.alloc _) ⟨wr.heap.size, 0, none⟩ 1 1 [.string (c.extract 0 s)] rfl rfl (Kt.new_cells wr #[.string (c.extract 0 s)] _) (by simp [Value.oneCell']) (by unfold maxLen; omega) (by omega) (by rw [World.size_alloc]; have := hbel.size; omega) ?_
        intro A' c' w1 hs1 hb1 _ _ _)
      go_roundw
      case rel =>
        refine ⟨done ++ [c.extract 0 s], c.extract s c.size, rfl, ?_, ?_, (hbel.alloc hbel.size _).trans hb1, by rw [xsize _ _ hle]; omega⟩
        · simp only [sts, List.map_append, List.map_cons, List.map_nil, List.length_append, List.length_cons, List.length_nil]
          exact hs1
        · rw [← HD.out, chop_big h1 hle]; simp
      case measure =>
        simp only [strSize]
        rw [xsize _ _ hle]; omega
end Go.Proofs.Ytafiedhjjnapoaa
