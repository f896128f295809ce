/- The walk of reportLives. -/
import Derived.Test.YtinhnlfhgfmagaaRepE
namespace Go.Proofs.Ytinhnlfhgfmagaa
open Go.RowKit Go.Proofs.Ytinhnlfhgfmagaa.Rep
def liveI : List (Int × Int) := [(1, 0), (2, -1), (5, 128), (9, 65536)]
def liveJ : List (Int × Int) := [(29, 3), (37, 2), (2, 7), (32, 1)]
def liveF : List Fld := [⟨0, 3, 0, 7, 0, 0, true⟩, ⟨3, 3, 0, 7, 0, 0, true⟩]
theorem live_encs : encs liveI = [4, 9, 255, 22, 128, 0, 39, 0, 0, 1, 0] := by decide +kernel
theorem live_flds : flds liveJ = (liveF, 0) := by kernel_rfl
theorem live_wr {t : ByteArray} {n : Int} (h : WrR liveI t n) : t = ⟨#[4, 9, 255, 22, 128, 0, 39, 0, 0, 1, 0]⟩ ∧ n = 0 := by
  rcases h with ⟨rfl, _, _, ht, _⟩ | ⟨_, _, h⟩
  · rw [live_encs] at ht
    exact ⟨Kt.bytes_eq (by rw [ht]), rfl⟩
  · exfalso
    rcases h with h | ⟨x, hx, h⟩ | h
    · exact absurd h (by decide)
    · simp only [liveI, List.mem_cons, List.not_mem_nil, or_false] at hx
      rcases hx with rfl | rfl | rfl | rfl <;> exact h (by unfold okI; decide)
    · rw [live_encs] at h; exact absurd h (by decide)
theorem fl_cl (f : Fld) : Fr.Cl flTy f.cells := ⟨by simp [Fld.cells], ⟨_, rfl⟩, by simp [Fld.cells], ⟨_, rfl⟩, by simp [Fld.cells], ⟨_, rfl⟩, by simp [Fld.cells], ⟨_, rfl⟩, by simp [Fld.cells], ⟨_, rfl⟩, by simp [Fld.cells], ⟨_, rfl⟩, by simp [Fld.cells], ⟨_, rfl⟩, rfl⟩
theorem fcells_at (l : List Fld) (i : Nat) (h : i < l.length) : ((fcells l).drop (i * 7)).take 7 = (l[i]).cells := by
  induction l generalizing i with
  | nil => simp at h
  | cons x l ih =>
    cases i with
    | zero => rfl
    | succ i =>
      have := ih i (by simpa using h)
      rw [show (i + 1) * 7 = i * 7 + 7 by omega]
      exact this
theorem fcells_cl (l : List Fld) (i : Nat) (h : i < l.length) : Fr.Cl flTy (((fcells l).drop (i * 7)).take 7) := by rw [fcells_at l i h]; exact fl_cl _
theorem fcells_inj : ∀ (l m : List Fld), fcells l = fcells m → l = m
  | [], [], _ => rfl
  | [], _ :: _, h => by cases h
  | _ :: _, [], h => by cases h
  | x :: l, y :: m, h => by
    obtain ⟨a1, a2, a3, a4, a5, a6, a7⟩ := x
    obtain ⟨b1, b2, b3, b4, b5, b6, b7⟩ := y
    have h2 : Value.int .i64 a1 :: .int .i64 a2 :: .int .i64 a3 :: .int .i64 a4 :: .int .i64 a5 :: .int .i64 a6 :: .bool a7 :: fcells l = .int .i64 b1 :: .int .i64 b2 :: .int .i64 b3 :: .int .i64 b4 :: .int .i64 b5 :: .int .i64 b6 :: .bool b7 :: fcells m := h
    simp only [List.cons.injEq, Value.int.injEq, true_and, Value.bool.injEq] at h2
    obtain ⟨rfl, rfl, rfl, rfl, rfl, rfl, rfl, h3⟩ := h2
    rw [fcells_inj l m h3]
set_option maxRecDepth 100000 in
set_option maxHeartbeats 1600000 in
theorem lives_calls (w : World) : Calls Try.prog 10 #[] w fun e w' => e = .returned (.bool true) ∧ Below w.heap.size w w' := by
  go_enter Try.func10, Try.ntmps10
  go_wp2_with fail
  refine (write_calls liveI _ _ (Kt.Ar.new w #[.int .i64 1, .int .i64 0, .int .i64 2, .int .i64 (-1), .int .i64 5, .int .i64 128, .int .i64 9, .int .i64 65536] _ 4 2 rfl)).mono ?_
  rintro en w1 ⟨t, n, rfl, hb, hr⟩
  obtain ⟨rfl, rfl⟩ := live_wr hr
  have HB := Lib.hid (Kt.bthen (Kt.balloc (Below.refl _ w) _) hb)
  clear hb hr
  go_wp2_with fail
  refine (fields_calls liveJ _ _ (Kt.Ar.new w1 #[.int .i64 29, .int .i64 3, .int .i64 37, .int .i64 2, .int .i64 2, .int .i64 7, .int .i64 32, .int .i64 1] _ 4 2 rfl)).mono ?_
  rw [live_flds]
  rintro en w2 ⟨A, c, rfl, hs, hb⟩
  have HB2 := Lib.hid (Kt.bthen (Kt.balloc HB.out _) hb)
  have HS := Lib.hid hs
  clear hb hs HB
  go_wp2_with fail
  refine (eqf_calls _ _ 2 2 (fcells liveF) (fcells liveF) _ ((Kt.Ar.of_sl HS.out).on (Kt.balloc (Below.refl _ w2) _)) (Kt.Ar.new w2 (fcells liveF).toArray _ 2 7 rfl) (fcells_cl liveF) (fcells_cl liveF) (by decide)).mono ?_
  rintro en w3 ⟨b, rfl, hq, hb⟩
  obtain rfl : b = true := hq.2 rfl
  have HB3 := Lib.hid (Kt.bthen (Kt.balloc HB2.out _) hb)
  clear hb hq
  go_wp2_with fail
  go_ret
  exact ⟨rfl, HB3.out⟩
end Go.Proofs.Ytinhnlfhgfmagaa
