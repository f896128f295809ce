/- keysLives. -/
import Derived.Test.YtfcmmeapinppaaaKeyE
namespace Go.Proofs.Ytfcmmeapinppaaa
open Go.RowKit
def h1 : Hd := ⟨16, 0, 0, 8589934592⟩
theorem read_h1 : readR (⟨#[2, 0, 4, 0, 0, 0, 0, 0]⟩ : ByteArray).data.toList = (h1, 0) := by decide +kernel
theorem codes_zero : codesL Hd.zero 256 = [] := by decide +kernel
theorem codes_h1 : codesL h1 256 = [4, 225] := by decide +kernel
theorem lack_h1 : lack Hd.zero [4, 225] = [4, 225] := by decide +kernel
theorem diff_h1 (w : World) : Calls Try.prog 10 #[Hd.zero.v, h1.v] w fun e w' => ∃ V, e = .returned V ∧ w'.ownsRow w.heap.size 47 2 V 2 [.int .i64 4, .bool true, .int .i64 225, .bool true] ∧ Below w.heap.size w w' := by
  have h := diff_calls Hd.zero h1 w
  rw [codes_zero, codes_h1, lack_h1] at h
  exact h
theorem h1_v : h1.v = .agg #[.int .u64 16, .int .u64 0, .int .u64 0, .int .u64 8589934592] := rfl
theorem zero_v : Hd.zero.v = .agg #[.int .u64 0, .int .u64 0, .int .u64 0, .int .u64 0] := rfl
theorem ky2 : ∀ i, i < 2 → Fr.Cl kyTy (([Value.int .i64 4, .bool true, .int .i64 225, .bool true].drop (i * 2)).take 2) := by
  intro i hi
  match i, hi with
  | 0, _ => simp [Fr.Cl, kyTy]
  | 1, _ => simp [Fr.Cl, kyTy]
theorem lives_calls (w : World) : Calls Try.prog 8 #[] w fun e w' => e = .returned (.bool true) ∧ Below w.heap.size w w' := by
  have HR := Lib.hid (fun W : World => read_calls ⟨#[2, 0, 4, 0, 0, 0, 0, 0]⟩ W)
  rw [read_h1] at HR
  dsimp only at HR
  rw [h1_v] at HR
  have HD := Lib.hid (fun W : World => diff_h1 W)
  rw [h1_v, zero_v] at HD
  go_enter Try.func8, Try.ntmps8
  go_wp2_with fail
  refine (HR.out _).mono ?_
  rintro e w1 ⟨rfl, hb⟩
  have HB1 := Lib.hid hb
  clear hb HR
  go_wp2_with fail
  refine (HD.out _).mono ?_
  rintro e w2 ⟨V, rfl, hown, hb⟩
  have HB2 := Lib.hid (Kt.bthen (Kt.balloc HB1.out _) hb)
  obtain ⟨g, cap, rfl⟩ := ownsRow_succ (k := 1) hown
  have HSL := Lib.hid (Kt.Sl.of_own hown)
  clear hown hb HD HB1
  have HEQ := Lib.hid (eqk_calls (.slice (some ⟨g, 0, none⟩) 2 cap) (.slice (some ⟨w2.heap.size, 0, none⟩) 2 2) 2 2 [.int .i64 4, .bool true, .int .i64 225, .bool true] [.int .i64 4, .bool true, .int .i64 225, .bool true] (w2.alloc (.cells #[.int .i64 4, .bool true, .int .i64 225, .bool true] 47))
    ((Kt.Ar.of_sl HSL.out).on (Kt.balloc (Below.refl _ _) _)) (Kt.Ar.new' w2 #[.int .i64 4, .bool true, .int .i64 225, .bool true] 47 2 2 _ rfl rfl) ky2 ky2 (by omega))
  have HB3 := Lib.hid (Kt.balloc HB2.out (.cells #[.int .i64 4, .bool true, .int .i64 225, .bool true] 47))
  go_wp2_with fail
  refine HEQ.out.mono ?_
  rintro e w3 ⟨b, rfl, hbb, hb⟩
  obtain rfl : b = true := hbb.2 trivial
  have HB4 := Lib.hid (Kt.bthen HB3.out hb)
  clear hbb hb HEQ
  go_wp2_with fail
  go_ret
  exact ⟨rfl, HB4.out⟩
end Go.Proofs.Ytfcmmeapinppaaa
