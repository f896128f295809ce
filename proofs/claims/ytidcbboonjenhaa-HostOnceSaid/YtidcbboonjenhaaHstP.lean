/- host: hostLives walked. -/
import Derived.Test.YtidcbboonjenhaaHstO
namespace Go.Proofs.Ytidcbboonjenhaa
open Go.RowKit Classical Go.Proofs.Ytidcbboonjenhaa.Slt
set_option maxRecDepth 100000 in
set_option maxHeartbeats 3200000 in
theorem hostLives_calls (w : World) : Calls Try.prog 10 #[] w fun e w' => e = .returned (.bool true) ∧ Below w.heap.size w w' := by
  have Z0 := zero_machine
  have HPL := Lib.hid (fun U W hU => play_calls 4 4 U [dd1, dd2, dd3, dd3] W hU)
  have HAR := Lib.hid (Kt.Ar.new w (dvs [dd1, dd2, dd3, dd3]).toArray 66 4 8 rfl)
  have HB0 := Lib.hid (Kt.balloc (Below.refl _ w) (.cells (dvs [dd1, dd2, dd3, dd3]).toArray 66))
  go_enter Try.func10, Try.ntmps10
  go_wp2_with fail
  refine (HPL.out _ _ HAR.out).mono ?_
  rintro _ W1 ⟨hb, ⟨hbad, _⟩ | ⟨_, M, v1, l1, v2, l2, hrun, rfl, hmo, ha1, ha2⟩⟩
  · exact absurd hbad (by decide)
  obtain ⟨_, rfl, rfl⟩ := run_lives hrun
  have HB1 := Lib.hid (Kt.bthen HB0.out hb)
  have hk := hmo.k
  have HA1 := Lib.hid ha1
  have HA2 := Lib.hid ha2
  obtain ⟨A1, c1, rfl, _, _⟩ := ha1.form
  obtain ⟨A2, c2, rfl, _, _⟩ := ha2.form
  have hz6 : Mb W1.heap.size zM (W1.alloc (.cells (mA zM) 45)) := heap_alloc_new W1 _
  clear HB0 HAR HPL hb hmo ha1 ha2 hrun
  go_upto_region 2 with (refine store_mb rfl (.tmp 1) (.tmp 13) rfl W1.heap.size rfl M rfl hk zM hz6 zM_ok ?_
                         intro W7 hW7 hU7)
  have hb7 := (Kt.balloc (Below.refl _ W1) (.cells (mA zM) 45)).trans hU7.below
  have HB7 := Lib.hid (Kt.bthen HB1.out hb7)
  replace HA1 := Lib.hid (HA1.out.on hb7)
  replace HA2 := Lib.hid (HA2.out.on hb7)
  clear hb7 hU7 hW7 hz6 HB1
  go_wp2_with fail
  refine (eqN _ _ [0] [0] _ (HA2.out.on (Kt.balloc (Below.refl _ W7) (.cells #[.int .i64 0] 25))) (Kt.Ar.new W7 #[.int .i64 0] 25 1 1 rfl) (by decide)).mono ?_
  rintro _ W8 ⟨rfl, hb8⟩
  replace hb8 := Kt.bthen (Kt.balloc (Below.refl _ W7) _) hb8
  have HB8 := Lib.hid (Kt.bthen HB7.out hb8)
  have HA8 := Lib.hid (HA1.out.on hb8)
  clear hb8 HB7 HA1 HA2
  go_wp2_with fail
  refine (eqV _ _ [(1, 1, 0)] [(1, 1, 0)] _ (HA8.out.on (Kt.balloc (Below.refl _ W8) (.cells #[.int .i64 1, .int .i64 1, .int .i64 0] 56))) (Kt.Ar.new W8 #[.int .i64 1, .int .i64 1, .int .i64 0] 56 1 3 rfl) (by decide)).mono ?_
  rintro _ W9 ⟨rfl, hb9⟩
  have HB9 := Lib.hid (Kt.bthen (Kt.balloc HB8.out _) hb9)
  clear hb9 HB8 HA8
  go_wp2_with fail
  go_ret
  exact ⟨rfl, HB9.out⟩
end Go.Proofs.Ytidcbboonjenhaa
