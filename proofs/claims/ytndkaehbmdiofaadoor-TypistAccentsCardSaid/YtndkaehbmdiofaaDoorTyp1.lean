/- typist: the reference's marks and Accented; strings.Index of nothing. -/
import Derived.Test.YtndkaehbmdiofaaDoorTypF
import Derived.Test.YtndkaehbmdiofaaDoorTypC
namespace Go.Proofs.YtndkaehbmdiofaaDoor
open Go.RowKit Go.Proofs.YtndkaehbmdiofaaDoor.Typ
set_option maxRecDepth 100000 in
theorem slidx_empty (s : ByteArray) (w : World) : Calls Tryd.prog 32 #[.string s, .string ⟨#[]⟩] w fun e w' => e = .returned (.int .i64 0) ∧ w' = w := by
  go_enter Tryd.func32, Tryd.ntmps32
  go_wp2_with fail
  go_ret
  exact ⟨rfl, rfl⟩
theorem idx_empty (s : ByteArray) (w : World) : Calls Tryd.prog 26 #[.string s, .string ⟨#[]⟩] w fun e w' => e = .returned (.int .i64 0) ∧ w' = w := by
  have H := Lib.hid (slidx_empty s w)
  go_enter Tryd.func26, Tryd.ntmps26
  go_wp2_with fail
  refine H.out.mono ?_; rintro e w1 ⟨rfl, rfl⟩
  go_wp2_with fail
  go_ret
  exact ⟨rfl, rfl⟩
def plainS (d : Int) : ByteArray := ⟨(plainL d).toArray⟩
def rowS (d : Int) : Array Value := if d = 2 then #[.string ⟨#[195, 164]⟩, .string ⟨#[195, 171]⟩, .string ⟨#[195, 175]⟩, .string ⟨#[195, 182]⟩, .string ⟨#[195, 188]⟩, .string ⟨#[195, 132]⟩, .string ⟨#[195, 139]⟩, .string ⟨#[195, 143]⟩, .string ⟨#[195, 150]⟩, .string ⟨#[195, 156]⟩]
  else #[.string ⟨#[195, 161]⟩, .string ⟨#[195, 169]⟩, .string ⟨#[195, 173]⟩, .string ⟨#[195, 179]⟩, .string ⟨#[195, 186]⟩, .string ⟨#[195, 189]⟩, .string ⟨#[195, 129]⟩, .string ⟨#[195, 137]⟩, .string ⟨#[195, 141]⟩, .string ⟨#[195, 147]⟩, .string ⟨#[195, 154]⟩, .string ⟨#[195, 157]⟩]
theorem row_enc (d : Int) (hd : d = 1 ∨ d = 2) : (rowS d).toList = (withR d).map (fun r => Value.string (Utf8.encode r)) := by
  rcases hd with rfl | rfl <;> kernel_rfl
theorem row_get (d : Int) (hd : d = 1 ∨ d = 2) (j : Nat) (hj : j < (withR d).length) : (rowS d)[j]? = some (.string (Utf8.encode ((withR d).getD j 0))) := by
  rw [← Array.getElem?_toList, row_enc d hd, List.getElem?_map, List.getElem?_eq_getElem hj, List.getD_eq_getElem?_getD, List.getElem?_eq_getElem hj]
  rfl
set_option maxHeartbeats 1600000 in
theorem marks_calls (d : Int) (hd : d = 1 ∨ d = 2) (w : World) : Calls Tryd.prog 25 #[.int .i64 d] w fun e w' => e = .returned (.tuple #[.string (plainS d), .slice (some ⟨w.heap.size, 0, none⟩) (withR d).length (withR d).length, .string (accP d)]) ∧ w' = w.alloc (.cells (rowS d) 9) := by
  rcases hd with rfl | rfl
  · go_enter Tryd.func25, Tryd.ntmps25
    go_wp2_with fail
    refine bodyPost_ret (v := .tuple #[.string ⟨#[97, 101, 105, 111, 117, 121, 65, 69, 73, 79, 85, 89]⟩, .slice (some ⟨w.heap.size, 0, none⟩) 12 12, .string ⟨#[194, 180]⟩]) (by simp [results, Tryd.results25, go_sem]) rfl ?_
    exact ⟨rfl, rfl⟩
  · go_enter Tryd.func25, Tryd.ntmps25
    go_wp2_with fail
    refine bodyPost_ret (v := .tuple #[.string ⟨#[97, 101, 105, 111, 117, 65, 69, 73, 79, 85]⟩, .slice (some ⟨w.heap.size, 0, none⟩) 10 10, .string ⟨#[194, 168]⟩]) (by simp [results, Tryd.results25, go_sem]) rfl ?_
    exact ⟨rfl, rfl⟩
set_option maxHeartbeats 1600000 in
theorem acc_empty (d : Int) (hd : d = 1 ∨ d = 2) (w : World) : Calls Tryd.prog 17 #[.int .i64 d, .string ⟨#[]⟩] w fun e w' => e = .returned (.string (accP d)) ∧ Below w.heap.size w w' := by
  have HM := marks_calls d hd w
  obtain ⟨RW, hRW⟩ : ∃ r, rowS d = r := ⟨_, rfl⟩
  rw [hRW] at HM
  replace HM := Lib.hid HM
  have HI := Lib.hid (fun W => idx_empty (plainS d) W)
  have HD : Hid (accP d ++ ⟨#[]⟩ = accP d) := Lib.hid (by show accP d ++ ByteArray.empty = _; rw [ByteArray.append_empty])
  have hs : (accP d).size = 2 := by rcases hd with rfl | rfl <;> rfl
  obtain ⟨S, hS⟩ : ∃ S, accP d = S := ⟨_, rfl⟩
  rw [hS] at HM HD hs ⊢
  have hsz : ¬ 9223372036854775807 < S.size + (ByteArray.mk #[]).size := by show ¬ 9223372036854775807 < S.size + 0; omega
  clear hS hs
  rcases hd with rfl | rfl
  all_goals
    go_enter Tryd.func17, Tryd.ntmps17
    go_wp2_with fail
    refine HM.out.mono ?_; rintro e w1 ⟨rfl, rfl⟩
    have HB := Lib.hid (Kt.balloc (Below.refl _ w) (.cells RW 9))
    go_wp2_with fail
    refine (HI.out _).mono ?_; rintro e w2 ⟨rfl, rfl⟩
    go_wp2_with fail
    go_ret
    exact ⟨by rw [HD.out]; rfl, HB.out⟩
set_option maxHeartbeats 1600000 in
theorem acc_one (d : Int) (hd : d = 1 ∨ d = 2) (b : UInt8) (w : World) : Calls Tryd.prog 17 #[.int .i64 d, .string (one b)] w fun e w' => e = .returned (.string (wantP d (one b))) ∧ Below w.heap.size w w' := by
  have HM := marks_calls d hd w
  obtain ⟨RW, hRW⟩ : ∃ r, rowS d = r := ⟨_, rfl⟩
  rw [hRW] at HM
  replace HM := Lib.hid HM
  have HX := Lib.hid (fun W => Tryd.strings_Index_one (plainS d) b W)
  have hone : (⟨#[b]⟩ : ByteArray) = one b := rfl
  rw [hone] at HX
  have hpl : (plainS d).data.toList = plainL d := by unfold plainS; simp
  rw [hpl] at HX
  have hne := one_ne b
  have HW : Hid (wantP d (one b) = if accdP d b = ByteArray.empty then accP d ++ one b else accdP d b) := Lib.hid rfl
  rcases idx_in d b with hi | ⟨j, hi, hj⟩
  · have HA : Hid (accP d ++ one b = wantP d (one b)) := Lib.hid (by rw [HW.out, if_pos (by unfold accdP; rw [hi, if_pos (.inl (by decide))])])
    rw [hi] at HX
    have hs : (accP d).size = 2 := by rcases hd with rfl | rfl <;> rfl
    obtain ⟨S, hS⟩ : ∃ S, accP d = S := ⟨_, rfl⟩
    rw [hS] at HM HA hs
    have hsz : ¬ 9223372036854775807 < S.size + (one b).size := by show ¬ 9223372036854775807 < S.size + 1; omega
    clear hS hs HW hi hone hpl
    obtain ⟨Z, hZ⟩ : ∃ Z, one b = Z := ⟨_, rfl⟩
    rw [hZ] at HX HA hne hsz ⊢
    clear hZ
    rcases hd with rfl | rfl
    all_goals
      go_enter Tryd.func17, Tryd.ntmps17
      go_wp2_with fail
      refine HM.out.mono ?_; rintro e w1 ⟨rfl, rfl⟩
      have HB := Lib.hid (Kt.balloc (Below.refl _ w) (.cells RW 9))
      go_wp2_with fail
      refine (HX.out _).mono ?_; rintro e w2 ⟨rfl, rfl⟩
      go_wp2_with fail
      go_ret
      exact ⟨by rw [HA.out]; rfl, HB.out⟩
  · have HA : Hid (Utf8.encode ((withR d).getD j 0) = wantP d (one b)) := Lib.hid (by
      have e : accdP d b = Utf8.encode ((withR d).getD j 0) := by
        unfold accdP
        rw [hi, if_neg (by rcases hd with rfl | rfl <;> omega)]; rfl
      have hn : Utf8.encode ((withR d).getD j 0) ≠ ByteArray.empty := by
        have key : ∀ d ∈ [(1 : Int), 2], ∀ j, j < (withR d).length → Utf8.encode ((withR d).getD j 0) ≠ ByteArray.empty := by decide +kernel
        exact key d (by rcases hd with rfl | rfl <;> simp) j hj
      rw [HW.out, e, if_neg hn])
    rw [hi] at HX
    have HC := Lib.hid (cell_of_row (w.alloc (.cells RW 9)) w.heap.size j _ _ _ (heap_alloc_new w _))
    rw [← hRW, row_get d hd j hj, hRW] at HC
    obtain ⟨S, hS⟩ : ∃ S, accP d = S := ⟨_, rfl⟩
    obtain ⟨N, hN⟩ : ∃ N, (withR d).length = N := ⟨_, rfl⟩
    rw [hN] at hj
    rw [hS, hN] at HM
    obtain ⟨Y, hY⟩ : ∃ Y, Utf8.encode ((withR d).getD j 0) = Y := ⟨_, rfl⟩
    rw [hY] at HA HC
    clear hS HW hi hone hpl hN hY
    obtain ⟨Z, hZ⟩ : ∃ Z, one b = Z := ⟨_, rfl⟩
    rw [hZ] at HX HA hne ⊢
    clear hZ
    have hj' : (j : Int) < N := by omega
    clear hj
    rcases hd with rfl | rfl
    all_goals
      go_enter Tryd.func17, Tryd.ntmps17
      go_wp2_with fail
      refine HM.out.mono ?_; rintro e w1 ⟨rfl, rfl⟩
      have HB := Lib.hid (Kt.balloc (Below.refl _ w) (.cells RW 9))
      have hc := HC.out
      generalize w.alloc (.cells RW 9) = w1 at *
      go_wp2_with fail
      refine (HX.out _).mono ?_; rintro e w2 ⟨rfl, rfl⟩
      go_wp2_with fail
      go_ret
      exact ⟨by rw [HA.out]; rfl, HB.out⟩
end Go.Proofs.YtndkaehbmdiofaaDoor
