/- typist: letter, character, printing, has, accent, accented walked. -/
import Derived.Test.YtndkaehbmdiofaaDoorTypP
import Derived.Test.YtndkaehbmdiofaaDoorShelf
import Derived.Laws.IdiomStrings
namespace Go.Proofs.YtndkaehbmdiofaaDoor
open Go.RowKit Go.Proofs.YtndkaehbmdiofaaDoor.Typ
theorem str_ne {x y : ByteArray} (h : x ≠ y) : (x.toList == y.toList) = false := by
  rw [beq_eq_false_iff_ne, ByteArray.toList_eq, ByteArray.toList_eq]
  intro e
  exact h (Kt.bytes_eq e)
theorem one_ne (b : UInt8) : (one b).toList.isEmpty = false := by rw [ByteArray.toList_eq]; rfl
theorem letter_calls (c : Int) (w : World) : Calls Tryd.prog 39 #[.int .i64 c] w fun e w' => e = .returned (.bool (letB c)) ∧ w' = w := by
  unfold letB
  by_cases h1 : 4 ≤ c
  · by_cases h2 : c ≤ 29
    · go_enter Tryd.func39, Tryd.ntmps39
      go_wp2
      go_ret
      exact ⟨by simp [h1, h2], rfl⟩
    · go_enter Tryd.func39, Tryd.ntmps39
      go_wp2
      go_ret
      exact ⟨by simp [h2], rfl⟩
  · go_enter Tryd.func39, Tryd.ntmps39
    go_wp2
    go_ret
    refine ⟨?_, rfl⟩
    have : decide (4 ≤ c) = false := decide_eq_false (by omega)
    rw [this]; rfl
theorem conv_rune (z : Int) (w : World) : (convert 21 9 (.int .i32 z)).run Tryd.prog w = .ok (.string (Utf8.encode z)) w := by
  simp [convert, run_underlying Tryd.underlying21, run_underlying Tryd.underlying9, Conv.intToString]
theorem enc_one (z : Nat) (h : z < 128) : Utf8.encode (z : Int) = one (UInt8.ofNat z) := by
  have hv : Utf8.valid (z : Int) = true := by unfold Utf8.valid; simp; omega
  unfold Utf8.encode
  rw [hv]
  simp [h, one]
theorem dig_cut (k : Nat) (h : k < 10) : (⟨#[49, 50, 51, 52, 53, 54, 55, 56, 57, 48]⟩ : ByteArray).extract k (k + 1) = one (digL.getD k 0) ∧ (⟨#[33, 64, 35, 36, 37, 94, 38, 42, 40, 41]⟩ : ByteArray).extract k (k + 1) = one (digU.getD k 0) := by
  match k, h with
  | 0, _ => exact ⟨rfl, rfl⟩
  | 1, _ => exact ⟨rfl, rfl⟩
  | 2, _ => exact ⟨rfl, rfl⟩
  | 3, _ => exact ⟨rfl, rfl⟩
  | 4, _ => exact ⟨rfl, rfl⟩
  | 5, _ => exact ⟨rfl, rfl⟩
  | 6, _ => exact ⟨rfl, rfl⟩
  | 7, _ => exact ⟨rfl, rfl⟩
  | 8, _ => exact ⟨rfl, rfl⟩
  | 9, _ => exact ⟨rfl, rfl⟩
def CharIs (c : Int) (sh : Bool) (w : World) : Prop := Calls Tryd.prog 31 #[.int .i64 c, .bool sh] w fun e w' => e = .returned (.string (charP c sh)) ∧ Below w.heap.size w w'
set_option maxHeartbeats 1600000 in
theorem char_letter (c : Nat) (sh : Bool) (h : 4 ≤ c ∧ c ≤ 29) (w : World) : CharIs c sh w := by
  have HL := Lib.hid (fun W => letter_calls c W)
  have hl : letB c = true := by unfold letB; simp; omega
  rw [hl] at HL
  have hc : charP c sh = one (UInt8.ofNat ((if sh then 61 else 93) + c)) := by unfold charP; rw [if_pos (by omega)]; simp
  have E1 : Utf8.encode (97 + (c : Int) - 4) = one (UInt8.ofNat (93 + c)) := by rw [show (97 + (c : Int) - 4) = ((93 + c : Nat) : Int) by omega, enc_one _ (by omega)]
  have E2 : Utf8.encode (65 + (c : Int) - 4) = one (UInt8.ofNat (61 + c)) := by rw [show (65 + (c : Int) - 4) = ((61 + c : Nat) : Int) by omega, enc_one _ (by omega)]
  have hb := h
  unfold CharIs
  cases sh
  · have E : Utf8.encode (97 + (c : Int) - 4) = charP c false := by rw [hc, E1]; rfl
    obtain ⟨B, hB⟩ : ∃ B, charP c false = B := ⟨_, rfl⟩
    rw [hB] at E ⊢
    have HE := Lib.hid E
    clear E E1 E2 hc hB hl h
    go_enter Tryd.func31, Tryd.ntmps31
    go_wp2_with (refine (HL.out _).mono ?_; rintro en wx ⟨rfl, rfl⟩)
    rw [HE.out]
    go_ret
    exact ⟨rfl, Below.refl _ _⟩
  · have E : Utf8.encode (65 + (c : Int) - 4) = charP c true := by rw [hc, E2]; rfl
    obtain ⟨B, hB⟩ : ∃ B, charP c true = B := ⟨_, rfl⟩
    rw [hB] at E ⊢
    have HE := Lib.hid E
    clear E E1 E2 hc hB hl h
    go_enter Tryd.func31, Tryd.ntmps31
    go_wp2_with (refine (HL.out _).mono ?_; rintro en wx ⟨rfl, rfl⟩)
    rw [HE.out]
    go_ret
    exact ⟨rfl, Below.refl _ _⟩
set_option maxHeartbeats 1600000 in
theorem char_digit (c : Nat) (sh : Bool) (h : 30 ≤ c ∧ c ≤ 39) (w : World) : CharIs c sh w := by
  have HL := Lib.hid (fun W => letter_calls c W)
  have hl : letB c = false := by unfold letB; rw [decide_eq_false (p := (c : Int) ≤ 29) (by omega)]; simp
  rw [hl] at HL
  obtain ⟨k, hk⟩ : ∃ k, c = 30 + k := ⟨c - 30, by omega⟩
  have hc : charP c sh = one ((if sh then digU else digL).getD k 0) := by unfold charP; rw [if_neg (by omega), if_pos (by omega)]; rw [show (c : Int).toNat - 30 = k by omega]
  have hd := dig_cut k (by omega)
  obtain ⟨k1, hk1⟩ : ∃ k1, k + 1 = k1 := ⟨_, rfl⟩
  have hx1 : IntKind.i64.wrap ((c : Int) - 30) = (k : Int) := by have := IntWalk.i64_in ((c : Int) - 30) (by omega); rw [this]; omega
  have hx2 : IntKind.i64.wrap ((c : Int) - 29) = (k1 : Int) := by have := IntWalk.i64_in ((c : Int) - 29) (by omega); rw [this]; omega
  have hx3 : (k : Int) ≤ k1 := by omega
  have hx4 : (k1 : Int) ≤ 10 := by omega
  have hb1 : (30 : Int) ≤ c := by omega
  have hb2 : (c : Int) ≤ 39 := by omega
  rw [hk1] at hd
  unfold CharIs
  cases sh
  · have E : (⟨#[49, 50, 51, 52, 53, 54, 55, 56, 57, 48]⟩ : ByteArray).extract k k1 = charP c false := by rw [hc, hd.1]; rfl
    obtain ⟨B, hB⟩ : ∃ B, charP c false = B := ⟨_, rfl⟩
    rw [hB] at E ⊢
    have HE := Lib.hid E
    clear E hd hc hB hl h hk hk1
    generalize (c : Int) = z at *
    go_enter Tryd.func31, Tryd.ntmps31
    go_wp2_with (refine (HL.out _).mono ?_; rintro en wx ⟨rfl, rfl⟩)
    go_quiet (fail)
    go_wp2_with fail
    rw [HE.out]
    go_ret
    exact ⟨rfl, bdrewN (Below.refl _ _) _⟩
  · have E : (⟨#[33, 64, 35, 36, 37, 94, 38, 42, 40, 41]⟩ : ByteArray).extract k k1 = charP c true := by rw [hc, hd.2]; rfl
    obtain ⟨B, hB⟩ : ∃ B, charP c true = B := ⟨_, rfl⟩
    rw [hB] at E ⊢
    have HE := Lib.hid E
    clear E hd hc hB hl h hk hk1
    generalize (c : Int) = z at *
    go_enter Tryd.func31, Tryd.ntmps31
    go_wp2_with (refine (HL.out _).mono ?_; rintro en wx ⟨rfl, rfl⟩)
    go_quiet (fail)
    go_wp2_with fail
    rw [HE.out]
    go_ret
    exact ⟨rfl, bdrewN (Below.refl _ _) _⟩
set_option maxHeartbeats 1600000 in
theorem char_few (c : Int) (sh : Bool) (h : c = 44 ∨ c = 40 ∨ c = 45 ∨ c = 54 ∨ c = 55) (w : World) : CharIs c sh w := by
  have hl : letB c = false := by rcases h with rfl | rfl | rfl | rfl | rfl <;> rfl
  have HL := Lib.hid (fun W => letter_calls c W)
  rw [hl] at HL
  clear hl
  unfold CharIs
  rcases h with rfl | rfl | rfl | rfl | rfl <;> cases sh
  all_goals
    go_enter Tryd.func31, Tryd.ntmps31
    go_wp2_with (refine (HL.out _).mono ?_; rintro en wx ⟨rfl, rfl⟩)
    go_ret
    exact ⟨rfl, Below.refl _ _⟩
set_option maxHeartbeats 1600000 in
theorem char_none (c : Int) (sh : Bool) (h : signs c = false) (w : World) : CharIs c sh w := by
  have HC := Lib.hid (charP_none h sh)
  have HL := Lib.hid (fun W => letter_calls c W)
  unfold signs at h
  rw [decide_eq_false_iff_not] at h
  have hl : letB c = false := by unfold letB; by_cases h1 : 4 ≤ c; rw [decide_eq_false (p := c ≤ 29) (by omega)]; simp; rw [decide_eq_false h1]; rfl
  rw [hl] at HL
  have f44 : (c == 44) = false := beq_eq_false_iff_ne.2 (by omega)
  have f40 : (c == 40) = false := beq_eq_false_iff_ne.2 (by omega)
  have f45 : (c == 45) = false := beq_eq_false_iff_ne.2 (by omega)
  have f54 : (c == 54) = false := beq_eq_false_iff_ne.2 (by omega)
  have f55 : (c == 55) = false := beq_eq_false_iff_ne.2 (by omega)
  have hr : c < 30 ∨ (30 ≤ c ∧ 39 < c) := by omega
  unfold CharIs
  rw [HC.out]
  clear h hl
  rcases hr with h1 | ⟨h1, h2⟩ <;> cases sh
  all_goals
    go_enter Tryd.func31, Tryd.ntmps31
    go_wp2_with (refine (HL.out _).mono ?_; rintro en wx ⟨rfl, rfl⟩)
    go_ret
    exact ⟨rfl, Below.refl _ _⟩
theorem char_calls (c : Int) (sh : Bool) (w : World) : Calls Tryd.prog 31 #[.int .i64 c, .bool sh] w fun e w' => e = .returned (.string (charP c sh)) ∧ Below w.heap.size w w' := by
  by_cases h : signs c = true
  · unfold signs at h
    rw [decide_eq_true_iff] at h
    by_cases h1 : c = 44 ∨ c = 40 ∨ c = 45 ∨ c = 54 ∨ c = 55
    · exact char_few c sh h1 w
    · by_cases h2 : c ≤ 29
      · obtain ⟨n, rfl⟩ : ∃ n : Nat, c = n := ⟨c.toNat, by omega⟩
        exact char_letter n sh (by omega) w
      · obtain ⟨n, rfl⟩ : ∃ n : Nat, c = n := ⟨c.toNat, by omega⟩
        exact char_digit n sh (by omega) w
  · exact char_none c sh (by simpa using h) w
theorem prints_calls (c : Int) (w : World) : Calls Tryd.prog 21 #[.int .i64 c] w fun e w' => e = .returned (.bool (prints c)) ∧ Below w.heap.size w w' := by
  have HC := Lib.hid (fun W => char_calls c false W)
  by_cases h : c = 42
  · subst h
    go_enter Tryd.func21, Tryd.ntmps21
    go_wp2_with fail
    go_ret
    exact ⟨rfl, Below.refl _ _⟩
  · have h' : (c == 42) = false := beq_eq_false_iff_ne.2 h
    by_cases hs : signs c = true
    · obtain ⟨b, hb⟩ := charP_one hs false
      have hp : prints c = true := by unfold prints; rw [hs]; simp
      rw [hp]
      rw [hb] at HC
      have hne := one_ne b
      clear h hs hb hp
      go_enter Tryd.func21, Tryd.ntmps21
      go_wp2_with (refine (HC.out _).mono ?_; rintro en wx ⟨rfl, hb⟩)
      go_ret
      exact ⟨rfl, hb⟩
    · have hs' : signs c = false := by simpa using hs
      have hp : prints c = false := by unfold prints; rw [hs', h']; rfl
      rw [hp]
      rw [charP_none hs'] at HC
      clear h hs hs' hp
      go_enter Tryd.func21, Tryd.ntmps21
      go_wp2_with (refine (HC.out _).mono ?_; rintro en wx ⟨rfl, hb⟩)
      go_ret
      exact ⟨rfl, hb⟩
theorem thas_calls (h : Hd) (c : Nat) (hc : c < 256) (w : World) : Calls Tryd.prog 22 #[h.v, .int .i64 c] w fun e w' => e = .returned (.bool (h.has c)) ∧ Below w.heap.size w w' := by
  have hcell := h.cell (c / 64) (by omega)
  have hr : c % 64 < 64 := by omega
  have HAS := Lib.hid (and_one (h.at (c / 64)).toNat (c % 64) (h.at (c / 64)).toNat_lt)
  have HH := Lib.hid (show h.has c = (((h.at (c / 64)).toNat / 2 ^ (c % 64)) % 2 == 1) from rfl)
  unfold Hd.v Hd.vs
  go_enter Tryd.func22, Tryd.ntmps22
  go_wp2_with fail
  go_ret
  exact ⟨by rw [HH.out, ← HAS.out]; rfl, Kt.balloc (Below.refl _ _) _⟩
theorem accent_calls (d : Int) (hd : d = 0 ∨ d = 1 ∨ d = 2) (w : World) : Calls Tryd.prog 36 #[.int .i64 d] w fun e w' => e = .returned (.string (accP d)) ∧ Below w.heap.size w w' := by
  rcases hd with rfl | rfl | rfl
  all_goals
    go_enter Tryd.func36, Tryd.ntmps36
    go_wp2_with fail
    go_ret
    exact ⟨rfl, Kt.balloc (Below.refl _ _) _⟩
theorem idx_in (d : Int) (b : UInt8) : Lib.indexByte (plainL d) b = -1 ∨ ∃ j : Nat, Lib.indexByte (plainL d) b = j ∧ j < (withR d).length := by
  rcases Int.lt_or_le (Lib.indexByte (plainL d) b) 0 with h | h
  · have := Lib.indexByte_ge (plainL d) b
    exact .inl (by omega)
  · obtain ⟨j, hj⟩ : ∃ j : Nat, Lib.indexByte (plainL d) b = j := ⟨(Lib.indexByte (plainL d) b).toNat, by omega⟩
    refine .inr ⟨j, hj, ?_⟩
    obtain ⟨h1, _⟩ := Lib.indexByte_some hj
    have h2 := (List.getElem?_eq_some_iff.1 h1).1
    have h3 : (plainL d).length = (withR d).length := by unfold plainL withR; split <;> rfl
    omega
def withS (d : Int) : ByteArray := if d = 2 then ⟨#[195, 164, 195, 171, 195, 175, 195, 182, 195, 188, 195, 132, 195, 139, 195, 143, 195, 150, 195, 156]⟩ else ⟨#[195, 161, 195, 169, 195, 173, 195, 179, 195, 186, 195, 189, 195, 129, 195, 137, 195, 141, 195, 147, 195, 154, 195, 157]⟩
theorem runes_two : Conv.runesFrom (withS 2) (withS 2).size 0 #[] = ((withR 2).map (Value.int .i32)).toArray := by kernel_rfl
theorem runes_one : Conv.runesFrom (withS 1) (withS 1).size 0 #[] = ((withR 1).map (Value.int .i32)).toArray := by kernel_rfl
/-- the runes of a text of letters -/
theorem conv_with (d : Int) (s : ByteArray) (hs : Conv.runesFrom s s.size 0 #[] = ((withR d).map (Value.int .i32)).toArray) (w : World) : ∃ cap W', (convert 9 83 (.string s)).run Tryd.prog w = .ok (.slice (some ⟨w.heap.size, 0, none⟩) (withR d).length cap) W' ∧
    (∀ (j : Nat) (_ : j < (withR d).length), W'.cell? ⟨w.heap.size, j, none⟩ = some (.int .i32 ((withR d).getD j 0))) ∧ Below w.heap.size w W' ∧ (withR d).length ≤ cap := by
  have h46 : (Conv.runesFrom s s.size 0 #[]).size ≤ 70368744177664 := by rw [hs]; simp; unfold withR; split <;> decide
  have h := run_runes_of_string (P := Tryd.prog) w 9 83 21 s Tryd.underlying9 Tryd.underlying83 Tryd.underlying21 h46
  have hsz : (Conv.runesFrom s s.size 0 #[]).size = (withR d).length := by rw [hs]; simp
  rw [hsz, hs] at h
  refine ⟨_, _, h, fun j hj => ?_, Kt.balloc ((Below.refl _ w).drew) _, grownCap_ge w _ 0 _⟩
  have hr := heap_alloc_new w.drew (.cells (((withR d).map (Value.int .i32)).toArray ++ Array.replicate (grownCap w (withR d).length 0 21 - (withR d).length) (.int .i32 0)) 21)
  have := cell_of_row _ _ j _ _ _ hr
  refine (show _ = _ from this).trans ?_
  rw [Array.getElem?_append_left (by simpa using hj)]
  simp [List.getElem?_eq_getElem hj]
set_option maxHeartbeats 1600000 in
theorem accd_calls (d : Int) (b : UInt8) (hd : d = 0 ∨ d = 1 ∨ d = 2) (w : World) : Calls Tryd.prog 40 #[.int .i64 d, .string (one b)] w fun e w' => e = .returned (.string (accdP d b)) ∧ Below w.heap.size w w' := by
  have HX := Lib.hid (fun s W => Tryd.strings_Index_one s b W)
  have hone : (⟨#[b]⟩ : ByteArray) = one b := rfl
  rw [hone] at HX
  rcases idx_in d b with hi | ⟨j, hi, hj⟩
  · have HA : Hid (accdP d b = ByteArray.empty) := Lib.hid (by unfold accdP; rw [hi, if_pos (.inl (by decide))])
    rw [HA.out]
    have HI := Lib.hid hi
    clear hi hone
    rcases hd with rfl | rfl | rfl
    · go_enter Tryd.func40, Tryd.ntmps40
      go_wp2_with fail
      refine (HX.out _ _).mono ?_; rintro en wx ⟨rfl, rfl⟩
      rw [show Lib.indexByte (⟨#[97, 101, 105, 111, 117, 121, 65, 69, 73, 79, 85, 89]⟩ : ByteArray).data.toList b = -1 from HI.out]
      go_wp2_with fail
      go_ret
      exact ⟨rfl, Below.refl _ _⟩
    · go_enter Tryd.func40, Tryd.ntmps40
      go_wp2_with fail
      refine (HX.out _ _).mono ?_; rintro en wx ⟨rfl, rfl⟩
      rw [show Lib.indexByte (⟨#[97, 101, 105, 111, 117, 121, 65, 69, 73, 79, 85, 89]⟩ : ByteArray).data.toList b = -1 from HI.out]
      go_wp2_with fail
      go_ret
      exact ⟨rfl, Below.refl _ _⟩
    · go_enter Tryd.func40, Tryd.ntmps40
      go_wp2_with fail
      refine (HX.out _ _).mono ?_; rintro en wx ⟨rfl, rfl⟩
      rw [show Lib.indexByte (⟨#[97, 101, 105, 111, 117, 65, 69, 73, 79, 85]⟩ : ByteArray).data.toList b = -1 from HI.out]
      go_wp2_with fail
      go_ret
      exact ⟨rfl, Below.refl _ _⟩
  · rcases hd with rfl | rfl | rfl
    · have HA : Hid (accdP 0 b = ByteArray.empty) := Lib.hid (by unfold accdP; rw [if_pos (.inr rfl)])
      rw [HA.out]
      have HI := Lib.hid hi
      clear hi hj hone
      go_enter Tryd.func40, Tryd.ntmps40
      go_wp2_with fail
      refine (HX.out _ _).mono ?_; rintro en wx ⟨rfl, rfl⟩
      rw [show Lib.indexByte (⟨#[97, 101, 105, 111, 117, 121, 65, 69, 73, 79, 85, 89]⟩ : ByteArray).data.toList b = (j : Int) from HI.out]
      go_wp2_with fail
      go_ret
      exact ⟨rfl, Below.refl _ _⟩
    · obtain ⟨r, hr⟩ : ∃ r, (withR 1).getD j 0 = r := ⟨_, rfl⟩
      have HA : Hid (accdP 1 b = Utf8.encode r) := Lib.hid (by unfold accdP; rw [hi, if_neg (by omega), ← hr]; rfl)
      have hj' : (j : Int) < 12 := by have : (withR 1).length = 12 := rfl; omega
      rw [HA.out]
      have HI := Lib.hid hi
      obtain ⟨cap, W', hcv, hcl, hbw, hcap⟩ := conv_with 1 (withS 1) runes_one w
      have hcj := hcl j hj
      rw [hr] at hcj
      have hcr := conv_rune r
      have HBW := Lib.hid hbw
      have hlen : (withR 1).length = 12 := rfl
      rw [hlen, show withS 1 = (⟨#[195, 161, 195, 169, 195, 173, 195, 179, 195, 186, 195, 189, 195, 129, 195, 137, 195, 141, 195, 147, 195, 154, 195, 157]⟩ : ByteArray) from rfl] at hcv
      clear hi hj hone hcl hbw hcap hr HA hlen
      go_enter Tryd.func40, Tryd.ntmps40
      go_wp2_with fail
      refine (HX.out _ _).mono ?_; rintro en wx ⟨rfl, rfl⟩
      rw [show Lib.indexByte (⟨#[97, 101, 105, 111, 117, 121, 65, 69, 73, 79, 85, 89]⟩ : ByteArray).data.toList b = (j : Int) from HI.out]
      go_wp2_with fail
      go_ret
      exact ⟨rfl, HBW.out⟩
    · obtain ⟨r, hr⟩ : ∃ r, (withR 2).getD j 0 = r := ⟨_, rfl⟩
      have HA : Hid (accdP 2 b = Utf8.encode r) := Lib.hid (by unfold accdP; rw [hi, if_neg (by omega), ← hr]; rfl)
      have hj' : (j : Int) < 10 := by have : (withR 2).length = 10 := rfl; omega
      rw [HA.out]
      have HI := Lib.hid hi
      obtain ⟨cap, W', hcv, hcl, hbw, hcap⟩ := conv_with 2 (withS 2) runes_two w
      have hcj := hcl j hj
      rw [hr] at hcj
      have hcr := conv_rune r
      have HBW := Lib.hid hbw
      have hlen : (withR 2).length = 10 := rfl
      rw [hlen, show withS 2 = (⟨#[195, 164, 195, 171, 195, 175, 195, 182, 195, 188, 195, 132, 195, 139, 195, 143, 195, 150, 195, 156]⟩ : ByteArray) from rfl] at hcv
      clear hi hj hone hcl hbw hcap hr HA hlen
      go_enter Tryd.func40, Tryd.ntmps40
      go_wp2_with fail
      refine (HX.out _ _).mono ?_; rintro en wx ⟨rfl, rfl⟩
      rw [show Lib.indexByte (⟨#[97, 101, 105, 111, 117, 65, 69, 73, 79, 85]⟩ : ByteArray).data.toList b = (j : Int) from HI.out]
      go_wp2_with fail
      go_ret
      exact ⟨rfl, HBW.out⟩
end Go.Proofs.YtndkaehbmdiofaaDoor
