/- typist: the reference's Signs walked. -/
import Derived.Test.YtndkaehbmdiofaaDoorTypL
namespace Go.Proofs.YtndkaehbmdiofaaDoor
open Go.RowKit Go.Proofs.YtndkaehbmdiofaaDoor.Typ
def KS : ByteArray := ⟨#[4, 97, 65, 5, 98, 66, 6, 99, 67, 7, 100, 68, 8, 101, 69, 9, 102, 70, 10, 103, 71, 11, 104, 72, 12, 105, 73, 13, 106, 74, 14, 107, 75, 15, 108, 76, 16, 109, 77, 17, 110, 78, 18, 111, 79, 19, 112, 80, 20, 113, 81, 21, 114, 82, 22, 115, 83, 23, 116, 84, 24, 117, 85, 25, 118, 86, 26, 119, 87, 27, 120, 88, 28, 121, 89, 29, 122, 90, 30, 49, 33, 31, 50, 64, 32, 51, 35, 33, 52, 36, 34, 53, 37, 35, 54, 94, 36, 55, 38, 37, 56, 42, 38, 57, 40, 39, 48, 41, 40, 10, 10, 44, 32, 32, 45, 45, 95, 54, 44, 60, 55, 46, 62]⟩
def keyAt (j : Nat) : Nat := (KS.data.toList.getD (3 * j) 0).toNat
theorem keys_right : ∀ j, j < 41 → signs (keyAt j : Int) = true ∧ KS.extract (3 * j + 1) (3 * j + 2) = charP (keyAt j : Int) false ∧ KS.extract (3 * j + 2) (3 * j + 3) = charP (keyAt j : Int) true := by decide +kernel
theorem keys_all' : ∀ n : Nat, n < 56 → signs (n : Int) = true → ∃ j, j < 41 ∧ keyAt j = n := by decide +kernel
theorem keys_all {c : Int} (h : signs c = true) : ∃ j, j < 41 ∧ (keyAt j : Int) = c := by
  have h' := h
  unfold signs at h'
  rw [decide_eq_true_iff] at h'
  obtain ⟨n, rfl⟩ : ∃ n : Nat, c = n := ⟨c.toNat, by omega⟩
  obtain ⟨j, h1, h2⟩ := keys_all' n (by omega) h
  exact ⟨j, h1, by rw [h2]⟩
theorem byte_get (s : ByteArray) (i : Nat) (h : i < s.size) : (s[i]'h).toNat = (s.data.toList.getD i 0).toNat := by
  rw [List.getD_eq_getElem?_getD, Array.getElem?_toList, Array.getElem?_eq_getElem h]; rfl
theorem key_get (j : Nat) (h : 3 * j < KS.size) : ((KS[3 * j]'h).toNat : Int) = keyAt j ∧ wrap64 ((KS[3 * j]'h).toNat : Int) = keyAt j := by
  have e : (KS[3 * j]'h).toNat = keyAt j := byte_get KS (3 * j) h
  have := (KS[3 * j]'h).toNat_lt
  refine ⟨by rw [e], ?_⟩
  rw [e] at this ⊢
  unfold wrap64; omega
set_option maxRecDepth 100000 in
set_option maxHeartbeats 3200000 in
theorem signs_calls (c : Int) (w0 : World) : Calls Tryd.prog 10 #[.int .i64 c] w0 fun e w' => e = .returned (.tuple #[.string (charP c false), .string (charP c true), .bool (signs c)]) ∧ Below w0.heap.size w0 w' := by
  obtain ⟨S1, hS1⟩ : ∃ x, charP c false = x := ⟨_, rfl⟩
  obtain ⟨S2, hS2⟩ : ∃ x, charP c true = x := ⟨_, rfl⟩
  obtain ⟨ok, hok⟩ : ∃ x, signs c = x := ⟨_, rfl⟩
  rw [hS1, hS2, hok]
  have HS := Lib.hid (And.intro hS1 (And.intro hS2 hok))
  clear hS1 hS2 hok
  go_enter Tryd.func10, Tryd.ntmps10
  go_wp2_with fail
  go_loopw [5] (fun ii wr => ∃ j : Nat, ii = .int .i64 ((3 * j : Nat) : Int) ∧ Hid (j ≤ 41 ∧ ∀ i, i < j → (keyAt i : Int) ≠ c) ∧ Hid (Below w0.heap.size w0 wr)) (fun ii _ => 123 - (intOf ii).toNat)
  case atStart => exact ⟨0, rfl, Lib.hid ⟨Nat.zero_le _, fun i hi => absurd hi (by omega)⟩, Lib.hid (Below.refl _ _)⟩
  case round =>
    obtain ⟨j, rfl, HJ, HB⟩ := hrel
    by_cases hj : j < 41
    · have HR := Lib.hid (keys_right j hj)
      have HG := Lib.hid (key_get j (by show 3 * j < 123; omega)).2
      unfold KS at HG HR
      obtain ⟨k, hk⟩ : ∃ k, 3 * j = k := ⟨_, rfl⟩
      have hk' : (k : Int) < 123 := by omega
      rw [hk]
      go_upto_if 14 with (fail)
      have hz : wrap64 ((((⟨#[4, 97, 65, 5, 98, 66, 6, 99, 67, 7, 100, 68, 8, 101, 69, 9, 102, 70, 10, 103, 71, 11, 104, 72, 12, 105, 73, 13, 106, 74, 14, 107, 75, 15, 108, 76, 16, 109, 77, 17, 110, 78, 18, 111, 79, 19, 112, 80, 20, 113, 81, 21, 114, 82, 22, 115, 83, 23, 116, 84, 24, 117, 85, 25, 118, 86, 26, 119, 87, 27, 120, 88, 28, 121, 89, 29, 122, 90, 30, 49, 33, 31, 50, 64, 32, 51, 35, 33, 52, 36, 34, 53, 37, 35, 54, 94, 36, 55, 38, 37, 56, 42, 38, 57, 40, 39, 48, 41, 40, 10, 10, 44, 32, 32, 45, 45, 95, 54, 44, 60, 55, 46, 62]⟩ : ByteArray)[k]'(by show k < 123; omega)).toNat : Int)) = keyAt j := by subst hk; exact HG.out
      rw [hz]
      clear hz
      obtain ⟨z, hz2⟩ : ∃ z, keyAt j = z := ⟨_, rfl⟩
      rw [hz2] at HR ⊢
      by_cases hc : (z : Int) = c
      · subst hc
        obtain ⟨k1, hk1⟩ : ∃ k1, 3 * j + 1 = k1 := ⟨_, rfl⟩
        obtain ⟨k2, hk2⟩ : ∃ k2, 3 * j + 2 = k2 := ⟨_, rfl⟩
        obtain ⟨k3, hk3⟩ : ∃ k3, 3 * j + 3 = k3 := ⟨_, rfl⟩
        have hx1 : IntKind.i64.wrap ((k : Int) + 1) = (k1 : Int) := by rw [IntWalk.i64_in _ (by omega)]; omega
        have hx2 : IntKind.i64.wrap ((k : Int) + 2) = (k2 : Int) := by rw [IntWalk.i64_in _ (by omega)]; omega
        have hx3 : IntKind.i64.wrap ((k : Int) + 3) = (k3 : Int) := by rw [IntWalk.i64_in _ (by omega)]; omega
        have hb1 : (k1 : Int) ≤ k2 := by omega
        have hb2 : (k2 : Int) ≤ k3 := by omega
        have hb3 : (k2 : Int) ≤ 123 := by omega
        have hb4 : (k3 : Int) ≤ 123 := by omega
        rw [hk1, hk2, hk3] at HR
        obtain ⟨r1, r2, r3⟩ := HR.out
        rw [HS.out.1] at r2
        rw [HS.out.2.1] at r3
        rw [HS.out.2.2] at r1
        subst r1
        have HE := Lib.hid (And.intro r2 r3)
        clear r2 r3 HR HG hz2 hk1 hk2 hk3 hk hj HS HJ
        go_wp2_with fail
        go_quiet (fail)
        go_wp2_with fail
        rw [HE.out.1, HE.out.2]
        refine bodyPost_ret (v := .tuple #[.string S1, .string S2, .bool true]) (by simp [results, Tryd.results10, go_sem]) rfl ?_
        exact ⟨rfl, bdrewN HB.out _⟩
      · have hc' : ((z : Int) == c) = false := by rw [beq_eq_false_iff_ne]; exact hc
        have HQ : Hid ((k : Int) + 3 = ((3 * (j + 1) : Nat) : Int)) := Lib.hid (by omega)
        have HJ2 : Hid (j + 1 ≤ 41 ∧ ∀ i, i < j + 1 → (keyAt i : Int) ≠ c) := Lib.hid ⟨hj, fun i hi => by
          by_cases e : i = j
          · subst e; rw [hz2]; exact hc
          · exact HJ.out.2 i (by omega)⟩
        have HM : Hid (123 - (3 * (j + 1)) < 123 - k) := Lib.hid (by omega)
        clear hc HR HG hz2 hk hj HJ
        go_wp2_with fail
        rw [HQ.out]
        refine ⟨⟨j + 1, rfl, HJ2, HB⟩, ?_⟩
        simp only [intOf]
        have := HM.out
        omega
    · have hj' : ¬ (((3 * j : Nat) : Int)) < 123 := by omega
      have hno : ok = false := by
        cases h : ok
        · rfl
        · obtain ⟨i, hi, he⟩ := keys_all (HS.out.2.2.trans h)
          exact absurd he (HJ.out.2 i (by omega))
      subst hno
      obtain rfl : S1 = ByteArray.empty := by rw [← HS.out.1, charP_none HS.out.2.2]
      obtain rfl : S2 = ByteArray.empty := by rw [← HS.out.2.1, charP_none HS.out.2.2]
      generalize 3 * j = k at *
      clear HS
      go_wp2_with fail
      refine bodyPost_ret (v := .tuple #[.string ByteArray.empty, .string ByteArray.empty, .bool false]) (by simp [results, Tryd.results10, go_sem]; rfl) rfl ?_
      exact ⟨rfl, HB.out⟩
end Go.Proofs.YtndkaehbmdiofaaDoor
