/- Asks, by their bytes; hubLives; asked. -/
import Derived.Test.YtijolofnmccolaaHubG
namespace Go.Proofs.Ytijolofnmccolaa
open Go.RowKit Go.Proofs.Ytijolofnmccolaa.SetP
theorem rows_apart : ∀ (k j : Fin 15) (r q : Nat × Nat), (rowN k.val).map (fun x => (x.a, x.b)) = some r → (rowN j.val).map (fun x => (x.a, x.b)) = some q → r = q → k = j := by
  have h : ∀ (k j : Fin 15), (rowN k.val).map (fun x => (x.a, x.b)) ≠ none → (rowN k.val).map (fun x => (x.a, x.b)) = (rowN j.val).map (fun x => (x.a, x.b)) → k = j := by decide +kernel
  intro k j r q hk hj e
  exact h k j (by rw [hk]; simp) (by rw [hk, hj, e])
theorem txt_two (A B : Nat) (v i l : Int) : (txt A B v i l).data.toList.take 2 = [UInt8.ofNat A, UInt8.ofNat B] := rfl
theorem hit_unique {s : ByteArray} {k j : Int} (h : Hit s k) (g : Hit s j) : k = j := by
  obtain ⟨r, hr, _, e1⟩ := h
  obtain ⟨q, hq, _, e2⟩ := g
  have hb1 := row_facts hr
  have hb2 := row_facts hq
  have k1 := row_range hr
  have k2 := row_range hq
  have e : [UInt8.ofNat r.a, UInt8.ofNat r.b] = [UInt8.ofNat q.a, UInt8.ofNat q.b] := by
    rw [← txt_two r.a r.b (wordAt s 2) (wordAt s 4) (wordAt s 6), ← txt_two q.a q.b (wordAt s 2) (wordAt s 4) (wordAt s 6), e1, e2]
  simp only [List.cons.injEq, and_true] at e
  have ha : r.a = q.a := by have := congrArg UInt8.toNat e.1; simp at this; omega
  have hb : r.b = q.b := by have := congrArg UInt8.toNat e.2; simp at this; omega
  obtain ⟨n, rfl⟩ := Int.eq_ofNat_of_zero_le (show 0 ≤ k by omega)
  obtain ⟨m, rfl⟩ := Int.eq_ofNat_of_zero_le (show 0 ≤ j by omega)
  unfold rowI at hr hq
  rw [if_pos (by omega)] at hr hq
  have := rows_apart ⟨n, by omega⟩ ⟨m, by omega⟩ (r.a, r.b) (q.a, q.b) (by rw [show rowN n = some r from hr]; rfl) (by rw [show rowN m = some q from hq]; rfl) (by rw [ha, hb])
  have := congrArg Fin.val this
  simp only at this
  rw [this]
theorem First.of {s : ByteArray} {k : Nat} (hs : s.size = 8) (h : Hit s k) : First s k := by
  obtain ⟨r, hr, _⟩ := id h
  have := row_range hr
  exact ⟨hs, by omega, by omega, h, fun j h1 h2 g => by have := hit_unique h g; omega⟩
theorem txt_words (A B : Nat) (v i l : Int) (hv : 0 ≤ v ∧ v ≤ 65535) (hi : 0 ≤ i ∧ i ≤ 65535) (hl : 0 ≤ l ∧ l ≤ 65535) : wordAt (txt A B v i l) 2 = v ∧ wordAt (txt A B v i l) 4 = i ∧ wordAt (txt A B v i l) 6 = l := by
  have key (n : Int) (h : 0 ≤ n ∧ n ≤ 65535) : ((UInt8.ofNat (n % 256).toNat).toNat : Int) + 256 * ((UInt8.ofNat (n / 256 % 256).toNat).toNat : Int) = n := by
    simp; omega
  refine ⟨?_, ?_, ?_⟩
  · unfold wordAt; rw [dif_pos (by rw [txt_size]; omega)]; exact key v hv
  · unfold wordAt; rw [dif_pos (by rw [txt_size]; omega)]; exact key i hi
  · unfold wordAt; rw [dif_pos (by rw [txt_size]; omega)]; exact key l hl
/-- an ask that can be written, by its bytes -/
theorem first_txt {k : Nat} {v i l : Int} {r : Row} (hr : rowI k = some r) (h : Okw k v i l) (hl : 0 ≤ l) : First (txt r.a r.b v i l) k ∧ wordAt (txt r.a r.b v i l) 2 = v ∧ wordAt (txt r.a r.b v i l) 4 = i := by
  obtain ⟨r', hr', h1, h2, h3⟩ := id h
  rw [hr] at hr'; cases hr'
  have hf := row_facts hr
  have b3 : l ≤ 65535 := by
    rcases h3 with h3 | ⟨_, h3⟩
    · omega
    · have := can_bd h3; omega
  obtain ⟨w1, w2, w3⟩ := txt_words r.a r.b v i l (can_bd h1) (can_bd h2) ⟨hl, b3⟩
  refine ⟨First.of (txt_size _ _ _ _ _) ⟨r, hr, by rw [w1, w2, w3]; exact h, by rw [w1, w2, w3]⟩, w1, w2⟩
/-- 'asked' -/
theorem asked_calls (k : Nat) (v i l : Int) (w : World) (r : Row) (hr : rowI k = some r) (h : Okw k v i l) : Calls Try.prog 11 #[.int .i64 k, .int .i64 v, .int .i64 i, .int .i64 l] w fun e w' => e = .returned (.string (txt r.a r.b v i l)) ∧ Below w.heap.size w w' := by
  have HW : Hid (Wr k v i l (txt r.a r.b v i l) 0) := by
    rcases write_split k v i l with ⟨hno, _⟩ | ⟨_, r', hr', hw⟩
    · exact absurd h hno
    · rw [hr] at hr'; cases hr'; exact Lib.hid hw
  generalize txt r.a r.b v i l = t at *
  obtain ⟨kz, hkz⟩ : ∃ z : Int, (k : Int) = z := ⟨_, rfl⟩
  rw [hkz] at HW ⊢
  clear hkz hr h
  go_enter Try.func11, Try.ntmps11
  go_wp2_with fail
  refine (HW.out _).mono ?_
  rintro en w1 ⟨rfl, hb⟩
  go_wp2_with fail
  go_ret
  exact ⟨rfl, hb⟩
theorem zs_get (i : Nat) : zs.getD i 0 = 0 := by
  unfold zs
  rw [List.getD_eq_getElem?_getD, List.getElem?_replicate]
  split <;> rfl
theorem right_zero (c : Int) (h1 : 1 ≤ c) (h2 : c ≤ 15) : RightH c zs := ⟨h1, h2, fun i hi => by
  unfold okAt
  rw [zs_get, zs_get]
  exact ⟨⟨.inl rfl, .inl rfl⟩, fun _ => ⟨rfl, rfl⟩⟩⟩
theorem fit_zero : Fit zs := fun x hx => by
  have : x = 0 := List.eq_of_mem_replicate hx
  subst this; decide
end Go.Proofs.Ytijolofnmccolaa
