/- Disks: Check walked. -/
import Derived.Test.YtafiedhjjnapoaaScsF
namespace Go.Proofs.Ytafiedhjjnapoaa
open Go.RowKit Go.Proofs.Ytafiedhjjnapoaa.Scs
theorem form_calls (c : ByteArray) (w : World) : Calls Try.prog 82 #[.string c] w fun e w' => e = .returned (errV (formC c)) ∧ Below w.heap.size w w' := by
  by_cases h : c.size = 0
  · have e : c = ⟨#[]⟩ := by
      apply ext_bytes
      exact List.eq_nil_of_length_eq_zero (by rw [Array.length_toList]; exact h)
    have hf : formC c = 32 := by unfold formC; rw [if_pos h]
    rw [hf, e]
    exact form_empty w
  · exact form_some c (by omega) w
theorem sts_get (bs : List ByteArray) (i : Nat) (h : i < bs.length) (h2 : i < (sts bs).length) : (sts bs)[i] = .string bs[i] := by simp [sts]
theorem chk1 {bs : List ByteArray} {s : Int} (h : bs.length < 1 ∨ 64 < bs.length) : chkD bs s = 1 := by unfold chkD; rw [if_pos h]
theorem chk4 {bs : List ByteArray} {s : Int} (h : ¬ (bs.length < 1 ∨ 64 < bs.length)) (h2 : ¬ OkD bs s) : chkD bs s = 4 := by unfold chkD; rw [if_neg h, if_neg h2]
theorem sense_has (s : Int) (_b : Nat) (w : World) : Calls Try.prog 48 #[.slice (some ⟨w.heap.size, 0, none⟩) 4 4, .int .i64 s] (w.alloc (.cells #[.int .i64 0, .int .i64 32, .int .i64 33, .int .i64 36] 3)) fun e w' => e = .returned (.bool (decide (s = 0 ∨ s = 32 ∨ s = 33 ∨ s = 36))) ∧ w' = w.alloc (.cells #[.int .i64 0, .int .i64 32, .int .i64 33, .int .i64 36] 3) := by
  refine (Try.slices_Contains_int w.heap.size 0 4 4 [0, 32, 33, 36] s _ (by decide) (by decide) (fun j hj => ?_)).mono fun e w' h => ?_
  · have q := cell_of_row _ _ j _ _ _ (heap_alloc_new w (.cells #[.int .i64 0, .int .i64 32, .int .i64 33, .int .i64 36] 3))
    rw [Nat.zero_add, q]
    match j, hj with
    | 0, _ => rfl
    | 1, _ => rfl
    | 2, _ => rfl
    | 3, _ => rfl
  · obtain ⟨rfl, rfl⟩ := h
    refine ⟨?_, rfl⟩
    congr 2
    rw [Bool.eq_iff_iff]
    simp
set_option maxRecDepth 100000 in
set_option maxHeartbeats 3200000 in
theorem dcheck_calls (bs : List ByteArray) (s : Int) (A : Option Addr) (cap : Nat) (w : World) (hv : Kt.Ar w (.slice A bs.length cap) 1 bs.length (sts bs)) (_hn : bs.length < 4611686018427387904) :
    Calls Try.prog 38 #[.agg #[.slice A bs.length cap, .int .i64 s]] w fun e w' => e = .returned (.int .i64 (chkD bs s)) ∧ Below w.heap.size w w' := by
  have HV := Lib.hid hv
  have HB0 := Lib.hid (Kt.balloc (Below.refl _ w) (.cells #[.slice A bs.length cap, .int .i64 s] 24))
  have HR0 := Lib.hid (heap_alloc_new w (.cells #[.slice A bs.length cap, .int .i64 s] 24))
  have q := fun i => cell_of_row _ _ i _ _ _ HR0.out
  clear hv
  by_cases h1 : bs.length < 1 ∨ 64 < bs.length
  · have HC := Lib.hid (chk1 (s := s) h1)
    have h1' : (bs.length : Int) < 1 ∨ (1 ≤ (bs.length : Int) ∧ 64 < (bs.length : Int)) := by omega
    clear h1
    rcases h1' with h1 | ⟨h1, h2⟩
    · go_enter Try.func38, Try.ntmps38
      go_wp2_with fail
      go_ret
      exact ⟨by rw [HC.out]; rfl, HB0.out⟩
    · go_enter Try.func38, Try.ntmps38
      go_wp2_with fail
      go_ret
      exact ⟨by rw [HC.out]; rfl, HB0.out⟩
  · have H1 := Lib.hid h1
    have d1 : decide ((bs.length : Int) < 1) = false := decide_eq_false (by omega)
    have d2 : decide (64 < (bs.length : Int)) = false := decide_eq_false (by omega)
    clear h1
    go_enter Try.func38, Try.ntmps38
    go_wp2_with fail
    clear d1 d2
    obtain ⟨W, hW⟩ : ∃ W, W = w.alloc (.cells #[.slice A bs.length cap, .int .i64 s] 24) := ⟨_, rfl⟩
    rw [← hW] at HB0 HR0 q ⊢
    clear hW
    go_loopw [18] (fun ii wr => ∃ i : Nat, Hid (i ≤ bs.length) ∧ ii = .int .i64 i ∧ Hid (∀ j (h : j < bs.length), j < i → bs[j].size = 16) ∧ wr = W) (fun ii _ => bs.length - (intOf ii).toNat)
    case atStart => exact ⟨0, Lib.hid (by omega), rfl, Lib.hid (fun j h hj => absurd hj (by omega)), rfl⟩
    case round =>
      obtain ⟨i, HI, rfl, HP, rfl⟩ := hrel
      by_cases hi : i < bs.length
      · have hi' : (i : Int) < bs.length := by omega
        have hi64 : (i : Int) < 64 := by have := H1.out; omega
        obtain ⟨A', c', e, _, hx⟩ := HV.out.form
        cases e
        obtain ⟨b, o, rfl, hb0, hc⟩ := hx (by omega)
        have x0 : wr.cell? ⟨b, o + i, none⟩ = some (.string (bs[i]'hi)) := by
          have h2 := hc i (by simpa [sts] using hi)
          rw [sts_get bs i hi] at h2
          exact (HB0.out.cell (p := ⟨b, o + i, none⟩) hb0).trans h2
        have HNX : Hid ((bs[i]'hi).size = 16 → ∀ j (h : j < bs.length), j < i + 1 → bs[j].size = 16) := Lib.hid fun h16 j h hj => by
          by_cases e : j = i
          · subst e; exact h16
          · exact HP.out j h (by omega)
        have HNO : Hid ((bs[i]'hi).size ≠ 16 → chkD bs s = 4) := Lib.hid fun h16 => chk4 H1.out fun h => h16 (h.sz _ (List.getElem_mem hi))
        clear hx hc
        generalize (bs[i]'hi) = y at *
        by_cases h16 : y.size = 16
        · have f1 : ((y.size : Int) != 16) = false := by rw [h16]; rfl
          have HN := Lib.hid (HNX.out h16)
          clear h16 HNX HNO
          go_wp2_with fail
          exact ⟨⟨i + 1, Lib.hid hi, rfl, HN, trivial⟩, next_f hi⟩
        · have f1 : ((y.size : Int) != 16) = true := by rw [bne_iff_ne]; omega
          have HN := Lib.hid (HNO.out h16)
          clear h16 HNX HNO
          go_wp2_with fail
          go_ret
          exact ⟨by rw [HN.out]; rfl, HB0.out⟩
      · have hi' : ¬ (i : Int) < bs.length := by omega
        have hall : ∀ b ∈ bs, b.size = 16 := fun b hb => by
          obtain ⟨j, hj, rfl⟩ := List.mem_iff_getElem.1 hb
          exact HP.out j hj (by omega)
        have HSH := Lib.hid (sense_has s 0 wr)
        have HB1 := Lib.hid (Kt.balloc HB0.out (.cells #[.int .i64 0, .int .i64 32, .int .i64 33, .int .i64 36] 3))
        have hB := HB1.out
        have q := fun i => cell_of_row _ _ i _ _ _ (Kt.row_on (Kt.balloc (Below.refl _ wr) (.cells #[.int .i64 0, .int .i64 32, .int .i64 33, .int .i64 36] 3)) HR0.out)
        by_cases hs : s = 0 ∨ s = 32 ∨ s = 33 ∨ s = 36
        · rw [decide_eq_true hs] at HSH
          have HC : Hid (chkD bs s = 0) := Lib.hid (chkD_ok.2 ⟨by have := H1.out; omega, by have := H1.out; omega, hall, hs⟩)
          clear hs hall
          go_wp2_with fail
          refine HSH.out.mono ?_
          rintro en w2 ⟨rfl, rfl⟩
          go_wp2_with fail
          go_ret
          exact ⟨by rw [HC.out]; rfl, HB1.out⟩
        · rw [decide_eq_false hs] at HSH
          have HC : Hid (chkD bs s = 4) := Lib.hid (chk4 H1.out fun h => hs h.sn)
          clear hs hall
          go_wp2_with fail
          refine HSH.out.mono ?_
          rintro en w2 ⟨rfl, rfl⟩
          go_wp2_with fail
          go_ret
          exact ⟨by rw [HC.out]; rfl, HB1.out⟩
end Go.Proofs.Ytafiedhjjnapoaa
