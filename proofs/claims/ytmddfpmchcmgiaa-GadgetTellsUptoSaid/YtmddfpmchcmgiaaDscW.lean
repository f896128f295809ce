/- The walks of package desc: within, bytes, word, wordAt, extra. -/
import Derived.Test.YtmddfpmchcmgiaaDscR
import Derived.Test.YtmddfpmchcmgiaaGen
import Derived.Test.YtmddfpmchcmgiaaShelf
namespace Go.Proofs.Ytmddfpmchcmgiaa
open Go.RowKit Go.Proofs.Ytmddfpmchcmgiaa.Dsc
def inB (most : Int) (l : List Int) : Bool := l.all fun n => decide (0 ≤ n) && decide (n ≤ most)
theorem wrap_d {k : Nat} (h : k ≤ 2097152) : wrap64 ((k : Int) + 1) = ((k + 1 : Nat) : Int) := by unfold wrap64; omega
theorem meas_d {l k : Nat} (h : k < l) : l - (intOf (.int .i64 ((k + 1 : Nat) : Int))).toNat < l - (intOf (.int .i64 (k : Int))).toNat := by
  show l - (k + 1) < l - k
  omega
set_option maxRecDepth 100000 in
theorem within_calls (most : Int) (V : Value) (ns : List Int) (w : World) (h : Kt.Ar w V 1 ns.length (ics ns)) (hn : ns.length ≤ 1000) :
    Calls Try.prog 45 #[.int .i64 most, V] w fun e w' => e = .returned (.bool (inB most ns)) ∧ w' = w := by
  obtain ⟨A, c, rfl, _, hx⟩ := h.form
  have HX := Lib.hid hx
  have HN := Lib.hid hn
  clear h hx hn
  go_enter Try.func45, Try.ntmps45
  go_wp2_with fail
  go_loop [9] (fun i => ∃ k : Nat, k ≤ ns.length ∧ i = .int .i64 k ∧ Hid (inB most (ns.take k) = true)) (fun i => ns.length - (intOf i).toNat)
  case atStart => exact ⟨0, Nat.zero_le _, rfl, Lib.hid rfl⟩
  case round =>
    obtain ⟨k, hk, rfl, HA⟩ := hrel
    by_cases hlt : k < ns.length
    · obtain ⟨b, o, rfl, hb, hc⟩ := HX.out (Nat.lt_of_le_of_lt (Nat.zero_le _) hlt)
      have hcell : w.cell? ⟨b, o + k, none⟩ = some (.int .i64 ns[k]) := (hc k (by rw [ics_len]; exact hlt)).trans (by simp [ics])
      have HT : Hid (inB most (ns.take (k + 1)) = (decide (0 ≤ ns[k]) && decide (ns[k] ≤ most))) := Lib.hid (by
        rw [List.take_succ_eq_append_getElem hlt]
        unfold inB at HA ⊢
        rw [List.all_append, HA.out, Bool.true_and]
        simp)
      have HF : Hid ((decide (0 ≤ ns[k]) && decide (ns[k] ≤ most)) = false → inB most ns = false) := Lib.hid (fun q => by
        unfold inB
        rw [List.all_eq_false]
        exact ⟨ns[k], List.getElem_mem .., by simpa using q⟩)
      clear hc
      generalize ns[k] = n at *
      by_cases h1 : n < 0
      · have HR : Hid (inB most ns = false) := Lib.hid (HF.out (by rw [decide_eq_false (by omega)]; rfl))
        go_wp2_with fail
        go_ret
        exact ⟨by rw [HR.out]; rfl, rfl⟩
      · by_cases h2 : most < n
        · have HR : Hid (inB most ns = false) := Lib.hid (HF.out (by rw [decide_eq_false (show ¬ n ≤ most by omega), Bool.and_false]))
          go_wp2_with fail
          go_ret
          exact ⟨by rw [HR.out]; rfl, rfl⟩
        · have HR : Hid (inB most (ns.take (k + 1)) = true) := Lib.hid (by rw [HT.out, decide_eq_true (show 0 ≤ n by omega), decide_eq_true (show n ≤ most by omega)]; rfl)
          have hwk := wrap_d (show k ≤ 2097152 by have := HN.out; omega)
          go_wp2_with fail
          go_round
          case rel => exact ⟨k + 1, hlt, congrArg (Value.int .i64) hwk, HR⟩
          case measure => rw [hwk]; exact meas_d hlt
    · obtain rfl : k = ns.length := by omega
      have HR : Hid (inB most ns = true) := Lib.hid (by have := HA.out; rwa [List.take_length] at this)
      go_wp2_with fail
      go_ret
      exact ⟨by rw [HR.out]; rfl, rfl⟩
set_option maxRecDepth 100000 in
theorem bytesB_calls (V : Value) (ns : List Int) (w : World) (h : Kt.Ar w V 1 ns.length (ics ns)) (hn : ns.length ≤ 1000) :
    Calls Try.prog 33 #[V] w fun e w' => e = .returned (.bool (inB 255 ns)) ∧ w' = w := by
  have HW := Lib.hid (within_calls 255 V ns w h hn)
  clear h hn
  go_enter Try.func33, Try.ntmps33
  go_wp2_with fail
  refine HW.out.mono ?_; rintro e w1 ⟨rfl, rfl⟩
  go_wp2_with fail
  go_ret
  exact ⟨rfl, rfl⟩
set_option maxRecDepth 100000 in
theorem dword_calls (n : Int) (_h : 0 ≤ n ∧ n ≤ 65535) (w : World) :
    Calls Try.prog 36 #[.int .i64 n] w fun e w' => e = .returned (.string (bs' (putB [n, n / 256]))) ∧ Below w.heap.size w w' := by
  have HP := Lib.hid (put_calls (.slice (some ⟨w.heap.size, 0, none⟩) 2 2) [n, n / 256] (w.alloc (.cells #[.int .i64 n, .int .i64 (n / 256)] 3)) (Kt.Ar.new w #[.int .i64 n, .int .i64 (n / 256)] 3 2 1 rfl) (by simp))
  go_enter Try.func36, Try.ntmps36
  have HB := Lib.hid (Kt.balloc (Below.refl w.heap.size w) (.cells #[.int .i64 n, .int .i64 (n / 256)] 3))
  go_wp2_with fail
  refine HP.out.mono ?_; rintro e w1 ⟨rfl, hb⟩
  have HB1 := Lib.hid (Kt.bthen HB.out hb)
  clear hb
  go_wp2_with fail
  go_ret
  exact ⟨rfl, HB1.out⟩
theorem extra_is (s : List UInt8) : decide (okX s) = (decide (2 ≤ (s.length : Int)) && decide ((s.length : Int) ≤ 32) && decide (at' s 0 = s.length) && decide (6 ≤ at' s 1)) := by
  rw [Bool.eq_iff_iff, decide_eq_true_iff]
  unfold okX
  simp only [Bool.and_eq_true, decide_eq_true_eq]
  constructor
  · rintro ⟨a, b, c, d⟩; exact ⟨⟨⟨by omega, by omega⟩, c⟩, d⟩
  · rintro ⟨⟨⟨a, b⟩, c⟩, d⟩; exact ⟨by omega, by omega, c, d⟩
theorem get_at (s : List UInt8) (i : Nat) (h : i < (bs' s).size) : (((bs' s)[i]'h).toNat : Int) = at' s i := by
  unfold at'
  have h' : i < s.length := by rw [bs_size] at h; exact h
  rw [List.getD_eq_getElem?_getD, List.getElem?_eq_getElem h']
  rfl
set_option maxRecDepth 100000 in
theorem extra_calls (s : List UInt8) (w : World) : Calls Try.prog 57 #[.string (bs' s)] w fun e w' => e = .returned (.bool (decide (okX s))) ∧ w' = w := by
  have HR := Lib.hid (extra_is s)
  have hz := bs_size s
  have h0 := get_at s 0
  have h1 := get_at s 1
  generalize decide (okX s) = R at *
  generalize bs' s = S at *
  rw [← hz] at HR
  by_cases c1 : 2 ≤ s.length
  · have hS0 : 0 < S.size := by omega
    have hS1 : 1 < S.size := by omega
    have k0 := h0 hS0
    have k1 := h1 hS1
    obtain ⟨b0, hb0⟩ : ∃ b, S[0] = b := ⟨_, rfl⟩
    obtain ⟨b1, hb1⟩ : ∃ b, S[1] = b := ⟨_, rfl⟩
    rw [hb0] at k0
    rw [hb1] at k1
    rw [← k0, ← k1] at HR
    have d1 : (2 : Int) ≤ S.size := by omega
    have hlt : b0.toNat < 256 := b0.toNat_lt
    clear h0 h1 k0 k1 hz c1
    by_cases q1 : (S.size : Int) ≤ 32
    · by_cases q2 : (b0.toNat : Int) = S.size
      · have q2' : ((b0.toNat : Int) == S.size) = true := by rw [beq_iff_eq]; exact q2
        have HR1 : Hid (R = decide (6 ≤ (b1.toNat : Int))) := Lib.hid (by rw [HR.out, decide_eq_true d1, decide_eq_true q1, decide_eq_true q2]; rfl)
        clear HR q2
        go_enter Try.func57, Try.ntmps57
        go_wp2_with fail
        go_ret
        exact ⟨by rw [HR1.out]; simp, rfl⟩
      · have q2' : ((b0.toNat : Int) == S.size) = false := by rw [beq_eq_false_iff_ne]; exact q2
        have HR1 : Hid (R = false) := Lib.hid (by rw [HR.out, decide_eq_false q2, Bool.and_false]; rfl)
        clear HR q2
        go_enter Try.func57, Try.ntmps57
        go_wp2_with fail
        go_ret
        exact ⟨by rw [HR1.out]; rfl, rfl⟩
    · have HR1 : Hid (R = false) := Lib.hid (by rw [HR.out, decide_eq_false q1, Bool.and_false]; rfl)
      clear HR
      go_enter Try.func57, Try.ntmps57
      go_wp2_with fail
      go_ret
      exact ⟨by rw [HR1.out]; rfl, rfl⟩
  · have d1 : ¬ (2 : Int) ≤ S.size := by omega
    have HR1 : Hid (R = false) := Lib.hid (by rw [HR.out, decide_eq_false d1]; rfl)
    clear HR h0 h1 hz c1
    go_enter Try.func57, Try.ntmps57
    go_wp2_with fail
    go_ret
    exact ⟨by rw [HR1.out]; rfl, rfl⟩
end Go.Proofs.Ytmddfpmchcmgiaa
