/- The walks of report.check and report.Get. -/
import Derived.Test.YtinhnlfhgfmagaaRepT
namespace Go.Proofs.Ytinhnlfhgfmagaa
open Go.RowKit Go.Proofs.Ytinhnlfhgfmagaa.Rep
def Fld.val (f : Fld) : Value := .agg #[.int .i64 f.at_, .int .i64 f.bits, .int .i64 f.page, .int .i64 f.usage, .int .i64 f.mn, .int .i64 f.mx, .bool f.pad]
def badF (f : Fld) : Prop := f.bits < 1 ∨ 32 < f.bits ∨ f.at_ < 0 ∨ 512 < f.at_
instance (f : Fld) : Decidable (badF f) := inferInstanceAs (Decidable (_ ∨ _ ∨ _ ∨ _))
def chkF (f : Fld) (n : Nat) : Int := if badF f then 1 else if 8 * (n : Int) < f.at_ + f.bits then 3 else 0
set_option maxHeartbeats 800000 in
theorem chkF_calls (f : Fld) (s : ByteArray) (w : World) (hs : s.size ≤ reachBytes) : Calls Try.prog 19 #[f.val, .string s] w fun e w' => e = .returned (.int .i64 (chkF f s.size)) ∧ Below w.heap.size w w' := by
  obtain ⟨a0, a1, a2, a3, a4, a5, a6⟩ := f
  have hs2 : s.size ≤ 140737488351232 := by unfold reachBytes at hs; omega
  clear hs
  have HB := Lib.hid (Kt.balloc (Below.refl _ w) (.cells #[.int .i64 a0, .int .i64 a1, .int .i64 a2, .int .i64 a3, .int .i64 a4, .int .i64 a5, .bool a6] 29))
  by_cases hb : badF ⟨a0, a1, a2, a3, a4, a5, a6⟩
  · have e : chkF ⟨a0, a1, a2, a3, a4, a5, a6⟩ s.size = 1 := if_pos hb
    rw [e]
    have hx : a1 < 1 ∨ (1 ≤ a1 ∧ 32 < a1) ∨ ((1 ≤ a1 ∧ a1 ≤ 32) ∧ a0 < 0) ∨ ((1 ≤ a1 ∧ a1 ≤ 32) ∧ 0 ≤ a0 ∧ 512 < a0) := by
      unfold badF at hb; dsimp only at hb; omega
    clear e hb
    unfold Fld.val
    rcases hx with h1 | ⟨h1, h2⟩ | ⟨⟨h1, h2⟩, h3⟩ | ⟨⟨h1, h2⟩, h3, h4⟩
    all_goals
      go_enter Try.func19, Try.ntmps19
      go_wp2_with fail
      go_ret
      exact ⟨rfl, HB.out⟩
  · have h1 : 1 ≤ a1 := by unfold badF at hb; dsimp only at hb; omega
    have h2 : a1 ≤ 32 := by unfold badF at hb; dsimp only at hb; omega
    have h3 : 0 ≤ a0 := by unfold badF at hb; dsimp only at hb; omega
    have h4 : a0 ≤ 512 := by unfold badF at hb; dsimp only at hb; omega
    unfold Fld.val
    by_cases hl : 8 * (s.size : Int) < a0 + a1
    · have e : chkF ⟨a0, a1, a2, a3, a4, a5, a6⟩ s.size = 3 := by unfold chkF; rw [if_neg hb, if_pos hl]
      rw [e]
      clear e hb
      go_enter Try.func19, Try.ntmps19
      go_wp2_with fail
      go_ret
      exact ⟨rfl, HB.out⟩
    · have e : chkF ⟨a0, a1, a2, a3, a4, a5, a6⟩ s.size = 0 := by unfold chkF; rw [if_neg hb, if_neg hl]
      rw [e]
      have e1 : decide (8 * (s.size : Int) < a0 + a1) = false := decide_eq_false hl
      clear e hb hl
      go_enter Try.func19, Try.ntmps19
      go_wp2_with fail
      go_ret
      exact ⟨rfl, HB.out⟩
/-- bit k of a text -/
def bt (s : ByteArray) (k : Nat) : Nat := (s.data.toList.getD (k / 8) 0).toNat / 2 ^ (k % 8) % 2
def rawN (s : ByteArray) (a : Nat) : Nat → Nat
  | 0 => 0
  | n + 1 => rawN s a n + bt s (a + n) * 2 ^ n
theorem bt_lt (s : ByteArray) (k : Nat) : bt s k < 2 := by unfold bt; omega
theorem raw_lt (s : ByteArray) (a : Nat) : ∀ n, rawN s a n < 2 ^ n
  | 0 => by simp [rawN]
  | n + 1 => by
    have h1 := raw_lt s a n
    have h2 := bt_lt s (a + n)
    show rawN s a n + bt s (a + n) * 2 ^ n < 2 ^ (n + 1)
    have h3 : bt s (a + n) = 0 ∨ bt s (a + n) = 1 := by omega
    rw [Nat.pow_succ]
    rcases h3 with h3 | h3 <;> rw [h3] <;> omega
def getV (f : Fld) (s : ByteArray) : Int :=
  if f.mn < 0 ∧ rawN s f.at_.toNat f.bits.toNat / 2 ^ (f.bits.toNat - 1) = 1 then (rawN s f.at_.toNat f.bits.toNat : Int) - 2 ^ f.bits.toNat else (rawN s f.at_.toNat f.bits.toNat : Nat)
def getR (f : Fld) (s : ByteArray) : Int × Int := if chkF f s.size = 0 then (getV f s, 0) else (0, chkF f s.size)
theorem byte_bt (s : ByteArray) (p : Nat) (h : p / 8 < s.size) : bt s p = (s[p / 8]'h).toNat / 2 ^ (p % 8) % 2 := by
  unfold bt
  rw [List.getD_eq_getElem?_getD, List.getElem?_eq_getElem (by rw [Array.length_toList]; exact h)]
  rfl
theorem and_bt (x e : Nat) (hx : x < 256) : bits .and .u8 ((x : Int) / 2 ^ e) 1 = ((x / 2 ^ e % 2 : Nat) : Int) := by
  have e4 : (x : Int) / 2 ^ e = ((x / 2 ^ e : Nat) : Int) := by simp
  have hle : x / 2 ^ e ≤ x := Nat.div_le_self _ _
  rw [e4, show (1 : Int) = ((1 : Nat) : Int) from rfl, u8_and_nat _ 1 (by omega) (by omega), Nat.and_one_is_mod]
theorem or_raw (r b k : Nat) (hr : r < 2 ^ k) (hb : b < 2) (hk : k < 32) : bits .or .i64 (r : Int) ((b : Int) * 2 ^ k) = ((r + b * 2 ^ k : Nat) : Int) := by
  have h1 : 2 ^ k ≤ 2 ^ 31 := Nat.pow_le_pow_right (by omega) (by omega)
  have h2 : b * 2 ^ k ≤ 1 * 2 ^ k := Nat.mul_le_mul_right _ (by omega)
  have e : (b : Int) * 2 ^ k = ((2 ^ k * b : Nat) : Int) := by rw [Nat.mul_comm]; simp
  rw [e, Kt.i64_or_nat _ _ (by omega) (by rw [Nat.mul_comm]; omega), Nat.or_comm, ← Nat.two_pow_add_eq_or_of_lt hr b]
  congr 1
  rw [Nat.mul_comm (2 ^ k) b]; omega
set_option maxRecDepth 100000 in
set_option maxHeartbeats 1600000 in
theorem get_good (A N : Nat) (a2 a3 a4 a5 : Int) (a6 : Bool) (s : ByteArray) (w : World) (hs : s.size ≤ reachBytes) (hN : 1 ≤ N) (hN2 : N ≤ 32) (hA : A ≤ 512) (hAN : A + N ≤ 8 * s.size) :
    Calls Try.prog 13 #[(⟨A, N, a2, a3, a4, a5, a6⟩ : Fld).val, .string s] w fun e w' => e = .returned (.tuple #[.int .i64 (getV ⟨A, N, a2, a3, a4, a5, a6⟩ s), .int .i64 0]) ∧ Below w.heap.size w w' := by
  have HC := Lib.hid (fun W => chkF_calls ⟨A, N, a2, a3, a4, a5, a6⟩ s W hs)
  have e0 : chkF ⟨A, N, a2, a3, a4, a5, a6⟩ s.size = 0 := by
    unfold chkF
    rw [if_neg (show ¬ badF _ by unfold badF; dsimp only; omega), if_neg (by dsimp only; omega)]
  rw [e0] at HC
  have HB := Lib.hid (Kt.balloc (Below.refl _ w) (.cells #[.int .i64 A, .int .i64 N, .int .i64 a2, .int .i64 a3, .int .i64 a4, .int .i64 a5, .bool a6] 29))
  have HBX : Hid ((w.alloc (.cells #[.int .i64 A, .int .i64 N, .int .i64 a2, .int .i64 a3, .int .i64 a4, .int .i64 a5, .bool a6] 29)).heap[w.heap.size]? = some (.cells #[.int .i64 A, .int .i64 N, .int .i64 a2, .int .i64 a3, .int .i64 a4, .int .i64 a5, .bool a6] 29 (0, 0))) := Lib.hid (heap_alloc_new w _)
  have hs2 : s.size ≤ 140737488351232 := by unfold reachBytes at hs; omega
  clear e0 hs
  unfold Fld.val
  dsimp only
  go_enter Try.func13, Try.ntmps13
  go_wp2_with fail
  refine (HC.out _).mono ?_
  rintro en w1 ⟨rfl, hb⟩
  have HB1 := Lib.hid (Kt.bthen HB.out hb)
  have c1 := fun i => cell_of_row _ _ i _ _ _ (Kt.row_on hb HBX.out)
  clear hb
  go_wp2_with fail
  go_loop [7, 18] (fun v i => ∃ k : Nat, k ≤ N ∧ i = .int .i64 k ∧ v = .int .i64 (rawN s A k : Nat)) (fun _ i => N - (intOf i).toNat)
  case atStart => exact ⟨0, Nat.zero_le _, rfl, rfl⟩
  case round =>
    obtain ⟨k, hk, rfl, rfl⟩ := hrel
    by_cases hlt : k < N
    · obtain ⟨p, hp⟩ : ∃ p, A + k = p := ⟨_, rfl⟩
      have hp1 : (A : Int) + k = p := by omega
      have hp2 : p ≤ 600 := by omega
      obtain ⟨r, hr⟩ : ∃ r, p / 8 = r := ⟨_, rfl⟩
      have hrs : r < s.size := by omega
      have hr1 : IntKind.i64.wrap ((p : Int) / 8) = r := by rw [IntKind.wrap_i64]; omega
      obtain ⟨e, he⟩ : ∃ e, p % 8 = e := ⟨_, rfl⟩
      have he1 : (p : Int).tmod 8 = e := by rw [Int.tmod_eq_emod_of_nonneg (by omega)]; omega
      have he7 : e ≤ 7 := by omega
      have hx := (s[r]'hrs).toNat_lt
      have FA := and_bt (s[r]'hrs).toNat e hx
      have HBT : Hid (bt s (A + k) = (s[r]'hrs).toNat / 2 ^ e % 2) := Lib.hid (by
        subst hr he hp
        rw [byte_bt s (A + k) hrs])
      obtain ⟨b, hb⟩ : ∃ b, (s[r]'hrs).toNat / 2 ^ e % 2 = b := ⟨_, rfl⟩
      have hb2 : b < 2 := by omega
      have FO := or_raw (rawN s A k) b k (raw_lt s A k) hb2 (by omega)
      rw [hb] at FA HBT
      have FW : wrap64 ((b : Int) * 2 ^ k) = (b : Int) * 2 ^ k := by
        have h1 : 2 ^ k ≤ 2 ^ 31 := Nat.pow_le_pow_right (by omega) (by omega)
        have h2 : b * 2 ^ k ≤ 1 * 2 ^ k := Nat.mul_le_mul_right _ (by omega)
        have e : (b : Int) * 2 ^ k = ((b * 2 ^ k : Nat) : Int) := by simp
        rw [e]
        exact IntWalk.wrap64_in _ (by omega)
      obtain ⟨q, hq⟩ : ∃ q, rawN s A k = q := ⟨_, rfl⟩
      rw [hq] at FO ⊢
      have HSN : Hid (rawN s A (k + 1) = q + b * 2 ^ k) := Lib.hid (by show rawN s A k + bt s (A + k) * 2 ^ k = _; rw [hq, HBT.out])
      have hrs1 : (r : Int) < s.size := by omega
      clear hp hr he hb hq hx
      go_wp2_with fail
      go_round
      case rel => exact ⟨k + 1, by omega, by go_num, by rw [HSN.out]; go_num⟩
      case measure => (simp [intOf] <;> omega)
    · obtain rfl : k = N := by omega
      obtain ⟨m, hm⟩ : ∃ m, k = m + 1 := ⟨k - 1, by omega⟩
      have hm1 : (k : Int) - 1 = m := by omega
      have hm31 : m ≤ 31 := by omega
      obtain ⟨r, hr⟩ : ∃ r, rawN s A k = r := ⟨_, rfl⟩
      have hrl := raw_lt s A k
      rw [hr] at hrl
      have hp2 : 2 ^ k ≤ 2 ^ 32 := Nat.pow_le_pow_right (by omega) hN2
      have hr32 : r < 4294967296 := by omega
      have HV : Hid (getV ⟨A, k, a2, a3, a4, a5, a6⟩ s = if a4 < 0 ∧ r / 2 ^ m = 1 then (r : Int) - 2 ^ k else (r : Nat)) := Lib.hid (by
        unfold getV; dsimp only
        rw [Int.toNat_natCast, Int.toNat_natCast, hr, show k - 1 = m by omega])
      rw [hr]
      have e1 : (r : Int) / 2 ^ m = ((r / 2 ^ m : Nat) : Int) := by simp
      have hd : r / 2 ^ m ≤ r := Nat.div_le_self _ _
      obtain ⟨d, hdd⟩ : ∃ d, r / 2 ^ m = d := ⟨_, rfl⟩
      rw [hdd] at e1 hd
      rw [hdd] at HV
      obtain ⟨z, hz⟩ : ∃ z : Int, (2 : Int) ^ k = z := ⟨_, rfl⟩
      have hz1 : 0 ≤ z ∧ z ≤ 4294967296 := by
        rw [← hz]
        have e : (2 : Int) ^ k = ((2 ^ k : Nat) : Int) := by simp
        rw [e]; omega
      rw [hz] at HV
      obtain ⟨hz2, hz3⟩ := hz1
      clear hlt hk hr hrl hp2 hdd hm
      by_cases hneg : a4 < 0
      · by_cases hd1 : d = 1
        · have HX : Hid (getV ⟨A, k, a2, a3, a4, a5, a6⟩ s = (r : Int) - z) := Lib.hid (by rw [HV.out, if_pos ⟨hneg, hd1⟩])
          subst hd1
          have e2 : (((1 : Nat) : Int) == 1) = true := rfl
          go_wp2_with fail
          go_ret2
          rw [HX.out]
          exact ⟨rfl, HB1.out⟩
        · have HX : Hid (getV ⟨A, k, a2, a3, a4, a5, a6⟩ s = (r : Int)) := Lib.hid (by rw [HV.out, if_neg (fun h => hd1 h.2)])
          have e2 : ((d : Int) == 1) = false := by simp; omega
          clear hd1
          go_wp2_with fail
          go_ret2
          rw [HX.out]
          exact ⟨rfl, HB1.out⟩
      · have HX : Hid (getV ⟨A, k, a2, a3, a4, a5, a6⟩ s = (r : Int)) := Lib.hid (by rw [HV.out, if_neg (fun h => hneg h.1)])
        have e2 : decide (a4 < 0) = false := decide_eq_false hneg
        clear hneg
        go_wp2_with fail
        go_ret2
        rw [HX.out]
        exact ⟨rfl, HB1.out⟩
theorem get_bad (f : Fld) (s : ByteArray) (w : World) (hs : s.size ≤ reachBytes) (h : chkF f s.size ≠ 0) :
    Calls Try.prog 13 #[f.val, .string s] w fun e w' => e = .returned (.tuple #[.int .i64 0, .int .i64 (chkF f s.size)]) ∧ Below w.heap.size w w' := by
  have HC := Lib.hid (fun W => chkF_calls f s W hs)
  obtain ⟨n, hn⟩ : ∃ n, chkF f s.size = n := ⟨_, rfl⟩
  rw [hn] at HC h ⊢
  have e0 : (n != 0) = true := by rw [bne_iff_ne]; exact h
  obtain ⟨a0, a1, a2, a3, a4, a5, a6⟩ := f
  have HB := Lib.hid (Kt.balloc (Below.refl _ w) (.cells #[.int .i64 a0, .int .i64 a1, .int .i64 a2, .int .i64 a3, .int .i64 a4, .int .i64 a5, .bool a6] 29))
  clear hn h hs
  unfold Fld.val
  dsimp only
  go_enter Try.func13, Try.ntmps13
  go_wp2_with fail
  refine (HC.out _).mono ?_
  rintro en w1 ⟨rfl, hb⟩
  have HB1 := Lib.hid (Kt.bthen HB.out hb)
  clear hb
  go_wp2_with fail
  go_ret2
  exact ⟨rfl, HB1.out⟩
theorem chk_zeroF {f : Fld} {n : Nat} (h : chkF f n = 0) : ∃ A N : Nat, f.at_ = A ∧ f.bits = N ∧ 1 ≤ N ∧ N ≤ 32 ∧ A ≤ 512 ∧ A + N ≤ 8 * n := by
  unfold chkF at h
  split at h
  · cases h
  rename_i hb
  split at h
  · cases h
  rename_i hl
  unfold badF at hb
  exact ⟨f.at_.toNat, f.bits.toNat, by omega, by omega, by omega, by omega, by omega, by omega⟩
theorem get_calls (f : Fld) (s : ByteArray) (w : World) (hs : s.size ≤ reachBytes) :
    Calls Try.prog 13 #[f.val, .string s] w fun e w' => e = .returned (.tuple #[.int .i64 (getR f s).1, .int .i64 (getR f s).2]) ∧ Below w.heap.size w w' := by
  unfold getR
  by_cases h : chkF f s.size = 0
  · rw [if_pos h]
    obtain ⟨A, N, h1, h2, h3, h4, h5, h6⟩ := chk_zeroF h
    obtain ⟨a0, a1, a2, a3, a4, a5, a6⟩ := f
    dsimp only at h1 h2
    subst h1 h2
    exact get_good A N a2 a3 a4 a5 a6 s w hs h3 h4 h5 h6
  · rw [if_neg h]
    exact get_bad f s w hs h
end Go.Proofs.Ytinhnlfhgfmagaa
