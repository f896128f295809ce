/- The walks of package packet: what is read. -/
import Derived.Test.YtmnmlnnhngnfbaaDoorPktV
import Derived.StillTailTactics
namespace Go.Proofs.YtmnmlnnhngnfbaaDoor
open Go.RowKit Go.Proofs.YtmnmlnnhngnfbaaDoor.CrcP Go.Proofs.YtmnmlnnhngnfbaaDoor.PktP
def pkV (p : Pk) : Value := .agg #[.int .i64 p.k, .int .i64 p.a, .int .i64 p.e, .int .i64 p.f, .string ⟨p.d.toArray⟩]
def rdV (r : Pk × Int) : Ending := .returned (.tuple #[pkV r.1, .int .i64 r.2])
theorem PktR.and15 (b : UInt8) : Go.bits BinOp.and IntKind.u8 (b.toNat : Int) 15 = ((b.toNat % 16 : Nat) : Int) := by
  have := u8_and_nat b.toNat 15 b.toNat_lt (by omega)
  rw [nat_mask4] at this; exact this
theorem PktR.xor15 : ∀ j : Nat, j < 16 → Go.bits BinOp.xor IntKind.i64 (j : Int) 15 = ((15 - j : Nat) : Int) := by decide
theorem PktR.hi (b : UInt8) : Go.bits BinOp.xor IntKind.i64 ((b.toNat : Int) / 16) 15 = ((15 - b.toNat / 16 : Nat) : Int) := by
  have h := b.toNat_lt
  have e : (b.toNat : Int) / 16 = ((b.toNat / 16 : Nat) : Int) := by omega
  rw [e]; exact PktR.xor15 _ (by omega)
theorem PktR.ne {a b : Nat} (h : a ≠ b) : ((a : Int) != (b : Int)) = true := by rw [bne_iff_ne]; omega
theorem PktR.nn {a b : Nat} (h : a = b) : ((a : Int) != (b : Int)) = false := by rw [h]; simp
set_option maxHeartbeats 800000 in
theorem read_nil (w : World) : Calls Tryd.prog 21 #[.string ByteArray.empty] w fun e w' => e = rdV (zero, 3) ∧ Below w.heap.size w w' := by
  go_enter Tryd.func21, Tryd.ntmps21
  go_wp2
  refine bodyPost_ret (v := .tuple #[pkV zero, .int .i64 3]) (by simp [results, Tryd.results21, go_sem]; rfl) rfl ⟨rfl, Kt.balloc (Below.refl _ w) _⟩
theorem PktR.ne0 {s : ByteArray} (h0 : 0 < s.size) : ¬ s.toList = [] ∧ s.toList.isEmpty = false := by
  have h : ¬ s.toList = [] := by
    rw [PktW.tl]; intro x
    have h1 : s.data.toList.length = 0 := by rw [x]; rfl
    have h2 : s.data.toList.length = s.size := by simp
    omega
  exact ⟨h, by simpa using h⟩
set_option maxHeartbeats 800000 in
theorem read_head (s : ByteArray) (h0 : 0 < s.size) (h1 : 15 - s[0].toNat / 16 ≠ s[0].toNat % 16) (w : World) : Calls Tryd.prog 21 #[.string s] w fun e w' => e = rdV (zero, 4) ∧ Below w.heap.size w w' := by
  have ha := PktR.and15 s[0]
  have hx := PktR.hi s[0]
  have ht := PktR.ne h1
  obtain ⟨hne, hne2⟩ := PktR.ne0 h0
  have hK : s[0].toNat % 16 ≤ 15 := by omega
  have hB := s[0].toNat_lt
  clear h1
  generalize 15 - s[0].toNat / 16 = J at *
  generalize s[0].toNat % 16 = K at *
  go_enter Tryd.func21, Tryd.ntmps21
  go_wp2
  refine bodyPost_ret (v := .tuple #[pkV zero, .int .i64 4]) (by simp [results, Tryd.results21, go_sem]; rfl) rfl ⟨rfl, Kt.balloc (Below.refl _ w) _⟩
set_option maxHeartbeats 800000 in
theorem read_unknown (s : ByteArray) (h0 : 0 < s.size) (h1 : 15 - s[0].toNat / 16 = s[0].toNat % 16) (hk : ¬ (isTok (s[0].toNat % 16 : Nat) ∨ isData (s[0].toNat % 16 : Nat) ∨ ((s[0].toNat % 16 : Nat) : Int) = 5 ∨ isHs (s[0].toNat % 16 : Nat))) (w : World) : Calls Tryd.prog 21 #[.string s] w fun e w' => e = rdV (zero, 4) ∧ Below w.heap.size w w' := by
  have ha := PktR.and15 s[0]
  have hx := PktR.hi s[0]
  have ht := PktR.nn h1
  obtain ⟨hne, hne2⟩ := PktR.ne0 h0
  have hK : s[0].toNat % 16 ≤ 15 := by omega
  have hB := s[0].toNat_lt
  have hkn := knownB_f hk
  clear h1 hk
  generalize 15 - s[0].toNat / 16 = J at *
  generalize s[0].toNat % 16 = K at *
  go_enter Tryd.func21, Tryd.ntmps21
  go_wp2_with (go_at_call 34; refine (known_calls _ _).mono ?_; rintro e w' ⟨rfl, rfl⟩)
  refine bodyPost_ret (v := .tuple #[pkV zero, .int .i64 4]) (by simp [results, Tryd.results21, go_sem]; rfl) rfl ⟨rfl, Kt.balloc (Below.refl _ w) _⟩
theorem PktR.or16 (b c : UInt8) : Go.bits BinOp.or IntKind.u16 (IntKind.u16.wrap (b.toNat : Int)) (IntKind.u16.wrap (IntKind.u16.wrap (c.toNat : Int) * 256)) = ((num [b, c] : Nat) : Int) := by
  have hb := b.toNat_lt; have hc := c.toNat_lt
  rw [IntWalk.u16_in (b.toNat : Int) (by omega), IntWalk.u16_in (c.toNat : Int) (by omega), IntWalk.u16_in _ (by omega)]
  have e : (c.toNat : Int) * 256 = ((c.toNat * 256 : Nat) : Int) := by omega
  rw [e, u16_or_nat _ _ (by omega) (by omega), Nat.or_comm, nat_join 8 (c.toNat * 256) b.toNat (by omega) (by omega), Nat.add_comm]
  rfl
theorem PktR.and11 (n : Nat) (h : n < 65536) : Go.bits BinOp.and IntKind.u16 (n : Int) 2047 = ((n % 2048 : Nat) : Int) := by
  have := u16_and_nat n 2047 h (by omega)
  rw [nat_mask11] at this; exact this
theorem PktR.and7 (n : Nat) (h : n < 65536) : Go.bits BinOp.and IntKind.u16 (n : Int) 127 = ((n % 128 : Nat) : Int) := by
  have := u16_and_nat n 127 h (by omega)
  rw [nat_mask7] at this; exact this
theorem PktR.and4 (n : Nat) (h : n < 65536) : Go.bits BinOp.and IntKind.u16 ((n : Int) / 128) 15 = ((n / 128 % 16 : Nat) : Int) := by
  have e : (n : Int) / 128 = ((n / 128 : Nat) : Int) := by omega
  have := u16_and_nat (n / 128) 15 (by omega) (by omega)
  rw [nat_mask4] at this; rw [e]; exact this
theorem PktR.ex3 {s : ByteArray} (h0 : s.size = 3) : (s.extract 1 3).size = 2 := by simp [h0]
/-- the number behind the first byte -/
def num3 (s : ByteArray) (h0 : s.size = 3) : Nat := num [(s.extract 1 3)[0]'(by rw [PktR.ex3 h0]; omega), (s.extract 1 3)[1]'(by rw [PktR.ex3 h0]; omega)]
theorem PktR.hor {s : ByteArray} (h0 : s.size = 3) : Go.bits BinOp.or IntKind.u16 (IntKind.u16.wrap ((s.extract 1 3)[0]'(by rw [PktR.ex3 h0]; omega)).toNat) (IntKind.u16.wrap (IntKind.u16.wrap ((s.extract 1 3)[1]'(by rw [PktR.ex3 h0]; omega)).toNat * 256)) = ((num3 s h0 : Nat) : Int) := PktR.or16 _ _
theorem PktR.list2 {r : ByteArray} (h : r.size = 2) : r.data.toList = [r[0], r[1]] := by
  have hl : r.data.toList.length = 2 := by simpa using h
  obtain ⟨a, b, hab⟩ := two_list hl
  have e0 : r[0] = a := by
    have : r.data.toList[0]'(by omega) = a := by simp [hab]
    have h2 : r.data[0]'(by show 0 < r.size; omega) = a := by simpa using this
    exact h2
  have e1 : r[1] = b := by
    have : r.data.toList[1]'(by omega) = b := by simp [hab]
    have h2 : r.data[1]'(by show 1 < r.size; omega) = b := by simpa using this
    exact h2
  rw [e0, e1]; exact hab
theorem PktR.num3_eq {s : ByteArray} (h0 : s.size = 3) : num (s.data.toList.drop 1) = num3 s h0 := by
  have h1 : (s.extract 1 3).data.toList = s.data.toList.drop 1 := by
    have hl : s.data.toList.length = 3 := by simpa using h0
    simp
    exact List.take_of_length_le (by simp [hl])
  rw [← h1, PktR.list2 (PktR.ex3 h0)]; rfl
set_option maxHeartbeats 800000 in
theorem read_short_tok (s : ByteArray) (h0 : 0 < s.size) (h1 : 15 - s[0].toNat / 16 = s[0].toNat % 16) (hk : isTok (s[0].toNat % 16 : Nat)) (hl : s.size - 1 < 2) (w : World) : Calls Tryd.prog 21 #[.string s] w fun e w' => e = rdV (zero, 3) ∧ Below w.heap.size w w' := by
  have ha := PktR.and15 s[0]
  have hx := PktR.hi s[0]
  have ht := PktR.nn h1
  obtain ⟨hne, hne2⟩ := PktR.ne0 (s := s) (by omega)
  have hK : s[0].toNat % 16 ≤ 15 := by omega
  have hB := s[0].toNat_lt
  have hkn := knownB_t (Or.inl hk)
  have hkt := tokB_t hk
  have hkd := dataB_f (fun x => (dat_not x).1 hk)
  have hk5 := PktW.bne (tok_not hk)
  clear h1 hk
  generalize 15 - s[0].toNat / 16 = J at *
  generalize s[0].toNat % 16 = K at *
  go_enter Tryd.func21, Tryd.ntmps21
  go_wp2_with (first | (go_at_call 34; refine (known_calls _ _).mono ?_; rintro e w' ⟨rfl, rfl⟩) | (go_at_call 35; refine (token_calls _ _).mono ?_; rintro e w' ⟨rfl, rfl⟩) | (go_at_call 36; refine (data_calls _ _).mono ?_; rintro e w' ⟨rfl, rfl⟩))
  refine bodyPost_ret (v := .tuple #[pkV zero, .int .i64 3]) (by simp [results, Tryd.results21, go_sem]; rfl) rfl ⟨rfl, Kt.balloc (Kt.balloc (Below.refl _ w) _) _⟩
set_option maxHeartbeats 800000 in
theorem read_long_tok (s : ByteArray) (h0 : 0 < s.size) (h1 : 15 - s[0].toNat / 16 = s[0].toNat % 16) (hk : isTok (s[0].toNat % 16 : Nat)) (hl : 2 < s.size - 1) (hm : s.size ≤ maxLen) (w : World) : Calls Tryd.prog 21 #[.string s] w fun e w' => e = rdV (zero, 4) ∧ Below w.heap.size w w' := by
  unfold maxLen at hm
  have ha := PktR.and15 s[0]
  have hx := PktR.hi s[0]
  have ht := PktR.nn h1
  obtain ⟨hne, hne2⟩ := PktR.ne0 (s := s) (by omega)
  have hK : s[0].toNat % 16 ≤ 15 := by omega
  have hB := s[0].toNat_lt
  have hkn := knownB_t (Or.inl hk)
  have hkt := tokB_t hk
  have hkd := dataB_f (fun x => (dat_not x).1 hk)
  have hk5 := PktW.bne (tok_not hk)
  clear h1 hk
  generalize 15 - s[0].toNat / 16 = J at *
  generalize s[0].toNat % 16 = K at *
  go_enter Tryd.func21, Tryd.ntmps21
  go_wp2_with (first | (go_at_call 34; refine (known_calls _ _).mono ?_; rintro e w' ⟨rfl, rfl⟩) | (go_at_call 35; refine (token_calls _ _).mono ?_; rintro e w' ⟨rfl, rfl⟩) | (go_at_call 36; refine (data_calls _ _).mono ?_; rintro e w' ⟨rfl, rfl⟩))
  refine bodyPost_ret (v := .tuple #[pkV zero, .int .i64 4]) (by simp [results, Tryd.results21, go_sem]; rfl) rfl ⟨rfl, Kt.balloc (Kt.balloc (Below.refl _ w) _) _⟩
set_option maxHeartbeats 800000 in
theorem read_short_sof (s : ByteArray) (h0 : 0 < s.size) (h1 : 15 - s[0].toNat / 16 = s[0].toNat % 16) (hk : ((s[0].toNat % 16 : Nat) : Int) = 5) (hl : s.size - 1 < 2) (w : World) : Calls Tryd.prog 21 #[.string s] w fun e w' => e = rdV (zero, 3) ∧ Below w.heap.size w w' := by
  have ha := PktR.and15 s[0]
  have hx := PktR.hi s[0]
  have ht := PktR.nn h1
  obtain ⟨hne, hne2⟩ := PktR.ne0 (s := s) (by omega)
  have hK : s[0].toNat % 16 ≤ 15 := by omega
  have hB := s[0].toNat_lt
  have hkn := knownB_t (Or.inr (Or.inr (Or.inl hk)))
  have hkt := tokB_f (k := ((s[0].toNat % 16 : Nat) : Int)) (by rw [hk]; decide)
  have hkd := dataB_f (k := ((s[0].toNat % 16 : Nat) : Int)) (by rw [hk]; decide)
  have hk5 := PktW.beq hk
  clear h1 hk
  generalize 15 - s[0].toNat / 16 = J at *
  generalize s[0].toNat % 16 = K at *
  go_enter Tryd.func21, Tryd.ntmps21
  go_wp2_with (first | (go_at_call 34; refine (known_calls _ _).mono ?_; rintro e w' ⟨rfl, rfl⟩) | (go_at_call 35; refine (token_calls _ _).mono ?_; rintro e w' ⟨rfl, rfl⟩) | (go_at_call 36; refine (data_calls _ _).mono ?_; rintro e w' ⟨rfl, rfl⟩))
  refine bodyPost_ret (v := .tuple #[pkV zero, .int .i64 3]) (by simp [results, Tryd.results21, go_sem]; rfl) rfl ⟨rfl, Kt.balloc (Kt.balloc (Below.refl _ w) _) _⟩
set_option maxHeartbeats 800000 in
theorem read_long_sof (s : ByteArray) (h0 : 0 < s.size) (h1 : 15 - s[0].toNat / 16 = s[0].toNat % 16) (hk : ((s[0].toNat % 16 : Nat) : Int) = 5) (hl : 2 < s.size - 1) (hm : s.size ≤ maxLen) (w : World) : Calls Tryd.prog 21 #[.string s] w fun e w' => e = rdV (zero, 4) ∧ Below w.heap.size w w' := by
  unfold maxLen at hm
  have ha := PktR.and15 s[0]
  have hx := PktR.hi s[0]
  have ht := PktR.nn h1
  obtain ⟨hne, hne2⟩ := PktR.ne0 (s := s) (by omega)
  have hK : s[0].toNat % 16 ≤ 15 := by omega
  have hB := s[0].toNat_lt
  have hkn := knownB_t (Or.inr (Or.inr (Or.inl hk)))
  have hkt := tokB_f (k := ((s[0].toNat % 16 : Nat) : Int)) (by rw [hk]; decide)
  have hkd := dataB_f (k := ((s[0].toNat % 16 : Nat) : Int)) (by rw [hk]; decide)
  have hk5 := PktW.beq hk
  clear h1 hk
  generalize 15 - s[0].toNat / 16 = J at *
  generalize s[0].toNat % 16 = K at *
  go_enter Tryd.func21, Tryd.ntmps21
  go_wp2_with (first | (go_at_call 34; refine (known_calls _ _).mono ?_; rintro e w' ⟨rfl, rfl⟩) | (go_at_call 35; refine (token_calls _ _).mono ?_; rintro e w' ⟨rfl, rfl⟩) | (go_at_call 36; refine (data_calls _ _).mono ?_; rintro e w' ⟨rfl, rfl⟩))
  refine bodyPost_ret (v := .tuple #[pkV zero, .int .i64 4]) (by simp [results, Tryd.results21, go_sem]; rfl) rfl ⟨rfl, Kt.balloc (Kt.balloc (Below.refl _ w) _) _⟩
set_option maxHeartbeats 800000 in
theorem read_short_dat (s : ByteArray) (h0 : 0 < s.size) (h1 : 15 - s[0].toNat / 16 = s[0].toNat % 16) (hk : isData (s[0].toNat % 16 : Nat)) (hl : s.size - 1 < 2) (w : World) : Calls Tryd.prog 21 #[.string s] w fun e w' => e = rdV (zero, 3) ∧ Below w.heap.size w w' := by
  have ha := PktR.and15 s[0]
  have hx := PktR.hi s[0]
  have ht := PktR.nn h1
  obtain ⟨hne, hne2⟩ := PktR.ne0 (s := s) (by omega)
  have hK : s[0].toNat % 16 ≤ 15 := by omega
  have hB := s[0].toNat_lt
  have hkn := knownB_t (Or.inr (Or.inl hk))
  have hkt := tokB_f (dat_not hk).1
  have hkd := dataB_t hk
  have hk5 := PktW.bne (dat_not hk).2.1
  clear h1 hk
  generalize 15 - s[0].toNat / 16 = J at *
  generalize s[0].toNat % 16 = K at *
  go_enter Tryd.func21, Tryd.ntmps21
  go_wp2_with (first | (go_at_call 34; refine (known_calls _ _).mono ?_; rintro e w' ⟨rfl, rfl⟩) | (go_at_call 35; refine (token_calls _ _).mono ?_; rintro e w' ⟨rfl, rfl⟩) | (go_at_call 36; refine (data_calls _ _).mono ?_; rintro e w' ⟨rfl, rfl⟩))
  refine bodyPost_ret (v := .tuple #[pkV zero, .int .i64 3]) (by simp [results, Tryd.results21, go_sem]; rfl) rfl ⟨rfl, Kt.balloc (Kt.balloc (Below.refl _ w) _) _⟩
set_option maxHeartbeats 800000 in
theorem read_long_dat (s : ByteArray) (h0 : 0 < s.size) (h1 : 15 - s[0].toNat / 16 = s[0].toNat % 16) (hk : isData (s[0].toNat % 16 : Nat)) (hl : 66 < s.size - 1) (hm : s.size ≤ maxLen) (w : World) : Calls Tryd.prog 21 #[.string s] w fun e w' => e = rdV (zero, 4) ∧ Below w.heap.size w w' := by
  unfold maxLen at hm
  have ha := PktR.and15 s[0]
  have hx := PktR.hi s[0]
  have ht := PktR.nn h1
  obtain ⟨hne, hne2⟩ := PktR.ne0 (s := s) (by omega)
  have hK : s[0].toNat % 16 ≤ 15 := by omega
  have hB := s[0].toNat_lt
  have hkn := knownB_t (Or.inr (Or.inl hk))
  have hkt := tokB_f (dat_not hk).1
  have hkd := dataB_t hk
  have hk5 := PktW.bne (dat_not hk).2.1
  clear h1 hk
  generalize 15 - s[0].toNat / 16 = J at *
  generalize s[0].toNat % 16 = K at *
  go_enter Tryd.func21, Tryd.ntmps21
  go_wp2_with (first | (go_at_call 34; refine (known_calls _ _).mono ?_; rintro e w' ⟨rfl, rfl⟩) | (go_at_call 35; refine (token_calls _ _).mono ?_; rintro e w' ⟨rfl, rfl⟩) | (go_at_call 36; refine (data_calls _ _).mono ?_; rintro e w' ⟨rfl, rfl⟩))
  refine bodyPost_ret (v := .tuple #[pkV zero, .int .i64 4]) (by simp [results, Tryd.results21, go_sem]; rfl) rfl ⟨rfl, Kt.balloc (Kt.balloc (Below.refl _ w) _) _⟩
set_option maxHeartbeats 800000 in
theorem read_long_hs (s : ByteArray) (h0 : 0 < s.size) (h1 : 15 - s[0].toNat / 16 = s[0].toNat % 16) (hk : isHs (s[0].toNat % 16 : Nat)) (hl : 0 < s.size - 1) (hm : s.size ≤ maxLen) (w : World) : Calls Tryd.prog 21 #[.string s] w fun e w' => e = rdV (zero, 4) ∧ Below w.heap.size w w' := by
  unfold maxLen at hm
  have ha := PktR.and15 s[0]
  have hx := PktR.hi s[0]
  have ht := PktR.nn h1
  obtain ⟨hne, hne2⟩ := PktR.ne0 (s := s) (by omega)
  have hK : s[0].toNat % 16 ≤ 15 := by omega
  have hB := s[0].toNat_lt
  have hkn := knownB_t (Or.inr (Or.inr (Or.inr hk)))
  have hkt := tokB_f (hs_not hk).1
  have hkd := dataB_f (hs_not hk).2.2
  have hk5 := PktW.bne (hs_not hk).2.1
  clear h1 hk
  generalize 15 - s[0].toNat / 16 = J at *
  generalize s[0].toNat % 16 = K at *
  go_enter Tryd.func21, Tryd.ntmps21
  go_wp2_with (first | (go_at_call 34; refine (known_calls _ _).mono ?_; rintro e w' ⟨rfl, rfl⟩) | (go_at_call 35; refine (token_calls _ _).mono ?_; rintro e w' ⟨rfl, rfl⟩) | (go_at_call 36; refine (data_calls _ _).mono ?_; rintro e w' ⟨rfl, rfl⟩))
  refine bodyPost_ret (v := .tuple #[pkV zero, .int .i64 4]) (by simp [results, Tryd.results21, go_sem]; rfl) rfl ⟨rfl, Kt.balloc (Kt.balloc (Below.refl _ w) _) _⟩
end Go.Proofs.YtmnmlnnhngnfbaaDoor
