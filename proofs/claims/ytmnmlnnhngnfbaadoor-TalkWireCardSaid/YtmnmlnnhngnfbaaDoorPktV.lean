/- The walks of package packet: what is written. -/
import Derived.Test.YtmnmlnnhngnfbaaDoorPktW
import Derived.Deep.RegionHeld3
import Derived.Laws.Pointers
namespace Go.Proofs.YtmnmlnnhngnfbaaDoor
open Go.RowKit Go.Proofs.YtmnmlnnhngnfbaaDoor.CrcP Go.Proofs.YtmnmlnnhngnfbaaDoor.PktP
theorem PktW.word_str (n : Nat) (h : n < 65536) (w : World) : Calls Tryd.prog 43 #[.int .u16 n] w fun e w' => e = .returned (.string ⟨(word n).toArray⟩) ∧ Below w.heap.size w w' := by
  have hc := Kt.conv_back (P := Tryd.prog) (w.alloc (.cells #[.int .u8 ((n : Int) % 256), .int .u8 ((n : Int) / 256)] 5)) 49 9 5 w.heap.size 0 2 2 (word n) rfl Tryd.underlying49 Tryd.underlying5 Tryd.underlying9 (by
    intro j hj
    match j, hj with
    | 0, _ => simp [word]
    | 1, _ => simp [word]; omega)
  go_enter Tryd.func43, Tryd.ntmps43
  go_wp2
  go_ret
  exact ⟨rfl, (Below.refl _ _).alloc (Nat.le_refl _) _⟩
theorem PktW.word_ws (n : Nat) (ws : ByteArray) (hw : ws = ⟨(word n).toArray⟩) (h : n < 65536) (w : World) : Calls Tryd.prog 43 #[.int .u16 n] w fun e w' => e = .returned (.string ws) ∧ Below w.heap.size w w' := by
  rw [hw]; exact PktW.word_str n h w
theorem PktW.orWord (n f : Nat) (hm : n < 2048) (hf : f < 32) : Go.bits BinOp.or IntKind.u16 (n : Int) ((f : Int) * 2048) = ((n + f * 2048 : Nat) : Int) := by
  have e : (f : Int) * 2048 = ((f * 2048 : Nat) : Int) := by omega
  rw [e, u16_or_nat n (f * 2048) (by omega) (by omega), Nat.or_comm, nat_join 11 (f * 2048) n (by omega) (by omega), Nat.add_comm]
theorem PktW.sealed_str (x : Int) (n : Nat) (hx : x = (n : Int)) (h : n < 2048) (w : World) : Calls Tryd.prog 42 #[.int .u16 x] w fun e w' => e = .returned (.string ⟨(sealed' n).toArray⟩) ∧ Below w.heap.size w w' := by
  subst hx
  have h5 := five_lt n
  have hw := PktW.orWord n (five n) h h5
  have hlt := seal_lt h
  have HE := Lib.hid (show sealed' n = word (n + five n * 2048) from rfl)
  generalize n + five n * 2048 = W at *
  go_enter Tryd.func42, Tryd.ntmps42
  go_wp2_with fail
  refine (five_calls _ n rfl (by omega) _).mono ?_; rintro e w' ⟨rfl, rfl⟩
  go_wp2_with fail
  refine (PktW.word_str W hlt _).mono ?_; rintro e w1 ⟨rfl, hb1⟩
  go_wp2
  go_ret
  exact ⟨by rw [HE.out]; rfl, hb1⟩

theorem check_good (k a e f : Int) (d : ByteArray) (h : Okp ⟨k, a, e, f, d.data.toList⟩) (w : World) : Calls Tryd.prog 41 #[.agg #[.int .i64 k, .int .i64 a, .int .i64 e, .int .i64 f, .string d]] w fun en w' => en = .returned (.int .i64 0) ∧ Below w.heap.size w w' :=
  (check_calls k a e f d w).mono fun _ _ h2 => by rw [chk_0 h] at h2; exact h2
theorem write_bad (k a e f : Int) (d : ByteArray) (h : ¬ Okp ⟨k, a, e, f, d.data.toList⟩) (w : World) : Calls Tryd.prog 27 #[.agg #[.int .i64 k, .int .i64 a, .int .i64 e, .int .i64 f, .string d]] w fun en w' => en = .returned (.tuple #[.string ByteArray.empty, .int .i64 (chk ⟨k, a, e, f, d.data.toList⟩)]) ∧ Below w.heap.size w w' := by
  have h0 : (chk ⟨k, a, e, f, d.data.toList⟩ != 0) = true := by
    rw [bne_iff_ne]; unfold chk; rw [if_neg h]; split <;> decide
  go_enter Tryd.func27, Tryd.ntmps27
  go_wp2_with fail
  refine (check_calls _ _ _ _ _ _).mono ?_; rintro e w1 ⟨rfl, hb1⟩
  go_wp2
  go_ret2
  exact ⟨rfl, ((Below.refl _ w).alloc (Nat.le_refl _) _).trans (hb1.mono (by simp))⟩
theorem PktW.or7 (a e : Nat) (ha : a ≤ 127) (he : e ≤ 15) : IntKind.u16.wrap (Go.bits BinOp.or IntKind.i64 (a : Int) ((e : Int) * 128)) = ((a + e * 128 : Nat) : Int) := by
  have h : (e : Int) * 128 = ((e * 128 : Nat) : Int) := by omega
  rw [h, Kt.i64_or_nat a (e * 128) (by omega) (by omega), Nat.or_comm, nat_join 7 (e * 128) a (by omega) (by omega), IntWalk.u16_in _ (by omega), Nat.add_comm]
theorem PktW.txt (x : UInt8) (k : Nat) (r : List UInt8) (hx : x = head k) : (⟨#[x]⟩ : ByteArray) ++ ⟨r.toArray⟩ = ⟨(head k :: r).toArray⟩ := by
  subst hx
  apply Kt.bytes_eq; simp
theorem PktW.one (x : UInt8) (k : Nat) (hx : x = head k) : (⟨#[x]⟩ : ByteArray) = ⟨[head k].toArray⟩ := by rw [hx]
theorem text_tok (k : Nat) (a e : Nat) (h : isTok k) : text ⟨k, a, e, 0, []⟩ = head k :: sealed' (a + e * 128) := by
  unfold text rest; simp only [Int.toNat_natCast]; rw [if_pos h]
theorem text_sof (f : Nat) : text ⟨5, 0, 0, f, []⟩ = head 5 :: sealed' f := by
  unfold text rest; simp only [Int.toNat_natCast]; simp [show ¬ isTok (5 : Int) by decide]
theorem text_dat (k : Nat) (d : List UInt8) (h : isData k) : text ⟨k, 0, 0, 0, d⟩ = head k :: (d ++ word (six d)) := by
  unfold text rest; simp only [Int.toNat_natCast]; rw [if_neg (dat_not h).1, if_neg (dat_not h).2.1, if_pos h]
theorem text_hs (k : Nat) (h : isHs k) : text ⟨k, 0, 0, 0, []⟩ = [head k] := by
  unfold text rest; simp only [Int.toNat_natCast]; rw [if_neg (hs_not h).1, if_neg (hs_not h).2.1, if_neg (hs_not h).2.2]
set_option maxHeartbeats 1600000 in
theorem write_tok (k a e : Nat) (h : k = 1 ∨ k = 9 ∨ k = 13) (ha : a ≤ 127) (he : e ≤ 15) (w : World) : Calls Tryd.prog 27 #[.agg #[.int .i64 k, .int .i64 a, .int .i64 e, .int .i64 0, .string ByteArray.empty]] w fun en w' => en = .returned (.tuple #[.string ⟨(text ⟨k, a, e, 0, []⟩).toArray⟩, .int .i64 0]) ∧ Below w.heap.size w w' := by
  have hcv := Kt.cv1 (P := Tryd.prog) 49 9 5 Tryd.underlying49 Tryd.underlying5 Tryd.underlying9
  have hit : isTok (k : Int) := by unfold isTok; omega
  have ht := tokB_t hit
  have hor := Lib.hid (PktW.or7 a e ha he)
  have hsz : (⟨(sealed' (a + e * 128)).toArray⟩ : ByteArray).size ≤ 2 := Nat.le_refl 2
  have HT := Lib.hid (text_tok k a e hit)
  have HG := Lib.hid (show Okp ⟨k, a, e, 0, []⟩ from Or.inl ⟨hit, by simp only; omega, by simp only; omega, by simp only; omega, by simp only; omega, rfl, rfl⟩)
  have hn : a + e * 128 < 2048 := by omega
  clear hit
  rcases h with rfl | rfl | rfl
  all_goals
    go_enter Tryd.func27, Tryd.ntmps27
    go_wp2_with fail
    refine (check_good _ _ _ _ _ HG.out _).mono ?_; rintro en w1 ⟨rfl, hb1⟩
    obtain ⟨hc, hf⟩ := Kt.bcell hb1
    have hz : w.heap.size < w1.heap.size := by have := hb1.size; simp at this; omega
    go_wp2_with (go_at_call 35; refine (token_calls _ _).mono ?_; rintro e w' ⟨rfl, rfl⟩)
    refine (PktW.sealed_str _ (a + e * 128) hor.out hn _).mono ?_; rintro en w2 ⟨rfl, hb2⟩
    go_wp2
    go_ret2
    refine ⟨Kt.ret2s ?_ rfl, Kt.bthen (Kt.balloc (Kt.bthen (Kt.balloc (Below.refl _ w) _) hb1) _) hb2⟩
    rw [HT.out]
    exact PktW.txt _ _ _ (by decide +kernel)
set_option maxHeartbeats 1600000 in
theorem write_sof (f : Nat) (hf' : f ≤ 2047) (w : World) : Calls Tryd.prog 27 #[.agg #[.int .i64 5, .int .i64 0, .int .i64 0, .int .i64 f, .string ByteArray.empty]] w fun en w' => en = .returned (.tuple #[.string ⟨(text ⟨5, 0, 0, f, []⟩).toArray⟩, .int .i64 0]) ∧ Below w.heap.size w w' := by
  have hcv := Kt.cv1 (P := Tryd.prog) 49 9 5 Tryd.underlying49 Tryd.underlying5 Tryd.underlying9
  have ht : tokB 5 = false := by decide
  have hor := Lib.hid (IntWalk.u16_in (f : Int) (by omega))
  have hsz : (⟨(sealed' f).toArray⟩ : ByteArray).size ≤ 2 := Nat.le_refl 2
  have HT := Lib.hid (text_sof f)
  have HG := Lib.hid (show Okp ⟨5, 0, 0, f, []⟩ from Or.inr (Or.inl ⟨rfl, rfl, rfl, by simp only; omega, by simp only; omega, rfl⟩))
  go_enter Tryd.func27, Tryd.ntmps27
  go_wp2_with fail
  refine (check_good _ _ _ _ _ HG.out _).mono ?_; rintro en w1 ⟨rfl, hb1⟩
  obtain ⟨hc, hf⟩ := Kt.bcell hb1
  have hz : w.heap.size < w1.heap.size := by have := hb1.size; simp at this; omega
  go_wp2_with (go_at_call 35; refine (token_calls _ _).mono ?_; rintro e w' ⟨rfl, rfl⟩)
  refine (PktW.sealed_str _ f (by first | rfl | exact hor.out) (by omega) _).mono ?_; rintro en w2 ⟨rfl, hb2⟩
  go_wp2
  go_ret2
  refine ⟨Kt.ret2s ?_ rfl, Kt.bthen (Kt.balloc (Kt.bthen (Kt.balloc (Below.refl _ w) _) hb1) _) hb2⟩
  rw [HT.out]
  exact PktW.txt _ _ _ (by decide +kernel)
set_option maxHeartbeats 1600000 in
theorem write_hs (k : Nat) (h : k = 2 ∨ k = 10 ∨ k = 14) (w : World) : Calls Tryd.prog 27 #[.agg #[.int .i64 k, .int .i64 0, .int .i64 0, .int .i64 0, .string ByteArray.empty]] w fun en w' => en = .returned (.tuple #[.string ⟨(text ⟨k, 0, 0, 0, []⟩).toArray⟩, .int .i64 0]) ∧ Below w.heap.size w w' := by
  have hcv := Kt.cv1 (P := Tryd.prog) 49 9 5 Tryd.underlying49 Tryd.underlying5 Tryd.underlying9
  have hih : isHs (k : Int) := by unfold isHs; omega
  have ht := tokB_f (hs_not hih).1
  have hd := dataB_f (hs_not hih).2.2
  have HT := Lib.hid (text_hs k hih)
  have HG := Lib.hid (show Okp ⟨k, 0, 0, 0, []⟩ from Or.inr (Or.inr (Or.inr ⟨hih, rfl, rfl, rfl, rfl⟩)))
  clear hih
  rcases h with rfl | rfl | rfl
  all_goals
    go_enter Tryd.func27, Tryd.ntmps27
    go_wp2_with fail
    refine (check_good _ _ _ _ _ HG.out _).mono ?_; rintro en w1 ⟨rfl, hb1⟩
    obtain ⟨hc, hf⟩ := Kt.bcell hb1
    have hz : w.heap.size < w1.heap.size := by have := hb1.size; simp at this; omega
    go_wp2_with (first | (go_at_call 35; refine (token_calls _ _).mono ?_; rintro e w' ⟨rfl, rfl⟩) | (go_at_call 36; refine (data_calls _ _).mono ?_; rintro e w' ⟨rfl, rfl⟩))
    go_ret2
    refine ⟨Kt.ret2s ?_ rfl, Kt.balloc (Kt.bthen (Kt.balloc (Below.refl _ w) _) hb1) _⟩
    rw [HT.out]
    exact PktW.one _ _ (by decide +kernel)
set_option maxHeartbeats 1600000 in
theorem write_dat3 (d : ByteArray) (hl : d.data.toList.length ≤ 64) (w : World) : Calls Tryd.prog 27 #[.agg #[.int .i64 3, .int .i64 0, .int .i64 0, .int .i64 0, .string d]] w fun en w' => en = .returned (.tuple #[.string ⟨(text ⟨3, 0, 0, 0, d.data.toList⟩).toArray⟩, .int .i64 0]) ∧ Below w.heap.size w w' := by
  have hcv := Kt.cv1 (P := Tryd.prog) 49 9 5 Tryd.underlying49 Tryd.underlying5 Tryd.underlying9
  have hih : isData (3 : Int) := by decide
  have ht := tokB_f (dat_not hih).1
  have hd := dataB_t hih
  have HT := Lib.hid (text_dat 3 d.data.toList hih)
  have HG := Lib.hid (show Okp ⟨3, 0, 0, 0, d.data.toList⟩ from Or.inr (Or.inr (Or.inl ⟨hih, rfl, rfl, rfl, hl⟩)))
  have hds : d.size ≤ 64 := by simpa using hl
  have hsx := six_lt d.data.toList
  clear hih hl
  go_enter Tryd.func27, Tryd.ntmps27
  go_wp2_with fail
  refine (check_good _ _ _ _ _ HG.out _).mono ?_; rintro en w1 ⟨rfl, hb1⟩
  obtain ⟨hc, hf⟩ := Kt.bcell hb1
  have hz : w.heap.size < w1.heap.size := by have := hb1.size; simp at this; omega
  go_wp2_with (first | (go_at_call 35; refine (token_calls _ _).mono ?_; rintro e w' ⟨rfl, rfl⟩) | (go_at_call 36; refine (data_calls _ _).mono ?_; rintro e w' ⟨rfl, rfl⟩))
  go_wp2_with fail
  have hbA := Kt.balloc (Kt.bthen (Kt.balloc (Below.refl _ w) _) hb1) (.cells #[.int .u8 (Go.bits BinOp.or IntKind.i64 3 (wrap64 (Go.bits BinOp.xor IntKind.i64 3 15 * 16)) % 256)] 5)
  have hcl : (w1.alloc (.cells #[.int .u8 (Go.bits BinOp.or IntKind.i64 3 (wrap64 (Go.bits BinOp.xor IntKind.i64 3 15 * 16)) % 256)] 5)).cell? ⟨w.heap.size, 4, none⟩ = some (.string d) := by
    rw [World.cell?_alloc_lt _ _ _ hz, hc _ _ (by simp)]; simp
  have hzA : w.heap.size < (w1.alloc (.cells #[.int .u8 (Go.bits BinOp.or IntKind.i64 3 (wrap64 (Go.bits BinOp.xor IntKind.i64 3 15 * 16)) % 256)] 5)).heap.size := by rw [World.size_alloc]; omega
  clear hc hf hb1 hz
  generalize (w1.alloc (.cells #[.int .u8 (Go.bits BinOp.or IntKind.i64 3 (wrap64 (Go.bits BinOp.xor IntKind.i64 3 15 * 16)) % 256)] 5)) = W1 at *
  have hhd : (⟨#[UInt8.ofNat (Go.bits BinOp.or IntKind.i64 3 (wrap64 (Go.bits BinOp.xor IntKind.i64 3 15 * 16)) % 256).toNat]⟩ : ByteArray) = ⟨[head 3].toArray⟩ := PktW.one _ _ (by decide +kernel)
  have hhs : (⟨#[UInt8.ofNat (Go.bits BinOp.or IntKind.i64 3 (wrap64 (Go.bits BinOp.xor IntKind.i64 3 15 * 16)) % 256).toNat]⟩ : ByteArray).size ≤ 1 := Nat.le_refl 1
  generalize (⟨#[UInt8.ofNat (Go.bits BinOp.or IntKind.i64 3 (wrap64 (Go.bits BinOp.xor IntKind.i64 3 15 * 16)) % 256).toNat]⟩ : ByteArray) = hs at *
  have HHD := Lib.hid hhd; clear hhd
  have hws : (⟨(word (six d.data.toList)).toArray⟩ : ByteArray).size ≤ 2 := Nat.le_refl 2
  obtain ⟨ws, hwd⟩ : ∃ ws : ByteArray, ws = ⟨(word (six d.data.toList)).toArray⟩ := ⟨_, rfl⟩
  rw [← hwd] at hws
  have HWD := Lib.hid hwd; clear hwd
  have hn1 : ¬ 9223372036854775807 < hs.size + d.size := by omega
  have hn2 : ¬ 9223372036854775807 < hs.size + d.size + ws.size := by omega
  go_region_held3 (fun w' => w'.cell? ⟨w.heap.size, 4, none⟩ = some (.string d))
    (first | assumption | exact (hb3.cell (p := ⟨w.heap.size, 4, none⟩) (by simp; omega)).trans ‹_›)
    (first
      | (go_at_call 37; refine (sixteen_calls d (by unfold maxLen; omega) _).mono ?_; rintro en w' ⟨rfl, rfl⟩)
      | (go_at_call 43; refine (PktW.word_ws _ ws HWD.out hsx _).mono ?_; rintro en w3 ⟨rfl, hb3⟩))
  all_goals
    go_wp2
    go_ret2
    refine ⟨Kt.ret2s ?_ rfl, ?_⟩
    · refine Eq.trans ?_ (congrArg (fun l : List UInt8 => (⟨l.toArray⟩ : ByteArray)) HT.out.symm)
      rw [HHD.out, HWD.out]; apply Kt.bytes_eq; simp
    · exact Kt.bthen hbA.drew hb3
set_option maxHeartbeats 1600000 in
theorem write_dat11 (d : ByteArray) (hl : d.data.toList.length ≤ 64) (w : World) : Calls Tryd.prog 27 #[.agg #[.int .i64 11, .int .i64 0, .int .i64 0, .int .i64 0, .string d]] w fun en w' => en = .returned (.tuple #[.string ⟨(text ⟨11, 0, 0, 0, d.data.toList⟩).toArray⟩, .int .i64 0]) ∧ Below w.heap.size w w' := by
  have hcv := Kt.cv1 (P := Tryd.prog) 49 9 5 Tryd.underlying49 Tryd.underlying5 Tryd.underlying9
  have hih : isData (11 : Int) := by decide
  have ht := tokB_f (dat_not hih).1
  have hd := dataB_t hih
  have HT := Lib.hid (text_dat 11 d.data.toList hih)
  have HG := Lib.hid (show Okp ⟨11, 0, 0, 0, d.data.toList⟩ from Or.inr (Or.inr (Or.inl ⟨hih, rfl, rfl, rfl, hl⟩)))
  have hds : d.size ≤ 64 := by simpa using hl
  have hsx := six_lt d.data.toList
  clear hih hl
  go_enter Tryd.func27, Tryd.ntmps27
  go_wp2_with fail
  refine (check_good _ _ _ _ _ HG.out _).mono ?_; rintro en w1 ⟨rfl, hb1⟩
  obtain ⟨hc, hf⟩ := Kt.bcell hb1
  have hz : w.heap.size < w1.heap.size := by have := hb1.size; simp at this; omega
  go_wp2_with (first | (go_at_call 35; refine (token_calls _ _).mono ?_; rintro e w' ⟨rfl, rfl⟩) | (go_at_call 36; refine (data_calls _ _).mono ?_; rintro e w' ⟨rfl, rfl⟩))
  go_wp2_with fail
  have hbA := Kt.balloc (Kt.bthen (Kt.balloc (Below.refl _ w) _) hb1) (.cells #[.int .u8 (Go.bits BinOp.or IntKind.i64 11 (wrap64 (Go.bits BinOp.xor IntKind.i64 11 15 * 16)) % 256)] 5)
  have hcl : (w1.alloc (.cells #[.int .u8 (Go.bits BinOp.or IntKind.i64 11 (wrap64 (Go.bits BinOp.xor IntKind.i64 11 15 * 16)) % 256)] 5)).cell? ⟨w.heap.size, 4, none⟩ = some (.string d) := by
    rw [World.cell?_alloc_lt _ _ _ hz, hc _ _ (by simp)]; simp
  have hzA : w.heap.size < (w1.alloc (.cells #[.int .u8 (Go.bits BinOp.or IntKind.i64 11 (wrap64 (Go.bits BinOp.xor IntKind.i64 11 15 * 16)) % 256)] 5)).heap.size := by rw [World.size_alloc]; omega
  clear hc hf hb1 hz
  generalize (w1.alloc (.cells #[.int .u8 (Go.bits BinOp.or IntKind.i64 11 (wrap64 (Go.bits BinOp.xor IntKind.i64 11 15 * 16)) % 256)] 5)) = W1 at *
  have hhd : (⟨#[UInt8.ofNat (Go.bits BinOp.or IntKind.i64 11 (wrap64 (Go.bits BinOp.xor IntKind.i64 11 15 * 16)) % 256).toNat]⟩ : ByteArray) = ⟨[head 11].toArray⟩ := PktW.one _ _ (by decide +kernel)
  have hhs : (⟨#[UInt8.ofNat (Go.bits BinOp.or IntKind.i64 11 (wrap64 (Go.bits BinOp.xor IntKind.i64 11 15 * 16)) % 256).toNat]⟩ : ByteArray).size ≤ 1 := Nat.le_refl 1
  generalize (⟨#[UInt8.ofNat (Go.bits BinOp.or IntKind.i64 11 (wrap64 (Go.bits BinOp.xor IntKind.i64 11 15 * 16)) % 256).toNat]⟩ : ByteArray) = hs at *
  have HHD := Lib.hid hhd; clear hhd
  have hws : (⟨(word (six d.data.toList)).toArray⟩ : ByteArray).size ≤ 2 := Nat.le_refl 2
  obtain ⟨ws, hwd⟩ : ∃ ws : ByteArray, ws = ⟨(word (six d.data.toList)).toArray⟩ := ⟨_, rfl⟩
  rw [← hwd] at hws
  have HWD := Lib.hid hwd; clear hwd
  have hn1 : ¬ 9223372036854775807 < hs.size + d.size := by omega
  have hn2 : ¬ 9223372036854775807 < hs.size + d.size + ws.size := by omega
  go_region_held3 (fun w' => w'.cell? ⟨w.heap.size, 4, none⟩ = some (.string d))
    (first | assumption | exact (hb3.cell (p := ⟨w.heap.size, 4, none⟩) (by simp; omega)).trans ‹_›)
    (first
      | (go_at_call 37; refine (sixteen_calls d (by unfold maxLen; omega) _).mono ?_; rintro en w' ⟨rfl, rfl⟩)
      | (go_at_call 43; refine (PktW.word_ws _ ws HWD.out hsx _).mono ?_; rintro en w3 ⟨rfl, hb3⟩))
  all_goals
    go_wp2
    go_ret2
    refine ⟨Kt.ret2s ?_ rfl, ?_⟩
    · refine Eq.trans ?_ (congrArg (fun l : List UInt8 => (⟨l.toArray⟩ : ByteArray)) HT.out.symm)
      rw [HHD.out, HWD.out]; apply Kt.bytes_eq; simp
    · exact Kt.bthen hbA.drew hb3
theorem write_good (k a e f : Int) (d : ByteArray) (h : Okp ⟨k, a, e, f, d.data.toList⟩) (w : World) : Calls Tryd.prog 27 #[.agg #[.int .i64 k, .int .i64 a, .int .i64 e, .int .i64 f, .string d]] w fun en w' => en = .returned (.tuple #[.string ⟨(text ⟨k, a, e, f, d.data.toList⟩).toArray⟩, .int .i64 0]) ∧ Below w.heap.size w w' := by
  have hd0 : d.data.toList = [] → d = ByteArray.empty := fun x => Kt.bytes_eq (by rw [x]; rfl)
  rcases h with ⟨h, ha, ha', he, he', hf, hd⟩ | ⟨h, ha, he, hf, hf', hd⟩ | ⟨h, ha, he, hf, hd⟩ | ⟨h, ha, he, hf, hd⟩ <;> simp only at *
  · obtain rfl := hd0 hd
    obtain ⟨a, rfl⟩ := Int.eq_ofNat_of_zero_le ha
    obtain ⟨e, rfl⟩ := Int.eq_ofNat_of_zero_le he
    obtain ⟨k, rfl⟩ := Int.eq_ofNat_of_zero_le (show 0 ≤ k by unfold isTok at h; omega)
    subst hf
    exact write_tok k a e (by unfold isTok at h; omega) (by omega) (by omega) w
  · obtain rfl := hd0 hd
    obtain ⟨f, rfl⟩ := Int.eq_ofNat_of_zero_le hf
    subst ha he h
    exact write_sof f (by omega) w
  · subst ha he hf
    rcases h with rfl | rfl
    · exact write_dat3 d hd w
    · exact write_dat11 d hd w
  · obtain rfl := hd0 hd
    obtain ⟨k, rfl⟩ := Int.eq_ofNat_of_zero_le (show 0 ≤ k by unfold isHs at h; omega)
    subst ha he hf
    exact write_hs k (by unfold isHs at h; omega) w
end Go.Proofs.YtmnmlnnhngnfbaaDoor
