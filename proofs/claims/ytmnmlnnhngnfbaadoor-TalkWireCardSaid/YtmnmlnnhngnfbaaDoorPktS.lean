/- The walks of package packet: what is read, sums. -/
import Derived.Test.YtmnmlnnhngnfbaaDoorPktR
namespace Go.Proofs.YtmnmlnnhngnfbaaDoor
open Go.RowKit Go.Proofs.YtmnmlnnhngnfbaaDoor.CrcP Go.Proofs.YtmnmlnnhngnfbaaDoor.PktP
set_option maxRecDepth 100000 in
set_option maxHeartbeats 1600000 in
theorem read_tok_bad (s : ByteArray) (h0 : s.size = 3) (h1 : 15 - s[0].toNat / 16 = s[0].toNat % 16) (hk : isTok (s[0].toNat % 16 : Nat)) (hs : num3 s h0 / 2048 ≠ five (num3 s h0 % 2048)) (w : World) : Calls Tryd.prog 21 #[.string s] w fun e w' => e = rdV (zero, 5) ∧ Below w.heap.size w w' := by
  have ha := PktR.and15 s[0]
  have hx := PktR.hi s[0]
  have ht := PktR.nn h1
  obtain ⟨hne, hne2⟩ := PktR.ne0 (s := s) (by omega)
  have hK : s[0].toNat % 16 ≤ 15 := by omega
  have hB := s[0].toNat_lt
  have hkn := knownB_t (Or.inl hk)
  have hkt := tokB_t hk
  have hkd := dataB_f (fun x => (dat_not x).1 hk)
  have hk5 := PktW.bne (tok_not hk)
  have hor := PktR.hor h0
  have hnl : num3 s h0 < 65536 := num_lt _
  clear h1 hk
  generalize 15 - s[0].toNat / 16 = J at *
  generalize s[0].toNat % 16 = K at *
  generalize num3 s h0 = n at *
  have h11 := PktR.and11 n hnl
  have h7 := PktR.and7 n hnl
  have h4 := PktR.and4 n hnl
  have hbad2 : ((n : Int) / 2048 != ((five (n % 2048) : Nat) : Int)) = true := by rw [bne_iff_ne]; omega
  have h5 := five_lt (n % 2048)
  clear hs
  go_enter Tryd.func21, Tryd.ntmps21
  go_wp2_with (first | (go_at_call 34; refine (known_calls _ _).mono ?_; rintro e w' ⟨rfl, rfl⟩) | (go_at_call 35; refine (token_calls _ _).mono ?_; rintro e w' ⟨rfl, rfl⟩) | (go_at_call 36; refine (data_calls _ _).mono ?_; rintro e w' ⟨rfl, rfl⟩))
  refine wp_region_still_lit (by kernel_rfl) (by kernel_rfl) ?_
  change wpStill _ _ ((w.alloc _).alloc _).drew _ _ _
  have hw1 : IntKind.i64.wrap 1 = 1 := by decide
  iterate 12 still_step
  refine wpStill_nil ?_
  clear hw1
  change Exit.then _ _ _ _ ((w.alloc _).alloc _).drew
  go_wp2_with (first | (go_at_call 36; refine (data_calls _ _).mono ?_; rintro e w' ⟨rfl, rfl⟩) | (go_at_call 38; refine (five_calls _ (n % 2048) (by simp) (by omega) _).mono ?_; rintro e w' ⟨rfl, rfl⟩))
  refine bodyPost_ret (v := .tuple #[pkV zero, .int .i64 5]) (by simp [results, Tryd.results21, go_sem]; rfl) rfl ⟨rfl, (Kt.balloc (Kt.balloc (Below.refl _ w) _) _).drew⟩
set_option maxRecDepth 100000 in
set_option maxHeartbeats 1600000 in
theorem read_tok_good (s : ByteArray) (h0 : s.size = 3) (h1 : 15 - s[0].toNat / 16 = s[0].toNat % 16) (hk : isTok (s[0].toNat % 16 : Nat)) (hs : num3 s h0 / 2048 = five (num3 s h0 % 2048)) (w : World) : Calls Tryd.prog 21 #[.string s] w fun e w' => e = rdV (⟨(s[0].toNat % 16 : Nat), (num3 s h0 % 128 : Nat), (num3 s h0 / 128 % 16 : Nat), 0, []⟩, 0) ∧ Below w.heap.size w w' := by
  have ha := PktR.and15 s[0]
  have hx := PktR.hi s[0]
  have ht := PktR.nn h1
  obtain ⟨hne, hne2⟩ := PktR.ne0 (s := s) (by omega)
  have hK : s[0].toNat % 16 ≤ 15 := by omega
  have hB := s[0].toNat_lt
  have hkn := knownB_t (Or.inl hk)
  have hkt := tokB_t hk
  have hkd := dataB_f (fun x => (dat_not x).1 hk)
  have hk5 := PktW.bne (tok_not hk)
  have hor := PktR.hor h0
  have hnl : num3 s h0 < 65536 := num_lt _
  clear h1 hk
  generalize 15 - s[0].toNat / 16 = J at *
  generalize s[0].toNat % 16 = K at *
  generalize num3 s h0 = n at *
  have h11 := PktR.and11 n hnl
  have h7 := PktR.and7 n hnl
  have h4 := PktR.and4 n hnl
  have hbad2 : ((n : Int) / 2048 != ((five (n % 2048) : Nat) : Int)) = false := by rw [bne_eq_false_iff_eq]; omega
  have h5 := five_lt (n % 2048)
  clear hs
  go_enter Tryd.func21, Tryd.ntmps21
  go_wp2_with (first | (go_at_call 34; refine (known_calls _ _).mono ?_; rintro e w' ⟨rfl, rfl⟩) | (go_at_call 35; refine (token_calls _ _).mono ?_; rintro e w' ⟨rfl, rfl⟩) | (go_at_call 36; refine (data_calls _ _).mono ?_; rintro e w' ⟨rfl, rfl⟩))
  refine wp_region_still_lit (by kernel_rfl) (by kernel_rfl) ?_
  change wpStill _ _ ((w.alloc _).alloc _).drew _ _ _
  have hw1 : IntKind.i64.wrap 1 = 1 := by decide
  iterate 12 still_step
  refine wpStill_nil ?_
  clear hw1
  change Exit.then _ _ _ _ ((w.alloc _).alloc _).drew
  go_wp2_with (first | (go_at_call 36; refine (data_calls _ _).mono ?_; rintro e w' ⟨rfl, rfl⟩) | (go_at_call 38; refine (five_calls _ (n % 2048) (by simp) (by omega) _).mono ?_; rintro e w' ⟨rfl, rfl⟩))
  refine bodyPost_ret (v := .tuple #[pkV ⟨K, (n % 128 : Nat), (n / 128 % 16 : Nat), 0, []⟩, .int .i64 0]) (by simp [pkV, results, Tryd.results21, go_sem]) rfl ⟨rfl, (Kt.balloc (Kt.balloc (Below.refl _ w) _) _).drew⟩
set_option maxRecDepth 100000 in
set_option maxHeartbeats 1600000 in
theorem read_sof_bad (s : ByteArray) (h0 : s.size = 3) (h1 : 15 - s[0].toNat / 16 = s[0].toNat % 16) (hk : ((s[0].toNat % 16 : Nat) : Int) = 5) (hs : num3 s h0 / 2048 ≠ five (num3 s h0 % 2048)) (w : World) : Calls Tryd.prog 21 #[.string s] w fun e w' => e = rdV (zero, 5) ∧ Below w.heap.size w w' := by
  have ha := PktR.and15 s[0]
  have hx := PktR.hi s[0]
  have ht := PktR.nn h1
  obtain ⟨hne, hne2⟩ := PktR.ne0 (s := s) (by omega)
  have hK : s[0].toNat % 16 ≤ 15 := by omega
  have hB := s[0].toNat_lt
  have hkn := knownB_t (Or.inr (Or.inr (Or.inl hk)))
  have hkt := tokB_f (k := ((s[0].toNat % 16 : Nat) : Int)) (by rw [hk]; decide)
  have hkd := dataB_f (k := ((s[0].toNat % 16 : Nat) : Int)) (by rw [hk]; decide)
  have hk5 := PktW.beq hk
  have hor := PktR.hor h0
  have hnl : num3 s h0 < 65536 := num_lt _
  clear h1 hk
  generalize 15 - s[0].toNat / 16 = J at *
  generalize s[0].toNat % 16 = K at *
  generalize num3 s h0 = n at *
  have h11 := PktR.and11 n hnl
  have h7 := PktR.and7 n hnl
  have h4 := PktR.and4 n hnl
  have hbad2 : ((n : Int) / 2048 != ((five (n % 2048) : Nat) : Int)) = true := by rw [bne_iff_ne]; omega
  have h5 := five_lt (n % 2048)
  clear hs
  go_enter Tryd.func21, Tryd.ntmps21
  go_wp2_with (first | (go_at_call 34; refine (known_calls _ _).mono ?_; rintro e w' ⟨rfl, rfl⟩) | (go_at_call 35; refine (token_calls _ _).mono ?_; rintro e w' ⟨rfl, rfl⟩) | (go_at_call 36; refine (data_calls _ _).mono ?_; rintro e w' ⟨rfl, rfl⟩))
  refine wp_region_still_lit (by kernel_rfl) (by kernel_rfl) ?_
  change wpStill _ _ ((w.alloc _).alloc _).drew _ _ _
  have hw1 : IntKind.i64.wrap 1 = 1 := by decide
  iterate 12 still_step
  refine wpStill_nil ?_
  clear hw1
  change Exit.then _ _ _ _ ((w.alloc _).alloc _).drew
  go_wp2_with (first | (go_at_call 36; refine (data_calls _ _).mono ?_; rintro e w' ⟨rfl, rfl⟩) | (go_at_call 38; refine (five_calls _ (n % 2048) (by simp) (by omega) _).mono ?_; rintro e w' ⟨rfl, rfl⟩))
  refine bodyPost_ret (v := .tuple #[pkV zero, .int .i64 5]) (by simp [results, Tryd.results21, go_sem]; rfl) rfl ⟨rfl, (Kt.balloc (Kt.balloc (Below.refl _ w) _) _).drew⟩
set_option maxRecDepth 100000 in
set_option maxHeartbeats 1600000 in
theorem read_sof_good (s : ByteArray) (h0 : s.size = 3) (h1 : 15 - s[0].toNat / 16 = s[0].toNat % 16) (hk : ((s[0].toNat % 16 : Nat) : Int) = 5) (hs : num3 s h0 / 2048 = five (num3 s h0 % 2048)) (w : World) : Calls Tryd.prog 21 #[.string s] w fun e w' => e = rdV (⟨(s[0].toNat % 16 : Nat), 0, 0, (num3 s h0 % 2048 : Nat), []⟩, 0) ∧ Below w.heap.size w w' := by
  have ha := PktR.and15 s[0]
  have hx := PktR.hi s[0]
  have ht := PktR.nn h1
  obtain ⟨hne, hne2⟩ := PktR.ne0 (s := s) (by omega)
  have hK : s[0].toNat % 16 ≤ 15 := by omega
  have hB := s[0].toNat_lt
  have hkn := knownB_t (Or.inr (Or.inr (Or.inl hk)))
  have hkt := tokB_f (k := ((s[0].toNat % 16 : Nat) : Int)) (by rw [hk]; decide)
  have hkd := dataB_f (k := ((s[0].toNat % 16 : Nat) : Int)) (by rw [hk]; decide)
  have hk5 := PktW.beq hk
  have hor := PktR.hor h0
  have hnl : num3 s h0 < 65536 := num_lt _
  clear h1 hk
  generalize 15 - s[0].toNat / 16 = J at *
  generalize s[0].toNat % 16 = K at *
  generalize num3 s h0 = n at *
  have h11 := PktR.and11 n hnl
  have h7 := PktR.and7 n hnl
  have h4 := PktR.and4 n hnl
  have hbad2 : ((n : Int) / 2048 != ((five (n % 2048) : Nat) : Int)) = false := by rw [bne_eq_false_iff_eq]; omega
  have h5 := five_lt (n % 2048)
  clear hs
  go_enter Tryd.func21, Tryd.ntmps21
  go_wp2_with (first | (go_at_call 34; refine (known_calls _ _).mono ?_; rintro e w' ⟨rfl, rfl⟩) | (go_at_call 35; refine (token_calls _ _).mono ?_; rintro e w' ⟨rfl, rfl⟩) | (go_at_call 36; refine (data_calls _ _).mono ?_; rintro e w' ⟨rfl, rfl⟩))
  refine wp_region_still_lit (by kernel_rfl) (by kernel_rfl) ?_
  change wpStill _ _ ((w.alloc _).alloc _).drew _ _ _
  have hw1 : IntKind.i64.wrap 1 = 1 := by decide
  iterate 12 still_step
  refine wpStill_nil ?_
  clear hw1
  change Exit.then _ _ _ _ ((w.alloc _).alloc _).drew
  go_wp2_with (first | (go_at_call 36; refine (data_calls _ _).mono ?_; rintro e w' ⟨rfl, rfl⟩) | (go_at_call 38; refine (five_calls _ (n % 2048) (by simp) (by omega) _).mono ?_; rintro e w' ⟨rfl, rfl⟩))
  refine bodyPost_ret (v := .tuple #[pkV ⟨K, 0, 0, (n % 2048 : Nat), []⟩, .int .i64 0]) (by simp [pkV, results, Tryd.results21, go_sem]) rfl ⟨rfl, (Kt.balloc (Kt.balloc (Below.refl _ w) _) _).drew⟩
end Go.Proofs.YtmnmlnnhngnfbaaDoor
