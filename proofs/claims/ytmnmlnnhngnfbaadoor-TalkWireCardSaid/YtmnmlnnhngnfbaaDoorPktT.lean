/- The walks of package packet: what is read, data. -/
import Derived.Test.YtmnmlnnhngnfbaaDoorPktR
namespace Go.Proofs.YtmnmlnnhngnfbaaDoor
open Go.RowKit Go.Proofs.YtmnmlnnhngnfbaaDoor.CrcP Go.Proofs.YtmnmlnnhngnfbaaDoor.PktP
theorem PktT.six_x (t : ByteArray) (X : Nat) (h : six t.data.toList = X) (hs : t.size ≤ maxLen) (w : World) : Calls Tryd.prog 37 #[.string t] w fun e w' => e = .returned (.int .u16 (X : Nat)) ∧ w = w' := by
  rw [← h]; exact sixteen_calls t hs w
theorem PktT.exn {s : ByteArray} {m : Nat} (h0 : s.size = m + 3) : (s.extract 1 (m + 3)).size = m + 2 := by simp [h0]
theorem PktT.dtl {s : ByteArray} {m : Nat} (h0 : s.size = m + 3) : ((s.extract 1 (m + 3)).extract 0 m).data.toList = (s.data.toList.drop 1).take m := by
  have hl : s.data.toList.length = m + 3 := by simpa using h0
  simp
  omega
theorem PktT.dsz (s : ByteArray) (m : Nat) : ((s.extract 1 (m + 3)).extract 0 m).size ≤ m := by simp; omega
def numE (s : ByteArray) (m : Nat) (h0 : s.size = m + 3) : Nat := num [(s.extract 1 (m + 3))[m]'(by rw [PktT.exn h0]; omega), (s.extract 1 (m + 3))[m + 1]'(by rw [PktT.exn h0]; omega)]
theorem PktT.hor {s : ByteArray} {m : Nat} (h0 : s.size = m + 3) : Go.bits BinOp.or IntKind.u16 (IntKind.u16.wrap ((s.extract 1 (m + 3))[m]'(by rw [PktT.exn h0]; omega)).toNat) (IntKind.u16.wrap (IntKind.u16.wrap ((s.extract 1 (m + 3))[m + 1]'(by rw [PktT.exn h0]; omega)).toNat * 256)) = ((numE s m h0 : Nat) : Int) := PktR.or16 _ _
set_option maxRecDepth 100000 in
set_option maxHeartbeats 1600000 in
theorem read_dat_bad (s : ByteArray) (m : Nat) (h0 : s.size = m + 3) (hm : m ≤ 64) (h1 : 15 - s[0].toNat / 16 = s[0].toNat % 16) (hk : isData (s[0].toNat % 16 : Nat)) (hs : numE s m h0 ≠ six ((s.data.toList.drop 1).take m)) (w : World) : Calls Tryd.prog 21 #[.string s] w fun e w' => e = rdV (zero, 5) ∧ Below w.heap.size w w' := by
  have ha := PktR.and15 s[0]
  have hx := PktR.hi s[0]
  have ht := PktR.nn h1
  obtain ⟨hne, hne2⟩ := PktR.ne0 (s := s) (by omega)
  have hK : s[0].toNat % 16 ≤ 15 := by omega
  have hB := s[0].toNat_lt
  have hkn := knownB_t (Or.inr (Or.inl hk))
  have hkt := tokB_f (dat_not hk).1
  have hkd := dataB_t hk
  have hk5 := PktW.bne (dat_not hk).2.1
  have hor := PktT.hor h0
  have hnl : numE s m h0 < 65536 := num_lt _
  clear h1 hk
  generalize 15 - s[0].toNat / 16 = J at *
  generalize s[0].toNat % 16 = K at *
  generalize numE s m h0 = n at *
  obtain ⟨X, hX⟩ : ∃ X, X = six ((s.data.toList.drop 1).take m) := ⟨_, rfl⟩
  rw [← hX] at hs
  have HX := Lib.hid hX; clear hX
  have hbad2 : ((n : Int) != (X : Int)) = true := by rw [bne_iff_ne]; omega
  clear hs
  go_enter Tryd.func21, Tryd.ntmps21
  go_wp2_with (first | (go_at_call 34; refine (known_calls _ _).mono ?_; rintro e w' ⟨rfl, rfl⟩) | (go_at_call 35; refine (token_calls _ _).mono ?_; rintro e w' ⟨rfl, rfl⟩) | (go_at_call 36; refine (data_calls _ _).mono ?_; rintro e w' ⟨rfl, rfl⟩))
  refine wp_region_still_lit (by kernel_rfl) (by kernel_rfl) ?_
  change wpStill _ _ ((w.alloc _).alloc _).drew _ _ _
  have hw1 : IntKind.i64.wrap ((m : Int) + 1) = (m : Int) + 1 := IntWalk.i64_in _ (by omega)
  have hi0 : (m : Int) < (m : Int) + 2 := by omega
  have hi1 : (m : Int) + 1 < (m : Int) + 2 := by omega
  have hi2 : (0 : Int) ≤ (m : Int) + 1 := by omega
  have hi3 : ((m : Int) + 1).toNat = m + 1 := by omega
  iterate 12 still_step
  refine wpStill_nil ?_
  change Exit.then _ _ _ _ ((w.alloc _).alloc _).drew
  go_wp2_with (go_at_call 36; refine (data_calls _ _).mono ?_; rintro e w' ⟨rfl, rfl⟩)
  have HL := PktT.dtl h0
  have hsz := PktT.dsz s m
  generalize (s.extract 1 (m + 3)).extract 0 m = D at *
  have HD := Lib.hid HL; clear HL
  refine (PktT.six_x D X (by rw [HX.out, HD.out]) (by unfold maxLen; omega) _).mono ?_; rintro e w' ⟨rfl, rfl⟩
  go_wp2
  refine bodyPost_ret (v := .tuple #[pkV zero, .int .i64 5]) (by simp [results, Tryd.results21, go_sem]; rfl) rfl ⟨rfl, (Kt.balloc (Kt.balloc (Below.refl _ w) _) _).drew⟩
set_option maxRecDepth 100000 in
set_option maxHeartbeats 1600000 in
theorem read_dat_good (s : ByteArray) (m : Nat) (h0 : s.size = m + 3) (hm : m ≤ 64) (h1 : 15 - s[0].toNat / 16 = s[0].toNat % 16) (hk : isData (s[0].toNat % 16 : Nat)) (hs : numE s m h0 = six ((s.data.toList.drop 1).take m)) (w : World) : Calls Tryd.prog 21 #[.string s] w fun e w' => e = rdV (⟨(s[0].toNat % 16 : Nat), 0, 0, 0, (s.data.toList.drop 1).take m⟩, 0) ∧ Below w.heap.size w w' := by
  have ha := PktR.and15 s[0]
  have hx := PktR.hi s[0]
  have ht := PktR.nn h1
  obtain ⟨hne, hne2⟩ := PktR.ne0 (s := s) (by omega)
  have hK : s[0].toNat % 16 ≤ 15 := by omega
  have hB := s[0].toNat_lt
  have hkn := knownB_t (Or.inr (Or.inl hk))
  have hkt := tokB_f (dat_not hk).1
  have hkd := dataB_t hk
  have hk5 := PktW.bne (dat_not hk).2.1
  have hor := PktT.hor h0
  have hnl : numE s m h0 < 65536 := num_lt _
  clear h1 hk
  generalize 15 - s[0].toNat / 16 = J at *
  generalize s[0].toNat % 16 = K at *
  generalize numE s m h0 = n at *
  obtain ⟨X, hX⟩ : ∃ X, X = six ((s.data.toList.drop 1).take m) := ⟨_, rfl⟩
  rw [← hX] at hs
  have HX := Lib.hid hX; clear hX
  have hbad2 : ((n : Int) != (X : Int)) = false := by rw [hs]; simp
  clear hs
  go_enter Tryd.func21, Tryd.ntmps21
  go_wp2_with (first | (go_at_call 34; refine (known_calls _ _).mono ?_; rintro e w' ⟨rfl, rfl⟩) | (go_at_call 35; refine (token_calls _ _).mono ?_; rintro e w' ⟨rfl, rfl⟩) | (go_at_call 36; refine (data_calls _ _).mono ?_; rintro e w' ⟨rfl, rfl⟩))
  refine wp_region_still_lit (by kernel_rfl) (by kernel_rfl) ?_
  change wpStill _ _ ((w.alloc _).alloc _).drew _ _ _
  have hw1 : IntKind.i64.wrap ((m : Int) + 1) = (m : Int) + 1 := IntWalk.i64_in _ (by omega)
  have hi0 : (m : Int) < (m : Int) + 2 := by omega
  have hi1 : (m : Int) + 1 < (m : Int) + 2 := by omega
  have hi2 : (0 : Int) ≤ (m : Int) + 1 := by omega
  have hi3 : ((m : Int) + 1).toNat = m + 1 := by omega
  iterate 12 still_step
  refine wpStill_nil ?_
  change Exit.then _ _ _ _ ((w.alloc _).alloc _).drew
  go_wp2_with (go_at_call 36; refine (data_calls _ _).mono ?_; rintro e w' ⟨rfl, rfl⟩)
  have HL := PktT.dtl h0
  have hsz := PktT.dsz s m
  generalize (s.extract 1 (m + 3)).extract 0 m = D at *
  have HD := Lib.hid HL; clear HL
  refine (PktT.six_x D X (by rw [HX.out, HD.out]) (by unfold maxLen; omega) _).mono ?_; rintro e w' ⟨rfl, rfl⟩
  go_wp2
  refine bodyPost_ret (v := .tuple #[.agg #[.int .i64 K, .int .i64 0, .int .i64 0, .int .i64 0, .string D], .int .i64 0]) (by simp [results, Tryd.results21, go_sem]) rfl ⟨?_, (Kt.balloc (Kt.balloc (Below.refl _ w) _) _).drew⟩
  have hDD : D = ⟨((s.data.toList.drop 1).take m).toArray⟩ := Kt.bytes_eq (by rw [HD.out])
  rw [hDD]; rfl
end Go.Proofs.YtmnmlnnhngnfbaaDoor
