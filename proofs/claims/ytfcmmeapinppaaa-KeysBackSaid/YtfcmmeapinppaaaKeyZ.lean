/- KeysBack walked. -/
import Derived.Test.YtfcmmeapinppaaaKeyV
namespace Go.Proofs.Ytfcmmeapinppaaa
open Go.RowKit
theorem not_ok (x : Hd) (h : ¬ x.ok) : ∃ c : Fin 256, c ∈ codesL x 256 ∧ c.val < 4 := by
  unfold Hd.ok at h
  obtain ⟨c, hc⟩ := Classical.not_forall.1 h
  obtain ⟨h4, hh⟩ := Classical.not_imp.1 hc
  exact ⟨⟨c, by omega⟩, (mem_codes x _ 256 (by omega)).2 ⟨by simp; omega, by simpa using hh⟩, h4⟩
set_option maxRecDepth 100000 in
set_option maxHeartbeats 1600000 in
theorem back_bad (x : Hd) (w : World) (h : ¬ x.ok) : Calls Try.prog 5 #[x.v] w fun e w' => e = .returned (.bool true) ∧ Below w.heap.size w w' := by
  have HW := Lib.hid (fun W => write_calls x W)
  have HX := Lib.hid (not_ok x h)
  clear h
  unfold Hd.v
  unfold Hd.v at HW
  go_enter Try.func5, Try.ntmps5
  unfold Hd.vs at *
  go_wp2_with fail
  refine (HW.out _).mono ?_
  rintro e w1 ⟨h1, _, hb⟩
  obtain rfl := h1 HX.out
  have HB1 := Lib.hid (Kt.bthen (Kt.balloc (Below.refl _ w) _) hb)
  clear h1 hb HW
  go_wp2_with fail
  refine (lives_calls _).mono ?_
  rintro e w2 ⟨rfl, hb⟩
  have HB2 := Lib.hid (Kt.bthen HB1.out hb)
  clear hb
  go_wp2_with fail
  refine (lives_calls _).mono ?_
  rintro e w3 ⟨rfl, hb⟩
  have HB3 := Lib.hid (Kt.bthen HB2.out hb)
  clear hb
  go_wp2_with fail
  go_ret
  exact ⟨rfl, HB3.out⟩
theorem restB_take (l : List (Fin 256)) (k : Nat) (h : k < l.length) : (restB (l.take (k + 1))).length = (restB (l.take k)).length + if isMod l[k] then 0 else 1 := by
  rw [List.take_succ_eq_append_getElem h, restB_snoc]
  split <;> simp
set_option maxRecDepth 100000 in
set_option maxHeartbeats 1600000 in
theorem back_good (x : Hd) (w : World) (hok : x.ok) : Calls Try.prog 5 #[x.v] w fun e w' => e = .returned (.bool true) ∧ Below w.heap.size w w' := by
  have HW := Lib.hid (fun W => write_calls x W)
  have HOK := Lib.hid hok
  have HH0 := Lib.hid (heap_alloc_new w (.cells x.vs 27))
  have HB0 := Lib.hid (Kt.balloc (Below.refl _ w) (.cells x.vs 27))
  have HCD := Lib.hid (fun W => codes_calls x W)
  obtain ⟨S, hS⟩ : ∃ S, wrS (codesL x 256) = S := ⟨_, rfl⟩
  have hSl : S.length = 8 := by rw [← hS]; exact wrS_len _
  have HRD := Lib.hid (fun W => read_calls ⟨S.toArray⟩ W)
  rw [show (⟨S.toArray⟩ : ByteArray).data.toList = S by simp] at HRD
  have HBK : Hid (((restB (codesL x 256)).length ≤ 6 → readR S = (x, 0)) ∧ (6 < (restB (codesL x 256)).length → readR S = (Hd.zero, 11))) := Lib.hid ⟨fun h => by rw [← hS]; exact wr_back x hok h, fun h => by rw [← hS]; exact wr_full _ h⟩
  have HSZ : Hid ((⟨S.toArray⟩ : ByteArray).size = 8) := Lib.hid (by show S.toArray.size = 8; simp [hSl])
  rw [hS] at HW
  clear hok hS hSl
  have HLL := Lib.hid (codesL_len x 256)
  generalize codesL x 256 = L at *
  unfold Hd.v at HW HCD
  unfold Hd.v
  go_enter Try.func5, Try.ntmps5
  unfold Hd.vs at *
  go_wp2_with fail
  generalize w.alloc (.cells #[.int .u64 (x.a.toNat : Int), .int .u64 (x.b.toNat : Int), .int .u64 (x.c.toNat : Int), .int .u64 (x.d.toNat : Int)] 27) = w0 at *
  refine (HW.out _).mono ?_
  rintro e w1 ⟨_, h2, hb⟩
  obtain rfl := h2 HOK.out
  have HH1 := Lib.hid (Kt.row_on hb HH0.out)
  have HB1 := Lib.hid (Kt.bthen HB0.out hb)
  clear h2 hb HW HH0 HB0
  go_wp2_with fail
  refine (lives_calls _).mono ?_
  rintro e w2 ⟨rfl, hb⟩
  have HH2 := Lib.hid (Kt.row_on hb HH1.out)
  have HB2 := Lib.hid (Kt.bthen HB1.out hb)
  clear hb HH1 HB1
  have q1 := fun i => cell_of_row _ _ i _ _ _ HH2.out
  go_wp2_with fail
  refine (HCD.out _).mono ?_
  rintro e w3 ⟨A, c, rfl, har, hb⟩
  have HA3 := Lib.hid har
  have HH3 := Lib.hid (Kt.row_on hb HH2.out)
  have HB3 := Lib.hid (Kt.bthen HB2.out hb)
  clear hb har HH2 HB2 HCD q1
  go_wp2_with fail
  obtain ⟨_, _, hve, _, hcell⟩ := HA3.out.form
  cases hve
  have HCELL := Lib.hid hcell
  clear hcell
  go_loop [5, 29] (fun m i => ∃ k : Nat, k ≤ L.length ∧ i = .int .i64 k ∧ m = .int .i64 ((restB (L.take k)).length : Nat)) (fun _ i => L.length - (intOf i).toNat)
  case atStart => exact ⟨0, Nat.zero_le _, rfl, rfl⟩
  case round =>
    obtain ⟨k, hk, rfl, rfl⟩ := hrel
    by_cases hlt : k < L.length
    · obtain ⟨b, o, rfl, hb0, hc1⟩ := HCELL.out (by omega)
      have x0 : w3.cell? ⟨b, o + k, none⟩ = some (.int .i64 ((L[k]'hlt).val : Int)) := by
        have := hc1 k (by simp [cds]; exact hlt)
        simp only [cds, List.getElem_map] at this
        exact this
      have HT := Lib.hid (restB_take L k hlt)
      have hle : (restB (L.take k)).length ≤ L.length := by
        have h1 : (restB (L.take k)).length ≤ (L.take k).length := by unfold restB; rw [List.length_map]; exact List.length_filter_le _ _
        have := List.length_take_le' k L
        omega
      have hm : isMod (L[k]'hlt) = decide (224 ≤ (L[k]'hlt).val ∧ (L[k]'hlt).val ≤ 231) := rfl
      have HLL2 := HLL.out
      generalize (L[k]'hlt).val = cc at *
      generalize isMod (L[k]'hlt) = bm at *
      generalize (restB (L.take k)).length = N at *
      have ek : (k : Int) < L.length := by omega
      have HLT := Lib.hid (And.intro hlt (And.intro hle HLL2))
      clear hc1 hle HLL2 hlt hk
      by_cases c1 : cc < 224
      · have e1 : (cc : Int) < 224 := by omega
        have : bm = false := by rw [hm]; exact decide_eq_false (by omega)
        subst this
        clear hm c1
        go_wp2
        have hl := HLT.out
        go_round
        case rel => exact ⟨k + 1, by omega, by rw [show wrap64 ((k : Int) + 1) = ((k + 1 : Nat) : Int) by unfold wrap64; omega], by rw [HT.out]; simp; unfold wrap64; omega⟩
        case measure =>
          rw [show wrap64 ((k : Int) + 1) = ((k + 1 : Nat) : Int) by unfold wrap64; omega]
          simp [intOf] <;> omega
      · by_cases c2 : 231 < cc
        · have e1 : (224 : Int) ≤ (cc : Int) := by omega
          have e2 : (231 : Int) < (cc : Int) := by omega
          have : bm = false := by rw [hm]; exact decide_eq_false (by omega)
          subst this
          clear hm c1 c2
          go_wp2
          have hl := HLT.out
          go_round
          case rel => exact ⟨k + 1, by omega, by rw [show wrap64 ((k : Int) + 1) = ((k + 1 : Nat) : Int) by unfold wrap64; omega], by rw [HT.out]; simp; unfold wrap64; omega⟩
          case measure =>
            rw [show wrap64 ((k : Int) + 1) = ((k + 1 : Nat) : Int) by unfold wrap64; omega]
            simp [intOf] <;> omega
        · have e1 : (224 : Int) ≤ (cc : Int) := by omega
          have e2 : (cc : Int) ≤ 231 := by omega
          have : bm = true := by rw [hm]; exact decide_eq_true (by omega)
          subst this
          clear hm c1 c2
          go_wp2
          have hl := HLT.out
          go_round
          case rel => exact ⟨k + 1, by omega, by rw [show wrap64 ((k : Int) + 1) = ((k + 1 : Nat) : Int) by unfold wrap64; omega], by rw [HT.out]; simp⟩
          case measure =>
            rw [show wrap64 ((k : Int) + 1) = ((k + 1 : Nat) : Int) by unfold wrap64; omega]
            simp [intOf] <;> omega
    · obtain rfl : k = L.length := by omega
      rw [List.take_length]
      have hbk := HBK.out
      generalize (restB L).length = N at *
      by_cases h6 : N ≤ 6
      · have hr := hbk.1 h6
        rw [hr] at HRD
        have EQ := eq_hd x x
        rw [decide_eq_true rfl] at EQ
        have GQ := fun a b => guard_hd a b x x
        simp only [Hd.v, Hd.vs] at HRD EQ GQ
        have e6 : (N : Int) ≤ 6 := by omega
        clear hr hbk HBK hk hlt h6
        go_wp2_with fail
        refine (HRD.out _).mono ?_
        rintro e w4 ⟨rfl, hb⟩
        have HH4 := Lib.hid (Kt.row_on (Kt.balloc (Below.refl _ w4) (.cells #[.int .u64 (x.a.toNat : Int), .int .u64 (x.b.toNat : Int), .int .u64 (x.c.toNat : Int), .int .u64 (x.d.toNat : Int)] 27)) (Kt.row_on hb HH3.out))
        have HN4 := Lib.hid (heap_alloc_new w4 (.cells #[.int .u64 (x.a.toNat : Int), .int .u64 (x.b.toNat : Int), .int .u64 (x.c.toNat : Int), .int .u64 (x.d.toNat : Int)] 27))
        have HB4 := Lib.hid (Kt.balloc (Kt.bthen HB3.out hb) (.cells #[.int .u64 (x.a.toNat : Int), .int .u64 (x.b.toNat : Int), .int .u64 (x.c.toNat : Int), .int .u64 (x.d.toNat : Int)] 27))
        clear hb HRD HH3 HB3
        have q1 := fun i => cell_of_row _ _ i _ _ _ HH4.out
        have q2 := fun i => cell_of_row _ _ i _ _ _ HN4.out
        have hsz := HSZ.out
        go_wp2_with fail
        go_ret
        exact ⟨by show Ending.returned (.bool (!decide ((6 : Int) < (N : Int)))) = _; rw [decide_eq_false (by omega)]; rfl, HB4.out⟩
      · have hr := hbk.2 (by omega)
        rw [hr] at HRD
        simp only [Hd.v, zero_vs] at HRD
        have e6 : (6 : Int) < (N : Int) := by omega
        clear hr hbk HBK hk hlt h6
        go_wp2_with fail
        refine (HRD.out _).mono ?_
        rintro e w4 ⟨rfl, hb⟩
        have HB4 := Lib.hid (Kt.balloc (Kt.bthen HB3.out hb) (.cells #[.int .u64 0, .int .u64 0, .int .u64 0, .int .u64 0] 27))
        clear hb HRD HH3 HB3
        have hsz := HSZ.out
        go_wp2_with fail
        go_ret
        exact ⟨rfl, HB4.out⟩
theorem back_walk (v0 : Value) (w : World) (r0 : Fr.RdV w reachBytes hdTy v0) :
    Calls Try.prog 5 #[v0] w fun e w' => e = .returned (.bool true) ∧ Below w.heap.size w w' := by
  obtain ⟨x, rfl⟩ := hd_of r0
  by_cases h : x.ok
  · exact back_good x w h
  · exact back_bad x w h
end Go.Proofs.Ytfcmmeapinppaaa
