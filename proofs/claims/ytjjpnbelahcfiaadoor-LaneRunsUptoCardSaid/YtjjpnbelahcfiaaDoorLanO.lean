/- The law LaneFlips. -/
import Derived.Test.YtjjpnbelahcfiaaDoorLanN
import Derived.BigQuiet
import Derived.Deep.QuietTactic
namespace Go.Proofs.YtjjpnbelahcfiaaDoor
open Go.RowKit Go.Proofs.YtjjpnbelahcfiaaDoor.Lan
theorem flips_bad (s : ByteArray) (v : UInt8) (i : Int) (w : World) (hs : s.size ≤ 140737488351232) (h : ¬ (okL [74, 75] s.data.toList = true ∧ isLv v)) :
    Calls Tryd.prog 4 #[.string s, .int .u8 (v.toNat : Int), .int .i64 i] w fun e w' => e = .returned (.bool true) ∧ Below w.heap.size w w' := by
  have H1 := Lib.hid (unturn_bad s v w (by omega) h)
  clear h hs
  go_enter Tryd.func4, Tryd.ntmps4
  go_wp2_with fail
  refine H1.out.mono ?_
  rintro e w1 ⟨rfl, hb⟩
  have HB1 := Lib.hid hb
  clear hb
  go_wp2_with fail
  refine (lives_calls _).mono ?_
  rintro e w2 ⟨rfl, hb⟩
  have HB2 := Lib.hid (Kt.bthen HB1.out hb)
  clear hb
  go_wp2_with fail
  refine (lives_calls _).mono ?_
  rintro e w3 ⟨rfl, hb⟩
  have HB3 := Lib.hid (Kt.bthen HB2.out hb)
  clear hb
  go_wp2_with fail
  go_ret
  exact ⟨rfl, HB3.out⟩
theorem flips_out (s : ByteArray) (v : UInt8) (i : Int) (w : World) (hs : s.size ≤ 140737488351232) (hok : okL [74, 75] s.data.toList = true) (hv : isLv v) (hi : i < 0 ∨ 0 ≤ i ∧ (s.size : Int) ≤ i) :
    Calls Tryd.prog 4 #[.string s, .int .u8 (v.toNat : Int), .int .i64 i] w fun e w' => e = .returned (.bool true) ∧ Below w.heap.size w w' := by
  have H1 := Lib.hid (unturn_good s v w (by omega) hok hv)
  generalize (⟨(unturn v s.data.toList).toArray⟩ : ByteArray) = X at *
  clear hok hv hs
  rcases hi with hi | ⟨hi, hj⟩
  all_goals
    go_enter Tryd.func4, Tryd.ntmps4
    go_wp2_with fail
    refine H1.out.mono ?_
    rintro e w1 ⟨rfl, hb⟩
    have HB1 := Lib.hid hb
    clear hb
    go_wp2_with fail
    refine (lives_calls _).mono ?_
    rintro e w2 ⟨rfl, hb⟩
    have HB2 := Lib.hid (Kt.bthen HB1.out hb)
    clear hb
    go_wp2_with fail
    go_ret
    exact ⟨rfl, HB2.out⟩
theorem flips_plain (s : ByteArray) (v : UInt8) (p : Nat) (hok : okL [74, 75] s.data.toList = true) (hv : isLv v) (hp : p < s.data.toList.length) :
    ∃ X Y : ByteArray, unturnR s v = (X, 0) ∧ unturnR ⟨(s.data.toList.set p (flip s.data.toList[p])).toArray⟩ v = (Y, 0) ∧ X.size = s.size ∧ Y.size = s.size ∧ ∀ (k : Nat) (h1 : k < X.size) (h2 : k < Y.size), X[k] ≠ Y[k] ↔ (k = p ∨ (k : Int) - 1 = p) := by
  have hl := (ok_lv _).1 hok
  have hok2 : okL [74, 75] (s.data.toList.set p (flip s.data.toList[p])) = true := by
    rw [ok_lv]
    intro b hb
    rcases List.mem_or_eq_of_mem_set hb with h | h
    · exact hl b h
    · rw [h]; exact (flip_is _).2 (hl _ (List.getElem_mem hp))
  refine ⟨⟨(unturn v s.data.toList).toArray⟩, ⟨(unturn v (s.data.toList.set p (flip s.data.toList[p]))).toArray⟩, if_pos ⟨hok, hv⟩, if_pos ⟨hok2, hv⟩, ?_, ?_, ?_⟩
  · show (unturn v s.data.toList).toArray.size = _
    rw [List.size_toArray, unturn_len]; simp
  · show (unturn v (s.data.toList.set p (flip s.data.toList[p]))).toArray.size = _
    rw [List.size_toArray, unturn_len, List.length_set]; simp
  · intro k h1 h2
    have hk : k < s.data.toList.length := by
      have : k < (unturn v s.data.toList).toArray.size := h1
      rwa [List.size_toArray, unturn_len] at this
    exact unturn_set hv hl p hp k hk
set_option maxHeartbeats 1600000 in
theorem flips_good (s : ByteArray) (v : UInt8) (p : Nat) (w : World) (hs : s.size ≤ 140737488351232) (hok : okL [74, 75] s.data.toList = true) (hv : isLv v) (hp : p < s.size) :
    Calls Tryd.prog 4 #[.string s, .int .u8 (v.toNat : Int), .int .i64 p] w fun e w' => e = .returned (.bool true) ∧ Below w.heap.size w w' := by
  have hl : s.data.toList.length = s.size := by simp
  have hpl : p < s.data.toList.length := by rw [hl]; exact hp
  have hset : (s.data.toList.set p (flip s.data.toList[p])).length = s.size := by rw [List.length_set, hl]
  obtain ⟨X, Y, eX, eY, sX, sY, hXY⟩ := flips_plain s v p hok hv hpl
  have h1 := unturn_calls s v w (by omega)
  have h2 := fun W : World => unturn_calls ⟨(s.data.toList.set p (flip s.data.toList[p])).toArray⟩ v W (by show (s.data.toList.set p (flip s.data.toList[p])).toArray.size ≤ _; rw [List.size_toArray, hset]; omega)
  rw [eX] at h1
  rw [eY] at h2
  have H1 := Lib.hid h1
  have H2 := Lib.hid h2
  have HXY := Lib.hid hXY
  have HX := Lib.hid (xor_is s.data.toList[p])
  have hk := fun wx : World => run_bytes_of_string (P := Tryd.prog) wx 9 27 5 s Tryd.underlying9 Tryd.underlying27 Tryd.underlying5
  clear h1 h2 eX eY hok hv hXY
  go_enter Tryd.func4, Tryd.ntmps4
  go_wp2_with fail
  refine H1.out.mono ?_
  rintro e w1 ⟨rfl, hb⟩
  have HB1 := Lib.hid hb
  clear hb H1
  go_wp2_with fail
  refine (lives_calls _).mono ?_
  rintro e w2 ⟨rfl, hb⟩
  have hb := Kt.bthen HB1.out hb
  have HBY := Lib.hid ((Kt.Byt.of_string w2 s (grownCap w2 s.size 0 5) 5).drew)
  have HB2 := Lib.hid ((Kt.balloc hb (.cells (bytesRow s (grownCap w2 s.size 0 5)) 5 ((bytesRow s (grownCap w2 s.size 0 5)).size, (bytesRow s (grownCap w2 s.size 0 5)).size + 1))).drew)
  have hcap := grownCap_ge w2 s.size 0 5
  have hg : w.heap.size ≤ w2.heap.size := hb.size
  clear hb HB1
  have x0 := HBY.out.1 p hpl
  have x1 := HBY.out.2 p hpl
  have HSET := Lib.hid (HBY.out.set p hpl (flip s.data.toList[p]))
  obtain ⟨l, hll⟩ : ∃ l, s.data.toList.set p (flip s.data.toList[p]) = l := ⟨_, rfl⟩
  obtain ⟨y, hy⟩ : ∃ y, s.data.toList[p] = y := ⟨_, rfl⟩
  rw [hll] at HSET H2 hset
  rw [hy] at x0 HX HSET
  clear hll hy hpl hl HBY
  have hcv := (show Kt.Byt ((w2.alloc (.cells (bytesRow s (grownCap w2 s.size 0 5)) 5 ((bytesRow s (grownCap w2 s.size 0 5)).size, (bytesRow s (grownCap w2 s.size 0 5)).size + 1))).setCell ⟨w2.heap.size, p, none⟩ (.int .u8 (bits BinOp.xor IntKind.u8 (y.toNat : Int) 1))).drew w2.heap.size l by rw [HX.out]; exact HSET.out).back (P := Tryd.prog) 27 9 5 s.size (grownCap w2 s.size 0 5) hset.symm Tryd.underlying27 Tryd.underlying5 Tryd.underlying9
  have HB3 := Lib.hid (show Below w.heap.size w ((w2.alloc (.cells (bytesRow s (grownCap w2 s.size 0 5)) 5 ((bytesRow s (grownCap w2 s.size 0 5)).size, (bytesRow s (grownCap w2 s.size 0 5)).size + 1))).setCell ⟨w2.heap.size, p, none⟩ (.int .u8 (bits BinOp.xor IntKind.u8 (y.toNat : Int) 1))).drew from HB2.out.setCell (p := ⟨w2.heap.size, p, none⟩) hg (.int .u8 (bits BinOp.xor IntKind.u8 (y.toNat : Int) 1)))
  have hp0 : ¬ (p : Int) < 0 := by omega
  have hp1 : decide (s.size ≤ p) = false := by simp; omega
  go_wp2_with fail
  refine (H2.out _).mono ?_
  rintro e w3 ⟨rfl, hb⟩
  have HB4 := Lib.hid (Kt.bthen HB3.out hb)
  clear hb hcv HB3 HB2 x0 x1 hk hg H2 HSET HX
  generalize grownCap w2 s.size 0 5 = cap at *
  generalize w2.heap.size = g at *
  go_wp2_with fail
  have HSX := Lib.hid sX
  have HSY := Lib.hid sY
  clear sX sY hp1 hp0 hb hset hcap
  go_loopw [70] (fun i wr => ∃ (k : Nat), k ≤ s.size ∧ i = .int .i64 k ∧ Hid (Below w.heap.size w wr)) (fun i _ => s.size - (intOf i).toNat)
  case atStart => exact ⟨0, Nat.zero_le _, rfl, HB4⟩
  case round =>
    clear HB4
    obtain ⟨k, hk, rfl, HB1⟩ := hrel
    by_cases hlt : k < s.size
    · have hkX : k < X.size := by rw [HSX.out]; exact hlt
      have hkY : k < Y.size := by rw [HSY.out]; exact hlt
      have HF := Lib.hid (HXY.out k hkX hkY)
      obtain ⟨x, hx⟩ : ∃ x, X[k] = x := ⟨_, rfl⟩
      obtain ⟨y2, hy⟩ : ∃ y, Y[k] = y := ⟨_, rfl⟩
      rw [hx, hy] at HF
      by_cases h1 : k = p
      · subst h1
        have hne : x ≠ y2 := HF.out.2 (.inl rfl)
        have e1 : ((x.toNat : Int) != y2.toNat) = true := by
          rw [bne_iff_ne]; intro h; exact hne (UInt8.toNat_inj.1 (by omega))
        clear hne HF
        go_wp2_with fail
        go_quiet (fail)
        go_wp2_with fail
        go_roundw
        case rel => exact ⟨k + 1, by omega, by go_num, Lib.hid (bdrewN HB1.out _)⟩
        case measure => (simp [intOf] <;> omega)
      · have e0 : ((k : Int) == p) = false := by rw [beq_eq_false_iff_ne]; omega
        by_cases h2 : (k : Int) - 1 = p
        · have hne : x ≠ y2 := HF.out.2 (.inr h2)
          have e1 : ((x.toNat : Int) != y2.toNat) = true := by
            rw [bne_iff_ne]; intro h; exact hne (UInt8.toNat_inj.1 (by omega))
          have e3 : IntKind.i64.wrap ((k : Int) - 1) = p := by rw [h2]; exact IntWalk.i64_in _ (by omega)
          clear hne HF h1 h2
          go_wp2_with fail
          go_quiet (fail)
          go_wp2_with fail
          go_roundw
          case rel => exact ⟨k + 1, by omega, by go_num, Lib.hid (bdrewN HB1.out _)⟩
          case measure => (simp [intOf] <;> omega)
        · have hne : ¬ x ≠ y2 := fun h => by
            rcases HF.out.1 h with h3 | h3
            · exact h1 h3
            · exact h2 h3
          have hxy : x = y2 := Classical.not_not.1 hne
          have e3 : IntKind.i64.wrap ((k : Int) - 1) = (k : Int) - 1 := IntWalk.i64_in _ (by omega)
          have e4 : ((k : Int) - 1 == p) = false := by rw [beq_eq_false_iff_ne]; exact h2
          have e1 : ((x.toNat : Int) != y2.toNat) = false := by rw [hxy]; simp
          clear hne HF h1 h2 hxy
          go_wp2_with fail
          go_quiet (fail)
          go_wp2_with fail
          go_roundw
          case rel => exact ⟨k + 1, by omega, by go_num, Lib.hid (bdrewN HB1.out _)⟩
          case measure => (simp [intOf] <;> omega)
    · obtain rfl : k = s.size := by omega
      go_wp2_with fail
      go_ret
      exact ⟨rfl, HB1.out⟩
theorem flips_walk (v0 v1 v2 : Value) (w : World) (r0 : Fr.RdV w reachBytes .string v0) (r1 : Fr.RdV w reachBytes (.int .u8) v1) (r2 : Fr.RdV w reachBytes (.int .i64) v2) :
    Calls Tryd.prog 4 #[v0, v1, v2] w fun e w' => e = .returned (.bool true) ∧ Below w.heap.size w w' := by
  obtain ⟨s, rfl, hs⟩ := str_rd r0
  obtain ⟨v, rfl⟩ := byte_rd r1
  obtain ⟨i, hi, _⟩ := r2
  injection hi with hi _
  subst hi
  rw [reach_is] at hs
  by_cases h : okL [74, 75] s.data.toList = true ∧ isLv v
  · by_cases hi : i < 0 ∨ 0 ≤ i ∧ (s.size : Int) ≤ i
    · exact flips_out s v i w hs h.1 h.2 hi
    · obtain ⟨p, rfl⟩ : ∃ p : Nat, i = p := ⟨i.toNat, by omega⟩
      exact flips_good s v p w hs h.1 h.2 (by omega)
  · exact flips_bad s v i w hs h
theorem poles_walk (v0 v1 : Value) (w : World) (r0 : Fr.RdV w reachBytes .string v0) (r1 : Fr.RdV w reachBytes (.int .u8) v1) :
    Calls Tryd.prog 5 #[v0, v1] w fun e w' => e = .returned (.bool true) ∧ Below w.heap.size w w' := by
  obtain ⟨s, rfl, hs⟩ := str_rd r0
  obtain ⟨v, rfl⟩ := byte_rd r1
  rw [reach_is] at hs
  exact poles_calls s v w hs
end Go.Proofs.YtjjpnbelahcfiaaDoor
