/- The laws LanePoles, LaneFlips. -/
import Derived.Test.YtjjpnbelahcfiaaDoorLanM
namespace Go.Proofs.YtjjpnbelahcfiaaDoor
open Go.RowKit Go.Proofs.YtjjpnbelahcfiaaDoor.Lan
theorem xor_table : ∀ n : Fin 256, bits BinOp.xor IntKind.u8 ((UInt8.ofNat n.val).toNat : Int) 1 = ((flip (UInt8.ofNat n.val)).toNat : Int) ∧ bits BinOp.xor IntKind.u8 (bits BinOp.xor IntKind.u8 ((UInt8.ofNat n.val).toNat : Int) 74) 75 = ((flip (UInt8.ofNat n.val)).toNat : Int) := by decide +kernel
theorem xor_is (b : UInt8) : bits BinOp.xor IntKind.u8 (b.toNat : Int) 1 = ((flip b).toNat : Int) := by
  have := (xor_table ⟨b.toNat, b.toNat_lt⟩).1
  dsimp only at this
  rwa [of_nat] at this
theorem xor_two (b : UInt8) : bits BinOp.xor IntKind.u8 (bits BinOp.xor IntKind.u8 (b.toNat : Int) 74) 75 = ((flip b).toNat : Int) := by
  have := (xor_table ⟨b.toNat, b.toNat_lt⟩).2
  dsimp only at this
  rwa [of_nat] at this
theorem ok_lv (l : List UInt8) : okL [74, 75] l = true ↔ ∀ b ∈ l, isLv b := by
  unfold okL isLv
  simp [List.all_eq_true]
theorem ok_flip (l : List UInt8) : okL [74, 75] (l.map flip) = true ↔ okL [74, 75] l = true := by
  rw [ok_lv, ok_lv]
  constructor
  · intro h b hb
    exact (flip_is b).1 (h _ (List.mem_map_of_mem hb))
  · intro h b hb
    obtain ⟨x, hx, rfl⟩ := List.mem_map.1 hb
    exact (flip_is x).2 (h x hx)
theorem unturnR_flip (s : ByteArray) (v : UInt8) : unturnR ⟨(s.data.toList.map flip).toArray⟩ (flip v) = unturnR s v := by
  unfold unturnR
  have e : ((⟨(s.data.toList.map flip).toArray⟩ : ByteArray).data.toList) = s.data.toList.map flip := rfl
  rw [e]
  by_cases h : okL [74, 75] s.data.toList = true ∧ isLv v
  · rw [if_pos h, if_pos ⟨(ok_flip _).2 h.1, (flip_is v).2 h.2⟩, unturn_flip]
  · rw [if_neg h, if_neg (fun h2 => h ⟨(ok_flip _).1 h2.1, (flip_is v).1 h2.2⟩)]
theorem flip_step (l : List UInt8) (k : Nat) (h : k < l.length) : ((l.take k).map flip ++ l.drop k).set k (flip l[k]) = (l.take (k + 1)).map flip ++ l.drop (k + 1) := by
  have h1 : ((l.take k).map flip).length = k := by simp; omega
  rw [List.drop_eq_getElem_cons h, List.take_succ_eq_append_getElem h, List.map_append, List.append_assoc, List.set_append_right _ _ (by omega), h1, Nat.sub_self, List.set_cons_zero]
  rfl
set_option maxHeartbeats 1600000 in
theorem poles_calls (s : ByteArray) (v : UInt8) (w : World) (hs : s.size ≤ 140737488351232) :
    Calls Tryd.prog 5 #[.string s, .int .u8 (v.toNat : Int)] w fun e w' => e = .returned (.bool true) ∧ Below w.heap.size w w' := by
  have H1 := Lib.hid (unturn_calls s v w (by omega))
  have H2 := Lib.hid (fun W : World => unturn_calls ⟨(s.data.toList.map flip).toArray⟩ (flip v) W (by show (s.data.toList.map flip).toArray.size ≤ _; rw [List.size_toArray, List.length_map]; simpa using (show s.size ≤ 281474976702464 by omega)))
  rw [unturnR_flip] at H2
  have hk := fun wx : World => run_bytes_of_string (P := Tryd.prog) wx 9 27 5 s Tryd.underlying9 Tryd.underlying27 Tryd.underlying5
  generalize unturnR s v = R at *
  obtain ⟨A, c⟩ := R
  dsimp only at *
  go_enter Tryd.func5, Tryd.ntmps5
  go_wp2_with fail
  refine H1.out.mono ?_
  rintro e w2 ⟨rfl, hb⟩
  have HBY := Lib.hid ((Kt.Byt.of_string w2 s (grownCap w2 s.size 0 5) 5).drew)
  have HB1 := Lib.hid ((Kt.balloc hb (.cells (bytesRow s (grownCap w2 s.size 0 5)) 5 ((bytesRow s (grownCap w2 s.size 0 5)).size, (bytesRow s (grownCap w2 s.size 0 5)).size + 1))).drew)
  have hcap := grownCap_ge w2 s.size 0 5
  have hg : w.heap.size ≤ w2.heap.size := hb.size
  clear hb H1
  go_wp2_with fail
  clear hk
  generalize grownCap w2 s.size 0 5 = cap at *
  generalize w2.heap.size = g at *
  generalize (w2.alloc (.cells (bytesRow s cap) 5 ((bytesRow s cap).size, (bytesRow s cap).size + 1))).drew = w3 at *
  have hl : s.data.toList.length = s.size := by simp
  generalize s.data.toList = l at *
  have HL := Lib.hid hl
  clear hl hcap
  go_loopw [21] (fun i wr => ∃ (k : Nat), k ≤ s.size ∧ i = .int .i64 k ∧ Hid (Kt.Byt wr g ((l.take k).map flip ++ l.drop k)) ∧ Hid (Below w.heap.size w wr)) (fun i _ => s.size - (intOf i).toNat)
  case atStart => exact ⟨0, Nat.zero_le _, rfl, Lib.hid (by simpa using HBY.out), HB1⟩
  case round =>
    clear HBY HB1
    obtain ⟨k, hk, rfl, HBY, HB1⟩ := hrel
    by_cases hlt : k < s.size
    · have hkl : k < l.length := by rw [HL.out]; exact hlt
      have hlen : ((l.take k).map flip ++ l.drop k).length = l.length := by rw [List.length_append, List.length_map, List.length_take, List.length_drop]; omega
      have hkk : k < ((l.take k).map flip ++ l.drop k).length := by rw [hlen]; exact hkl
      have x0 := HBY.out.1 k hkk
      have x1 := HBY.out.2 k hkk
      have hx : ((l.take k).map flip ++ l.drop k)[k]'hkk = l[k] := by
        rw [List.getElem_append_right (by simp; omega)]
        simp [Nat.min_eq_left (Nat.le_of_lt hkl)]
      rw [hx] at x0
      have HSET := Lib.hid (HBY.out.set k hkk (flip l[k]))
      rw [flip_step l k hkl] at HSET
      have HX := Lib.hid (xor_is l[k])
      generalize l[k] = y at *
      clear hkk hlen hkl hx
      go_wp2_with fail
      go_roundw
      case rel => exact ⟨k + 1, by omega, by go_num, Lib.hid (by rw [HX.out]; exact HSET.out), Lib.hid (HB1.out.setCell (p := ⟨g, k, none⟩) hg _)⟩
      case measure => (simp [intOf] <;> omega)
    · obtain rfl : k = s.size := by omega
      have hby := HBY.out
      rw [List.take_of_length_le (by rw [HL.out]; exact Nat.le_refl _), List.drop_of_length_le (by rw [HL.out]; exact Nat.le_refl _), List.append_nil] at hby
      have hcv := hby.back (P := Tryd.prog) 27 9 5 s.size cap (by rw [List.length_map, HL.out]) Tryd.underlying27 Tryd.underlying5 Tryd.underlying9
      have hx := xor_two v
      have h2 := H2.out wr
      clear hby hlt hk HBY H2
      go_wp2_with fail
      refine h2.mono ?_
      rintro e w5 ⟨rfl, hb⟩
      have HB5 := Lib.hid (Kt.bthen HB1.out hb)
      clear hb h2 hcv hx
      go_wp2_with fail
      refine (lives_calls _).mono ?_
      rintro e w6 ⟨rfl, hb⟩
      have HB6 := Lib.hid (Kt.bthen HB5.out hb)
      clear hb
      go_wp2_with fail
      go_ret
      exact ⟨rfl, HB6.out⟩
end Go.Proofs.YtjjpnbelahcfiaaDoor
