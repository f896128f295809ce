/- The law LaneRuns. -/
import Derived.Test.YtjjpnbelahcfiaaDoorLanS
import Derived.Shelf.Vars
namespace Go.Proofs.YtjjpnbelahcfiaaDoor
open Go.RowKit Go.Proofs.YtjjpnbelahcfiaaDoor.Lan
theorem max_len {w : World} (h : w.ShapedOpen Tryd.prog) : ∃ m, w.cell? ⟨0, 0, none⟩ = some (.int .i64 m) :=
  cell_of_shapedOpen_int (t := 3) (zero := #[.int .i64 0]) h (by decide +kernel) (by kernel_rfl) rfl (by kernel_rfl) (by kernel_rfl) Tryd.underlying3
theorem kept_cell {w w' : World} {a : Addr} {u : Value} (hb : Below w.heap.size w w') (h : w.cell? a = some u) : w'.cell? a = some u := by
  have hlt : a.block < w.heap.size := by
    unfold World.cell? at h
    cases hq : w.heap[a.block]? with
    | none => rw [hq] at h; cases h
    | some o => exact (Array.getElem?_eq_some_iff.1 hq).1
  have := hb.block a.block hlt
  unfold World.cell? at h ⊢
  rw [this]; exact h
theorem byt_one (w : World) (v : UInt8) : Kt.Byt (w.alloc (.cells #[.int .u8 (v.toNat : Int)] 5)) w.heap.size [v] := by
  have hr := heap_alloc_new w (.cells #[.int .u8 (v.toNat : Int)] 5)
  refine ⟨fun j hj => ?_, fun j _ => frozen_of_row _ _ _ _ _ hr⟩
  rw [List.length_singleton] at hj
  obtain rfl : j = 0 := by omega
  rw [cell_of_row _ _ _ _ _ _ hr]; rfl
set_option maxHeartbeats 1600000 in
theorem runs_good (s : ByteArray) (v : UInt8) (m : Int) (w : World) (hs : s.size ≤ 1048576) (hok : okL [48, 49] s.data.toList = true) (hv : isLv v) (hm : w.cell? ⟨0, 0, none⟩ = some (.int .i64 m)) :
    Calls Tryd.prog 8 #[.string s, .int .u8 (v.toNat : Int)] w fun e w' => e = .returned (.bool true) ∧ Below w.heap.size w w' := by
  have hl : s.data.toList.length = s.size := by simp
  have hst := stuff_bit s.data.toList 0 ((ok_bit _).1 hok)
  have H1 := Lib.hid (fun W : World => stuff_good s W (by omega) (by omega) hok)
  have hA : (⟨(stuff 0 s.data.toList).toArray⟩ : ByteArray).data.toList = stuff 0 s.data.toList := rfl
  have hAs : (⟨(stuff 0 s.data.toList).toArray⟩ : ByteArray).size ≤ 2097152 := by
    show (stuff 0 s.data.toList).toArray.size ≤ _
    rw [List.size_toArray]; omega
  have H2 := Lib.hid (fun W : World => turn_good ⟨(stuff 0 s.data.toList).toArray⟩ v W (by omega) ((ok_bit _).2 hst.1) hv)
  rw [hA] at H2
  have hLs : (⟨(turn v (stuff 0 s.data.toList)).toArray⟩ : ByteArray).size ≤ 2097152 := by
    show (turn v (stuff 0 s.data.toList)).toArray.size ≤ _
    rw [List.size_toArray, turn_len]; omega
  have HC1 := Lib.hid (runs_bits s.data.toList)
  have HC2 := Lib.hid (fun c => runs_levels s.data.toList v c hv)
  have HM := Lib.hid hm
  have HSA : Hid (∀ W : World, Below w.heap.size w W → Calls Tryd.prog 17 #[.string ⟨(stuff 0 s.data.toList).toArray⟩, .string ⟨#[49, 49, 49, 49, 49, 49, 49]⟩] W fun e w' => e = .returned (.bool false) ∧ w' = W) := Lib.hid fun W hW => by
    have h := Tryd.strings_Contains ⟨(stuff 0 s.data.toList).toArray⟩ ⟨#[49, 49, 49, 49, 49, 49, 49]⟩ m W (by omega) (kept_cell hW HM.out)
    rw [hA] at h
    rw [show Lib.contains (stuff 0 s.data.toList) (⟨#[49, 49, 49, 49, 49, 49, 49]⟩ : ByteArray).data.toList = false from HC1.out] at h
    exact h
  have HALL : Hid (∀ (c : UInt8) (W : World), Below w.heap.size w W → Calls Tryd.prog 17 #[.string ((⟨#[v]⟩ : ByteArray) ++ ⟨(turn v (stuff 0 s.data.toList)).toArray⟩), .string ⟨#[c, c, c, c, c, c, c, c]⟩] W fun e w' => e = .returned (.bool false) ∧ w' = W) := Lib.hid fun c W hW => by
    have h := Tryd.strings_Contains ((⟨#[v]⟩ : ByteArray) ++ ⟨(turn v (stuff 0 s.data.toList)).toArray⟩) ⟨#[c, c, c, c, c, c, c, c]⟩ m W (by rw [ByteArray.size_append]; have : (⟨#[v]⟩ : ByteArray).size = 1 := rfl; omega) (kept_cell hW HM.out)
    rw [show Lib.contains ((⟨#[v]⟩ : ByteArray) ++ ⟨(turn v (stuff 0 s.data.toList)).toArray⟩).data.toList (⟨#[c, c, c, c, c, c, c, c]⟩ : ByteArray).data.toList = false by
      have e : ((⟨#[v]⟩ : ByteArray) ++ ⟨(turn v (stuff 0 s.data.toList)).toArray⟩).data.toList = v :: turn v (stuff 0 s.data.toList) := by simp
      rw [e]; exact HC2.out c] at h
    exact h
  have hcat : ¬ 9223372036854775807 < (⟨#[v]⟩ : ByteArray).size + (⟨(turn v (stuff 0 s.data.toList)).toArray⟩ : ByteArray).size := by have : (⟨#[v]⟩ : ByteArray).size = 1 := rfl; omega
  generalize (⟨(stuff 0 s.data.toList).toArray⟩ : ByteArray) = A at *
  generalize (⟨(turn v (stuff 0 s.data.toList)).toArray⟩ : ByteArray) = L at *
  have HCAT := Lib.hid hcat
  clear hl hst hA hAs hLs HC1 HC2 HM hs hok hv hm hcat
  go_enter Tryd.func8, Tryd.ntmps8
  go_wp2_with fail
  refine (H1.out _).mono ?_
  rintro e w1 ⟨rfl, hb⟩
  have HB1 := Lib.hid hb
  clear hb H1
  go_wp2_with fail
  refine (lives_calls _).mono ?_
  rintro e w2 ⟨rfl, hb⟩
  have HB2 := Lib.hid (Kt.bthen HB1.out hb)
  clear hb
  go_wp2_with fail
  refine (H2.out _).mono ?_
  rintro e w3 ⟨rfl, hb⟩
  have HB3 := Lib.hid (Kt.bthen HB2.out hb)
  clear hb H2
  have hcv := (byt_one w3 v).back (P := Tryd.prog) 27 9 5 1 1 rfl Tryd.underlying27 Tryd.underlying5 Tryd.underlying9
  have hcat : ¬ 9223372036854775807 < (⟨[v].toArray⟩ : ByteArray).size + L.size := HCAT.out
  have HB4 := Lib.hid (Kt.balloc HB3.out (.cells #[.int .u8 (v.toNat : Int)] 5))
  go_wp2_with fail
  refine (HSA.out _ HB4.out).mono ?_
  rintro e w5 ⟨rfl, rfl⟩
  clear hcv hcat
  go_wp2_with fail
  refine (HALL.out 74 _ HB4.out).mono ?_
  rintro e w6 ⟨rfl, rfl⟩
  go_wp2_with fail
  refine (HALL.out 75 _ HB4.out).mono ?_
  rintro e w7 ⟨rfl, rfl⟩
  go_wp2_with fail
  go_ret
  exact ⟨rfl, HB4.out⟩
theorem runs_level (s : ByteArray) (v : UInt8) (w : World) (hs : s.size ≤ 1048576) (hok : okL [48, 49] s.data.toList = true) (hv : ¬ isLv v) :
    Calls Tryd.prog 8 #[.string s, .int .u8 (v.toNat : Int)] w fun e w' => e = .returned (.bool true) ∧ Below w.heap.size w w' := by
  have hl : s.data.toList.length = s.size := by simp
  have hst := stuff_bit s.data.toList 0 ((ok_bit _).1 hok)
  have H1 := Lib.hid (fun W : World => stuff_good s W (by omega) (by omega) hok)
  have hAs : (⟨(stuff 0 s.data.toList).toArray⟩ : ByteArray).size ≤ 2097152 := by
    show (stuff 0 s.data.toList).toArray.size ≤ _
    rw [List.size_toArray]; omega
  have H2 := Lib.hid (fun W : World => turn_bad ⟨(stuff 0 s.data.toList).toArray⟩ v W (by omega) (fun h => hv h.2))
  have e1 : ((v.toNat : Int) != 74) = true := by
    rw [bne_iff_ne]; intro e; exact hv (.inl (UInt8.toNat_inj.1 (by show v.toNat = 74; omega)))
  have e2 : ((v.toNat : Int) != 75) = true := by
    rw [bne_iff_ne]; intro e; exact hv (.inr (UInt8.toNat_inj.1 (by show v.toNat = 75; omega)))
  generalize (⟨(stuff 0 s.data.toList).toArray⟩ : ByteArray) = A at *
  clear hl hst hAs hs hok hv
  go_enter Tryd.func8, Tryd.ntmps8
  go_wp2_with fail
  refine (H1.out _).mono ?_
  rintro e w1 ⟨rfl, hb⟩
  have HB1 := Lib.hid hb
  clear hb H1
  go_wp2_with fail
  refine (lives_calls _).mono ?_
  rintro e w2 ⟨rfl, hb⟩
  have HB2 := Lib.hid (Kt.bthen HB1.out hb)
  clear hb
  go_wp2_with fail
  refine (H2.out _).mono ?_
  rintro e w3 ⟨rfl, hb⟩
  have HB3 := Lib.hid (Kt.bthen HB2.out hb)
  clear hb H2
  go_wp2_with fail
  go_ret
  exact ⟨rfl, HB3.out⟩
theorem runs_bad (s : ByteArray) (v : UInt8) (w : World) (hs : s.size ≤ 1048576) (hok : okL [48, 49] s.data.toList = false) :
    Calls Tryd.prog 8 #[.string s, .int .u8 (v.toNat : Int)] w fun e w' => e = .returned (.bool true) ∧ Below w.heap.size w w' := by
  have HS := Lib.hid (fun W : World => stuff_bad s W (by omega) hok)
  clear hok hs
  go_enter Tryd.func8, Tryd.ntmps8
  go_wp2_with fail
  refine (HS.out _).mono ?_
  rintro e w1 ⟨rfl, hb⟩
  have HB1 := Lib.hid hb
  clear hb HS
  go_wp2_with fail
  refine (lives_calls _).mono ?_
  rintro e w2 ⟨rfl, hb⟩
  have HB2 := Lib.hid (Kt.bthen HB1.out hb)
  clear hb
  go_wp2_with fail
  refine (lives_calls _).mono ?_
  rintro e w3 ⟨rfl, hb⟩
  have HB3 := Lib.hid (Kt.bthen HB2.out hb)
  clear hb
  go_wp2_with fail
  go_ret
  exact ⟨rfl, HB3.out⟩
theorem runs_walk (v0 v1 : Value) (w : World) (hsh : w.ShapedOpen Tryd.prog) (r0 : Fr.RdV w 1048576 .string v0) (r1 : Fr.RdV w 1048576 (.int .u8) v1) :
    Calls Tryd.prog 8 #[v0, v1] w fun e w' => e = .returned (.bool true) ∧ Below w.heap.size w w' := by
  obtain ⟨m, hm⟩ := max_len hsh
  obtain ⟨s, rfl, hs⟩ := str_rd r0
  obtain ⟨v, rfl⟩ := byte_rd r1
  by_cases hok : okL [48, 49] s.data.toList = true
  · by_cases hv : isLv v
    · exact runs_good s v m w hs hok hv hm
    · exact runs_level s v w hs hok hv
  · exact runs_bad s v w hs (by simpa using hok)
end Go.Proofs.YtjjpnbelahcfiaaDoor
