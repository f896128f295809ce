/- The walks of lane.is, lane.other, lane.Turn, lane.Unturn. -/
import Derived.Test.YtmnmlnnhngnfbaaDoorLanP
import Derived.Test.YtmnmlnnhngnfbaaDoorLanB
import Derived.Test.YtmnmlnnhngnfbaaDoorFr
import Derived.Shelf.Strings.SlTrimAscii
import Derived.Laws.MakeOwn
import Derived.Laws.OwnMore
import Derived.BigQuiet
import Derived.Deep.QuietTactic
namespace Go.Proofs.YtmnmlnnhngnfbaaDoor
open Go.RowKit Go.Proofs.YtmnmlnnhngnfbaaDoor.Lan
theorem make_bytes (n : Nat) (hn : n ≤ 281474976702464) (w : World) : (Instr.makeSlice 49 (.int .i64 n) (.int .i64 n)).run Tryd.prog w = .ok (.slice (some ⟨w.heap.size, 0, none⟩) n n) (w.alloc (.cells (madeCells #[.int .u8 0] n) 5)) := by
  obtain ⟨i, hi, hz, hz1, hz2⟩ := info_parts infoB
  have h := run_make (P := Tryd.prog) w 49 5 i (.int .u8 0) Tryd.underlying49 hi hz .i64 .i64 n n (by omega) (by omega) (by rw [hz2]; omega) (by omega)
  rw [h, hz1, Int.toNat_natCast, Nat.mul_one]; rfl
theorem byt_made (n : Nat) (w : World) : Kt.Byt (w.alloc (.cells (madeCells #[.int .u8 0] n) 5)) w.heap.size (List.replicate n 0) := by
  have hr := heap_alloc_new w (.cells (madeCells #[.int .u8 0] n) 5)
  refine ⟨fun j hj => ?_, fun j _ => frozen_of_row _ _ _ _ _ hr⟩
  rw [List.length_replicate] at hj
  rw [cell_of_row _ _ _ _ _ _ hr, ← Array.getElem?_toList, toList_madeCells_one, List.getElem?_replicate, if_pos hj, List.getElem_replicate]; rfl
set_option maxRecDepth 100000 in
/-- what 'is' tells -/
theorem is_calls (s cs : ByteArray) (w : World) (hs : s.size ≤ 9223372036854775807) (hc : cs = ⟨#[48, 49]⟩ ∨ cs = ⟨#[74, 75]⟩) : Calls Tryd.prog 65 #[.string s, .string cs] w fun e w' => e = .returned (.bool (okL cs.data.toList s.data.toList)) ∧ Below w.heap.size w w' := by
  have ht : Calls Tryd.prog 32 #[.string s, .string cs] w fun e w' => e = .returned (.string ⟨(Lib.trimS s.data.toList cs.data.toList).toArray⟩) ∧ Below w.heap.size w w' := by
    rcases hc with rfl | rfl
    · exact Any.strings_Trim_laid Tryd.lays160 (by kernel_rfl) s ⟨#[48, 49]⟩ w hs (by decide) (ascii_of_all (by decide))
    · exact Any.strings_Trim_laid Tryd.lays160 (by kernel_rfl) s ⟨#[74, 75]⟩ w hs (by decide) (ascii_of_all (by decide))
  have HT := Lib.hid ht
  have HN := Lib.hid (trim_nil s.data.toList cs.data.toList)
  generalize Lib.trimS s.data.toList cs.data.toList = l at *
  generalize okL cs.data.toList s.data.toList = q at *
  clear ht hs hc
  go_enter Tryd.func65, Tryd.ntmps65
  go_wp2_with fail
  refine HT.out.mono ?_
  rintro e w1 ⟨rfl, hb⟩
  have HB := Lib.hid hb
  clear hb
  go_wp2_with fail
  go_ret
  refine ⟨?_, HB.out⟩
  show Ending.returned (.bool l.isEmpty) = Ending.returned (.bool q)
  congr 2
  have h := HN.out
  cases l with
  | nil => exact (h.1 rfl).symm
  | cons x l =>
    cases q with
    | false => rfl
    | true => exact absurd (h.2 rfl) (by simp)
set_option maxRecDepth 100000 in
theorem other_calls (v : UInt8) (hv : isLv v) (w : World) : Calls Tryd.prog 67 #[.int .u8 (v.toNat : Int)] w fun e w' => e = .returned (.int .u8 ((oth v).toNat : Int)) ∧ w = w' := by
  rcases hv with rfl | rfl
  · go_enter Tryd.func67, Tryd.ntmps67
    go_wp2
    go_ret
    exact ⟨rfl, rfl⟩
  · go_enter Tryd.func67, Tryd.ntmps67
    go_wp2
    go_ret
    exact ⟨rfl, rfl⟩
def turnR (s : ByteArray) (v : UInt8) : ByteArray × Int := if okL [48, 49] s.data.toList = true ∧ isLv v then (⟨(turn v s.data.toList).toArray⟩, 0) else (⟨#[]⟩, 1)
theorem fill_set (a : List UInt8) (x : UInt8) (n k : Nat) (hk : a.length = k) (h : k < n) : (a ++ List.replicate (n - k) 0).set k x = (a ++ [x]) ++ List.replicate (n - (k + 1)) 0 := by
  obtain ⟨m, hm⟩ : ∃ m, n - k = m + 1 := ⟨n - k - 1, by omega⟩
  have e : n - (k + 1) = m := by omega
  rw [e, hm, List.replicate_succ, List.set_append_right _ _ (by omega), hk, Nat.sub_self, List.set_cons_zero, List.append_assoc]; rfl
set_option maxRecDepth 100000 in
set_option maxHeartbeats 1600000 in
theorem turn_good (s : ByteArray) (v : UInt8) (w : World) (hs : s.size ≤ 281474976702464) (hok : okL [48, 49] s.data.toList = true) (hv : isLv v) :
    Calls Tryd.prog 46 #[.string s, .int .u8 (v.toNat : Int)] w fun e w' => e = .returned (.tuple #[.string ⟨(turn v s.data.toList).toArray⟩, .int .i64 0]) ∧ Below w.heap.size w w' := by
  have HIS := Lib.hid (is_calls s ⟨#[48, 49]⟩ w (by omega) (.inl rfl))
  rw [show okL (⟨#[48, 49]⟩ : ByteArray).data.toList s.data.toList = true from hok] at HIS
  have HV := Lib.hid hv
  have hl : s.data.toList.length = s.size := by simp
  obtain ⟨l, hll⟩ : ∃ l, s.data.toList = l := ⟨_, rfl⟩
  have HLL := Lib.hid hll
  rw [hll] at hl ⊢
  have HL := Lib.hid hl
  clear hok hv hll hl
  go_enter Tryd.func46, Tryd.ntmps46
  go_upto_region 1 with (fail)
  go_cut [18] from 8 to 17 (fun q wx => q = .bool false ∧ Hid (Below w.heap.size w wx))
  case first =>
    rcases HV.out with rfl | rfl
    all_goals
      go_wp2_with fail
      refine HIS.out.mono ?_
      rintro e w1 ⟨rfl, hb⟩
      have HB := Lib.hid hb
      clear hb
      go_wp2_with fail
      go_meet
      exact ⟨rfl, HB⟩
  obtain ⟨rfl, HB⟩ := hcut
  clear HIS
  have hm := make_bytes s.size hs wc
  have HBY := Lib.hid (byt_made s.size wc)
  have HB1 := Lib.hid (Kt.balloc HB.out (.cells (madeCells #[.int .u8 0] s.size) 5))
  have hwz := HB.out.size
  go_wp2_with fail
  clear hm HB
  generalize (wc.alloc (.cells (madeCells #[.int .u8 0] s.size) 5)) = W at *
  generalize wc.heap.size = g at *
  go_loopw [1, 24] (fun x i wr => ∃ (k : Nat) (u : UInt8), k ≤ s.size ∧ i = .int .i64 k ∧ x = .int .u8 (u.toNat : Int) ∧ Hid (isLv u) ∧ Hid (lastL v (l.take k) = u) ∧ Hid (Kt.Byt wr g (turn v (l.take k) ++ List.replicate (s.size - k) 0)) ∧ Hid (Below w.heap.size w wr)) (fun _ i _ => s.size - (intOf i).toNat)
  case atStart => exact ⟨0, v, Nat.zero_le _, rfl, rfl, HV, Lib.hid rfl, Lib.hid (by simpa [turn] using HBY.out), HB1⟩
  case round =>
    clear HBY HB1
    obtain ⟨k, u, hk, rfl, rfl, HU, HLA, HBY, HB1⟩ := hrel
    by_cases hlt : k < s.size
    · have hkl : k < l.length := by rw [HL.out]; exact hlt
      obtain ⟨b, hb⟩ : ∃ b, s[k] = b := ⟨_, rfl⟩
      have HTK : Hid (l.take (k + 1) = l.take k ++ [b]) := Lib.hid (by
        have h2 := List.take_succ_eq_append_getElem hkl
        rw [h2, ← hb]
        have := HLL.out
        subst this
        rfl)
      have HLN : Hid (lastL v (l.take (k + 1)) = lvl u b ∧ turn v (l.take (k + 1)) = turn v (l.take k) ++ [lvl u b]) := Lib.hid (by
        rw [HTK.out, turn_app, HLA.out]
        refine ⟨?_, rfl⟩
        have key : ∀ (a : List UInt8) (v : UInt8), lastL v (a ++ [b]) = lvl (lastL v a) b := by
          intro a
          induction a with
          | nil => intro v; rfl
          | cons x a ih => intro v; exact ih (lvl v x)
        rw [key, HLA.out])
      have hlen : (turn v (l.take k)).length = k := by rw [turn_len, List.length_take]; omega
      have hall : k < (turn v (l.take k) ++ List.replicate (s.size - k) 0).length := by rw [List.length_append, List.length_replicate, hlen]; omega
      have x0 := HBY.out.1 k hall
      have x1 := HBY.out.2 k hall
      have HSET := Lib.hid (fun x => HBY.out.set k hall x)
      have HLEN := Lib.hid hlen
      obtain ⟨y, hy⟩ : ∃ y, (turn v (l.take k) ++ List.replicate (s.size - k) 0)[k]'hall = y := ⟨_, rfl⟩
      rw [hy] at x0
      clear hy hlen hall hkl
      by_cases h48 : b = 48
      · have e1 : ((b.toNat : Int) == 48) = true := by rw [h48]; rfl
        have HO := Lib.hid (other_calls u HU.out)
        have HL48 : Hid (lvl u b = oth u) := Lib.hid (if_pos h48)
        clear h48
        go_wp2_with fail
        refine (HO.out _).mono ?_
        rintro e w2 ⟨rfl, rfl⟩
        go_wp2_with fail
        go_roundw
        case rel =>
          refine ⟨k + 1, oth u, by omega, by go_num, rfl, Lib.hid (HL48.out ▸ lvl_is HU.out), Lib.hid (by rw [HLN.out.1, HL48.out]), Lib.hid ?_, Lib.hid (HB1.out.setCell (p := ⟨g, k, none⟩) (by show w.heap.size ≤ g; omega) _)⟩
          rw [HLN.out.2, HL48.out, ← fill_set _ _ _ _ HLEN.out hlt]
          exact HSET.out (oth u)
        case measure => (simp [intOf] <;> omega)
      · have e1 : ((b.toNat : Int) == 48) = false := by
          rw [beq_eq_false_iff_ne]
          intro h
          exact h48 (UInt8.toNat_inj.1 (by show b.toNat = 48; omega))
        have HL48 : Hid (lvl u b = u) := Lib.hid (if_neg h48)
        clear h48
        go_wp2_with fail
        go_roundw
        case rel =>
          refine ⟨k + 1, u, by omega, by go_num, rfl, HU, Lib.hid (by rw [HLN.out.1, HL48.out]), Lib.hid ?_, Lib.hid (HB1.out.setCell (p := ⟨g, k, none⟩) (by show w.heap.size ≤ g; omega) _)⟩
          rw [HLN.out.2, HL48.out, ← fill_set _ _ _ _ HLEN.out hlt]
          exact HSET.out u
        case measure => (simp [intOf] <;> omega)
    · obtain rfl : k = s.size := by omega
      have hby := HBY.out
      rw [Nat.sub_self, List.replicate_zero, List.append_nil, List.take_of_length_le (by rw [HL.out]; exact Nat.le_refl _)] at hby
      have hcv := hby.back (P := Tryd.prog) 49 9 5 s.size s.size (by rw [turn_len, HL.out]) Tryd.underlying49 Tryd.underlying5 Tryd.underlying9
      clear hby hlt hk
      go_wp2_with fail
      go_ret2
      exact ⟨rfl, HB1.out⟩
set_option maxRecDepth 100000 in
theorem turn_bad (s : ByteArray) (v : UInt8) (w : World) (hs : s.size ≤ 281474976702464) (h : ¬ (okL [48, 49] s.data.toList = true ∧ isLv v)) :
    Calls Tryd.prog 46 #[.string s, .int .u8 (v.toNat : Int)] w fun e w' => e = .returned (.tuple #[.string ⟨#[]⟩, .int .i64 1]) ∧ Below w.heap.size w w' := by
  have HIS := Lib.hid (is_calls s ⟨#[48, 49]⟩ w (by omega) (.inl rfl))
  obtain ⟨q, hq⟩ : ∃ q, okL [48, 49] s.data.toList = q := ⟨_, rfl⟩
  rw [show okL (⟨#[48, 49]⟩ : ByteArray).data.toList s.data.toList = q from hq] at HIS
  rw [hq] at h
  clear hq hs
  cases q with
  | false =>
    clear h
    go_enter Tryd.func46, Tryd.ntmps46
    go_wp2_with fail
    refine HIS.out.mono ?_
    rintro e w1 ⟨rfl, hb⟩
    have HB := Lib.hid hb
    clear hb
    go_wp2_with fail
    go_ret2
    exact ⟨rfl, HB.out⟩
  | true =>
    have h1 : ¬ isLv v := fun hv => h ⟨rfl, hv⟩
    have e1 : ((v.toNat : Int) != 74) = true := by
      rw [bne_iff_ne]; intro e; exact h1 (.inl (UInt8.toNat_inj.1 (by show v.toNat = 74; omega)))
    have e2 : ((v.toNat : Int) != 75) = true := by
      rw [bne_iff_ne]; intro e; exact h1 (.inr (UInt8.toNat_inj.1 (by show v.toNat = 75; omega)))
    clear h h1
    go_enter Tryd.func46, Tryd.ntmps46
    go_wp2_with fail
    refine HIS.out.mono ?_
    rintro e w1 ⟨rfl, hb⟩
    have HB := Lib.hid hb
    clear hb
    go_wp2_with fail
    go_ret2
    exact ⟨rfl, HB.out⟩
theorem turn_calls (s : ByteArray) (v : UInt8) (w : World) (hs : s.size ≤ 281474976702464) :
    Calls Tryd.prog 46 #[.string s, .int .u8 (v.toNat : Int)] w fun e w' => e = .returned (.tuple #[.string (turnR s v).1, .int .i64 (turnR s v).2]) ∧ Below w.heap.size w w' := by
  unfold turnR
  by_cases h : okL [48, 49] s.data.toList = true ∧ isLv v
  · rw [if_pos h]; exact turn_good s v w hs h.1 h.2
  · rw [if_neg h]; exact turn_bad s v w hs h
/-- the last level -/
def plast : UInt8 → List UInt8 → UInt8
  | v, [] => v
  | _, b :: l => plast b l
theorem plast_snoc : ∀ (a : List UInt8) (v b : UInt8), plast v (a ++ [b]) = b
  | [], _, _ => rfl
  | x :: a, _, b => plast_snoc a x b
theorem unturn_app : ∀ (a b : List UInt8) (v : UInt8), unturn v (a ++ b) = unturn v a ++ unturn (plast v a) b
  | [], _, _ => rfl
  | x :: a, b, v => by simp [unturn, plast, unturn_app a b]
def unturnR (s : ByteArray) (v : UInt8) : ByteArray × Int := if okL [74, 75] s.data.toList = true ∧ isLv v then (⟨(unturn v s.data.toList).toArray⟩, 0) else (⟨#[]⟩, 1)
set_option maxRecDepth 100000 in
set_option maxHeartbeats 1600000 in
theorem unturn_good (s : ByteArray) (v : UInt8) (w : World) (hs : s.size ≤ 281474976702464) (hok : okL [74, 75] s.data.toList = true) (hv : isLv v) :
    Calls Tryd.prog 55 #[.string s, .int .u8 (v.toNat : Int)] w fun e w' => e = .returned (.tuple #[.string ⟨(unturn v s.data.toList).toArray⟩, .int .i64 0]) ∧ Below w.heap.size w w' := by
  have HIS := Lib.hid (is_calls s ⟨#[74, 75]⟩ w (by omega) (.inr rfl))
  rw [show okL (⟨#[74, 75]⟩ : ByteArray).data.toList s.data.toList = true from hok] at HIS
  have HV := Lib.hid hv
  have hl : s.data.toList.length = s.size := by simp
  obtain ⟨l, hll⟩ : ∃ l, s.data.toList = l := ⟨_, rfl⟩
  have HLL := Lib.hid hll
  rw [hll] at hl ⊢
  have HL := Lib.hid hl
  clear hok hv hll hl
  go_enter Tryd.func55, Tryd.ntmps55
  go_upto_region 1 with (fail)
  go_cut [18] from 8 to 17 (fun q wx => q = .bool false ∧ Hid (Below w.heap.size w wx))
  case first =>
    rcases HV.out with rfl | rfl
    all_goals
      go_wp2_with fail
      refine HIS.out.mono ?_
      rintro e w1 ⟨rfl, hb⟩
      have HB := Lib.hid hb
      clear hb
      go_wp2_with fail
      go_meet
      exact ⟨rfl, HB⟩
  obtain ⟨rfl, HB⟩ := hcut
  clear HIS
  have hm := make_bytes s.size hs wc
  have HBY := Lib.hid (byt_made s.size wc)
  have HB1 := Lib.hid (Kt.balloc HB.out (.cells (madeCells #[.int .u8 0] s.size) 5))
  have hwz := HB.out.size
  go_wp2_with fail
  clear hm HB
  generalize (wc.alloc (.cells (madeCells #[.int .u8 0] s.size) 5)) = W at *
  generalize wc.heap.size = g at *
  go_loopw [1, 24] (fun x i wr => ∃ (k : Nat) (u : UInt8), k ≤ s.size ∧ i = .int .i64 k ∧ x = .int .u8 (u.toNat : Int) ∧ Hid (plast v (l.take k) = u) ∧ Hid (Kt.Byt wr g (unturn v (l.take k) ++ List.replicate (s.size - k) 0)) ∧ Hid (Below w.heap.size w wr)) (fun _ i _ => s.size - (intOf i).toNat)
  case atStart => exact ⟨0, v, Nat.zero_le _, rfl, rfl, Lib.hid rfl, Lib.hid (by simpa [unturn] using HBY.out), HB1⟩
  case round =>
    clear HBY HB1
    obtain ⟨k, u, hk, rfl, rfl, HLA, HBY, HB1⟩ := hrel
    by_cases hlt : k < s.size
    · have hkl : k < l.length := by rw [HL.out]; exact hlt
      obtain ⟨b, hb⟩ : ∃ b, s[k] = b := ⟨_, rfl⟩
      have HTK : Hid (l.take (k + 1) = l.take k ++ [b]) := Lib.hid (by
        have h2 := List.take_succ_eq_append_getElem hkl
        rw [h2, ← hb]
        have := HLL.out
        subst this
        rfl)
      have HLN : Hid (plast v (l.take (k + 1)) = b ∧ unturn v (l.take (k + 1)) = unturn v (l.take k) ++ [unt u b]) := Lib.hid (by
        rw [HTK.out, unturn_app, plast_snoc, HLA.out]
        exact ⟨rfl, rfl⟩)
      have hlen : (unturn v (l.take k)).length = k := by rw [unturn_len, List.length_take]; omega
      have hall : k < (unturn v (l.take k) ++ List.replicate (s.size - k) 0).length := by rw [List.length_append, List.length_replicate, hlen]; omega
      have x0 := HBY.out.1 k hall
      have x1 := HBY.out.2 k hall
      have HSET := Lib.hid (fun x => HBY.out.set k hall x)
      have HSET2 := Lib.hid (fun x y => (HBY.out.set k hall x).set k (by rw [List.length_set]; exact hall) y)
      have HLEN := Lib.hid hlen
      obtain ⟨y, hy⟩ : ∃ y, (unturn v (l.take k) ++ List.replicate (s.size - k) 0)[k]'hall = y := ⟨_, rfl⟩
      rw [hy] at x0
      clear hy hlen hall hkl
      by_cases h48 : b = u
      · have e1 : ((b.toNat : Int) != u.toNat) = false := by rw [h48]; simp
        have HL48 : Hid (unt u b = 49) := Lib.hid (if_pos h48)
        clear h48
        go_wp2_with fail
        go_roundw
        case rel =>
          refine ⟨k + 1, b, by omega, by go_num, rfl, Lib.hid HLN.out.1, Lib.hid ?_, Lib.hid (HB1.out.setCell (p := ⟨g, k, none⟩) (by show w.heap.size ≤ g; omega) _)⟩
          rw [HLN.out.2, HL48.out, ← fill_set _ _ _ _ HLEN.out hlt]
          exact HSET.out 49
        case measure => (simp [intOf] <;> omega)
      · have e1 : ((b.toNat : Int) != u.toNat) = true := by
          rw [bne_iff_ne]
          intro h
          exact h48 (UInt8.toNat_inj.1 (by omega))
        have HL48 : Hid (unt u b = 48) := Lib.hid (if_neg h48)
        clear h48
        go_wp2_with fail
        go_roundw
        case rel =>
          refine ⟨k + 1, b, by omega, by go_num, rfl, Lib.hid HLN.out.1, Lib.hid ?_, Lib.hid ((HB1.out.setCell (p := ⟨g, k, none⟩) (by show w.heap.size ≤ g; omega) _).setCell (p := ⟨g, k, none⟩) (by show w.heap.size ≤ g; omega) _)⟩
          rw [HLN.out.2, HL48.out, ← fill_set _ _ _ _ HLEN.out hlt]
          have h := HSET2.out 49 48
          rw [List.set_set] at h
          exact h
        case measure => (simp [intOf] <;> omega)
    · obtain rfl : k = s.size := by omega
      have hby := HBY.out
      rw [Nat.sub_self, List.replicate_zero, List.append_nil, List.take_of_length_le (by rw [HL.out]; exact Nat.le_refl _)] at hby
      have hcv := hby.back (P := Tryd.prog) 49 9 5 s.size s.size (by rw [unturn_len, HL.out]) Tryd.underlying49 Tryd.underlying5 Tryd.underlying9
      clear hby hlt hk
      go_wp2_with fail
      go_ret2
      exact ⟨rfl, HB1.out⟩
set_option maxRecDepth 100000 in
theorem unturn_bad (s : ByteArray) (v : UInt8) (w : World) (hs : s.size ≤ 281474976702464) (h : ¬ (okL [74, 75] s.data.toList = true ∧ isLv v)) :
    Calls Tryd.prog 55 #[.string s, .int .u8 (v.toNat : Int)] w fun e w' => e = .returned (.tuple #[.string ⟨#[]⟩, .int .i64 1]) ∧ Below w.heap.size w w' := by
  have HIS := Lib.hid (is_calls s ⟨#[74, 75]⟩ w (by omega) (.inr rfl))
  obtain ⟨q, hq⟩ : ∃ q, okL [74, 75] s.data.toList = q := ⟨_, rfl⟩
  rw [show okL (⟨#[74, 75]⟩ : ByteArray).data.toList s.data.toList = q from hq] at HIS
  rw [hq] at h
  clear hq hs
  cases q with
  | false =>
    clear h
    go_enter Tryd.func55, Tryd.ntmps55
    go_wp2_with fail
    refine HIS.out.mono ?_
    rintro e w1 ⟨rfl, hb⟩
    have HB := Lib.hid hb
    clear hb
    go_wp2_with fail
    go_ret2
    exact ⟨rfl, HB.out⟩
  | true =>
    have h1 : ¬ isLv v := fun hv => h ⟨rfl, hv⟩
    have e1 : ((v.toNat : Int) != 74) = true := by
      rw [bne_iff_ne]; intro e; exact h1 (.inl (UInt8.toNat_inj.1 (by show v.toNat = 74; omega)))
    have e2 : ((v.toNat : Int) != 75) = true := by
      rw [bne_iff_ne]; intro e; exact h1 (.inr (UInt8.toNat_inj.1 (by show v.toNat = 75; omega)))
    clear h h1
    go_enter Tryd.func55, Tryd.ntmps55
    go_wp2_with fail
    refine HIS.out.mono ?_
    rintro e w1 ⟨rfl, hb⟩
    have HB := Lib.hid hb
    clear hb
    go_wp2_with fail
    go_ret2
    exact ⟨rfl, HB.out⟩
theorem unturn_calls (s : ByteArray) (v : UInt8) (w : World) (hs : s.size ≤ 281474976702464) :
    Calls Tryd.prog 55 #[.string s, .int .u8 (v.toNat : Int)] w fun e w' => e = .returned (.tuple #[.string (unturnR s v).1, .int .i64 (unturnR s v).2]) ∧ Below w.heap.size w w' := by
  unfold unturnR
  by_cases h : okL [74, 75] s.data.toList = true ∧ isLv v
  · rw [if_pos h]; exact unturn_good s v w hs h.1 h.2
  · rw [if_neg h]; exact unturn_bad s v w hs h
end Go.Proofs.YtmnmlnnhngnfbaaDoor
