/- The walk of lane.Bytes. -/
import Derived.Test.YtmnmlnnhngnfbaaDoorLanY
import Derived.IntWalk
import Derived.StillTailTactics
namespace Go.Proofs.YtmnmlnnhngnfbaaDoor
open Go.RowKit Go.Proofs.YtmnmlnnhngnfbaaDoor.Lan
theorem okL_bit {l : List UInt8} (h : okL [48, 49] l = true) : ∀ b ∈ l, bit b := by
  intro b hb
  have := List.all_eq_true.1 h b hb
  simp at this
  exact this
set_option maxRecDepth 100000 in
theorem bytes_stop1 (s : ByteArray) (w : World) (hs : s.size + 2 ≤ 140737488355328) (h : okL [48, 49] s.data.toList = false) :
    Calls Tryd.prog 58 #[.string s] w fun e w' => e = .returned (.tuple #[.string ⟨#[]⟩, .int .i64 1]) ∧ Below w.heap.size w w' := by
  have HIS := Lib.hid (is_calls s ⟨#[48, 49]⟩ w (by omega) (.inl rfl))
  rw [show okL (⟨#[48, 49]⟩ : ByteArray).data.toList s.data.toList = false from h] at HIS
  clear h hs
  go_enter Tryd.func58, Tryd.ntmps58
  go_wp2_with fail
  refine HIS.out.mono ?_
  rintro e w1 ⟨rfl, hb⟩
  have HB := Lib.hid hb
  clear hb
  go_wp2_with fail
  go_ret2
  exact ⟨rfl, HB.out⟩
set_option maxRecDepth 100000 in
theorem bytes_stop2 (s : ByteArray) (w : World) (hs : s.size + 2 ≤ 140737488355328) (h : okL [48, 49] s.data.toList = true) (h8 : ¬ s.size % 8 = 0) :
    Calls Tryd.prog 58 #[.string s] w fun e w' => e = .returned (.tuple #[.string ⟨#[]⟩, .int .i64 4]) ∧ Below w.heap.size w w' := by
  have HIS := Lib.hid (is_calls s ⟨#[48, 49]⟩ w (by omega) (.inl rfl))
  rw [show okL (⟨#[48, 49]⟩ : ByteArray).data.toList s.data.toList = true from h] at HIS
  have e1 : (((s.size : Int) % 8) != 0) = true := by
    rw [bne_iff_ne]
    omega
  clear h h8 hs
  go_enter Tryd.func58, Tryd.ntmps58
  go_wp2_with fail
  refine HIS.out.mono ?_
  rintro e w1 ⟨rfl, hb⟩
  have HB := Lib.hid hb
  clear hb
  go_wp2_with fail
  go_ret2
  exact ⟨rfl, HB.out⟩
/-- a byte with a bit more -/
def put1 (y b : UInt8) (m : Nat) : UInt8 := UInt8.ofNat (y.toNat + (b.toNat - 48) * 2 ^ m)
theorem put_table : ∀ m : Fin 8, ∀ n : Fin 256, n.val < 2 ^ m.val → ∀ b : Fin 2, bits BinOp.or IntKind.u8 ((UInt8.ofNat n.val).toNat : Int) (((b.val : Int) * 2 ^ m.val) % 256) = ((put1 (UInt8.ofNat n.val) (UInt8.ofNat (48 + b.val)) m.val).toNat : Int) := by decide +kernel
theorem put_is (y b : UInt8) (m : Nat) (h : m < 8) (hb : bit b) (hy : y.toNat < 2 ^ m) : bits BinOp.or IntKind.u8 (y.toNat : Int) (((((b.toNat : Int) - 48) % 256) * 2 ^ m) % 256) = ((put1 y b m).toNat : Int) := by
  have h1 := put_table ⟨m, h⟩ ⟨y.toNat, y.toNat_lt⟩ hy
  dsimp only at h1
  rw [of_nat] at h1
  rcases hb with rfl | rfl
  · exact h1 0
  · exact h1 1
theorem put_is2 (y b : UInt8) (m : Nat) (h : m < 8) (hb : bit b) (hy : y.toNat < 2 ^ m) : bits BinOp.or IntKind.u8 (y.toNat : Int) (IntKind.u8.wrap (IntKind.u8.wrap ((b.toNat : Int) - 48) * 2 ^ min (IntKind.u64.wrap (m : Int)).toNat 8)) = ((put1 y b m).toNat : Int) := by
  have e : min (IntKind.u64.wrap (m : Int)).toNat 8 = m := by
    have : IntKind.u64.wrap (m : Int) = (m : Int) % 18446744073709551616 := rfl
    rw [this]; omega
  rw [e]
  exact put_is y b m h hb hy
theorem bytes_zero (l : List UInt8) (d : Nat) (h : l.length = 8 * d) : bytesN l 0 = List.replicate d 0 := by
  have e : l.length / 8 = d := by omega
  apply List.ext_getElem
  · rw [bytesN_len, List.length_replicate, e]
  · intro i h1 h2
    rw [bytesN_len] at h1
    rw [bytesN_at l 0 i h1, List.getElem_replicate]
    have : min 8 (0 - 8 * i) = 0 := by omega
    rw [this]; rfl
set_option maxRecDepth 100000 in
set_option maxHeartbeats 1600000 in
theorem bytes_good (s : ByteArray) (w : World) (hs : s.size + 2 ≤ 140737488355328) (hok : okL [48, 49] s.data.toList = true) (h8 : s.size % 8 = 0) :
    Calls Tryd.prog 58 #[.string s] w fun e w' => e = .returned (.tuple #[.string ⟨(bytesL s.data.toList).toArray⟩, .int .i64 0]) ∧ Below w.heap.size w w' := by
  have HIS := Lib.hid (is_calls s ⟨#[48, 49]⟩ w (by omega) (.inl rfl))
  rw [show okL (⟨#[48, 49]⟩ : ByteArray).data.toList s.data.toList = true from hok] at HIS
  have HOK := Lib.hid (okL_bit hok)
  have hl : s.data.toList.length = s.size := by simp
  obtain ⟨l, hll⟩ : ∃ l, s.data.toList = l := ⟨_, rfl⟩
  have HLL := Lib.hid hll
  rw [hll] at hl HOK ⊢
  have HL := Lib.hid hl
  obtain ⟨d, hd⟩ : ∃ d, s.size = 8 * d := ⟨s.size / 8, by omega⟩
  have e1 : (s.size : Int) % 8 = 0 := by omega
  have e2 : (s.size : Int) / 8 = (d : Int) := by omega
  have e3 : wrap64 (d : Int) = (d : Int) := by unfold wrap64; omega
  have HD := Lib.hid hd
  clear hok hll hl h8
  go_enter Tryd.func58, Tryd.ntmps58
  go_wp2_with fail
  refine HIS.out.mono ?_
  rintro e w1 ⟨rfl, hb⟩
  have hm := make_bytes d (by omega) w1
  have HBY := Lib.hid (byt_made d w1)
  have HB1 := Lib.hid (Kt.balloc hb (.cells (madeCells #[.int .u8 0] d) 5))
  have hgs := hb.size
  clear hb HIS hd
  go_wp2_with fail
  clear hm e1 e2 e3
  generalize (w1.alloc (.cells (madeCells #[.int .u8 0] d) 5)) = W at *
  generalize w1.heap.size = g at *
  generalize (s.size : Int) % 8 = rem0 at *
  go_loopw [21] (fun i wr => ∃ (k : Nat), k ≤ s.size ∧ i = .int .i64 k ∧ Hid (Kt.Byt wr g (bytesN l k)) ∧ Hid (Below w.heap.size w wr)) (fun i _ => s.size - (intOf i).toNat)
  case atStart => exact ⟨0, Nat.zero_le _, rfl, Lib.hid (by rw [bytes_zero _ _ (by rw [HL.out, HD.out])]; exact HBY.out), HB1⟩
  case round =>
    clear HBY HB1
    obtain ⟨k, hk, rfl, HBY, HB1⟩ := hrel
    by_cases hlt : k < s.size
    · have hkl : k < l.length := by rw [HL.out]; exact hlt
      obtain ⟨b, hb⟩ : ∃ b, s[k] = b := ⟨_, rfl⟩
      have hbl : l[k] = b := by
        rw [← hb]
        have := HLL.out
        subst this
        rfl
      have hbit : bit b := hbl ▸ HOK.out _ (List.getElem_mem hkl)
      obtain ⟨q, hq⟩ : ∃ q, k / 8 = q := ⟨_, rfl⟩
      obtain ⟨m, hm⟩ : ∃ m, k % 8 = m := ⟨_, rfl⟩
      have hm8 : m < 8 := by omega
      have hqd : q < d := by have := HD.out; omega
      have hlen : (bytesN l k).length = d := by rw [bytesN_len, HL.out, HD.out]; omega
      have hql : q < (bytesN l k).length := by omega
      have hacc := acc_lt l q HOK.out m
      have hp8 : 2 ^ m ≤ 128 := Nat.pow_le_pow_right (by omega) (show m ≤ 7 by omega)
      obtain ⟨y, hy⟩ : ∃ y, (bytesN l k)[q] = y := ⟨_, rfl⟩
      have hyv : y = UInt8.ofNat (acc l q m) := by
        rw [← hy, bytesN_at l k q (by rw [HL.out, HD.out]; omega)]
        congr 2; omega
      have hyn : y.toNat = acc l q m := by rw [hyv, UInt8.toNat_ofNat']; omega
      have x0 := HBY.out.1 q hql
      have x1 := HBY.out.2 q hql
      rw [hy] at x0
      have HSTEP : Hid (bytesN l (k + 1) = (bytesN l k).set q (put1 y b m)) := Lib.hid (by
        have h := bytesN_step l k (by rw [HL.out, HD.out]; omega) hkl
        rw [hq, hm, ← hyn, hbl] at h
        exact h)
      have HPUT := Lib.hid (put_is2 y b m hm8 hbit (by rw [hyn]; exact hacc))
      have HSET := Lib.hid (Kt.Byt.set (w := wr.drew) HBY.out q hql (put1 y b m))
      have e4 : (k : Int).tdiv 8 = (q : Int) := by
        rw [Int.tdiv_eq_ediv_of_nonneg (by omega)]; omega
      have e6 : IntKind.i64.wrap (q : Int) = (q : Int) := IntWalk.i64_in _ (by omega)
      have e5 : (k : Int).tmod 8 = (m : Int) := by
        rw [Int.tmod_eq_emod_of_nonneg (by omega)]; omega
      have eq0 : (0 : Int) ≤ (q : Int) := by omega
      have eq2 : (q : Int) < (d : Int) := by omega
      have HM := Lib.hid hm8
      clear hacc hp8 hyn hyv hy hql hlen hbl hkl hbit hq hm hm8
      have HQ := Lib.hid hqd
      clear hqd
      go_wp2_with fail
      refine wp_region_still_tail 15 (by kernel_rfl) (by kernel_rfl) ?_
      simp only [List.take_succ_cons, List.take_zero, List.drop_succ_cons, List.drop_zero]
      change wpStill _ _ wr.drew _ _ _
      iterate 15 still_step
      refine wpStill_nil ?_
      change wpList _ _ _ _ _ wr.drew
      rw [HPUT.out]
      have x2 : wr.drew.cell? ⟨g, q, none⟩ = some (.int .u8 (y.toNat : Int)) := x0
      have x3 : wr.drew.frozen? ⟨g, q, none⟩ = false := x1
      have HB2 := Lib.hid (HB1.out.drew)
      clear x0 x1 HBY HB1 e4 e5 e6 HPUT
      generalize IntKind.u8.wrap (IntKind.u8.wrap ((b.toNat : Int) - 48) * 2 ^ min (IntKind.u64.wrap (m : Int)).toNat 8) = z1
      generalize IntKind.u8.wrap ((b.toNat : Int) - 48) = z2
      generalize IntKind.u64.wrap (m : Int) = z3
      generalize wr.drew = w4 at *
      go_wp2_with fail
      go_roundw
      case rel => exact ⟨k + 1, by omega, by go_num, Lib.hid (by rw [HSTEP.out]; exact HSET.out), Lib.hid (HB2.out.setCell (p := ⟨g, q, none⟩) hgs _)⟩
      case measure => (simp [intOf] <;> omega)
    · obtain rfl : k = s.size := by omega
      have hby := HBY.out
      have hn : bytesN l s.size = bytesL l := by rw [← HL.out]; rfl
      rw [hn] at hby
      have hcv := hby.back (P := Tryd.prog) 49 9 5 d d (by rw [← hn, bytesN_len, HL.out, HD.out]; omega) Tryd.underlying49 Tryd.underlying5 Tryd.underlying9
      clear hby hlt hk hn
      go_wp2_with fail
      go_ret2
      exact ⟨rfl, HB1.out⟩
def bytesR (s : ByteArray) : ByteArray × Int := if okL [48, 49] s.data.toList = true then (if s.size % 8 = 0 then (⟨(bytesL s.data.toList).toArray⟩, 0) else (⟨#[]⟩, 4)) else (⟨#[]⟩, 1)
theorem bytes_calls (s : ByteArray) (w : World) (hs : s.size + 2 ≤ 140737488355328) :
    Calls Tryd.prog 58 #[.string s] w fun e w' => e = .returned (.tuple #[.string (bytesR s).1, .int .i64 (bytesR s).2]) ∧ Below w.heap.size w w' := by
  unfold bytesR
  by_cases h : okL [48, 49] s.data.toList = true
  · by_cases h8 : s.size % 8 = 0
    · rw [if_pos h, if_pos h8]; exact bytes_good s w hs h h8
    · rw [if_pos h, if_neg h8]; exact bytes_stop2 s w hs h h8
  · rw [if_neg h]; exact bytes_stop1 s w hs (by simpa using h)
end Go.Proofs.YtmnmlnnhngnfbaaDoor
