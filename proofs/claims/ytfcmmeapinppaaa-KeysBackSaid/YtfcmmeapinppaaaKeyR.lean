/- The walk of keys.Read. -/
import Derived.Test.YtfcmmeapinppaaaKeyW
namespace Go.Proofs.Ytfcmmeapinppaaa
open Go.RowKit
def Hd.zero : Hd := ⟨0, 0, 0, 0⟩
theorem zero_vs : Hd.zero.vs = #[.int .u64 0, .int .u64 0, .int .u64 0, .int .u64 0] := rfl
/-- the keys with a bit of their own -/
def mods (b : UInt8) : Nat → Hd
  | 0 => Hd.zero
  | k + 1 => if (b.toNat / 2 ^ k) % 2 = 1 then (mods b k).add (224 + k) else mods b k
/-- a set, with the marks full and bad -/
structure Rs where
  h : Hd
  full : Bool
  bad : Bool
def Rs.step (r : Rs) (c : UInt8) : Rs := if c = 1 then { r with full := true } else if c = 2 ∨ c = 3 then { r with bad := true } else if 3 < c.toNat then { r with h := r.h.add c.toNat } else r
def Rs.run (r : Rs) (l : List UInt8) : Rs := l.foldl Rs.step r
def Rs.out (r : Rs) : Hd × Int := if r.full then (Hd.zero, 11) else if r.bad then (Hd.zero, 4) else (r.h, 0)
def readR (l : List UInt8) : Hd × Int := match l with
  | [a, b, c2, c3, c4, c5, c6, c7] => (Rs.run ⟨mods a 8, false, b != 0⟩ [c2, c3, c4, c5, c6, c7]).out
  | l => (Hd.zero, if l.length < 8 then 3 else 4)
theorem bit8_table : ∀ n : Fin 256, ∀ k : Fin 8, (bits BinOp.and IntKind.u8 (((UInt8.ofNat n.val).toNat : Int) / 2 ^ k.val) 1 == 1) = (decide (((UInt8.ofNat n.val).toNat / 2 ^ k.val) % 2 = 1)) := by decide +kernel
theorem bit8_is (b : UInt8) (k : Nat) (h : k < 8) : (bits BinOp.and IntKind.u8 ((b.toNat : Int) / 2 ^ k) 1 == 1) = decide ((b.toNat / 2 ^ k) % 2 = 1) := by
  have := bit8_table ⟨b.toNat, b.toNat_lt⟩ ⟨k, h⟩
  dsimp only at this
  rwa [show UInt8.ofNat b.toNat = b by simp] at this
theorem four {w wr : World} (h : Below w.heap.size w wr) (a b c d : Value) : Below w.heap.size w ((((wr.setCell ⟨w.heap.size, 0, none⟩ a).setCell ⟨w.heap.size, 1, none⟩ b).setCell ⟨w.heap.size, 2, none⟩ c).setCell ⟨w.heap.size, 3, none⟩ d) :=
  (((h.setCell (p := ⟨w.heap.size, 0, none⟩) (Nat.le_refl _) a).setCell (p := ⟨w.heap.size, 1, none⟩) (Nat.le_refl _) b).setCell (p := ⟨w.heap.size, 2, none⟩) (Nat.le_refl _) c).setCell (p := ⟨w.heap.size, 3, none⟩) (Nat.le_refl _) d
set_option maxHeartbeats 1600000 in
theorem read_good (s : ByteArray) (w : World) (h8 : s.size = 8) : Calls Try.prog 9 #[.string s] w fun e w' => e = .returned (.tuple #[(readR s.data.toList).1.v, .int .i64 (readR s.data.toList).2]) ∧ Below w.heap.size w w' := by
  obtain ⟨a, b, c2, c3, c4, c5, c6, c7, hs⟩ : ∃ a b c2 c3 c4 c5 c6 c7, s.data.toList = [a, b, c2, c3, c4, c5, c6, c7] := by
    have hl : s.data.toList.length = 8 := by simpa using h8
    match s.data.toList, hl with
    | [a, b, c2, c3, c4, c5, c6, c7], _ => exact ⟨a, b, c2, c3, c4, c5, c6, c7, rfl⟩
  have HRD : Hid (readR s.data.toList = (Rs.run ⟨mods a 8, false, b != 0⟩ [c2, c3, c4, c5, c6, c7]).out) := Lib.hid (by rw [hs]; rfl)
  have hat : ∀ (i : Nat) (hi : i < s.size) (x : UInt8), [a, b, c2, c3, c4, c5, c6, c7][i]? = some x → s[i] = x := by
    intro i hi x hx
    rw [← hs, Array.getElem?_toList] at hx
    exact (Array.getElem?_eq_some_iff.1 hx).2
  have s0 := hat 0 (by omega) a rfl
  have s1 := hat 1 (by omega) b rfl
  have HAT : Hid (∀ (i : Nat) (hi : i + 2 < s.size) (x : UInt8), [c2, c3, c4, c5, c6, c7][i]? = some x → s[i + 2] = x) := Lib.hid (fun i hi x hx => hat (i + 2) hi x (by simpa using hx))
  clear hat hs
  obtain ⟨l, hl⟩ : ∃ l, [c2, c3, c4, c5, c6, c7] = l := ⟨_, rfl⟩
  have HL : Hid (l.length = 6) := Lib.hid (by rw [← hl]; rfl)
  rw [hl] at HAT HRD
  clear hl
  have hbz : ((b.toNat : Int) != 0) = (b != 0) := by
    rw [Bool.eq_iff_iff, bne_iff_ne, bne_iff_ne]
    exact ⟨fun h e => h (by rw [e]; rfl), fun h e => h (UInt8.toNat_inj.1 (by show b.toNat = 0; omega))⟩
  generalize readR s.data.toList = R at *
  go_enter Try.func9, Try.ntmps9
  go_wp2_with fail
  have HR1 := Lib.hid (show ((w.alloc (.cells Hd.zero.vs 27)).alloc (.cells Hd.zero.vs 27)).heap[w.heap.size]? = some (.cells Hd.zero.vs 27 (0, 0)) from
    (Below.heap_alloc _ _ _ (by rw [World.size_alloc]; omega)).trans (heap_alloc_new w _))
  have HR2 := Lib.hid (show ((w.alloc (.cells Hd.zero.vs 27)).alloc (.cells Hd.zero.vs 27)).heap[w.heap.size + 1]? = some (.cells Hd.zero.vs 27 (0, 0)) from by
    have := heap_alloc_new (w.alloc (.cells Hd.zero.vs 27)) (.cells Hd.zero.vs 27)
    rw [World.size_alloc] at this
    exact this)
  have HB := Lib.hid (Kt.balloc (Kt.balloc (Below.refl w.heap.size w) (.cells Hd.zero.vs 27)) (.cells Hd.zero.vs 27))
  refine Kt.fold (fun W => W = ((w.alloc (.cells Hd.zero.vs 27)).alloc (.cells Hd.zero.vs 27))) rfl (fun W hW => ?_)
  rw [← hW] at HR1 HR2 HB
  have HS8 := Lib.hid h8
  have HS0 : Hid (∀ h : 0 < s.size, s[0] = a) := Lib.hid (fun _ => s0)
  clear hW s1 hbz s0 h8
  generalize (b != 0) = bad0 at *
  go_loopw [23] (fun i wr => ∃ (k : Nat), k ≤ 8 ∧ i = .int .i64 k ∧ Hid (wr.heap[w.heap.size]? = some (.cells Hd.zero.vs 27 (0, 0))) ∧ Hid (wr.heap[w.heap.size + 1]? = some (.cells (mods a k).vs 27 (0, 0))) ∧ Hid (Below w.heap.size w wr)) (fun i _ => 8 - (intOf i).toNat)
  case atStart => exact ⟨0, Nat.zero_le _, rfl, HR1, HR2, HB⟩
  case round =>
    clear HR1 HR2 HB
    obtain ⟨k, hk, rfl, HR1, HR2, HB⟩ := hrel
    by_cases hlt : k < 8
    · have hb8 := bit8_is a k hlt
      by_cases hbit : (a.toNat / 2 ^ k) % 2 = 1
      · rw [decide_eq_true hbit] at hb8
        have HM : Hid (mods a (k + 1) = (mods a k).add (224 + k)) := Lib.hid (if_pos hbit)
        have HADD := Lib.hid (add_calls (mods a k) (224 + k) (w.heap.size + 1) (by omega) _ HR2.out)
        rw [show (((224 + k : Nat) : Int)) = 224 + (k : Int) by omega] at HADD
        clear hbit
        have hz0 : 0 < s.size := by rw [HS8.out]; omega
        have s0 := HS0.out hz0
        go_wp2_with fail
        refine HADD.out.mono ?_
        rintro e w2 ⟨rfl, hrow, hb⟩
        have HR3 := Lib.hid hrow
        have HR4 := Lib.hid ((hb.block _ (Nat.lt_succ_self _)).trans HR1.out)
        have HB2 := Lib.hid (HB.out.trans (hb.mono (Nat.le_succ _)))
        clear hrow hb HADD HR1 HR2 HB hb8
        go_wp2_with fail
        go_roundw
        case rel => exact ⟨k + 1, by omega, by go_num, HR4, Lib.hid (by rw [HM.out]; exact HR3.out), HB2⟩
        case measure => (simp [intOf] <;> omega)
      · rw [decide_eq_false hbit] at hb8
        have HM : Hid (mods a (k + 1) = mods a k) := Lib.hid (if_neg hbit)
        clear hbit
        have hz0 : 0 < s.size := by rw [HS8.out]; omega
        have s0 := HS0.out hz0
        go_wp2_with fail
        go_roundw
        case rel => exact ⟨k + 1, by omega, by go_num, HR1, Lib.hid (by rw [HM.out]; exact HR2.out), HB⟩
        case measure => (simp [intOf] <;> omega)
    · obtain rfl : k = 8 := by omega
      go_wp2_with fail
      generalize ((8 : Nat) : Int) = z8
      clear hlt hk HS0
      go_loopw [8, 5, 4] (fun i f d wr => ∃ (k : Nat) (r : Rs), k ≤ 6 ∧ i = .int .i64 ((k : Int) + 2) ∧ f = .bool r.full ∧ d = .bool r.bad ∧ Hid (wr.heap[w.heap.size]? = some (.cells Hd.zero.vs 27 (0, 0))) ∧ Hid (wr.heap[w.heap.size + 1]? = some (.cells r.h.vs 27 (0, 0))) ∧ Hid (R = (r.run (l.drop k)).out) ∧ Hid (Below w.heap.size w wr)) (fun i _ _ _ => 8 - (intOf i).toNat)
      case atStart => exact ⟨0, ⟨mods a 8, false, bad0⟩, Nat.zero_le _, rfl, rfl, rfl, HR1, HR2, HRD, HB⟩
      case round =>
        clear HR1 HR2 HRD HB
        obtain ⟨k, r, hk, rfl, rfl, rfl, HR1, HR2, HRD, HB⟩ := hrel
        by_cases hlt : k < 6
        · have hkl : k < l.length := by rw [HL.out]; exact hlt
          obtain ⟨x, hx⟩ : ∃ x, l[k] = x := ⟨_, rfl⟩
          have hks : k + 2 < s.size := by rw [HS8.out]; omega
          have sx := HAT.out k hks x (by rw [List.getElem?_eq_getElem hkl, hx])
          have HRN : Hid (R = ((r.step x).run (l.drop (k + 1))).out) := Lib.hid (by rw [HRD.out, List.drop_eq_getElem_cons hkl, hx]; rfl)
          clear hkl hx HRD
          have ek : (k : Int) + 2 < 8 := by omega
          by_cases h1 : x = 1
          · have HST : Hid (r.step x = { r with full := true }) := Lib.hid (if_pos h1)
            have e1 : ((x.toNat : Int) == 1) = true := by rw [h1]; rfl
            clear h1
            rw [HST.out] at HRN
            go_wp2_with fail
            go_roundw
            case rel => exact ⟨k + 1, { r with full := true }, by omega, by go_num, rfl, rfl, HR1, HR2, HRN, HB⟩
            case measure => (simp [intOf] <;> omega)
          · have e1 : ((x.toNat : Int) == 1) = false := by
              rw [beq_eq_false_iff_ne]; intro h; exact h1 (UInt8.toNat_inj.1 (by show x.toNat = 1; omega))
            by_cases h2 : x = 2 ∨ x = 3
            · have HST : Hid (r.step x = { r with bad := true }) := Lib.hid (by unfold Rs.step; rw [if_neg h1, if_pos h2])
              rw [HST.out] at HRN
              rcases h2 with h2 | h2
              · have e2 : ((x.toNat : Int) == 2) = true := by rw [h2]; rfl
                clear h1 h2
                go_wp2_with fail
                go_roundw
                case rel => exact ⟨k + 1, { r with bad := true }, by omega, by go_num, rfl, rfl, HR1, HR2, HRN, HB⟩
                case measure => (simp [intOf] <;> omega)
              · have e2 : ((x.toNat : Int) == 2) = false := by rw [h2]; rfl
                have e3 : ((x.toNat : Int) == 3) = true := by rw [h2]; rfl
                clear h1 h2
                go_wp2_with fail
                go_roundw
                case rel => exact ⟨k + 1, { r with bad := true }, by omega, by go_num, rfl, rfl, HR1, HR2, HRN, HB⟩
                case measure => (simp [intOf] <;> omega)
            · have e2 : ((x.toNat : Int) == 2) = false := by
                rw [beq_eq_false_iff_ne]; intro h; exact h2 (.inl (UInt8.toNat_inj.1 (by show x.toNat = 2; omega)))
              have e3 : ((x.toNat : Int) == 3) = false := by
                rw [beq_eq_false_iff_ne]; intro h; exact h2 (.inr (UInt8.toNat_inj.1 (by show x.toNat = 3; omega)))
              by_cases h3 : 3 < x.toNat
              · have HST : Hid (r.step x = { r with h := r.h.add x.toNat }) := Lib.hid (by unfold Rs.step; rw [if_neg h1, if_neg h2, if_pos h3])
                rw [HST.out] at HRN
                have HADD := Lib.hid (add_calls r.h x.toNat (w.heap.size + 1) x.toNat_lt _ HR2.out)
                have e4 : (3 : Int) < x.toNat := by omega
                have e5 : wrap64 (x.toNat : Int) = (x.toNat : Int) := by have := x.toNat_lt; unfold wrap64; omega
                clear h1 h2 h3
                go_wp2_with fail
                refine HADD.out.mono ?_
                rintro e w2 ⟨rfl, hrow, hb⟩
                have HR3 := Lib.hid hrow
                have HR4 := Lib.hid ((hb.block _ (Nat.lt_succ_self _)).trans HR1.out)
                have HB2 := Lib.hid (HB.out.trans (hb.mono (Nat.le_succ _)))
                clear hrow hb HADD HR1 HR2 HB
                go_wp2_with fail
                go_roundw
                case rel => exact ⟨k + 1, { r with h := r.h.add x.toNat }, by omega, by go_num, rfl, rfl, HR4, HR3, HRN, HB2⟩
                case measure => (simp [intOf] <;> omega)
              · have HST : Hid (r.step x = r) := Lib.hid (by unfold Rs.step; rw [if_neg h1, if_neg h2, if_neg h3])
                rw [HST.out] at HRN
                have e4 : (x.toNat : Int) ≤ 3 := by omega
                clear h1 h2 h3
                go_wp2_with fail
                go_roundw
                case rel => exact ⟨k + 1, r, by omega, by go_num, rfl, rfl, HR1, HR2, HRN, HB⟩
                case measure => (simp [intOf] <;> omega)
        · obtain rfl : k = 6 := by omega
          rw [List.drop_of_length_le (by rw [HL.out]; exact Nat.le_refl _), show r.run [] = r from rfl] at HRD
          obtain ⟨h, full, bad⟩ := r
          dsimp only at HR2 HRD
          clear hlt hk HAT HS8 HL
          have hz := HR1.out
          rw [zero_vs] at hz
          have q := fun i => cell_of_row _ _ i _ _ _ hz
          have qf := fun i => frozen_of_row _ _ i _ _ hz
          clear hz
          cases full with
          | true =>
            have e : R = (Hd.zero, 11) := HRD.out
            subst e
            go_wp2_with fail
            exact bodyPost_ret (v := .tuple #[Hd.zero.v, .int .i64 11]) (by simp [Hd.v, zero_vs, q, results, Try.results9, go_sem]) rfl ⟨rfl, four HB.out _ _ _ _⟩
          | false =>
            cases bad with
            | true =>
              have e : R = (Hd.zero, 4) := HRD.out
              subst e
              go_wp2_with fail
              exact bodyPost_ret (v := .tuple #[Hd.zero.v, .int .i64 4]) (by simp [Hd.v, zero_vs, q, results, Try.results9, go_sem]) rfl ⟨rfl, four HB.out _ _ _ _⟩
            | false =>
              have e : R = (h, 0) := HRD.out
              subst e
              have hh := HR2.out
              unfold Hd.vs at hh
              have p := fun i => cell_of_row _ _ i _ _ _ hh
              have pf := fun i => frozen_of_row _ _ i _ _ hh
              clear hh
              go_wp2_with fail
              exact bodyPost_ret (v := .tuple #[h.v, .int .i64 0]) (by simp [Hd.v, Hd.vs, q, results, Try.results9, go_sem]) rfl ⟨rfl, four HB.out _ _ _ _⟩
theorem read_size (l : List UInt8) (h : l.length ≠ 8) : readR l = (Hd.zero, if l.length < 8 then 3 else 4) := by
  unfold readR
  split
  · exact absurd rfl h
  · rfl
theorem read_odd (s : ByteArray) (w : World) (h8 : s.size ≠ 8) : Calls Try.prog 9 #[.string s] w fun e w' => e = .returned (.tuple #[(readR s.data.toList).1.v, .int .i64 (readR s.data.toList).2]) ∧ Below w.heap.size w w' := by
  have hl : s.data.toList.length = s.size := by simp
  rw [read_size _ (by rw [hl]; exact h8), hl]
  have HB := Lib.hid (Kt.balloc (Below.refl w.heap.size w) (.cells Hd.zero.vs 27))
  have hz := heap_alloc_new w (.cells Hd.zero.vs 27)
  have HW : Hid ((w.alloc (.cells Hd.zero.vs 27)).heap[w.heap.size]? = some (.cells #[.int .u64 0, .int .u64 0, .int .u64 0, .int .u64 0] 27 (0, 0))) := Lib.hid (by rw [← zero_vs]; exact hz)
  have q := fun i => cell_of_row _ _ i _ _ _ HW.out
  have qf := fun i => frozen_of_row _ _ i _ _ HW.out
  by_cases h : s.size < 8
  · rw [if_pos h]
    have hi : (s.size : Int) < 8 := by omega
    clear hl hz h8 h
    go_enter Try.func9, Try.ntmps9
    go_upto_region 1 with (fail)
    refine Kt.fold (fun W => W = (w.alloc (.cells Hd.zero.vs 27))) rfl (fun W hW => ?_)
    rw [← hW] at HB q qf
    clear hW HW
    go_wp2_with fail
    exact bodyPost_ret (v := .tuple #[Hd.zero.v, .int .i64 3]) (by simp [Hd.v, zero_vs, q, results, Try.results9, go_sem]) rfl ⟨rfl, four HB.out _ _ _ _⟩
  · rw [if_neg h]
    have hi : (8 : Int) < (s.size : Int) := by omega
    clear hl hz h8 h
    go_enter Try.func9, Try.ntmps9
    go_upto_region 1 with (fail)
    refine Kt.fold (fun W => W = (w.alloc (.cells Hd.zero.vs 27))) rfl (fun W hW => ?_)
    rw [← hW] at HB q qf
    clear hW HW
    go_wp2_with fail
    exact bodyPost_ret (v := .tuple #[Hd.zero.v, .int .i64 4]) (by simp [Hd.v, zero_vs, q, results, Try.results9, go_sem]) rfl ⟨rfl, four HB.out _ _ _ _⟩
theorem read_calls (s : ByteArray) (w : World) : Calls Try.prog 9 #[.string s] w fun e w' => e = .returned (.tuple #[(readR s.data.toList).1.v, .int .i64 (readR s.data.toList).2]) ∧ Below w.heap.size w w' := by
  by_cases h8 : s.size = 8
  · exact read_good s w h8
  · exact read_odd s w h8
end Go.Proofs.Ytfcmmeapinppaaa
