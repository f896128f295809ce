/- Requests: Read. -/
import Derived.Test.YtmddfpmchcmgiaaSetB
import Derived.Test.YtmddfpmchcmgiaaGen
import Derived.Deep.QuietTactic
import Derived.BigQuiet
namespace Go.Proofs.Ytmddfpmchcmgiaa
open Go.RowKit Go.Proofs.Ytmddfpmchcmgiaa.SetP
/-- the word at i -/
def wordAt (s : ByteArray) (i : Nat) : Int := if h : i + 1 < s.size then ((s[i]'(by omega)).toNat : Int) + 256 * ((s[i + 1]'h).toNat : Int) else 0
theorem or_word (x y : Nat) (hx : x < 256) (hy : y < 256) : bits .or .i64 (x : Int) ((y : Int) * 256) = (x : Int) + 256 * y := by
  show IntKind.i64.wrap ((BitVec.ofInt 64 (x : Int) ||| BitVec.ofInt 64 ((y : Int) * 256)).toNat : Int) = _
  have e : ((y : Int) * 256) = ((y * 256 : Nat) : Int) := by omega
  rw [e, BitVec.toNat_or, BitVec.ofInt_natCast, BitVec.ofInt_natCast, BitVec.toNat_ofNat, BitVec.toNat_ofNat, Nat.mod_eq_of_lt (by omega), Nat.mod_eq_of_lt (by omega)]
  have h2 : x ||| y * 256 = y * 256 + x := by
    have := Nat.shiftLeft_add_eq_or_of_lt (show x < 2 ^ 8 by omega) y
    rw [Nat.shiftLeft_eq, show (2 : Nat) ^ 8 = 256 from rfl] at this
    rw [Nat.or_comm]; omega
  rw [h2]
  rw [wrap_small _ (by omega) (by omega)]
  omega
theorem wordAt_bd (s : ByteArray) (i : Nat) : 0 ≤ wordAt s i ∧ wordAt s i ≤ 65535 := by
  unfold wordAt
  split
  · rename_i h
    have h1 := UInt8.toNat_lt (s[i]'(by omega))
    have h2 := UInt8.toNat_lt (s[i + 1]'h)
    omega
  · omega
set_option maxRecDepth 100000 in
set_option maxHeartbeats 800000 in
theorem word_calls (s : ByteArray) (i : Nat) (b : Nat) (w : World) (hs : s.size ≤ 8) (hi2 : i + 1 < s.size) (hc : w.cell? ⟨b, 0, none⟩ = some (.string s)) :
    Calls Try.prog 50 #[.int .i64 i, .pointer (some ⟨b, 0, none⟩)] w fun e w' => e = .returned (.int .i64 (wordAt s i)) ∧ Below w.heap.size w w' := by
  have e : wordAt s i = ((s[i]'(by omega)).toNat : Int) + 256 * ((s[i + 1]'hi2).toNat : Int) := by unfold wordAt; rw [dif_pos hi2]
  rw [e]
  have ho := or_word (s[i]'(by omega)).toNat (s[i + 1]'hi2).toNat (UInt8.toNat_lt _) (UInt8.toNat_lt _)
  have h1 := UInt8.toNat_lt (s[i]'(by omega))
  have h2 := UInt8.toNat_lt (s[i + 1]'hi2)
  have hz1 : (s.size : Int) ≤ 8 := by omega
  clear e
  have hb1 : (0 : Int) ≤ i := by omega
  have hb2 : (i : Int) < s.size := by omega
  have hb3 : (0 : Int) ≤ (i : Int) + 1 := by omega
  have hb4 : (i : Int) + 1 < s.size := by omega
  have hw : IntKind.i64.wrap ((i : Int) + 1) = (i : Int) + 1 := IntWalk.i64_in _ (by omega)
  have ht : ((i : Int) + 1).toNat = i + 1 := by omega
  have ht2 : ((i : Int)).toNat = i := by omega
  go_enter Try.func50, Try.ntmps50
  go_wp2
  go_quiet (fail)
  go_wp2
  go_ret
  have h := Below.refl w.heap.size w
  exact ⟨rfl, h.os, h.tape, h.output, h.size, h.block⟩
/-- the bytes s ask for this kind -/
def Hit (s : ByteArray) (k : Int) : Prop := ∃ r, rowI k = some r ∧ Okw k (wordAt s 2) (wordAt s 4) (wordAt s 6) ∧ txt r.a r.b (wordAt s 2) (wordAt s 4) (wordAt s 6) = s
def ReadIs (s : ByteArray) (w : World) (e : Ending) (w' : World) : Prop :=
  ((s.size = 8 ∧ ∃ k : Nat, 1 ≤ k ∧ k ≤ 14 ∧ Hit s k ∧ (∀ j : Nat, 1 ≤ j → j < k → ¬ Hit s j) ∧ e = .returned (.tuple #[askV k (wordAt s 2) (wordAt s 4) (wordAt s 6), .int .i64 0])) ∨
    ((s.size ≠ 8 ∨ ∀ k : Nat, 1 ≤ k → k ≤ 14 → ¬ Hit s k) ∧ ∃ n : Int, n ≠ 0 ∧ e = .returned (.tuple #[askV 0 0 0 0, .int .i64 n]))) ∧ Below w.heap.size w w'
set_option maxRecDepth 100000 in
set_option maxHeartbeats 800000 in
theorem read_size (s : ByteArray) (w : World) (h : (s.size : Int) < 8 ∨ (8 ≤ (s.size : Int) ∧ 8 < (s.size : Int))) : Calls Try.prog 25 #[.string s] w (ReadIs s w) := by
  have HN := Lib.hid (show s.size ≠ 8 by omega)
  rcases h with h | ⟨h, h2⟩
  · go_enter Try.func25, Try.ntmps25
    go_wp2_with fail
    refine bodyPost_ret (v := .tuple #[askV 0 0 0 0, .int .i64 3]) (by simp [askV, results, Try.results25, go_sem]) rfl ⟨.inr ⟨.inl HN.out, 3, by omega, rfl⟩, ?_⟩
    repeat (first | with_reducible exact Below.refl _ _ | with_reducible refine Kt.balloc ?_ _ | with_reducible refine Kt.bset ?_ (by simp) _)
  · go_enter Try.func25, Try.ntmps25
    go_wp2_with fail
    refine bodyPost_ret (v := .tuple #[askV 0 0 0 0, .int .i64 4]) (by simp [askV, results, Try.results25, go_sem]) rfl ⟨.inr ⟨.inl HN.out, 4, by omega, rfl⟩, ?_⟩
    repeat (first | with_reducible exact Below.refl _ _ | with_reducible refine Kt.balloc ?_ _ | with_reducible refine Kt.bset ?_ (by simp) _)
def RdBox (s : ByteArray) (w wr : World) : Prop := wr.heap[w.heap.size]? = some (.cells #[.string s] 9 (0, 0)) ∧ wr.heap[w.heap.size + 1]? = some (.cells #[.int .i64 0, .int .i64 0, .int .i64 0, .int .i64 0] 59 (0, 0)) ∧ Below w.heap.size w wr
theorem RdBox.on {s : ByteArray} {w wr w' : World} (h : RdBox s w wr) (hb : Below wr.heap.size wr w') : RdBox s w w' := ⟨Kt.row_on hb h.1, Kt.row_on hb h.2.1, Kt.bthen h.2.2 hb⟩
set_option maxRecDepth 100000 in
set_option maxHeartbeats 1600000 in
theorem read_eight (s : ByteArray) (w : World) (hs : s.size = 8) : Calls Try.prog 25 #[.string s] w (ReadIs s w) := by
  have HS := Lib.hid hs
  have hz1 : (s.size : Int) ≤ 8 := by omega
  have hz2 : 8 ≤ (s.size : Int) := by omega
  have hz3 : decide ((s.size : Int) < 8) = false := decide_eq_false (by omega)
  have hz4 : decide (8 < (s.size : Int)) = false := decide_eq_false (by omega)
  clear hs
  have hbox : RdBox s w ((w.alloc (.cells #[.string s] 9)).alloc (.cells #[.int .i64 0, .int .i64 0, .int .i64 0, .int .i64 0] 59)) := ⟨heap_alloc2_old w _ _, heap_alloc2_new w _ _, Kt.balloc (Kt.balloc (Below.refl _ w) _) _⟩
  go_enter Try.func25, Try.ntmps25
  go_wp2_with fail
  go_loopw [5] (fun i wr => ∃ k : Nat, 1 ≤ k ∧ k ≤ 15 ∧ i = .int .i64 k ∧ RdBox s w wr ∧ Hid (∀ j : Nat, 1 ≤ j → j < k → ¬ Hit s j)) (fun i _ => 16 - (intOf i).toNat)
  case atStart => exact ⟨1, by omega, by omega, rfl, hbox, Lib.hid fun j h1 h2 => absurd h1 (by omega)⟩
  case round =>
    clear hbox
    obtain ⟨k, hk1, hk15, rfl, hB, HF⟩ := hrel
    by_cases hlt : k ≤ 14
    · have hc := cell_of_row _ _ 0 _ _ _ hB.1
      have HW1 := Lib.hid (fun W h => word_calls s 2 w.heap.size W (by have := HS.out; omega) (by have := HS.out; omega) h)
      have HW2 := Lib.hid (fun W h => word_calls s 4 w.heap.size W (by have := HS.out; omega) (by have := HS.out; omega) h)
      have HW3 := Lib.hid (fun W h => word_calls s 6 w.heap.size W (by have := HS.out; omega) (by have := HS.out; omega) h)
      obtain ⟨v, hv⟩ : ∃ v, wordAt s 2 = v := ⟨_, rfl⟩
      obtain ⟨i, hi⟩ : ∃ i, wordAt s 4 = i := ⟨_, rfl⟩
      obtain ⟨l, hl⟩ : ∃ l, wordAt s 6 = l := ⟨_, rfl⟩
      rw [hv] at HW1
      rw [hi] at HW2
      rw [hl] at HW3
      have HVIL := Lib.hid (And.intro hv (And.intro hi hl))
      clear hv hi hl
      have HSP := Lib.hid (write_split k v i l)
      go_wp2_with fail
      refine (HW1.out _ (by first | exact hc | simpa using hc)).mono ?_
      rintro en w1 ⟨rfl, hb1⟩
      have hB1 := hB.on hb1
      clear hc hb1 hB
      have hc := cell_of_row _ _ 0 _ _ _ hB1.1
      go_wp2_with fail
      refine (HW2.out _ (by first | exact hc | simpa using hc)).mono ?_
      rintro en w2 ⟨rfl, hb2⟩
      have hB2 := hB1.on hb2
      clear hc hb2 hB1
      have hc := cell_of_row _ _ 0 _ _ _ hB2.1
      go_wp2_with fail
      refine (HW3.out _ (by first | exact hc | simpa using hc)).mono ?_
      rintro en w3 ⟨rfl, hb3⟩
      have hB3 := hB2.on hb3
      clear hc hb3 hB2
      have hB4 := hB3.on (Kt.balloc (Below.refl _ w3) (.cells #[.int .i64 k, .int .i64 v, .int .i64 i, .int .i64 l] 59))
      have hra := heap_alloc_new w3 (.cells #[.int .i64 k, .int .i64 v, .int .i64 i, .int .i64 l] 59)
      have hnb : w.heap.size + 1 < w3.heap.size := (Array.getElem?_eq_some_iff.1 hB3.2.1).1
      clear hB3
      go_wp2_with fail
      rcases HSP.out with ⟨hno, HW⟩ | ⟨hok, r, hr, HW⟩
      · have HNX := Lib.hid (show ∀ j : Nat, 1 ≤ j → j < k + 1 → ¬ Hit s j from fun j h1 h2 => by
          by_cases e : j = k
          · subst e
            rintro ⟨r, _, h, _⟩
            rw [HVIL.out.1, HVIL.out.2.1, HVIL.out.2.2] at h
            exact hno h
          · exact HF.out j h1 (by omega))
        clear hno
        refine (HW _).mono ?_
        rintro en w5 ⟨rfl, hb5⟩
        have hB5 := hB4.on hb5
        clear hB4 hb5 hra
        go_wp2_with fail
        go_roundw
        case rel => exact ⟨k + 1, by omega, by omega, by go_num, hB5, HNX⟩
        case measure => (simp [intOf] <;> omega)
      · have HHIT : Hid (Hit s k ↔ txt r.a r.b v i l = s) := Lib.hid (by
          constructor
          · rintro ⟨r', hr', _, h⟩
            rw [hr] at hr'; cases hr'
            rw [HVIL.out.1, HVIL.out.2.1, HVIL.out.2.2] at h
            exact h
          · intro h
            refine ⟨r, hr, ?_, ?_⟩
            · rw [HVIL.out.1, HVIL.out.2.1, HVIL.out.2.2]; exact hok
            · rw [HVIL.out.1, HVIL.out.2.1, HVIL.out.2.2]; exact h)
        clear hok hr
        obtain ⟨t, ht⟩ : ∃ t, txt r.a r.b v i l = t := ⟨_, rfl⟩
        rw [ht] at HW HHIT
        clear ht
        refine (HW _).mono ?_
        rintro en w5 ⟨rfl, hb5⟩
        have hB5 := hB4.on hb5
        have hra5 := Kt.row_on hb5 hra
        clear hB4 hb5 hra
        have hc := cell_of_row _ _ 0 _ _ _ hB5.1
        have hcr := fun i => cell_of_row _ _ i _ _ _ hB5.2.1
        have hfr := fun i => frozen_of_row _ _ i _ _ hB5.2.1
        have hca := fun i => cell_of_row _ _ i _ _ _ hra5
        have hz5 : w.heap.size + 1 < w5.heap.size := (Array.getElem?_eq_some_iff.1 hB5.2.1).1
        by_cases hts : t = s
        · subst hts
          have HR : Hid (1 ≤ k ∧ k ≤ 14 ∧ Hit t k ∧ (∀ j : Nat, 1 ≤ j → j < k → ¬ Hit t j)) := Lib.hid ⟨hk1, hlt, HHIT.out.2 rfl, HF.out⟩
          have hbel := hB5.2.2
          clear hB5 hra5
          go_wp2_with fail
          refine bodyPost_ret (v := .tuple #[askV k v i l, .int .i64 0]) (by simp [askV, results, Try.results25, go_sem, hcr]) rfl ⟨.inl ⟨HS.out, k, HR.out.1, HR.out.2.1, HR.out.2.2.1, HR.out.2.2.2, ?_⟩, ?_⟩
          · rw [HVIL.out.1, HVIL.out.2.1, HVIL.out.2.2]
          · repeat (first | with_reducible exact hbel | with_reducible refine Kt.balloc ?_ _ | with_reducible refine Kt.bset ?_ (by simp) _)
        · have HNX := Lib.hid (show ∀ j : Nat, 1 ≤ j → j < k + 1 → ¬ Hit s j from fun j h1 h2 => by
            by_cases e : j = k
            · subst e; exact fun h => hts (HHIT.out.1 h)
            · exact HF.out j h1 (by omega))
          have hne : (t.toList == s.toList) = false := by
            rw [beq_eq_false_iff_ne, ByteArray.toList_eq, ByteArray.toList_eq]
            exact fun e => hts (Kt.bytes_eq e)
          clear hts
          go_wp2_with fail
          go_roundw
          case rel => exact ⟨k + 1, by omega, by omega, by go_num, hB5, HNX⟩
          case measure => (simp [intOf] <;> omega)
    · obtain rfl : k = 15 := by omega
      have HN : Hid (∀ k : Nat, 1 ≤ k → k ≤ 14 → ¬ Hit s k) := Lib.hid fun j h1 h2 => HF.out j h1 (by omega)
      have hcr := fun i => cell_of_row _ _ i _ _ _ hB.2.1
      have hfr := fun i => frozen_of_row _ _ i _ _ hB.2.1
      have hz5 : w.heap.size + 1 < wr.heap.size := (Array.getElem?_eq_some_iff.1 hB.2.1).1
      have hbel := hB.2.2
      clear hB
      go_wp2_with fail
      refine bodyPost_ret (v := .tuple #[askV 0 0 0 0, .int .i64 12]) (by simp [askV, results, Try.results25, go_sem, hcr]) rfl ⟨.inr ⟨.inr HN.out, 12, by omega, rfl⟩, ?_⟩
      repeat (first | with_reducible exact hbel | with_reducible refine Kt.balloc ?_ _ | with_reducible refine Kt.bset ?_ (by simp) _)
theorem readAsk_calls (s : ByteArray) (w : World) : Calls Try.prog 25 #[.string s] w (ReadIs s w) := by
  by_cases h : s.size = 8
  · exact read_eight s w h
  · exact read_size s w (by omega)
end Go.Proofs.Ytmddfpmchcmgiaa
