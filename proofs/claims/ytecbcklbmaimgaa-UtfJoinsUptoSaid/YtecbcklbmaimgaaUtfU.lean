/- The laws of units, walked: UtfUnits, UtfJoins. -/
import Derived.Test.YtecbcklbmaimgaaUtfW
namespace Go.Proofs.Ytecbcklbmaimgaa
open Go.RowKit Go.Proofs.Ytecbcklbmaimgaa.Utf
theorem lives_wide : wide [97, 240, 157, 132, 158] = [97, 0, 52, 216, 30, 221] := by decide
set_option maxHeartbeats 800000 in
theorem lives_calls (w : World) : Calls Try.prog 6 #[] w fun e w' => e = .returned (.bool true) ∧ Below w.heap.size w w' := by
  have hc := wide_calls ⟨#[97, 240, 157, 132, 158]⟩ (by decide)
  rw [wideV_ok (by rw [show ((⟨#[97, 240, 157, 132, 158]⟩ : ByteArray).data.toList) = [97, 240, 157, 132, 158] from rfl, lives_wide]; decide), show ((⟨#[97, 240, 157, 132, 158]⟩ : ByteArray).data.toList) = [97, 240, 157, 132, 158] from rfl, lives_wide] at hc
  have HC := Lib.hid hc; clear hc
  go_enter Try.func6, Try.ntmps6
  go_wp2_with fail
  refine (HC.out _).mono ?_
  rintro en w1 ⟨rfl, hb1⟩
  go_wp2_with fail
  go_ret
  exact ⟨rfl, hb1⟩
def Wd (s : ByteArray) (t : ByteArray) (e : Int) : Prop := ∀ w : World, Calls Try.prog 5 #[.string s] w fun en w' => en = .returned (.tuple #[.string t, .int .i64 e]) ∧ Below w.heap.size w w'
theorem wd_ok (s : ByteArray) (hs : s.size ≤ 35184372088832) (h : (wide s.data.toList).length ≤ 252) : Wd s ⟨(wide s.data.toList).toArray⟩ 0 := fun w => by
  have := wide_calls s hs w
  rw [wideV_ok h] at this; exact this
theorem wd_no (s : ByteArray) (hs : s.size ≤ 35184372088832) (h : ¬ (wide s.data.toList).length ≤ 252) : Wd s ⟨#[]⟩ 2 := fun w => by
  have := wide_calls s hs w
  rw [wideV_no h] at this; exact this
theorem cnt_len (s : ByteArray) (done : List Nat) (pos : Nat) (hp : pos ≤ s.size) (hd : done.length ≤ pos) : cnt done ≤ 2 * s.size := by
  have := cnt_le done; omega
/-- the counting loop of UtfUnits -/
def UnRel (s : ByteArray) (k : Nat) (w0 : World) (n : Value) (wr : World) : Prop := ∃ (pos : Nat) (done : List Nat), n = .int .i64 (cnt done) ∧ wr.heap[k]? = some (.stringIter s pos) ∧ Below w0.heap.size w0 wr ∧ done ++ runes (s.data.toList.drop pos) = runes s.data.toList ∧ done.length ≤ pos
set_option maxHeartbeats 1600000 in
set_option maxRecDepth 100000 in
theorem units_calls (s : ByteArray) (hs : s.size ≤ 1048576) (t : ByteArray) (e : Int) (HC : Hid (Wd s t e)) (w : World) (hend : (e = 0 ∧ t.size = 2 * cnt (runes s.data.toList) ∧ cnt (runes s.data.toList) ≤ 126) ∨ (e = 2 ∧ 126 < cnt (runes s.data.toList))) :
    Calls Try.prog 3 #[.string s] w fun e w' => e = .returned (.bool true) ∧ Below w.heap.size w w' := by
  have HE := Lib.hid hend; clear hend
  have HZ := Lib.hid hs; clear hs
  go_enter Try.func3, Try.ntmps3
  go_wp2_with fail
  refine (HC.out _).mono ?_
  rintro en w1 ⟨rfl, hb1⟩
  go_wp2_with fail
  go_loopw [7, 5] (fun _ n wr => UnRel s w1.heap.size w n wr) (fun _ _ wr => s.size - wr.iterPos w1.heap.size)
  case atStart =>
    exact ⟨0, [], rfl, World.iter_heap w1 s 0, Kt.balloc hb1 _, rfl, by simp⟩
  case round =>
    obtain ⟨pos, done, rfl, hit, hbel, hdone, hpos⟩ := hrel
    have hz1 := hb1.size
    by_cases hp : pos < s.size
    · have hnx : ∀ ty, (Instr.next (.pointer (some ⟨w1.heap.size, 0, none⟩)) true ty).run Try.prog wr = _ := fun ty => Lib.run_next_any_at wr w1.heap.size s pos ty hit hp
      have hw := dec_wide s pos
      have hst := drop_step s pos hp
      have hit2 := Lib.iterAt_heap wr w1.heap.size s pos (pos + (Utf8.decode s pos).2) hit
      have hbel2 := Lib.below_iterAt hbel (k := w1.heap.size) hz1 s (pos + (Utf8.decode s pos).2)
      have HN := Lib.hid (cnt_len s done pos (by omega) hpos)
      have hsn := cnt_snoc done
      generalize Utf8.decode s pos = d at *
      obtain ⟨r, wd⟩ := d
      have hsn := hsn r
      simp only at hnx hw hst hit2 hbel2
      have HS := Lib.hid hst; clear hst
      have HD := Lib.hid hdone; clear hdone
      generalize hW2 : wr.iterAt w1.heap.size s (pos + wd) = w2 at *
      clear hW2
      generalize hcn : cnt done = c at *
      have HCN := Lib.hid hcn; clear hcn
      have hc1 : c ≤ 2097152 := by have := HN.out; have := HZ.out; omega
      obtain ⟨z, hz⟩ : ∃ z : Int, z = r := ⟨_, rfl⟩
      rw [← hz] at hnx
      have HR := Lib.hid hz; clear hz
      have HSN := Lib.hid hsn; clear hsn
      by_cases hb : (65535 : Int) < z
      all_goals
        go_wp2_with fail
        go_roundw
        case rel =>
          have hr := HR.out
          have hsn := HSN.out
          refine ⟨pos + wd, done ++ [r], ?_, hit2, hbel2, ?_, by simp; omega⟩
          · rw [hsn]; first | rw [if_pos (by omega)] | rw [if_neg (by omega)]
            go_num
          · rw [← HD.out, HS.out]; simp
        case measure =>
          simp only [World.iterPos, hit2, hit]
          omega
    · have hnx : ∀ ty, (Instr.next (.pointer (some ⟨w1.heap.size, 0, none⟩)) true ty).run Try.prog wr = _ := fun ty => Lib.run_next_end_at wr w1.heap.size s pos ty hit hp
      rw [drop_end s pos hp, List.append_nil] at hdone
      subst hdone
      generalize cnt (runes s.data.toList) = c at *
      rcases HE.out with ⟨rfl, h2, h3⟩ | ⟨rfl, h3⟩
      · have h4 : ((t.size : Int) == 2 * (c : Int)) = true := by rw [beq_iff_eq]; omega
        clear h2
        go_wp2_with fail
        refine (lives_calls _).mono ?_
        rintro en w2 ⟨rfl, hb2⟩
        go_wp2_with fail
        go_ret
        exact ⟨Kt.ret_true (by rw [decide_eq_true_iff]; omega), Kt.bthen hbel hb2⟩
      · go_wp2_with fail
        refine (lives_calls _).mono ?_
        rintro en w2 ⟨rfl, hb2⟩
        go_wp2_with fail
        go_ret
        exact ⟨Kt.ret_true (by rw [decide_eq_true_iff]; omega), Kt.bthen hbel hb2⟩
theorem units_walk (v0 : Value) (w : World) (r0 : Fr.RdV w 1048576 .string v0) :
    Calls Try.prog 3 #[v0] w fun e w' => e = .returned (.bool true) ∧ Below w.heap.size w w' := by
  obtain ⟨s, e, hs⟩ := r0; cases e
  have hl : (wide s.data.toList).length = 2 * cnt (runes s.data.toList) := wideR_len _
  by_cases h : (wide s.data.toList).length ≤ 252
  · exact units_calls s hs _ 0 (Lib.hid (wd_ok s (by omega) h)) w (.inl ⟨rfl, by show (wide s.data.toList).toArray.size = _; rw [List.size_toArray, hl], by omega⟩)
  · exact units_calls s hs _ 2 (Lib.hid (wd_no s (by omega) h)) w (.inr ⟨rfl, by omega⟩)
end Go.Proofs.Ytecbcklbmaimgaa
