/- The walks of package utf: Wide. -/
import Derived.Test.YtmddfpmchcmgiaaUtfP
import Derived.Test.YtmddfpmchcmgiaaGen
import Derived.Lib.OthersKept
import Derived.Laws.Runes
import Derived.Outline
namespace Go.Proofs.Ytmddfpmchcmgiaa
open Go.RowKit Go.Proofs.Ytmddfpmchcmgiaa.Utf
theorem infoB : (Try.prog.info? 5).map (fun i => (i.zero, i.size, i.bytes)) = some (some (.int .u8 0), 1, 1) := by kernel_rfl
/-- below block B only block b has turned -/
structure But (B b : Nat) (w w' : World) : Prop where
  os : w'.os = w.os
  tape : w'.tape = w.tape
  output : w'.output = w.output
  size : w.heap.size ≤ w'.heap.size
  block : ∀ k, k < B → k ≠ b → w'.heap[k]? = w.heap[k]?
theorem But.trans {B b : Nat} {w w1 w2 : World} (h : But B b w w1) (k : But B b w1 w2) : But B b w w2 :=
  ⟨k.os.trans h.os, k.tape.trans h.tape, k.output.trans h.output, Nat.le_trans h.size k.size, fun j h1 h2 => (k.block j h1 h2).trans (h.block j h1 h2)⟩
theorem But.below {B b C : Nat} {w0 w w1 : World} (h : But B b w w1) (hC : C ≤ b) (hb : b < B) (k : Below C w0 w) : Below C w0 w1 :=
  ⟨h.os.trans k.os, h.tape.trans k.tape, h.output.trans k.output, Nat.le_trans k.size h.size, fun j hj => (h.block j (by omega) (by omega)).trans (k.block j hj)⟩
def bcs (l : List UInt8) : List Value := l.map fun c => .int .u8 (c.toNat : Int)
theorem bcs_app (a b : List UInt8) : bcs (a ++ b) = bcs a ++ bcs b := by simp [bcs]
theorem bcs_len (a : List UInt8) : (bcs a).length = a.length := by simp [bcs]
theorem bcs_one (l : List UInt8) : ∀ u ∈ bcs l, u.oneCell' = true := by
  intro u hu
  obtain ⟨c, _, rfl⟩ := List.mem_map.1 hu
  rfl
theorem bcs_two (u : Nat) : bcs (two u) = [.int .u8 ((u % 256 : Nat) : Int), .int .u8 ((u / 256 % 256 : Nat) : Int)] := by
  simp [bcs, two]
set_option maxRecDepth 100000 in
set_option maxHeartbeats 800000 in
theorem unit_calls (w : World) (b B : Nat) (v : Value) (n : Nat) (l : List UInt8) (r : Nat) (hr : r ≤ 65535) (hc : w.heap[b]? = some (.cells #[v] 66 (0, 0))) (hbB : b < B) (hB : B ≤ w.heap.size) (hs : Kt.Sl w B 5 1 v n (bcs l)) (hn : n ≤ 140737488355326) :
    Calls Try.prog 72 #[.int .i32 r, .pointer (some ⟨b, 0, none⟩)] w fun e w' => e = .returned (.tuple #[]) ∧ ∃ v', w'.heap[b]? = some (.cells #[v'] 66 (0, 0)) ∧ Kt.Sl w' B 5 1 v' (n + 2) (bcs (l ++ two r)) ∧ But B b w w' := by
  have hcell : w.cell? ⟨b, 0, none⟩ = some v := (cell_of_row w b 0 _ _ _ hc).trans rfl
  have hbw : b < w.heap.size := by omega
  go_enter Try.func72, Try.ntmps72
  go_wp2_with (
    refine Kt.append_sl _ (by rfl) (.tmp 3) (.tmp 9) 66 rfl B 5 (.int .u8 0) 1 1 infoB Try.underlying66 rfl (by decide) v n (bcs l) rfl (hs.alloc _) ⟨w.heap.size, 0, none⟩ 2 2 _ rfl rfl (Kt.new_cells w _ _) (by simp [Value.oneCell']) (by unfold maxLen; omega) (by omega) (by simp; omega) ?_
    intro A' c' w1 hs1 hb1 hz1 hk1 hl1
    have hb2 : Below B w w1 := ((Below.refl B w).alloc hB _).trans hb1
    have hc1 : w1.cell? ⟨b, 0, none⟩ = some v := (hb2.cell (p := ⟨b, 0, none⟩) hbB).trans hcell
    have hf1 : w1.frozen? ⟨b, 0, none⟩ = false := (hb2.frozen (p := ⟨b, 0, none⟩) hbB).trans (frozen_of_row w b 0 _ _ hc)
    clear hk1 hl1)
  go_end0
  refine ⟨rfl, .slice A' (n + 2) c', ?_, ?_, ?_⟩
  · exact (heap_setCell_same _ _ _ _ _ _ ((hb2.block b hbB).trans hc)).trans rfl
  · rw [bcs_app, bcs_two]
    refine Kt.Sl.keep ?_ (fun k hk => heap_setCell_other _ _ _ _ (by have := (hs1.lt k hk).1; simp; omega))
    have e : ((r / 256 % 256 : Nat) : Int) = (r : Int) / 256 := by omega
    rw [e]; exact hs1
  · exact ⟨hb2.os, hb2.tape, hb2.output, by have := hb2.size; simpa [World.setCell] using this, fun k h1 h2 => (heap_setCell_other _ _ _ _ (by simpa using h2)).trans (hb2.block k h1)⟩
theorem unit_z (w : World) (b B : Nat) (v : Value) (n : Nat) (l : List UInt8) (z : Int) (h0 : 0 ≤ z) (hr : z ≤ 65535) (hc : w.heap[b]? = some (.cells #[v] 66 (0, 0))) (hbB : b < B) (hB : B ≤ w.heap.size) (hs : Kt.Sl w B 5 1 v n (bcs l)) (hn : n ≤ 140737488355326) :
    Calls Try.prog 72 #[.int .i32 z, .pointer (some ⟨b, 0, none⟩)] w fun e w' => e = .returned (.tuple #[]) ∧ ∃ v', w'.heap[b]? = some (.cells #[v'] 66 (0, 0)) ∧ Kt.Sl w' B 5 1 v' (n + 2) (bcs (l ++ two z.toNat)) ∧ But B b w w' := by
  obtain ⟨r, rfl⟩ : ∃ r : Nat, z = r := ⟨z.toNat, by omega⟩
  exact unit_calls w b B v n l r (by omega) hc hbB hB hs hn
/-- 'string(out)' -/
theorem conv_sl (w : World) (B : Nat) (v : Value) (n : Nat) (l : List UInt8) (h : Kt.Sl w B 5 1 v n (bcs l)) : (convert 66 9 v).run Try.prog w = .ok (.string ⟨l.toArray⟩) w := by
  have hl := h.1
  rw [bcs_len] at hl
  rcases h.2 with ⟨rfl, rfl⟩ | ⟨g, o, cap, cur, rfl, hb, hg, hn, hc, hs, hx⟩
  · have : l = [] := List.eq_nil_of_length_eq_zero (by omega)
    subst this
    rw [run_convert_bytes_string w _ _ _ none 0 0 Try.underlying66 Try.underlying5 Try.underlying9]
    rfl
  · exact Kt.conv_back w _ _ _ g o n cap l (by omega) Try.underlying66 Try.underlying5 Try.underlying9 (fun j hj => (cell_of_row w g (o + j) cur _ _ hg).trans (hx j _ (by simp [bcs, hj])))
theorem drop_step (s : ByteArray) (pos : Nat) (h : pos < s.size) : runes (s.data.toList.drop pos) = (Utf8.decode s pos).1 :: runes (s.data.toList.drop (pos + (Utf8.decode s pos).2)) := by
  have hne : s.data.toList.drop pos ≠ [] := by
    intro e
    have := congrArg List.length e
    have hs : s.data.toList.length = s.size := by simp
    simp only [List.length_drop, List.length_nil] at this
    omega
  rw [runes_step _ hne, Go.Lib.decodeL_drop, List.drop_drop]
theorem drop_end (s : ByteArray) (pos : Nat) (h : ¬ pos < s.size) : runes (s.data.toList.drop pos) = [] := by
  have hs : s.data.toList.length = s.size := by simp
  rw [List.drop_eq_nil_of_le (by omega)]; rfl
theorem dec_small (s : ByteArray) (pos : Nat) : (Utf8.decode s pos).1 ≤ 1114111 := by
  rw [← Go.Lib.decodeL_drop]; exact Go.Lib.decodeL_rune _
theorem dec_wide (s : ByteArray) (pos : Nat) : 1 ≤ (Utf8.decode s pos).2 := by
  rw [← Go.Lib.decodeL_drop]; exact Go.Lib.decodeL_width _
/-- what Wide answers -/
def wideV (l : List UInt8) : Value := if (wide l).length ≤ 252 then .tuple #[.string ⟨(wide l).toArray⟩, .int .i64 0] else .tuple #[.string ⟨#[]⟩, .int .i64 2]
theorem wideV_ok {l : List UInt8} (h : (wide l).length ≤ 252) : wideV l = .tuple #[.string ⟨(wide l).toArray⟩, .int .i64 0] := by unfold wideV; rw [if_pos h]
theorem wideV_no {l : List UInt8} (h : ¬ (wide l).length ≤ 252) : wideV l = .tuple #[.string ⟨#[]⟩, .int .i64 2] := by unfold wideV; rw [if_neg h]
/-- what the loop of Wide has done -/
def WideRel (s : ByteArray) (w wr : World) : Prop := ∃ (pos : Nat) (done : List Nat) (v : Value), wr.heap[w.heap.size + 1]? = some (.stringIter s pos) ∧ wr.heap[w.heap.size]? = some (.cells #[v] 66 (0, 0)) ∧
  Kt.Sl wr (w.heap.size + 2) 5 1 v (wideR done).length (bcs (wideR done)) ∧ Below w.heap.size w wr ∧ w.heap.size + 1 < wr.heap.size ∧ done ++ runes (s.data.toList.drop pos) = runes s.data.toList ∧ done.length ≤ pos
theorem and1023 (z : Int) (h0 : 0 ≤ z) (h1 : z ≤ 1114111) : bits .and .i32 z 1023 = z % 1024 := by
  obtain ⟨n, rfl⟩ : ∃ n : Nat, z = n := ⟨z.toNat, by omega⟩
  show IntKind.i32.wrap ((BitVec.ofInt 32 (n : Int) &&& BitVec.ofInt 32 ((1023 : Nat) : Int)).toNat : Int) = _
  rw [BitVec.toNat_and, BitVec.ofInt_natCast, BitVec.ofInt_natCast, BitVec.toNat_ofNat, BitVec.toNat_ofNat, Nat.mod_eq_of_lt (by omega), Nat.mod_eq_of_lt (by omega), show (1023 : Nat) = 2 ^ 10 - 1 from rfl, Nat.and_two_pow_sub_one_eq_mod, IntKind.wrap_i32]
  omega
set_option maxHeartbeats 1600000 in
set_option maxRecDepth 100000 in
theorem wide_calls (s : ByteArray) (hs : s.size ≤ 35184372088832) (w : World) :
    Calls Try.prog 66 #[.string s] w fun e w' => e = .returned (wideV s.data.toList) ∧ Below w.heap.size w w' := by
  have HZ := Lib.hid hs; clear hs
  go_enter Try.func66, Try.ntmps66
  go_wp2_with fail
  go_loopw [7] (fun _ wr => WideRel s w wr) (fun _ wr => s.size - wr.iterPos (w.heap.size + 1))
  case atStart =>
    refine ⟨0, [], .slice none 0 0, ?_, ?_, Kt.Sl.nil _ _ _ _, ?_, ?_, rfl, by simp⟩
    · have := World.iter_heap (w.alloc (.cells #[.slice none 0 0] 66)) s 0
      simpa using this
    · exact heap_alloc2_old w _ _
    · exact Kt.balloc (Kt.balloc (Below.refl _ w) _) _
    · show w.heap.size + 1 < ((w.alloc _).alloc _).heap.size
      rw [World.size_alloc, World.size_alloc]; omega
  case round =>
    obtain ⟨pos, done, v, hit, hc, hv, hbel, hsz, hdone, hpos⟩ := hrel
    by_cases hp : pos < s.size
    · have hnx : ∀ ty, (Instr.next (.pointer (some ⟨w.heap.size + 1, 0, none⟩)) true ty).run Try.prog wr = _ := fun ty => Lib.run_next_any_at wr (w.heap.size + 1) s pos ty hit hp
      have hd := dec_small s pos
      have hw := dec_wide s pos
      have hst := drop_step s pos hp
      have hit2 := Lib.iterAt_heap wr (w.heap.size + 1) s pos (pos + (Utf8.decode s pos).2) hit
      have hc2 := (Lib.iterAt_other wr (w.heap.size + 1) w.heap.size s (pos + (Utf8.decode s pos).2) (by omega)).trans hc
      have hv2 : Kt.Sl (wr.iterAt (w.heap.size + 1) s (pos + (Utf8.decode s pos).2)) (w.heap.size + 2) 5 1 v _ _ := hv.keep fun k hk => Lib.iterAt_other wr (w.heap.size + 1) k s _ (by have := (hv.lt k hk).1; omega)
      have hsz2 : w.heap.size + 1 < (wr.iterAt (w.heap.size + 1) s (pos + (Utf8.decode s pos).2)).heap.size := by rw [Lib.iterAt_size]; omega
      have hln : (wideR done).length ≤ 4 * pos := by have := cnt_le done; rw [wideR_len]; omega
      have HN := Lib.hid (show (wideR done).length ≤ 140737488355324 by have := HZ.out; clear hbel; omega); clear hln
      have hbel2 := Lib.below_iterAt hbel (k := w.heap.size + 1) (by omega) s (pos + (Utf8.decode s pos).2)
      generalize Utf8.decode s pos = d at *
      obtain ⟨r, wd⟩ := d
      simp only at hnx hd hw hst hit2 hbel2 hc2 hv2 hsz2
      have HS := Lib.hid hst; clear hst
      have HD := Lib.hid hdone; clear hdone
      generalize hW2 : wr.iterAt (w.heap.size + 1) s (pos + wd) = w2 at *
      have HW := Lib.hid hW2; clear hW2
      by_cases hb : r < 65536
      · have hbi : (r : Int) < 65536 := by omega
        have HB := Lib.hid hb; clear hd hb
        go_wp2_with fail
        refine (unit_z w2 w.heap.size (w.heap.size + 2) v _ (wideR done) _ (by omega) (by omega) hc2 (by omega) (by omega) hv2 (Nat.le_trans HN.out (by omega))).mono ?_
        rintro en w3 ⟨rfl, v3, hc3, hv3, hbut⟩
        go_wp2_with fail
        go_roundw
        case rel =>
          rw [Int.toNat_natCast] at hv3
          refine ⟨pos + wd, done ++ [r], v3, (hbut.block _ (by omega) (by omega)).trans hit2, hc3, ?_, hbut.below (Nat.le_refl _) (by omega) hbel2, by have := hbut.size; omega, ?_, by simp; omega⟩
          · rw [wideR_snoc, un_small r HB.out, List.length_append]; exact hv3
          · rw [← HD.out, HS.out]; simp
        case measure =>
          simp only [World.iterPos, (hbut.block _ (by omega) (by omega)).trans hit2, hit]
          omega
      · have h0 : (65536 : Int) ≤ r := by omega
        have h1 : (r : Int) ≤ 1114111 := by omega
        have HB := Lib.hid hb; clear hb hd
        obtain ⟨z, hz⟩ : ∃ z : Int, z = r := ⟨_, rfl⟩
        rw [← hz] at hnx h0 h1
        have HR := Lib.hid hz; clear hz
        have hand := and1023 (z - 65536) (by omega) (by omega)
        go_wp2_with fail
        refine (unit_z w2 w.heap.size (w.heap.size + 2) v _ (wideR done) _ (by omega) (by omega) hc2 (by omega) (by omega) hv2 (Nat.le_trans HN.out (by omega))).mono ?_
        rintro en w3 ⟨rfl, v3, hc3, hv3, hbut⟩
        go_wp2_with fail
        have hsz3 : w.heap.size + 1 < w3.heap.size := by have := hbut.size; omega
        have hlen3 := hv3.1
        rw [bcs_len] at hlen3
        have HN3 := Lib.hid (show (wideR done).length + 2 ≤ 140737488355326 by have := HN.out; have := HZ.out; omega)
        refine (unit_z w3 w.heap.size (w.heap.size + 2) v3 _ (wideR done ++ two _) _ (by omega) (by omega) hc3 (by omega) (by omega) hv3 HN3.out).mono ?_
        rintro en w4 ⟨rfl, v4, hc4, hv4, hbut4⟩
        go_wp2_with fail
        go_roundw
        case rel =>
          have hr := HR.out
          subst hr
          have e1 : (55296 + ((r : Int) - 65536) / 1024).toNat = 55296 + (r - 65536) / 1024 := by omega
          have e2 : (56320 + ((r : Int) - 65536) % 1024).toNat = 56320 + (r - 65536) % 1024 := by omega
          rw [e1, e2] at hv4
          have hbb := hbut.trans hbut4
          refine ⟨pos + wd, done ++ [r], v4, (hbb.block _ (by omega) (by omega)).trans hit2, hc4, ?_, hbb.below (Nat.le_refl _) (by omega) hbel2, by have := hbut4.size; omega, ?_, by simp; omega⟩
          · rw [wideR_snoc, un_big r HB.out, List.length_append, ← List.append_assoc]; exact hv4
          · rw [← HD.out, HS.out]; simp
        case measure =>
          simp only [World.iterPos, ((hbut.trans hbut4).block _ (by omega) (by omega)).trans hit2, hit]
          omega
    · have hnx : ∀ ty, (Instr.next (.pointer (some ⟨w.heap.size + 1, 0, none⟩)) true ty).run Try.prog wr = _ := fun ty => Lib.run_next_end_at wr (w.heap.size + 1) s pos ty hit hp
      rw [drop_end s pos hp, List.append_nil] at hdone
      subst hdone
      have hcell : wr.cell? ⟨w.heap.size, 0, none⟩ = some v := (cell_of_row wr w.heap.size 0 _ _ _ hc).trans rfl
      have hcv := conv_sl wr _ v _ _ hv
      obtain ⟨A, c, rfl, hAc, hcm⟩ := hv.form
      have HE := Lib.hid (show wide s.data.toList = wideR (runes s.data.toList) from rfl)
      generalize hwl : wideR (runes s.data.toList) = wl at *
      have HW := Lib.hid hwl; clear hwl
      by_cases hle : (252 : Int) < wl.length
      · go_wp2_with fail
        go_ret2
        refine ⟨?_, hbel⟩
        have e : ¬ (wide s.data.toList).length ≤ 252 := by rw [HE.out]; omega
        rw [wideV_no e]; rfl
      · go_wp2_with fail
        go_ret2
        refine ⟨?_, hbel⟩
        have e : (wide s.data.toList).length ≤ 252 := by rw [HE.out]; omega
        rw [wideV_ok e, HE.out]; rfl
end Go.Proofs.Ytmddfpmchcmgiaa
