/- The walk of run: commands one behind the other. -/
import Derived.Test.YtmnfajndklmpbaaSltK
namespace Go.Proofs.Ytmnfajndklmpbaa
open Go.RowKit Classical Go.Proofs.Ytmnfajndklmpbaa.Slt
def IsCmd (cs : List Value) : Prop := ∃ k s e a : Int, cs = [.int .i64 k, .int .i64 s, .int .i64 e, .int .i64 a]
def RunIs (w : World) (e : Ending) (w' : World) : Prop := ∃ l : List Int, l.length = 594 ∧ Ok l ∧ e = .returned (.tuple #[.agg (Kt.ia .i64 l), .bool true]) ∧ Below w.heap.size w w'
theorem wrap_n {i n : Nat} (h : i < n) (hn : n < 4611686018427387904) : wrap64 ((i : Int) + 1) = ((i + 1 : Nat) : Int) := by unfold wrap64; omega
theorem next_wn {i n : Nat} (h : i < n) (hn : n < 4611686018427387904) : (n - (intOf (.int .i64 (wrap64 ((i : Int) + 1)))).toNat : Nat) < n - (intOf (.int .i64 (i : Int))).toNat := by
  rw [wrap_n h hn]
  simp only [intOf]
  omega
/-- the boxes of run -/
structure RunB (w : World) (l : List Int) (W : World) : Prop where
  len : l.length = 594
  ok : Ok l
  b0 : Bx 27 w.heap.size zb W
  b1 : Bx 27 (w.heap.size + 1) l W
  bel : Below w.heap.size w W
theorem RunB.on {w : World} {l : List Int} {W W' : World} (h : RunB w l W) (hb : Below W.heap.size W W') : RunB w l W' := ⟨h.len, h.ok, h.b0.on hb, h.b1.on hb, Kt.bthen h.bel hb⟩
theorem RunB.start (w : World) : RunB w zb ((w.alloc (.cells (Kt.ia .i64 zb) 27)).alloc (.cells (Kt.ia .i64 zb) 27)) := by
  have h1 : Bx 27 w.heap.size zb (w.alloc (.cells (Kt.ia .i64 zb) 27)) := heap_alloc_new w _
  have h2 : Bx 27 (w.alloc (.cells (Kt.ia .i64 zb) 27)).heap.size zb ((w.alloc (.cells (Kt.ia .i64 zb) 27)).alloc (.cells (Kt.ia .i64 zb) 27)) := heap_alloc_new _ _
  have e1 : (w.alloc (.cells (Kt.ia .i64 zb) 27)).heap.size = w.heap.size + 1 := by simp
  rw [e1] at h2
  exact ⟨zb_len, ok_zb, h1.on (Kt.balloc (Below.refl _ _) _), h2, Kt.balloc (Kt.balloc (Below.refl _ _) _) _⟩
set_option maxRecDepth 100000 in
set_option maxHeartbeats 3200000 in
theorem run_calls (V : Value) (n : Nat) (hn : n < 4611686018427387904) (w : World) (hV : Kt.Rws w V 4 n IsCmd) : Calls Try.prog 12 #[V] w (RunIs w) := by
  obtain ⟨A, cap, rfl, hnc, hrows⟩ := hV.form
  have HV := Lib.hid hrows
  have HN := Lib.hid hn
  clear hn
  have Z0 := zero_board
  have HR := Lib.hid (RunB.start w)
  clear hrows hV hnc
  have Z1 : (Kt.ia .i64 zb).size = 594 := by rw [Kt.ia_size, zb_len]
  go_enter Try.func12, Try.ntmps12
  go_wp2_with fail
  go_loopw [5, 10] (fun ff ii wr => ∃ i : Nat, ∃ l : List Int, Hid (i ≤ n) ∧ ii = .int .i64 i ∧ ff = .bool true ∧ Hid (RunB w l wr)) (fun _ ii _ => n - (intOf ii).toNat)
  case atStart => exact ⟨0, zb, Lib.hid (by omega), rfl, rfl, HR⟩
  case round =>
    clear HR
    obtain ⟨i, l, HI, rfl, rfl, HR⟩ := hrel
    by_cases hi : i < n
    · have hi' : (i : Int) < n := by omega
      obtain ⟨b, o, rfl, hbl, hrow⟩ := HV.out (by omega)
      obtain ⟨cs, hcs, ⟨k, s, e, a, rfl⟩, hrg⟩ := hrow i hi
      have hr := Kt.range_on hrg (HR.out.bel) hbl
      have hl := HR.out.len
      have hsz : (Try.prog.info? 27).map (·.size) = some l.length := by rw [hl]; exact size_board
      have b1 := HR.out.b1
      have HD := Lib.hid (fun W => do_calls l hl k s e a W)
      clear hrg hrow hcs
      have HR1 := Lib.hid (HR.out.on (Kt.balloc (Below.refl _ _) (.cells #[.int .i64 k, .int .i64 s, .int .i64 e, .int .i64 a] 29)))
      replace b1 := HR1.out.b1
      go_wp2_with (first
        | (refine wpList_load_mid rfl 29 (.tmp 12) rfl b (o + i * 4) rfl _ _ hr Try.underlying29 rfl size_cmd ?_)
        | (refine load_bx rfl 27 (.tmp 4) rfl (w.heap.size + 1) rfl l b1 Try.underlying27 hsz ?_))
      refine (HD.out _).mono ?_
      rintro en w1 ⟨l', c, m, hd, rfl, hb⟩
      have HR2 := HR1.out.on hb
      have b2 := HR2.b1
      obtain ⟨hl', ho'⟩ := hd.ok hl HR2.ok
      have hll : l.length = l'.length := by rw [hl, hl']
      have hsz' : (Try.prog.info? 27).map (·.size) = some l'.length := by rw [hl']; exact size_board
      clear hd hb b1 HR1 HR hr HD
      go_upto_region 7 with (refine store_bx rfl 27 (.tmp 4) (.tmp 18) rfl (w.heap.size + 1) rfl l' rfl l b2 hll hsz' ?_
                             intro W2 hW2 hU2)
      have HR3 := Lib.hid (show RunB w l' W2 from ⟨hl', ho', hU2.box HR2.b0 (by omega), hW2, hU2.to HR2.bel (by omega)⟩)
      have HBO := Lib.hid (fun W => board_ok l' hl' ho' W)
      clear HR2 b2 hU2 ho' hll
      go_wp2_with (refine load_bx_g rfl 27 (.tmp 4) rfl (w.heap.size + 1) rfl l' hW2 Try.underlying27 hsz' ?_)
      refine (HBO.out _).mono ?_
      rintro en w3 ⟨rfl, hb⟩
      have HR4 := Lib.hid (HR3.out.on hb)
      clear hb hW2
      go_wp2_with fail
      exact ⟨⟨i + 1, l', Lib.hid hi, by rw [wrap_n hi HN.out], rfl, HR4⟩, next_wn hi HN.out⟩
    · obtain rfl : i = n := by have := HI.out; omega
      have hl := HR.out.len
      have hsz : (Try.prog.info? 27).map (·.size) = some l.length := by rw [hl]; exact size_board
      have hll : zb.length = l.length := by rw [zb_len, hl]
      have b0 := HR.out.b0
      have b1 := HR.out.b1
      go_wp2_with (first
        | (refine load_bx rfl 27 (.tmp 4) rfl (w.heap.size + 1) rfl l b1 Try.underlying27 hsz ?_)
        | (refine store_bx rfl 27 (.tmp 2) (.tmp 28) rfl w.heap.size rfl l rfl zb b0 hll hsz ?_
           intro W2 hW2 hU2))
      refine bodyPost_ret (v := .tuple #[.agg (Kt.ia .i64 l), .bool true]) (by simp [results, Try.results12, asAddr, ld_bx hW2 Try.underlying27 hsz]) rfl ?_
      exact ⟨l, hl, HR.out.ok, rfl, hU2.to HR.out.bel (Nat.le_refl _)⟩
end Go.Proofs.Ytmnfajndklmpbaa
