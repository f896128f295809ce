/- The laws SlotsRight, SlotsFull, walked. -/
import Derived.Test.YtmnfajndklmpbaaSltM
namespace Go.Proofs.Ytmnfajndklmpbaa
open Go.RowKit Classical Go.Proofs.Ytmnfajndklmpbaa.Slt
theorem Slt.Ok.apart' {l : List Int} (h : Ok l) (i k : Nat) (hi : i < 9) (hk : k < i) (ha : G l (i * 66 + 1) ≠ 0) : G l (i * 66 + 1) ≠ G l (k * 66 + 1) := by
  by_cases e : k = 0
  · subst e
    have := h.none (0 * 66 + 1) (by omega)
    rw [this]; exact ha
  · rcases h.two i k (by omega) hk hi with h | h
    · exact absurd h ha
    · exact h
theorem reach_n {n : Nat} (h : n ≤ reachBytes) : n < 4611686018427387904 := Nat.lt_of_le_of_lt h (by decide)
theorem cmds_in {w : World} {v : Value} (r : Fr.RdV w reachBytes (.slice 4 cmdTy) v) : ∃ n, n < 4611686018427387904 ∧ Kt.Rws w v 4 n IsCmd := by
  obtain ⟨n, hn, h⟩ := Kt.rows_in r (by omega) (R := IsCmd) (fun cs h => cmd_of h)
  exact ⟨n, reach_n hn, h⟩
set_option maxRecDepth 100000 in
set_option maxHeartbeats 3200000 in
theorem right_walk (v0 : Value) (w : World) (r0 : Fr.RdV w reachBytes (.slice 4 cmdTy) v0) :
    Calls Try.prog 4 #[v0] w fun e w' => e = .returned (.bool true) ∧ Below w.heap.size w w' := by
  obtain ⟨N, hN, hV⟩ := cmds_in r0
  have HRUN := Lib.hid (run_calls v0 N hN w hV)
  clear hV hN r0
  have Z0 := zero_board
  go_enter Try.func4, Try.ntmps4
  go_wp2_with fail
  refine HRUN.out.mono ?_
  rintro en w1 ⟨l, hl, ho, rfl, hb⟩
  have hsz : (Try.prog.info? 27).map (·.size) = some l.length := by rw [hl]; exact size_board
  have h3 : Bx 27 w1.heap.size l (w1.alloc (.cells (Kt.ia .i64 l) 27)) := heap_alloc_new _ _
  have hbel := Kt.balloc hb (.cells (Kt.ia .i64 l) 27)
  have HC := Lib.hid (fun W => check_calls l hl W)
  have HO := Lib.hid ho
  clear hb ho
  go_wp2_with (refine store_new rfl 27 (.tmp 3) (.tmp 10) rfl w1.heap.size rfl rfl l rfl _ (by rw [Kt.ia_size, zb_len, hl]) hsz ?_)
  refine (lives_calls _).mono ?_
  rintro en w2 ⟨rfl, hb⟩
  replace h3 := h3.on hb
  replace hbel := Kt.bthen hbel hb
  clear hb
  generalize w1.heap.size = g at *
  go_wp2_with (refine load_bx_g rfl 27 (.tmp 3) rfl g rfl l h3 Try.underlying27 hsz ?_)
  refine (HC.out _).mono ?_
  rintro en w3 ⟨rfl, hb⟩
  rw [chk_ok HO.out]
  have H0 := Lib.hid (And.intro (h3.on hb) (Kt.bthen hbel hb))
  clear hb hbel h3
  go_wp2_with fail
  go_loopw [23] (fun ii wr => ∃ i : Nat, Hid (i ≤ 9) ∧ ii = .int .i64 i ∧ Hid (Bx 27 g l wr ∧ Below w.heap.size w wr)) (fun ii _ => 9 - (intOf ii).toNat)
  case atStart => exact ⟨0, Lib.hid (by omega), rfl, H0⟩
  case round =>
    clear H0
    obtain ⟨i, HI, rfl, H0⟩ := hrel
    by_cases hi : i < 9
    · have hi' : (i : Int) < 9 := by omega
      go_wp2_with fail
      go_loopw [27] (fun ii wr => ∃ k : Nat, Hid (k ≤ i) ∧ ii = .int .i64 k ∧ Hid (Bx 27 g l wr ∧ Below w.heap.size w wr)) (fun ii _ => i - (intOf ii).toNat)
      case atStart => exact ⟨0, Lib.hid (by omega), rfl, H0⟩
      case round =>
        clear H0
        obtain ⟨k, HK, rfl, H0⟩ := hrel
        by_cases hk : k < i
        · have hk' : (k : Int) < i := by omega
          have hk9 : (k : Int) < 9 := by omega
          have c1 := H0.out.1.cell (i * 66 + 1) (by omega)
          have c2 := H0.out.1.cell (k * 66 + 1) (by omega)
          have HA := Lib.hid (HO.out.apart' i k hi hk)
          generalize G l (i * 66 + 1) = x at *
          generalize G l (k * 66 + 1) = y at *
          by_cases hx : x = 0
          · have f1 : (x != 0) = false := by rw [hx]; rfl
            clear hx
            go_upto_region 10 with (fail)
            go_quiet (fail)
            go_wp2_with fail
            exact ⟨⟨k + 1, Lib.hid hk, rfl, Lib.hid ⟨H0.out.1.drewN _, bdrewN H0.out.2 _⟩⟩, next_i hk⟩
          · have f1 : (x != 0) = true := bne_iff_ne.2 hx
            have f2 : (x == y) = false := beq_eq_false_iff_ne.2 (fun e => HA.out hx e)
            clear hx
            go_upto_region 10 with (fail)
            go_quiet (fail)
            go_wp2_with fail
            exact ⟨⟨k + 1, Lib.hid hk, rfl, Lib.hid ⟨H0.out.1.drewN _, bdrewN H0.out.2 _⟩⟩, next_i hk⟩
        · have hk' : ¬ (k : Int) < i := by omega
          go_wp2_with fail
          exact ⟨⟨i + 1, Lib.hid hi, rfl, H0⟩, next_i hi⟩
    · have hi' : ¬ (i : Int) < 9 := by omega
      go_wp2_with fail
      go_ret
      exact ⟨rfl, H0.out.2⟩
/-- how many of the first slots are on -/
def cnt (l : List Int) : Nat → Nat
  | 0 => 0
  | i + 1 => if G l (i * 66) = 0 then cnt l i else cnt l i + 1
theorem cnt_le (l : List Int) (h : G l 0 = 0) : ∀ i, cnt l (i + 1) ≤ i ∧ (cnt l (i + 1) = i ↔ ∀ j, 1 ≤ j → j < i + 1 → G l (j * 66) ≠ 0)
  | 0 => by
    refine ⟨by show (if G l (0 * 66) = 0 then 0 else 1) ≤ 0; rw [Nat.zero_mul, if_pos h]; omega, fun _ j h1 h2 => absurd h2 (by omega), fun _ => by show (if G l (0 * 66) = 0 then 0 else 1) = 0; rw [Nat.zero_mul, if_pos h]⟩
  | i + 1 => by
    obtain ⟨h1, h2⟩ := cnt_le l h i
    show (if G l ((i + 1) * 66) = 0 then cnt l (i + 1) else cnt l (i + 1) + 1) ≤ i + 1 ∧ ((if G l ((i + 1) * 66) = 0 then cnt l (i + 1) else cnt l (i + 1) + 1) = i + 1 ↔ _)
    by_cases e : G l ((i + 1) * 66) = 0
    · rw [if_pos e]
      exact ⟨by omega, fun x => by omega, fun x => absurd e (x (i + 1) (by omega) (by omega))⟩
    · rw [if_neg e]
      refine ⟨by omega, fun x j j1 j2 => ?_, fun x => ?_⟩
      · by_cases q : j = i + 1
        · subst q; exact e
        · exact h2.1 (by omega) j j1 (by omega)
      · rw [h2.2 fun j j1 j2 => x j j1 (by omega)]
theorem cnt_bound (l : List Int) : ∀ i, cnt l i ≤ i
  | 0 => Nat.le_refl _
  | i + 1 => by
    have := cnt_bound l i
    show (if G l (i * 66) = 0 then cnt l i else cnt l i + 1) ≤ i + 1
    split <;> omega
theorem full_facts {l : List Int} (ho : Ok l) {x : List Int} {c n : Int} (h : Did l 2 0 0 0 x c n) : cnt l 9 ≤ 8 ∧ (c = 9 ↔ cnt l 9 = 8) ∧ (n = 0 ↔ cnt l 9 = 8) := by
  have hc := cnt_le l (ho.none 0 (by omega)) 8
  refine ⟨hc.1, ?_⟩
  rw [hc.2]
  cases h with
  | bad h => exact absurd ho h
  | noop _ h => omega
  | enable i _ _ hF =>
    refine ⟨⟨fun h => by omega, fun h => absurd hF.2.2.1 (h i hF.1 hF.2.1)⟩, ⟨fun h => by have := hF.1; omega, fun h => absurd hF.2.2.1 (h i hF.1 hF.2.1)⟩⟩
  | full _ _ hN => exact ⟨⟨fun _ j h1 h2 => hN j h1 h2, fun _ => rfl⟩, ⟨fun _ j h1 h2 => hN j h1 h2, fun _ => rfl⟩⟩
  | trb _ _ h _ => omega
  | done _ _ _ h => omega
  | refused _ _ h => omega
set_option maxRecDepth 100000 in
set_option maxHeartbeats 3200000 in
theorem full_walk (v0 : Value) (w : World) (r0 : Fr.RdV w reachBytes (.slice 4 cmdTy) v0) :
    Calls Try.prog 7 #[v0] w fun e w' => e = .returned (.bool true) ∧ Below w.heap.size w w' := by
  obtain ⟨N, hN, hV⟩ := cmds_in r0
  have HRUN := Lib.hid (run_calls v0 N hN w hV)
  clear hV hN r0
  have Z0 := zero_board
  have Z1 := zero_slot
  go_enter Try.func7, Try.ntmps7
  go_wp2_with fail
  refine HRUN.out.mono ?_
  rintro en w1 ⟨l, hl, ho, rfl, hb⟩
  have hsz : (Try.prog.info? 27).map (·.size) = some l.length := by rw [hl]; exact size_board
  have h3 : Bx 27 w1.heap.size l (w1.alloc (.cells (Kt.ia .i64 l) 27)) := heap_alloc_new _ _
  have hbel := Kt.balloc hb (.cells (Kt.ia .i64 l) 27)
  have HD := Lib.hid (fun W => do_calls l hl 2 0 0 0 W)
  have HO := Lib.hid ho
  have hr := h3.slots hl
  have hs := slots_size l hl
  have H0 := Lib.hid (And.intro h3 hbel)
  clear hb ho h3 hbel
  generalize hg : w1.heap.size = g at *
  go_wp2_with (first
    | (refine store_new rfl 27 (.tmp 3) (.tmp 14) rfl g hg rfl l rfl _ (by rw [Kt.ia_size, zb_len, hl]) hsz ?_)
    | (refine wpList_load_mid rfl 25 (.tmp 16) rfl g 0 rfl _ _ hr Try.underlying25 rfl hs ?_))
  clear hr hs
  go_loopw [5, 18] (fun cc ii wr => ∃ i : Nat, Hid (i ≤ 9) ∧ ii = .int .i64 i ∧ cc = .int .i64 (cnt l i) ∧ Hid (Bx 27 g l wr ∧ Below w.heap.size w wr)) (fun _ ii _ => 9 - (intOf ii).toNat)
  case atStart => exact ⟨0, Lib.hid (by omega), rfl, rfl, H0⟩
  case round =>
    clear H0 hg
    obtain ⟨i, HI, rfl, rfl, H0⟩ := hrel
    by_cases hi : i < 9
    · have hi' : (i : Int) < 9 := by omega
      have ix := fun W => slot_index l hl i hi W
      have hla := at_len l hl i hi
      have hss : (Try.prog.info? 24).map (·.size) = some (at_ l i).length := by rw [hla]; exact size_slot
      have nb : Bx 24 wr.heap.size (at_ l i) (wr.alloc (.cells (Kt.ia .i64 (at_ l i)) 24)) := heap_alloc_new _ _
      have c0 := nb.cell 0 (by omega)
      rw [G_at l i 0 (by omega), Nat.add_zero] at c0
      have HN := Lib.hid (show cnt l (i + 1) = if G l (i * 66) = 0 then cnt l i else cnt l i + 1 from rfl)
      have hcb : ((cnt l i : Nat) : Int) ≤ 9 := by have := cnt_bound l i; omega
      have H1 := Lib.hid (And.intro (H0.out.1.on (Kt.balloc (Below.refl _ _) (.cells (Kt.ia .i64 (at_ l i)) 24))) (Kt.balloc H0.out.2 (.cells (Kt.ia .i64 (at_ l i)) 24)))
      clear nb
      generalize at_ l i = s at *
      by_cases h0 : G l (i * 66) = 0
      · have f1 : (G l (i * 66) != 0) = false := by rw [h0]; rfl
        rw [if_pos h0] at HN
        clear h0
        go_wp2_with (refine store_new rfl 24 (.tmp 7) (.tmp 20) rfl wr.heap.size rfl rfl s rfl _ (by rw [Kt.ia_size, hla]; rfl) hss ?_)
        exact ⟨⟨i + 1, Lib.hid hi, rfl, by rw [HN.out], H1⟩, next_i hi⟩
      · have f1 : (G l (i * 66) != 0) = true := bne_iff_ne.2 h0
        rw [if_neg h0] at HN
        clear h0
        go_wp2_with (refine store_new rfl 24 (.tmp 7) (.tmp 20) rfl wr.heap.size rfl rfl s rfl _ (by rw [Kt.ia_size, hla]; rfl) hss ?_)
        exact ⟨⟨i + 1, Lib.hid hi, rfl, by rw [HN.out]; rfl, H1⟩, next_i hi⟩
    · obtain rfl : i = 9 := by have := HI.out; omega
      have h3 := H0.out.1
      go_wp2_with (refine load_bx rfl 27 (.tmp 3) rfl g rfl l h3 Try.underlying27 hsz ?_)
      refine (HD.out _).mono ?_
      rintro en w2 ⟨x, c, n, hd, rfl, hb⟩
      have hxl := hd.len hl
      have hsx : (Try.prog.info? 27).map (·.size) = some x.length := by rw [hxl]; exact size_board
      obtain ⟨q1, q2, q3⟩ := full_facts HO.out hd
      have hbel := Lib.hid (Kt.balloc (Kt.bthen H0.out.2 hb) (.cells (Kt.ia .i64 x) 27))
      have q1' : ((cnt l 9 : Nat) : Int) ≤ 8 := by omega
      clear hd hb h3
      by_cases hf : cnt l 9 = 8
      · obtain rfl := q2.2 hf
        obtain rfl := q3.2 hf
        rw [hf]
        clear q1 q2 q3 q1' hf
        go_wp2_with (refine store_new rfl 27 (.tmp 8) (.tmp 31) rfl w2.heap.size rfl rfl x rfl _ (by rw [Kt.ia_size, zb_len, hxl]) hsx ?_)
        refine (lives_calls _).mono ?_
        rintro en w3 ⟨rfl, hb⟩
        go_wp2_with fail
        go_ret
        exact ⟨rfl, Kt.bthen hbel.out hb⟩
      · have f1 : (c == 9) = false := beq_eq_false_iff_ne.2 fun e => hf (q2.1 e)
        have f2 : (n == 0) = false := beq_eq_false_iff_ne.2 fun e => hf (q3.1 e)
        have f3 : (((cnt l 9 : Nat) : Int) == 8) = false := beq_eq_false_iff_ne.2 (by omega)
        clear q1 q2 q3 hf
        generalize ((cnt l 9 : Nat) : Int) = m at *
        go_wp2_with (refine store_new rfl 27 (.tmp 8) (.tmp 31) rfl w2.heap.size rfl rfl x rfl _ (by rw [Kt.ia_size, zb_len, hxl]) hsx ?_)
        refine (lives_calls _).mono ?_
        rintro en w3 ⟨rfl, hb⟩
        go_wp2_with fail
        go_ret
        exact ⟨rfl, Kt.bthen hbel.out hb⟩
end Go.Proofs.Ytmnfajndklmpbaa
