/- The law of rooms, walked: Room. -/
import Derived.Test.YtblcanmkkjfnlaaRegA
namespace Go.Proofs.Ytblcanmkkjfnlaa
open Go.RowKit Go.Proofs.Ytblcanmkkjfnlaa.RegP
theorem load_reg_g {ops : Array Oper} {rest : List Oper} {o : Oper} {a : Act} {w : World} {Q : Exit → Act → World → Prop} (hgd : Region.wanted o (yielded ops a.tmps) = true) (x : Operand) (ho : o.op = .load 26 x) (g : Nat) (hx : a.eval x = .pointer (some ⟨g, 0, none⟩)) (rs : List Room) (hl : rs.length = 16) (hg : Row w g rs)
    (h : wpList Try.prog ops Q rest (a.put o.dst (.agg (regA rs))) w) : wpList Try.prog ops Q (o :: rest) a w :=
  BigFrame.wpList_want hgd fun _ hK => wp_load_row 26 x ho g hx 26 (regA rs) (0, 0) _ hg Try.underlying26 rfl (szR hl) (hK _ _ h)
set_option maxHeartbeats 800000 in
theorem room_bad (rs : List Room) (hl : rs.length = 16) (u : Int) (HL : Hid (Lt rs u zeros 0 4)) (HC : Hid (Ck rs 4)) (w : World) : Calls Try.prog 5 #[.agg (regA rs), .int .i64 u] w fun en w' => en = .returned (.bool true) ∧ Below w.heap.size w w' := by
  go_enter Try.func5, Try.ntmps5
  go_wp2_with (refine load_reg rfl (.tmp 2) rfl _ rfl rs hl (Row.new _ _) ?_)
  refine (HL.out _).mono ?_; rintro en w1 ⟨rfl, hb1⟩
  go_wp2_with (refine store_new rfl (.tmp 5) (.tmp 20) rfl rfl zeros zeros_len rfl _ rfl ?_)
  refine (lives_calls _).mono ?_; rintro en w2 ⟨rfl, hb2⟩
  have r2 : Row w2 w.heap.size rs := (((Row.new w rs).on hb1).alloc _).on hb2
  go_wp2_with (refine load_reg_g (by rfl) (.tmp 2) rfl _ rfl rs hl r2 ?_)
  refine (HC.out _).mono ?_; rintro en w3 ⟨rfl, hb3⟩
  go_wp2_with fail
  refine (lives_calls _).mono ?_; rintro en w4 ⟨rfl, hb4⟩
  go_wp2_with fail
  go_ret
  exact ⟨rfl, Kt.bthen (Kt.bthen (Kt.bthen (Kt.balloc (Kt.bthen (Kt.balloc (Below.refl _ w) _) hb1) _) hb2) hb3) hb4⟩
set_option maxHeartbeats 800000 in
theorem room_full (rs : List Room) (hl : rs.length = 16) (u : Int) (hnf : ∀ j (hj : j < rs.length), free rs[j] = false) (HL : Hid (Lt rs u zeros 0 11)) (HC : Hid (Ck rs 0)) (w : World) : Calls Try.prog 5 #[.agg (regA rs), .int .i64 u] w fun en w' => en = .returned (.bool true) ∧ Below w.heap.size w w' := by
  have HN := Lib.hid hnf; clear hnf
  go_enter Try.func5, Try.ntmps5
  go_wp2_with (refine load_reg rfl (.tmp 2) rfl _ rfl rs hl (Row.new _ _) ?_)
  refine (HL.out _).mono ?_; rintro en w1 ⟨rfl, hb1⟩
  go_wp2_with (refine store_new rfl (.tmp 5) (.tmp 20) rfl rfl zeros zeros_len rfl _ rfl ?_)
  refine (lives_calls _).mono ?_; rintro en w2 ⟨rfl, hb2⟩
  have r2 : Row w2 w.heap.size rs := (((Row.new w rs).on hb1).alloc _).on hb2
  go_wp2_with (refine load_reg_g (by rfl) (.tmp 2) rfl _ rfl rs hl r2 ?_)
  refine (HC.out _).mono ?_; rintro en w3 ⟨rfl, hb3⟩
  have r3 : Row w3 w.heap.size rs := r2.on hb3
  have hB3 := Kt.bthen (Kt.bthen (Kt.balloc (Kt.bthen (Kt.balloc (Below.refl _ w) _) hb1) _) hb2) hb3
  have hz3 := r3.lt
  go_wp2_with (refine wpList_load_row rfl 24 (.tmp 35) rfl w.heap.size rfl 26 (regA rs) (0, 0) _ r3 Try.underlying24 rfl (szA hl) ?_)
  go_loopw [37, 8] (fun i n wr => ∃ k : Nat, k ≤ 16 ∧ i = .int .i64 k ∧ n = .int .i64 0 ∧ Below w.heap.size w wr ∧ w.heap.size < wr.heap.size) (fun i _ _ => 16 - (intOf i).toNat)
  case atStart => exact ⟨0, by omega, rfl, rfl, hB3, hz3⟩
  case round =>
    obtain ⟨k, hk, rfl, rfl, hbel, hsz⟩ := hrel
    clear hb1 hb2 hb3 hB3 r2 r3
    by_cases hlt : k < 16
    · have hx := HN.out k (by omega)
      have hidx := part_room rs hl k (by omega)
      generalize rs[k] = x at *
      obtain ⟨g, l, v⟩ := x
      simp only at hidx
      rcases free_cases hx with rfl | ⟨rfl, hg⟩
      all_goals
        clear hx
        go_wp2
        go_roundw
        case rel => exact ⟨k + 1, by omega, by go_num, rfl, Kt.balloc hbel _, by simp; omega⟩
        case measure => simp [intOf]; omega
    · obtain rfl : k = 16 := by omega
      go_wp2
      go_ret
      exact ⟨rfl, hbel⟩
set_option maxHeartbeats 1600000 in
theorem room_good (rs rs1 rs2 : List Room) (hl : rs.length = 16) (hl1 : rs1.length = 16) (hl2 : rs2.length = 16) (u : Int) (m : Nat) (hm : m < rs.length) (hf : free rs[m] = true) (h : Int) (n e : Int) (rs3 : List Room) (hl3 : rs3.length = 16) (HL : Hid (Lt rs u rs1 h 0)) (HC : Hid (Ck rs 0)) (HE : Hid (En rs1 h rs2 0)) (HL2 : Hid (Lt rs2 u rs3 n e)) (hh : 0 ≤ h ∧ h ≤ 1048575) (hend : (h / 16 == 65535) = true ∨ ((h / 16 == 65535) = false ∧ e = 0 ∧ n = h + 16)) (w : World) : Calls Try.prog 5 #[.agg (regA rs), .int .i64 u] w fun en w' => en = .returned (.bool true) ∧ Below w.heap.size w w' := by
  have HEnd := Lib.hid hend; clear hend
  have HF := Lib.hid hf; clear hf
  go_enter Try.func5, Try.ntmps5
  go_wp2_with (refine load_reg rfl (.tmp 2) rfl _ rfl rs hl (Row.new _ _) ?_)
  refine (HL.out _).mono ?_; rintro en w1 ⟨rfl, hb1⟩
  go_wp2_with (refine store_new rfl (.tmp 5) (.tmp 20) rfl rfl rs1 hl1 rfl _ rfl ?_)
  refine (lives_calls _).mono ?_; rintro en w2 ⟨rfl, hb2⟩
  have r2 : Row w2 w.heap.size rs := (((Row.new w rs).on hb1).alloc _).on hb2
  have q2 : Row w2 w1.heap.size rs1 := (Row.new w1 rs1).on hb2
  go_wp2_with (refine load_reg_g (by rfl) (.tmp 2) rfl _ rfl rs hl r2 ?_)
  refine (HC.out _).mono ?_; rintro en w3 ⟨rfl, hb3⟩
  have r3 : Row w3 w.heap.size rs := r2.on hb3
  have q3 : Row w3 w1.heap.size rs1 := q2.on hb3
  have hB3 := Kt.bthen (Kt.bthen (Kt.balloc (Kt.bthen (Kt.balloc (Below.refl _ w) _) hb1) _) hb2) hb3
  have hz3 := r3.lt
  go_wp2_with (refine wpList_load_row rfl 24 (.tmp 35) rfl w.heap.size rfl 26 (regA rs) (0, 0) _ r3 Try.underlying24 rfl (szA hl) ?_)
  go_loopw [37, 8] (fun i n wr => ∃ k c : Nat, k ≤ 16 ∧ i = .int .i64 k ∧ n = .int .i64 c ∧ c ≤ k ∧ (m < k → 0 < c) ∧ Below w.heap.size w wr ∧ w.heap.size < wr.heap.size ∧ Row wr w1.heap.size rs1) (fun i _ _ => 16 - (intOf i).toNat)
  case atStart => exact ⟨0, 0, by omega, rfl, rfl, by omega, by omega, hB3, hz3, q3⟩
  case round =>
    obtain ⟨k, c, hk, rfl, rfl, hck, hmk, hbel, hsz, hq⟩ := hrel
    clear hb1 hb2 hb3 hB3 r2 r3 q2 q3
    have HM := Lib.hid hmk; clear hmk
    by_cases hlt : k < 16
    · have hidx := part_room rs hl k (by omega)
      have HK := Lib.hid (show k = m → free (rs[k]'(by omega)) = true from fun e => by subst e; exact HF.out)
      generalize rs[k] = x at *
      obtain ⟨g, l, v⟩ := x
      simp only at hidx
      by_cases hx : free ⟨g, l, v⟩ = true
      · simp only [free, Bool.and_eq_true, Bool.not_eq_true', decide_eq_true_iff] at hx
        obtain ⟨rfl, hg⟩ := hx
        go_wp2
        go_roundw
        case rel => exact ⟨k + 1, c + 1, by omega, by go_num, by go_num, by omega, by omega, Kt.balloc hbel _, by simp; omega, hq.alloc _⟩
        case measure => simp [intOf]; omega
      · have hkm : k ≠ m := fun e => hx (HK.out e)
        have hx : free ⟨g, l, v⟩ = false := by simpa using hx
        have hcm : m < k + 1 → 0 < c := fun h => HM.out (by omega)
        have HCM := Lib.hid hcm; clear hcm
        rcases free_cases hx with rfl | ⟨rfl, hg⟩
        all_goals
          clear hx
          go_wp2
          go_roundw
          case rel => exact ⟨k + 1, c, by omega, by go_num, rfl, by omega, HCM.out, Kt.balloc hbel _, by simp; omega, hq.alloc _⟩
          case measure => simp [intOf]; omega
    · obtain rfl : k = 16 := by omega
      have hc := HM.out (by omega)
      go_wp2_with (refine load_reg rfl (.tmp 5) rfl _ rfl rs1 hl1 hq ?_)
      refine (HE.out _).mono ?_; rintro en w4 ⟨rfl, hb4⟩
      go_wp2_with (first | (refine store_new rfl (.tmp 11) (.tmp 67) rfl rfl rs2 hl2 rfl _ rfl ?_) | (refine load_reg rfl (.tmp 11) rfl _ rfl rs2 hl2 (Row.new _ _) ?_))
      refine (HL2.out _).mono ?_; rintro en w5 ⟨rfl, hb5⟩
      have hB5 := Kt.balloc (Kt.bthen (Kt.balloc (Kt.bthen hbel hb4) (.cells (regA rs2) 26)) hb5) (.cells (regA rs3) 26)
      clear hb4 hb5 hbel hq
      rcases HEnd.out with d | ⟨d, rfl, rfl⟩
      all_goals
        go_wp2_with (refine store_new rfl (.tmp 13) (.tmp 73) rfl rfl rs3 hl3 rfl _ rfl ?_)
        go_ret
        exact ⟨rfl, hB5⟩
theorem room_walk (v0 v1 : Value) (w : World) (r0 : Fr.RdV w reachBytes (.cat 48 (.arr 16 3 (.cat 1 (.int .i64) (.cat 1 .bool (.cat 1 (.int .i64) .nil)))) .nil) v0) (r1 : Fr.RdV w reachBytes (.int .i64) v1) :
    Calls Try.prog 5 #[v0, v1] w fun e w' => e = .returned (.bool true) ∧ Below w.heap.size w w' := by
  obtain ⟨rs, hl, rfl, _⟩ := rarg r0
  obtain ⟨u, e1, _⟩ := r1; cases e1
  by_cases ha : AllOk rs
  · by_cases hh : ∀ j (hj : j < rs.length), free rs[j] = false
    · exact room_full rs hl u hh (Lib.hid (let_full rs hl u ha hh)) (Lib.hid (check_good rs hl ha)) w
    · obtain ⟨m, hm, hf, hj⟩ := free_first hh
      have hl1 : (rs.set m ⟨rs[m].gen + 1, true, u⟩).length = 16 := by rw [List.length_set, hl]
      have L1 := let_good rs hl u ha m hm hf hj
      have ho := ha m hm
      have hf2 : rs[m].gen < 65535 := by simp [free] at hf; exact hf.2
      have ha1 : AllOk (rs.set m ⟨rs[m].gen + 1, true, u⟩) := all_set ha m _ ⟨by have := ho.1; simp only; omega, by simp only; omega, fun _ => by have := ho.1; simp only; omega, fun h => (by cases h)⟩
      have hm1 : m < (rs.set m ⟨rs[m].gen + 1, true, u⟩).length := by rw [List.length_set]; exact hm
      have e1 : (rs.set m ⟨rs[m].gen + 1, true, u⟩)[m] = ⟨rs[m].gen + 1, true, u⟩ := by simp
      have E1 := end_some _ hl1 (m + 16 * (rs[m].gen + 1)) ha1 m hm1 (by rw [e1]; exact ⟨rfl, rfl⟩)
      rw [e1] at E1
      simp only [List.set_set] at E1
      have hl2 : (rs.set m ⟨rs[m].gen + 1, false, 0⟩).length = 16 := by rw [List.length_set, hl]
      have hm2 : m < (rs.set m ⟨rs[m].gen + 1, false, 0⟩).length := by rw [List.length_set]; exact hm
      have hb : 0 ≤ (m : Int) + 16 * (rs[m].gen + 1) ∧ (m : Int) + 16 * (rs[m].gen + 1) ≤ 1048575 := by have := ho.1; omega
      by_cases hg : rs[m].gen + 1 < 65535
      · have e2 : (rs.set m ⟨rs[m].gen + 1, false, 0⟩)[m] = ⟨rs[m].gen + 1, false, 0⟩ := by simp
        have ha2 : AllOk (rs.set m ⟨rs[m].gen + 1, false, 0⟩) := all_set ha m _ ⟨by have := ho.1; simp only; omega, by simp only; omega, fun h => (by cases h), fun _ => rfl⟩
        have L2 := let_good _ hl2 u ha2 m hm2 (by rw [e2]; simp [free]; exact hg) (fun j hj' hlt => by
          rw [List.getElem_set, if_neg (by omega)]; exact hj j (by simpa using hj') hlt)
        have hl3 := hl2
        refine room_good rs _ _ hl hl1 hl2 u m hm hf _ _ 0 _ (by rw [List.length_set]; exact hl2) (Lib.hid L1) (Lib.hid (check_good rs hl ha)) (Lib.hid E1) (Lib.hid L2) hb ?_ w
        refine Or.inr ⟨by rw [beq_eq_false_iff_ne]; omega, rfl, ?_⟩
        rw [e2]; simp only; omega
      · obtain ⟨rs3, n, e, hl3, L2⟩ := lt_total hl2 u
        exact room_good rs _ _ hl hl1 hl2 u m hm hf _ n e rs3 hl3 (Lib.hid L1) (Lib.hid (check_good rs hl ha)) (Lib.hid E1) (Lib.hid L2) hb (Or.inl (by rw [beq_iff_eq]; omega)) w
  · exact room_bad rs hl u (Lib.hid (let_bad rs hl u (Lib.hid (ck_bad hl ha)))) (Lib.hid (ck_bad hl ha)) w
end Go.Proofs.Ytblcanmkkjfnlaa
