/- arena: spans by their cells; the walks of Check and Free. -/
import Derived.Test.YtdckakjfplhanaaSlm
import Derived.Test.YtdckakjfplhanaaArnP
namespace Go.Proofs.Ytdckakjfplhanaa
open Go.RowKit Go.Proofs.Ytdckakjfplhanaa.Arn
theorem infoSp : (Try.prog.info? 30).map (fun i => (i.zero, i.size, i.bytes)) = some (some (.agg #[.int .i64 0, .int .i64 0]), 2, 16) := by kernel_rfl
/-- spans, by their cells -/
def spv (l : List (Int × Int)) : List Value := l.flatMap fun x => [.int .i64 x.1, .int .i64 x.2]
theorem spv_len (l : List (Int × Int)) : (spv l).length = l.length * 2 := by
  induction l with
  | nil => rfl
  | cons x l ih => simp only [spv, List.flatMap_cons, List.length_append, List.length_cons, List.length_nil] at ih ⊢; omega
theorem spv_app (a b : List (Int × Int)) : spv (a ++ b) = spv a ++ spv b := by simp [spv]
theorem spv_at (l : List (Int × Int)) (k : Nat) (h : k < l.length) : (spv l)[k * 2]? = some (.int .i64 l[k].1) ∧ (spv l)[k * 2 + 1]? = some (.int .i64 l[k].2) := by
  induction l generalizing k with
  | nil => simp at h
  | cons x l ih =>
    cases k with
    | zero => exact ⟨rfl, rfl⟩
    | succ k =>
      have := ih k (by simpa using h)
      rw [show (k + 1) * 2 = k * 2 + 2 by omega]
      exact this
theorem spv_one (l : List (Int × Int)) : ∀ u ∈ spv l, u.oneCell' = true := by
  intro u hu
  simp only [spv, List.mem_flatMap] at hu
  obtain ⟨x, _, hx⟩ := hu
  simp at hx
  rcases hx with rfl | rfl <;> rfl
/-- the cells of the k-th span, in a world behind -/
theorem Kt.Ar.span {w w' : World} {V : Value} {l : List (Int × Int)} (h : Kt.Ar w V 2 l.length (spv l)) (k : Nat) (hk : k < l.length) : ∃ b o c, V = .slice (some ⟨b, o, none⟩) l.length c ∧ b < w.heap.size ∧ w.cell? ⟨b, o + k * 2, none⟩ = some (.int .i64 l[k].1) ∧ w.cell? ⟨b, o + k * 2 + 1, none⟩ = some (.int .i64 l[k].2) := by
  obtain ⟨A, c, e, _, hx⟩ := h.form
  obtain ⟨b, o, rfl, hb, hc⟩ := hx (by omega)
  obtain ⟨h1, h2⟩ := spv_at l k hk
  obtain ⟨l1, e1⟩ := List.getElem?_eq_some_iff.1 h1
  obtain ⟨l2, e2⟩ := List.getElem?_eq_some_iff.1 h2
  refine ⟨b, o, c, e, hb, ?_, ?_⟩
  · rw [hc _ l1, e1]
  · rw [Nat.add_assoc, hc _ l2, e2]
set_option maxRecDepth 100000 in
set_option maxHeartbeats 1600000 in
theorem check_calls (size : Int) (l : List (Int × Int)) (V : Value) (w : World) (hv : Kt.Ar w V 2 l.length (spv l)) (hm : l.length ≤ 140737488355328) :
    Calls Try.prog 17 #[.agg #[.int .i64 size, V]] w fun e w' => e = .returned (.int .i64 (chk size l)) ∧ Below w.heap.size w w' := by
  obtain ⟨A0, c0, rfl, _, _⟩ := hv.form
  have HV := Lib.hid hv
  have HB0 := Lib.hid (Kt.balloc (Below.refl _ w) (.cells #[.int .i64 size, .slice A0 l.length c0] 24))
  have HR0 := Lib.hid (heap_alloc_new w (.cells #[.int .i64 size, .slice A0 l.length c0] 24))
  clear hv
  by_cases h1 : size < 1 ∨ 65536 < size
  · have HX : Hid (chk size l = 1) := Lib.hid (if_pos h1)
    rcases h1 with h1 | h1
    · go_enter Try.func17, Try.ntmps17
      go_wp2_with fail
      go_ret
      exact ⟨by rw [HX.out]; rfl, HB0.out⟩
    · have h2 : (1 : Int) ≤ size := by omega
      go_enter Try.func17, Try.ntmps17
      go_wp2_with fail
      go_ret
      exact ⟨by rw [HX.out]; rfl, HB0.out⟩
  · have s1 : (1 : Int) ≤ size := by omega
    have s2 : size ≤ 65536 := by omega
    by_cases h2 : 64 < l.length
    · have HX : Hid (chk size l = 2) := Lib.hid (by unfold chk; rw [if_neg h1, if_pos h2])
      have h3 : (64 : Int) < l.length := by omega
      clear h1 h2
      go_enter Try.func17, Try.ntmps17
      go_wp2_with fail
      go_ret
      exact ⟨by rw [HX.out]; rfl, HB0.out⟩
    · have HX : Hid (chk size l = if okS size 0 l then 0 else 4) := Lib.hid (by unfold chk; rw [if_neg h1, if_neg h2])
      have h3 : (l.length : Int) ≤ 64 := by omega
      have HLE : Hid (l.length ≤ 64) := Lib.hid (by omega)
      clear h1 h2 hm
      obtain ⟨R, hR⟩ : ∃ R, chk size l = R := ⟨_, rfl⟩
      rw [hR] at HX
      rw [hR]
      clear hR
      go_enter Try.func17, Try.ntmps17
      go_wp2_with fail
      generalize w.alloc (.cells #[.int .i64 size, .slice A0 l.length c0] 24) = w0 at *
      go_loopw [3, 23] (fun e i wr => ∃ (k : Nat) (z : Int), k ≤ l.length ∧ Hid (0 ≤ z ∧ z ≤ 65536) ∧ e = .int .i64 z ∧ i = .int .i64 k ∧ Hid (R = if okS size z (l.drop k) then 0 else 4) ∧ Hid (wr.heap[w.heap.size]? = some (.cells #[.int .i64 size, .slice A0 l.length c0] 24 (0, 0))) ∧ Hid (Below w.heap.size w wr)) (fun _ i _ => l.length - (intOf i).toNat)
      case atStart => exact ⟨0, 0, Nat.zero_le _, Lib.hid (by omega), rfl, rfl, HX, HR0, HB0⟩
      case round =>
        clear HX HR0 HB0
        obtain ⟨k, z, hk, HZ, rfl, rfl, HX, HR, HB⟩ := hrel
        by_cases hlt : k < l.length
        · obtain ⟨b, o, c, hve, hb0, x0, x1⟩ := Kt.Ar.span (w' := w) (HV.out.on HB.out) k hlt
          cases hve
          have HN : Hid (R = if (1 ≤ l[k].2 ∧ z ≤ l[k].1 ∧ l[k].1 < size ∧ l[k].2 ≤ size - l[k].1 ∧ okS size (l[k].1 + l[k].2) (l.drop (k + 1))) then 0 else 4) := Lib.hid (by
            rw [HX.out, List.drop_eq_getElem_cons hlt]
            exact ite_congr (propext Iff.rfl) (fun _ => rfl) (fun _ => rfl))
          generalize l[k].1 = at_ at *
          generalize l[k].2 = sz at *
          have ek : (k : Int) < l.length := by omega
          have ek0 : (0 : Int) ≤ k := by omega
          have HK := Lib.hid hlt
          have q := fun i => cell_of_row _ _ i _ _ _ (Kt.row_on (Kt.balloc (Below.refl _ wr) (.cells #[.int .i64 at_, .int .i64 sz] 30)) HR.out)
          have HR1 := Lib.hid (Kt.row_on (Kt.balloc (Below.refl _ wr) (.cells #[.int .i64 at_, .int .i64 sz] 30)) HR.out)
          have HB1 := Lib.hid (Kt.balloc HB.out (.cells #[.int .i64 at_, .int .i64 sz] 30))
          clear HX hlt hk HR HB
          by_cases c1 : sz < 1
          · go_wp2_with fail
            go_ret
            exact ⟨by rw [HN.out, if_neg (fun h => by omega)]; rfl, HB1.out⟩
          · by_cases c2 : at_ < z
            · have d1 : (1 : Int) ≤ sz := by omega
              clear c1
              go_wp2_with fail
              go_ret
              exact ⟨by rw [HN.out, if_neg (fun h => by omega)]; rfl, HB1.out⟩
            · have d1 : (1 : Int) ≤ sz := by omega
              have d2 : z ≤ at_ := by omega
              clear c1 c2
              by_cases c3 : size ≤ at_
              · go_wp2_with fail
                go_ret
                exact ⟨by rw [HN.out, if_neg (fun h => by omega)]; rfl, HB1.out⟩
              · have d3 : at_ < size := by omega
                have d5 : wrap64 (size - at_) = size - at_ := by have := HZ.out; unfold wrap64; omega
                clear c3
                by_cases c4 : size - at_ < sz
                · go_wp2_with fail
                  go_ret
                  exact ⟨by rw [HN.out, if_neg (fun h => by omega)]; rfl, HB1.out⟩
                · have d4 : sz ≤ size - at_ := by omega
                  have HNX : Hid (R = if okS size (at_ + sz) (l.drop (k + 1)) then 0 else 4) := Lib.hid (by
                    rw [HN.out]
                    exact ite_congr (propext ⟨fun h => h.2.2.2.2, fun h => ⟨d1, d2, d3, d4, h⟩⟩) (fun _ => rfl) (fun _ => rfl))
                  have d6 : wrap64 (at_ + sz) = at_ + sz := by have := HZ.out; unfold wrap64; omega
                  have HZ2 : Hid (0 ≤ at_ + sz ∧ at_ + sz ≤ 65536) := Lib.hid (by have := HZ.out; omega)
                  clear c4 HN
                  go_wp2_with fail
                  have hl := HLE.out
                  have hk := HK.out
                  go_roundw
                  case rel => exact ⟨k + 1, at_ + sz, by omega, HZ2, by rw [d6], by go_num, HNX, HR1, HB1⟩
                  case measure => (simp [intOf] <;> omega)
        · obtain rfl : k = l.length := by omega
          have HX2 : Hid (R = 0) := Lib.hid (by rw [HX.out, List.drop_of_length_le (Nat.le_refl _), if_pos (show okS size z [] from trivial)])
          clear HX
          go_wp2_with fail
          go_ret
          exact ⟨by rw [HX2.out]; rfl, HB.out⟩
set_option maxRecDepth 100000 in
set_option maxHeartbeats 1600000 in
theorem free_calls (size : Int) (l : List (Int × Int)) (V : Value) (w : World) (hv : Kt.Ar w V 2 l.length (spv l)) (hm : l.length ≤ 140737488355328) :
    Calls Try.prog 14 #[.agg #[.int .i64 size, V]] w fun e w' => e = .returned (.tuple #[.int .i64 (if chk size l = 0 then size - sum l else 0), .int .i64 (chk size l)]) ∧ Below w.heap.size w w' := by
  obtain ⟨A0, c0, rfl, _, _⟩ := hv.form
  have HV := Lib.hid hv
  have HB0 := Lib.hid (Kt.balloc (Below.refl _ w) (.cells #[.int .i64 size, .slice A0 l.length c0] 24))
  have HR0 := Lib.hid (heap_alloc_new w (.cells #[.int .i64 size, .slice A0 l.length c0] 24))
  have HCK := Lib.hid (check_calls size l _ _ (hv.on HB0.out) hm)
  clear hv
  by_cases hc : chk size l = 0
  · obtain ⟨h1, h2, h3, h4⟩ := chk_ok hc
    have HO := Lib.hid h4
    rw [if_pos hc, hc]
    rw [hc] at HCK
    clear hc h4 hm
    obtain ⟨R, hR⟩ : ∃ R, size - sum l = R := ⟨_, rfl⟩
    rw [hR]
    have HR := Lib.hid hR
    clear hR
    go_enter Try.func14, Try.ntmps14
    go_wp2_with fail
    generalize w.alloc (.cells #[.int .i64 size, .slice A0 l.length c0] 24) = w0 at *
    refine HCK.out.mono ?_
    rintro e w1 ⟨rfl, hb⟩
    have HR1 := Lib.hid (Kt.row_on hb HR0.out)
    have HB1 := Lib.hid (Kt.bthen HB0.out hb)
    have q := fun i => cell_of_row _ _ i _ _ _ HR1.out
    clear HR0 HB0 hb HCK
    go_wp2_with fail
    clear q
    go_loopw [5, 18] (fun m i wr => ∃ (k : Nat) (z : Int), k ≤ l.length ∧ i = .int .i64 k ∧ m = .int .i64 z ∧ Hid (z - sum (l.drop k) = R ∧ 0 ≤ sum (l.drop k) ∧ sum (l.drop k) ≤ z ∧ z ≤ 65536) ∧ Hid (Below w.heap.size w wr)) (fun _ i _ => l.length - (intOf i).toNat)
    case atStart => exact ⟨0, size, Nat.zero_le _, rfl, rfl, Lib.hid (by have := okS_sum size l 0 HO.out (by omega); have := HR.out; rw [List.drop_zero]; omega), HB1⟩
    case round =>
      clear HB1
      obtain ⟨k, z, hk, rfl, rfl, HZ, HB⟩ := hrel
      by_cases hlt : k < l.length
      · obtain ⟨b, o, c, hve, hb0, x0, x1⟩ := Kt.Ar.span (w' := w) (HV.out.on HB.out) k hlt
        cases hve
        have HN : Hid (sum (l.drop k) = l[k].2 + sum (l.drop (k + 1)) ∧ 1 ≤ l[k].2 ∧ 0 ≤ sum (l.drop (k + 1))) := Lib.hid (by
          refine ⟨by rw [List.drop_eq_getElem_cons hlt, sum_cons], (okS_bounds size l 0 HO.out _ (List.getElem_mem hlt)).2.1, ?_⟩
          have hd : ∀ (m : List (Int × Int)), (∀ s ∈ m, 1 ≤ s.2) → 0 ≤ sum m := by
            intro m
            induction m with
            | nil => intro _; simp [sum]
            | cons s m ih =>
              intro h
              rw [sum_cons]
              have := h s (by simp)
              have := ih (fun x hx => h x (by simp [hx]))
              omega
          exact hd _ (fun s hs => (okS_bounds size l 0 HO.out s (List.mem_of_mem_drop hs)).2.1))
        generalize l[k].1 = at_ at *
        generalize l[k].2 = sz at *
        have ek : (k : Int) < l.length := by omega
        have ek0 : (0 : Int) ≤ k := by omega
        have HK := Lib.hid hlt
        have HB1 := Lib.hid (Kt.balloc HB.out (.cells #[.int .i64 at_, .int .i64 sz] 30))
        clear hlt hk HB
        go_wp2_with fail
        have hn := HN.out
        have hz := HZ.out
        have hk := HK.out
        go_roundw
        case rel => exact ⟨k + 1, z - sz, by omega, by go_num, by rw [show wrap64 (z - sz) = z - sz by unfold wrap64; omega], Lib.hid (by omega), HB1⟩
        case measure => (simp [intOf] <;> omega)
      · obtain rfl : k = l.length := by omega
        have HZ2 : Hid (z = R) := Lib.hid (by have := HZ.out; rw [List.drop_of_length_le (Nat.le_refl _)] at this; have h0 : sum ([] : List (Int × Int)) = 0 := rfl; rw [h0] at this; omega)
        clear HZ
        go_wp2_with fail
        go_ret2
        exact ⟨by rw [HZ2.out]; rfl, HB.out⟩
  · have hb : (chk size l != 0) = true := by rw [bne_iff_ne]; exact hc
    rw [if_neg hc]
    generalize chk size l = e0 at *
    clear hm
    go_enter Try.func14, Try.ntmps14
    go_wp2_with fail
    refine HCK.out.mono ?_
    rintro e w1 ⟨rfl, hb1⟩
    have HB1 := Lib.hid (Kt.bthen HB0.out hb1)
    clear hb1 HCK HR0 HB0
    go_wp2_with fail
    go_ret2
    exact ⟨rfl, HB1.out⟩
end Go.Proofs.Ytdckakjfplhanaa
