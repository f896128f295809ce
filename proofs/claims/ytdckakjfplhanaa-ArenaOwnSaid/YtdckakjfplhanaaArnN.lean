/- ArenaLeast walked. -/
import Derived.Test.YtdckakjfplhanaaArnL
namespace Go.Proofs.Ytdckakjfplhanaa
open Go.RowKit Go.Proofs.Ytdckakjfplhanaa.Arn
abbrev arTy : Fr.Ty := .cat 1 (.int .i64) (.cat 1 (.slice 2 spTy) .nil)
theorem ar_arena {w : World} {B : Nat} {v : Value} (r : Fr.RdV w B arTy v) : ∃ (size : Int) (l : List (Int × Int)) (A : Option Addr) (c : Nat), v = .agg #[.int .i64 size, .slice A l.length c] ∧ Kt.Ar w (.slice A l.length c) 2 l.length (spv l) ∧ l.length ≤ B := by
  obtain ⟨cs, rfl, hl, ⟨size, hs, _⟩, hl2, hsl, hnil⟩ := r
  obtain ⟨xs⟩ := cs
  dsimp only at *
  match xs, hl, hl2 with
  | [p], _, h => simp at h
  | p :: q :: rest, _, _ =>
    simp only [List.take_succ_cons, List.take_zero, List.drop_succ_cons, List.drop_zero, List.cons.injEq, and_true] at hs hsl hnil
    obtain rfl : rest = [] := hnil
    subst hs
    obtain ⟨l, h1, h2⟩ := ar_spans (v := q) hsl
    obtain ⟨A, c, rfl, _, _⟩ := h2.form
    exact ⟨size, l, A, c, rfl, h2, h1⟩
/-- what ArenaLeast asks of Take's answer -/
def Late (size : Int) (l : List (Int × Int)) (z al n k : Int) : Prop := (n = 0 ∨ n = 11) ∧ l.length < 64 ∧ 1 ≤ size ∧ size ≤ 65536 ∧ 1 ≤ z ∧ z ≤ 4096 ∧ 1 ≤ al ∧ okS size 0 l ∧ ∀ b, 0 ≤ b → b + z ≤ size → al ∣ b → (n = 0 → b < k) → ¬ fit l z b
theorem take_late {B : Nat} {size : Int} {l : List (Int × Int)} {z al : Int} {e : Ending} {w' : World} (h : TakeIs B size l z al e w') :
    ∃ (b : Int) (A : Option Addr) (m c : Nat) (k n : Int), e = .returned (.tuple #[.agg #[.int .i64 b, .slice A m c], .int .i64 k, .int .i64 n]) ∧ ((n ≠ 0 ∧ n ≠ 11) ∨ (n = 11 ∧ l.length = 64) ∨ Late size l z al n k) := by
  rcases h with ⟨n, hn, rfl, h | ⟨hc, ⟨h, rfl⟩ | ⟨ha, rfl, h | ⟨h1, h⟩⟩⟩⟩ | ⟨hc, ha, h1, a, A, c, a1, a2, a3, a4, a5, rfl, a6⟩
  · refine ⟨0, none, 0, 0, 0, n, rfl, .inl ⟨hn, ?_⟩⟩
    rw [← h]; unfold chk
    split
    · decide
    · split
      · decide
      · split <;> decide
  · exact ⟨0, none, 0, 0, 0, 1, rfl, .inl ⟨by decide, by decide⟩⟩
  · exact ⟨0, none, 0, 0, 0, 11, rfl, .inr (.inl ⟨rfl, h⟩)⟩
  · obtain ⟨s1, s2, _, ho⟩ := chk_ok hc
    exact ⟨0, none, 0, 0, 0, 11, rfl, .inr (.inr ⟨.inr rfl, h1, s1, s2, ha.1, ha.2.1, ha.2.2.1, ho, fun b b1 b2 b3 _ => h b b1 b2 b3⟩)⟩
  · obtain ⟨s1, s2, _, ho⟩ := chk_ok hc
    exact ⟨size, A, l.length + 1, c, a, 0, rfl, .inr (.inr ⟨.inl rfl, h1, s1, s2, ha.1, ha.2.1, ha.2.2.1, ho, fun b b1 b2 b3 b4 => a5 b b1 (b4 rfl) b3⟩)⟩
set_option maxRecDepth 100000 in
set_option maxHeartbeats 3200000 in
theorem least_walk (v0 v1 v2 v3 : Value) (w : World) (r0 : Fr.RdV w reachBytes arTy v0) (r1 : Fr.RdV w reachBytes (.int .i64) v1) (r2 : Fr.RdV w reachBytes (.int .i64) v2) (r3 : Fr.RdV w reachBytes (.int .i64) v3) :
    Calls Try.prog 3 #[v0, v1, v2, v3] w fun e w' => e = .returned (.bool true) ∧ Below w.heap.size w w' := by
  obtain ⟨size, l, A0, c0, rfl, hv, hl⟩ := ar_arena r0
  obtain ⟨z, e1, _⟩ := r1
  obtain ⟨al, e2, _⟩ := r2
  obtain ⟨p, e3, hp⟩ := r3
  cases e1; cases e2; cases e3
  clear r0
  have HB0 := Lib.hid (Kt.balloc (Below.refl _ w) (.cells #[.int .i64 size, .slice A0 l.length c0] 24))
  have HA0 := Lib.hid (heap_alloc_new w (.cells #[.int .i64 size, .slice A0 l.length c0] 24))
  have HT := Lib.hid (take_calls size l _ z al _ (hv.on HB0.out) (Nat.le_trans hl (by decide +kernel)))
  have HV := Lib.hid hv
  have HP := Lib.hid hp
  have HL := Lib.hid (lives_calls)
  have q := fun i => cell_of_row _ _ i _ _ _ HA0.out
  clear hv hp hl
  go_enter Try.func3, Try.ntmps3
  go_wp2_with fail
  refine HT.out.mono ?_
  rintro e w1 ⟨ht, hb⟩
  obtain ⟨b, A, m, c, k, n, rfl, hc⟩ := take_late ht
  have HB1 := Lib.hid (Kt.bthen HB0.out hb)
  have HA1 := Lib.hid (Kt.row_on hb HA0.out)
  clear hb ht HT HB0 HA0 q
  have HB2 := Lib.hid (Kt.balloc HB1.out (.cells #[.int .i64 b, .slice A m c] 24))
  have HA2 := Lib.hid (Kt.row_on (Kt.balloc (Below.refl _ w1) (.cells #[.int .i64 b, .slice A m c] 24)) HA1.out)
  clear HB1 HA1
  go_wp2_with fail
  refine (HL.out _).mono ?_
  rintro e w3 ⟨rfl, hb⟩
  have HB3 := Lib.hid (Kt.bthen HB2.out hb)
  have HA3 := Lib.hid (Kt.row_on hb HA2.out)
  have q := fun i => cell_of_row _ _ i _ _ _ HA3.out
  clear hb HB2 HA2
  rcases hc with ⟨n0, n1⟩ | ⟨n1, n2⟩ | hc
  · have b0 : (n != 0) = true := by rw [bne_iff_ne]; exact n0
    have b1 : (n != 11) = true := by rw [bne_iff_ne]; exact n1
    clear n0 n1
    go_wp2_with fail
    refine (HL.out _).mono ?_
    rintro e w4 ⟨rfl, hb⟩
    have HB4 := Lib.hid (Kt.bthen HB3.out hb)
    clear hb HB3 HA3 q
    go_wp2_with fail
    go_ret
    exact ⟨rfl, HB4.out⟩
  · subst n1
    have b1 : ((l.length : Int) == 64) = true := by rw [n2]; rfl
    clear n2
    go_wp2_with fail
    refine (HL.out _).mono ?_
    rintro e w4 ⟨rfl, hb⟩
    have HB4 := Lib.hid (Kt.bthen HB3.out hb)
    clear hb HB3 HA3 q
    go_wp2_with fail
    go_ret
    exact ⟨rfl, HB4.out⟩
  · obtain ⟨hn, h64, s1, s2, z1, z2, al1, ho, hno⟩ := hc
    have HNO := Lib.hid hno
    have HO := Lib.hid ho
    have H64 := Lib.hid h64
    have HZ := Lib.hid (And.intro s1 (And.intro s2 (And.intro z1 (And.intro z2 al1))))
    have HV3 := Lib.hid (HV.out.on HB3.out)
    have ew : wrap64 (size - z) = size - z := by unfold wrap64; omega
    have hal : al ≠ 0 := by omega
    have c8 : ((l.length : Int) == 64) = false := by rw [beq_eq_false_iff_ne]; omega
    clear hno ho h64 s1 s2 z1 z2 al1
    by_cases c1 : p < 0
    · rcases hn with rfl | rfl
      all_goals
        go_wp2_with fail
        go_ret
        exact ⟨rfl, HB3.out⟩
    have c1' : 0 ≤ p := by omega
    by_cases c2 : size - z < p
    · clear c1
      rcases hn with rfl | rfl
      all_goals
        go_wp2_with fail
        go_ret
        exact ⟨rfl, HB3.out⟩
    have HP2 : Hid (0 ≤ p ∧ p + z ≤ size) := Lib.hid ⟨c1', by omega⟩
    have c2' : p ≤ size - z := by omega
    have er : p.tmod al = p % al := Int.tmod_eq_emod_of_nonneg c1'
    have HDV : Hid (p % al = 0 → al ∣ p) := Lib.hid (fun h => Int.dvd_of_emod_eq_zero h)
    generalize p % al = M at *
    by_cases c3 : M = 0
    · subst c3
      have HDV2 : Hid (al ∣ p) := Lib.hid (HDV.out rfl)
      have ew2 : wrap64 (p + z) = p + z := by have := HZ.out; have := HP2.out; unfold wrap64; omega
      have ew3 : wrap64 (p + z - 1) = p + z - 1 := by have := HZ.out; have := HP2.out; unfold wrap64; omega
      have e1 : wrap64 (p.tdiv 4096) = p / 4096 := by have := HZ.out; have := HP2.out; exact quo_is this.1 (by omega)
      have e2 : wrap64 ((p + z - 1).tdiv 4096) = (p + z - 1) / 4096 := by have := HZ.out; have := HP2.out; exact quo_is (by omega) (by omega)
      have HF : Hid (p / 4096 = (p + z - 1) / 4096 → Arn.free l p z → fit l z p) := Lib.hid (fun h h2 => ⟨h, h2⟩)
      clear HDV
      generalize p / 4096 = P at *
      generalize (p + z - 1) / 4096 = R at *
      by_cases c4 : P = R
      · subst c4
        have HF2 : Hid (Arn.free l p z → fit l z p) := Lib.hid (HF.out rfl)
        clear HF
        by_cases c5 : n = 0 ∧ k ≤ p
        · obtain ⟨rfl, c6⟩ := c5
          clear c1 c2 hn
          go_wp2_with fail
          go_ret
          exact ⟨rfl, HB3.out⟩
        · have HNF : Hid (¬ Arn.free l p z) := Lib.hid (fun h => HNO.out p c1' (by have := HP2.out; omega) HDV2.out (fun e => by
            by_cases h9 : p < k
            · exact h9
            · exact absurd ⟨e, by omega⟩ c5) (HF2.out h))
          have c6 : n = 0 → p < k := fun e => by
            by_cases h9 : p < k
            · exact h9
            · exact absurd ⟨e, by omega⟩ c5
          clear c5 c1 c2
          rcases hn with rfl | rfl
          all_goals
            (try have c7 : p < k := c6 rfl)
            clear c6
            go_wp2_with fail
            clear q e1 e2 er c8 ew
            go_loopw [77] (fun i wr => ∃ (j : Nat), j ≤ l.length ∧ i = .int .i64 j ∧ Hid (∀ t (h : t < l.length), t < j → ¬ ((l[t]'h).1 < p + z ∧ p < (l[t]'h).1 + (l[t]'h).2)) ∧ Hid (Below w.heap.size w wr)) (fun i _ => l.length - (intOf i).toNat)
            case atStart => exact ⟨0, Nat.zero_le _, rfl, Lib.hid (fun t h ht => absurd ht (by omega)), HB3⟩
            case round =>
              clear HB3 HA3 HV3
              obtain ⟨j, hj, rfl, HI, HB⟩ := hrel
              by_cases hlt : j < l.length
              · obtain ⟨bb, o, c, hve, hb0, x0, x1⟩ := Kt.Ar.span (w' := wr) (HV.out.on HB.out) j hlt
                cases hve
                have HJ := Lib.hid hlt
                have ek : (j : Int) < l.length := by omega
                have ek0 : (0 : Int) ≤ j := by omega
                have hbd := okS_bounds size l 0 HO.out (l[j]'hlt) (List.getElem_mem hlt)
                have HT2 : Hid (∀ x y, (l[j]'hlt).1 = x → (l[j]'hlt).2 = y → ∀ h : j < l.length, (l[j]'h).1 = x ∧ (l[j]'h).2 = y) := Lib.hid (fun x y e f h => ⟨e, f⟩)
                obtain ⟨x, hx⟩ : ∃ x, (l[j]'hlt).1 = x := ⟨_, rfl⟩
                obtain ⟨y, hy⟩ : ∃ y, (l[j]'hlt).2 = y := ⟨_, rfl⟩
                have HT3 := Lib.hid (HT2.out x y hx hy)
                rw [hx] at x0 hbd
                rw [hy] at x1 hbd
                have ew4 : wrap64 (x + y) = x + y := by have := HZ.out; unfold wrap64; omega
                have HB5 := Lib.hid (Kt.balloc HB.out (.cells #[.int .i64 x, .int .i64 y] 30))
                clear hx hy HT2 hbd hj
                by_cases h1 : x < p + z
                · by_cases h2 : p < x + y
                  · go_wp2_with fail
                    go_ret
                    exact ⟨rfl, HB5.out⟩
                  · have HNX := Lib.hid (fun h : x < p + z ∧ p < x + y => h2 h.2)
                    go_wp2_with fail
                    have hk := HJ.out
                    have hn := H64.out
                    go_roundw
                    case rel => exact ⟨j + 1, hk, by rw [show wrap64 ((j : Int) + 1) = ((j + 1 : Nat) : Int) by unfold wrap64; omega], Lib.hid (fun t h ht => by
                      by_cases e : t = j
                      · subst e; rw [(HT3.out h).1, (HT3.out h).2]; exact HNX.out
                      · exact HI.out t h (by omega)), HB5⟩
                    case measure =>
                      rw [show wrap64 ((j : Int) + 1) = ((j + 1 : Nat) : Int) by unfold wrap64; omega]
                      simp [intOf]; omega
                · have HNX := Lib.hid (fun h : x < p + z ∧ p < x + y => h1 h.1)
                  go_wp2_with fail
                  have hk := HJ.out
                  have hn := H64.out
                  go_roundw
                  case rel => exact ⟨j + 1, hk, by rw [show wrap64 ((j : Int) + 1) = ((j + 1 : Nat) : Int) by unfold wrap64; omega], Lib.hid (fun t h ht => by
                    by_cases e : t = j
                    · subst e; rw [(HT3.out h).1, (HT3.out h).2]; exact HNX.out
                    · exact HI.out t h (by omega)), HB5⟩
                  case measure =>
                    rw [show wrap64 ((j : Int) + 1) = ((j + 1 : Nat) : Int) by unfold wrap64; omega]
                    simp [intOf]; omega
              · exact absurd (fun s hs => by
                  obtain ⟨t, ht, rfl⟩ := List.mem_iff_getElem.1 hs
                  exact HI.out t ht (by omega)) HNF.out
      · clear c1 c2 HF
        rcases hn with rfl | rfl
        all_goals
          go_wp2_with fail
          go_ret
          exact ⟨rfl, HB3.out⟩
    · clear c1 c2
      rcases hn with rfl | rfl
      all_goals
        go_wp2_with fail
        go_ret
        exact ⟨rfl, HB3.out⟩
end Go.Proofs.Ytdckakjfplhanaa
