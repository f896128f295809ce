/- budget: Load walked. -/
import Derived.Test.YthmcnopogahffaaBudE
namespace Go.Proofs.Ythmcnopogahffaa
open Go.RowKit Go.Shelf Go.Proofs.Ythmcnopogahffaa.Bud
def hits (qs : List Nat) (plan : List Bt) (f lane i : Nat) : Bool := (bt plan i).1 == lane && f % per qs i == (bt plan i).2
def ldl (qs : List Nat) (plan : List Bt) (f n L : Nat) : List Nat := (List.range L).flatMap fun lane => (List.range n).filter (hits qs plan f lane)
theorem ldl_next (qs : List Nat) (plan : List Bt) (f n L : Nat) : ldl qs plan f n (L + 1) = ldl qs plan f n L ++ (List.range n).filter (hits qs plan f L) := by
  unfold ldl
  rw [List.range_succ, List.flatMap_append]
  simp
theorem fil_next (p : Nat → Bool) (i : Nat) : (List.range (i + 1)).filter p = (List.range i).filter p ++ if p i then [i] else [] := by
  rw [List.range_succ, List.filter_append]
  simp [List.filter_cons]
theorem mod_is (f P Y : Nat) : ((f : Int) % (P : Int) == (Y : Int)) = decide (f % P = Y) := by
  rw [Bool.eq_iff_iff, beq_iff_eq, decide_eq_true_iff]
  constructor <;> intro h <;> exact_mod_cast h
theorem iz_app (a b : List Nat) : iz (a ++ b) = iz a ++ iz b := by simp [iz]
theorem iz_len (a : List Nat) : (iz a).length = a.length := by simp [iz]
theorem ldl_len (qs : List Nat) (plan : List Bt) (f n : Nat) : ∀ L, (ldl qs plan f n L).length ≤ L * n
  | 0 => by simp [ldl]
  | L + 1 => by
    rw [ldl_next, List.length_append, Nat.succ_mul]
    have := ldl_len qs plan f n L
    have := List.length_filter_le (hits qs plan f L) (List.range n)
    rw [List.length_range] at this
    omega
def LdIs (lanes frame : Int) (ps : List Int) (bs : List (Int × Int)) (c : Int) (l : List Nat) : Prop := Gd lanes ps bs → 0 ≤ frame → c = 0 ∧ l = ldl (nats ps) (btn bs) frame.toNat ps.length lanes.toNat
set_option maxRecDepth 100000 in
set_option maxHeartbeats 6400000 in
theorem load_calls (lanes frame : Int) (ps : List Int) (bs : List (Int × Int)) (QA PA : Option Addr) (n n2 qc pc : Nat) (hn : ps.length = n) (hn2 : bs.length = n2) (w : World) (hq : Kt.Ar w (.slice QA n qc) 1 n (iv ps)) (hp : Kt.Ar w (.slice PA n2 pc) 2 n2 (spv bs)) (hm : n ≤ 17592186044416) (hm2 : n2 ≤ 17592186044416) :
    Calls Try.prog 15 #[.slice QA n qc, .slice PA n2 pc, .int .i64 lanes, .int .i64 frame] w fun e w' => Below w.heap.size w w' ∧ ∃ V c m l, e = .returned (.tuple #[V, .int .i64 c]) ∧ Kt.Sl w' w.heap.size 3 1 V m (iz l) ∧ m ≤ 512 ∧ LdIs lanes frame ps bs c l := by
  have HC := Lib.hid (check_calls lanes ps bs QA PA n n2 qc pc hn hn2 w hq hp hm hm2)
  have HQ := Lib.hid hq; have HP := Lib.hid hp; have HN := Lib.hid hn; have HN2 := Lib.hid hn2
  clear hq hp hn hn2 hm hm2
  go_enter Try.func15, Try.ntmps15
  go_wp2_with fail
  refine HC.out.mono ?_
  rintro _ w1 ⟨hb, c, rfl, hc⟩
  have HB := Lib.hid hb; have HCC := Lib.hid hc
  clear hb hc HC
  by_cases h0 : c = 0
  · subst h0
    have HG := Lib.hid (HCC.out.1 rfl)
    by_cases hf : 0 ≤ frame
    · obtain ⟨f, hff⟩ : ∃ f : Nat, frame = (f : Int) := ⟨frame.toNat, by omega⟩
      obtain ⟨⟨hl1, hl2⟩, hlen, hall⟩ := args_zero HG.out.a
      obtain ⟨L, hL⟩ : ∃ L : Nat, lanes = (L : Int) := ⟨lanes.toNat, by omega⟩
      subst hff hL
      have e2 : n2 = n := by rw [← HN.out, ← HN2.out]; exact HG.out.l
      subst e2
      have HL8 : Hid (L ≤ 8) := Lib.hid (by omega)
      have HN64 : Hid (n2 ≤ 64) := Lib.hid (by rw [← HN.out]; exact hlen)
      have HIV := Lib.hid (show Kt.Ar w (.slice QA n2 qc) 1 n2 (iz (nats ps)) by rw [← iv_nats hall]; exact HQ.out)
      have HIP := Lib.hid (show Kt.Ar w (.slice PA n2 pc) 2 n2 (bv (btn bs)) by rw [← spv_btn HG.out.l HG.out.i]; exact HP.out)
      have HNQ : Hid ((nats ps).length = n2) := Lib.hid (by unfold nats; rw [List.length_map]; exact HN.out)
      have HNP : Hid ((btn bs).length = n2) := Lib.hid ((btn_len bs).trans HN2.out)
      have HPW : Hid (∀ i, i < n2 → pw (per (nats ps) i)) := Lib.hid (fun i hi => pw_nats hall i (by rw [HN.out]; exact hi))
      have HEND : Hid (∀ l, l = ldl (nats ps) (btn bs) f n2 L → LdIs (L : Int) (f : Int) ps bs 0 l) := Lib.hid (fun l hl _ _ => ⟨rfl, by rw [HN.out, hl]; rfl⟩)
      clear hl1 hl2 hlen hall hf HQ HP HG HCC HN HN2
      generalize nats ps = qs at *
      generalize btn bs = plan at *
      go_wp2_with fail
      go_loopw [11, 25] (fun V vi wr => ∃ (lane m : Nat), Hid (lane ≤ L) ∧ vi = .int .i64 lane ∧ Hid (m = (ldl qs plan f n2 lane).length) ∧ Hid (Kt.Sl wr w.heap.size 3 1 V m (iz (ldl qs plan f n2 lane))) ∧ Hid (Below w.heap.size w wr)) (fun _ vi _ => L - (intOf vi).toNat)
      case atStart => exact ⟨0, 0, Lib.hid (Nat.zero_le _), rfl, Lib.hid rfl, Lib.hid (Kt.Sl.nil _ _ _ _), HB⟩
      case round =>
        clear HB
        obtain ⟨lane, m, HLE, rfl, HM, HS, HB⟩ := hrel
        by_cases hlt : lane < L
        · have t1 := lt_int hlt
          have hw := i_next hlt (Nat.le_trans HL8.out (by decide))
          have HW := Lib.hid hw
          have HLT := Lib.hid hlt
          clear hw hlt
          go_wp2_with fail
          go_loopw [11, 30] (fun V vi wr => ∃ (i m : Nat) (l : List Nat), Hid (i ≤ n2) ∧ vi = .int .i64 i ∧ Hid (m = l.length) ∧ Hid (l = ldl qs plan f n2 lane ++ (List.range i).filter (hits qs plan f lane)) ∧ Hid (Kt.Sl wr w.heap.size 3 1 V m (iz l)) ∧ Hid (Below w.heap.size w wr)) (fun _ vi _ => n2 - (intOf vi).toNat)
          case atStart => exact ⟨0, m, _, Lib.hid (Nat.zero_le _), rfl, HM, Lib.hid (List.append_nil _).symm, HS, HB⟩
          case round =>
            clear HS HB HM
            obtain ⟨i, m, l, HI, rfl, HM, HL, HS, HB⟩ := hrel
            by_cases hlt : i < n2
            · have t2 := lt_int hlt
              obtain ⟨g1, o1, rfl, _, x1⟩ := (HIV.out.on HB.out).izAt HNQ.out i hlt
              obtain ⟨g2, o2, rfl, _, y1, y2⟩ := (HIP.out.on HB.out).bvAt HNP.out i hlt
              have hw := i_next hlt HN64.out
              have HW2 := Lib.hid hw
              have HLT2 := Lib.hid hlt
              have HLN : Hid (ldl qs plan f n2 lane ++ (List.range (i + 1)).filter (hits qs plan f lane) = l ++ if hits qs plan f lane i then [i] else []) := Lib.hid (by rw [fil_next, ← List.append_assoc, ← HL.out])
              have hml : m ≤ 512 := by
                rw [HM.out, HL.out, List.length_append]
                have h1 := ldl_len qs plan f n2 lane
                have h2 := List.length_filter_le (hits qs plan f lane) (List.range i)
                rw [List.length_range] at h2
                have h3 := HN64.out; have h4 := HL8.out; have h5 := HLT.out
                have h6 : lane * n2 ≤ 7 * 64 := Nat.mul_le_mul (by omega) h3
                omega
              have HHD : Hid (hits qs plan f lane i = (decide ((bt plan i).1 = lane) && decide (f % per qs i = (bt plan i).2))) := Lib.hid rfl
              have hp0 := (pw_pos (HPW.out i hlt)).1
              obtain ⟨X, h1⟩ : ∃ c, c = (bt plan i).1 := ⟨_, rfl⟩
              obtain ⟨Y, h2⟩ : ∃ c, c = (bt plan i).2 := ⟨_, rfl⟩
              obtain ⟨P, h3⟩ : ∃ c, c = per qs i := ⟨_, rfl⟩
              rw [← h1] at y1 HHD
              rw [← h2] at y2 HHD
              rw [← h3] at x1 HHD hp0
              have hpp : ¬ (P : Int) = 0 := by omega
              clear h1 h2 h3 hw hlt hp0
              go_upto_region 13 with (fail)
              refine Kt.fold (fun W => W.heap[wr.heap.size]? = some (.cells #[.int .i64 (X : Int), .int .i64 (Y : Int)] 31 (0, 0)) ∧ W.cell? ⟨g1, o1 + i, none⟩ = some (.int .i64 (P : Int)) ∧ Below w.heap.size w W ∧ Kt.Sl W w.heap.size 3 1 u11 m (iz l)) ⟨heap_alloc_new wr _, cell_al x1 _, Kt.balloc HB.out _, HS.out.alloc _⟩ ?_
              rintro W ⟨hrow, x3, hbw, hsl⟩
              have HBW := Lib.hid hbw; have HSW := Lib.hid hsl
              have q1 := fun i => cell_of_row _ _ i _ _ _ hrow
              have HML := Lib.hid hml
              have f0 : (0 : Int) ≤ f := Int.natCast_nonneg f
              clear hbw hsl hrow x1 y1 y2 HB HS hml
              cases c1 : decide (X = lane) with
              | false =>
                have d1 : ((X : Int) == lane) = false := int_ne c1
                rw [c1, Bool.false_and] at HHD
                have HQ : Hid ((if hits qs plan f lane i = true then [i] else []) = []) := Lib.hid (by rw [HHD.out]; rfl)
                go_quiet (fail)
                have HBN := Lib.hid (bdrewN HBW.out nq)
                have HSN : Hid (Kt.Sl (W.drewN nq) w.heap.size 3 1 u11 m (iz l)) := HSW
                clear q1 x3 d1 c1
                have HLE2 : Hid (l = ldl qs plan f n2 lane ++ (List.range (i + 1)).filter (hits qs plan f lane)) := Lib.hid (by rw [HLN.out, HQ.out]; exact (List.append_nil _).symm)
                go_wp2_with fail
                go_roundw
                case rel => exact ⟨i + 1, m, l, HLT2, congrArg _ (by first | rfl | exact HW2.out), HM, HLE2, HSN, HBN⟩
                case measure => (try rw [HW2.out]); exact meas_up HLT2.out
              | true =>
                have d1 : ((X : Int) == lane) = true := int_eq c1
                rw [c1, Bool.true_and] at HHD
                go_quiet (fail)
                have HBN := Lib.hid (bdrewN HBW.out nq)
                have HSN : Hid (Kt.Sl (W.drewN nq) w.heap.size 3 1 u11 m (iz l)) := HSW
                clear q1 x3 d1 c1 HSW HBW
                generalize W.drewN nq = W2 at *
                have hmq : ((f : Int) % (P : Int) == (Y : Int)) = decide (f % P = Y) := mod_is f P Y
                rw [hmq]
                clear hmq
                cases c2 : decide (f % P = Y) with
                | false =>
                  rw [c2] at HHD
                  have HQ : Hid ((if hits qs plan f lane i = true then [i] else []) = []) := Lib.hid (by rw [HHD.out]; rfl)
                  have HLE2 : Hid (l = ldl qs plan f n2 lane ++ (List.range (i + 1)).filter (hits qs plan f lane)) := Lib.hid (by rw [HLN.out, HQ.out]; exact (List.append_nil _).symm)
                  go_wp2_with fail
                  go_roundw
                  case rel => exact ⟨i + 1, m, l, HLT2, congrArg _ (by first | rfl | exact HW2.out), HM, HLE2, HSN, HBN⟩
                  case measure => (try rw [HW2.out]); exact meas_up HLT2.out
                | true =>
                  rw [c2] at HHD
                  have HLE2 : Hid (l ++ [i] = ldl qs plan f n2 lane ++ (List.range (i + 1)).filter (hits qs plan f lane)) := Lib.hid (by rw [HLN.out, HHD.out]; rfl)
                  have hs := HSN.out
                  have hb := HBN.out.size
                  have hm := HML.out
                  go_wp2_with (
                    refine Kt.append_sl _ (by rfl) (.tmp 50) (.tmp 52) 22 rfl w.heap.size 3 (.int .i64 0) 1 8 infoI Try.underlying22 rfl (by decide) _ _ _ rfl (hs.alloc _) ⟨W2.heap.size, 0, none⟩ 1 1 [.int .i64 (i : Int)] rfl rfl (Kt.new_cells W2 #[.int .i64 (i : Int)] _) (by simp [Value.oneCell']) (by unfold maxLen; omega) (by omega) (by rw [World.size_alloc]; omega) ?_
                    intro A' c' w3 hs3 hb3 hz3 _ _)
                  have HS3 : Hid (Kt.Sl w3 w.heap.size 3 1 (.slice A' (m + 1) c') (m + 1) (iz (l ++ [i]))) := Lib.hid (by rw [iz_app]; exact hs3)
                  have HB3 : Hid (Below w.heap.size w w3) := Lib.hid ((Kt.balloc HBN.out _).trans hb3)
                  have HM3 : Hid (m + 1 = (l ++ [i]).length) := Lib.hid (by rw [List.length_append, ← HM.out]; rfl)
                  clear hs3 hb3 hz3 hs hb hm
                  go_roundw
                  case rel => exact ⟨i + 1, m + 1, l ++ [i], HLT2, congrArg _ (by first | rfl | exact HW2.out), HM3, HLE2, HS3, HB3⟩
                  case measure => (try rw [HW2.out]); exact meas_up HLT2.out
            · obtain rfl : i = n2 := Nat.le_antisymm HI.out (Nat.not_lt.1 hlt)
              have t2 : ¬ (i : Int) < i := Int.lt_irrefl _
              have HLL : Hid (l = ldl qs plan f i (lane + 1)) := Lib.hid (by rw [ldl_next]; exact HL.out)
              have HM4 : Hid (m = (ldl qs plan f i (lane + 1)).length) := Lib.hid (by rw [← HLL.out]; exact HM.out)
              have HS4 := HS
              rw [HLL.out] at HS4
              clear hlt
              go_wp2_with fail
              go_roundw
              case rel => exact ⟨lane + 1, m, HLT, congrArg _ (by first | rfl | exact HW.out), HM4, HS4, HB⟩
              case measure => (try rw [HW.out]); exact meas_up HLT.out
        · obtain rfl : lane = L := Nat.le_antisymm HLE.out (Nat.not_lt.1 hlt)
          have t1 : ¬ (lane : Int) < lane := Int.lt_irrefl _
          have HM5 : Hid (m ≤ 512) := Lib.hid (by
            rw [HM.out]
            exact Nat.le_trans (ldl_len qs plan f n2 lane) (Nat.mul_le_mul HL8.out HN64.out))
          clear hlt
          go_wp2_with fail
          go_ret2
          first | exact ⟨HB.out, _, _, m, _, rfl, HS.out, HM5.out, HEND.out _ rfl⟩ | exact ⟨HB.out, _, _, rfl, m, _, HS.out, HM5.out, HEND.out _ rfl⟩
    · go_wp2_with fail
      go_ret2
      exact ⟨HB.out, _, _, 0, [], rfl, Kt.Sl.nil _ _ _ _, by decide, fun _ h => absurd h (Int.not_le.2 (by first | exact hf | exact Int.not_le.1 hf))⟩
  · go_wp2_with fail
    go_ret2
    exact ⟨HB.out, _, _, 0, [], rfl, Kt.Sl.nil _ _ _ _, by decide, fun h => absurd (HCC.out.2 h) h0⟩
end Go.Proofs.Ythmcnopogahffaa
