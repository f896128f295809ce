/- slices.IndexFunc and slices.DeleteFunc of texts at the predicate of KeysCuts, walked. -/
import Derived.Test.YtfcmmeapinppaaaKeyT
import Derived.Lib.SliceRun
namespace Go.Proofs.Ytfcmmeapinppaaa
open Go.RowKit
/-- a report that can be read -/
def goodS (s : ByteArray) : Bool := (readR s.data.toList).2 == 0
theorem bad_calls (s : ByteArray) (w : World) : Calls Try.prog 21 #[.string s] w fun e w' => e = .returned (.bool (!goodS s)) ∧ Below w.heap.size w w' := by
  have HRD := Lib.hid (fun W => read_calls s W)
  obtain ⟨⟨r, n⟩, hr⟩ : ∃ r, readR s.data.toList = r := ⟨_, rfl⟩
  have HG : Hid (goodS s = (n == 0)) := Lib.hid (by unfold goodS; rw [hr])
  rw [hr] at HRD
  clear hr
  unfold Hd.v Hd.vs at HRD
  go_enter Try.func21, Try.ntmps21
  go_wp2_with fail
  refine (HRD.out _).mono ?_
  rintro e w1 ⟨rfl, hb⟩
  have HB := Lib.hid hb
  clear hb
  go_wp2_with fail
  go_ret
  refine ⟨?_, Kt.balloc HB.out _⟩
  rw [HG.out]
  rfl
/-- the first report that can't be read -/
def FirstBad (xs : List ByteArray) (r : Int) : Prop := (r = -1 ∧ xs.filter goodS = xs) ∨ ∃ k : Nat, r = (k : Int) ∧ (∃ h : k < xs.length, goodS xs[k] = false) ∧ (xs.take k).filter goodS = xs.take k
theorem filter_snoc {xs : List ByteArray} {k : Nat} (h : k < xs.length) : (xs.take (k + 1)).filter goodS = if goodS xs[k] then (xs.take k).filter goodS ++ [xs[k]] else (xs.take k).filter goodS := by
  rw [List.take_succ_eq_append_getElem h, List.filter_append]
  cases hg : goodS xs[k] <;> simp [hg]
set_option maxRecDepth 100000 in
set_option maxHeartbeats 1600000 in
theorem index_calls (xs : List ByteArray) (V : Value) (w : World) (hv : Kt.Ar w V 1 xs.length (sts xs)) (hm : xs.length ≤ 4194304) :
    Calls Try.prog 26 #[V, .func (.func 21) #[] #[]] w fun e w' => ∃ r, e = .returned (.int .i64 r) ∧ FirstBad xs r ∧ Below w.heap.size w w' := by
  obtain ⟨A0, c0, rfl, _, hcell⟩ := hv.form
  have HCELL := Lib.hid hcell
  have HM := Lib.hid hm
  clear hv hcell hm
  go_enter Try.func26, Try.ntmps26
  go_wp2_with fail
  go_loopw [8] (fun i wr => ∃ (k : Nat), k ≤ xs.length ∧ i = .int .i64 k ∧ Hid ((xs.take k).filter goodS = xs.take k) ∧ Hid (Below w.heap.size w wr)) (fun i _ => xs.length - (intOf i).toNat)
  case atStart => exact ⟨0, Nat.zero_le _, rfl, Lib.hid rfl, Lib.hid (Below.refl _ _)⟩
  case round =>
    obtain ⟨k, hk, rfl, HP, HB⟩ := hrel
    by_cases hlt : k < xs.length
    · obtain ⟨b, o, rfl, hb0, hc1⟩ := HCELL.out (by omega)
      have x0 : wr.cell? ⟨b, o + k, none⟩ = some (.string (xs[k]'hlt)) := by
        have := hc1 k (by rw [sts_len]; exact hlt)
        simp only [sts, List.getElem_map] at this
        exact (HB.out.cell (p := ⟨b, o + k, none⟩) hb0).trans this
      have HBAD := Lib.hid (fun W => bad_calls (xs[k]'hlt) W)
      have HS := Lib.hid (filter_snoc hlt)
      have HLT := Lib.hid hlt
      have HG : Hid (∀ q, goodS (xs[k]'hlt) = q → ∃ h : k < xs.length, goodS (xs[k]'h) = q) := Lib.hid (fun q h => ⟨hlt, h⟩)
      have HTK : Hid (xs.take (k + 1) = xs.take k ++ [xs[k]'hlt]) := Lib.hid (List.take_succ_eq_append_getElem hlt)
      obtain ⟨s, hs⟩ : ∃ s, (xs[k]'hlt) = s := ⟨_, rfl⟩
      rw [hs] at x0 HBAD HS HTK
      have ek : (k : Int) < xs.length := by omega
      have ek0 : (0 : Int) ≤ k := by omega
      cases hg : goodS s with
      | false =>
        have HGB := Lib.hid (HG.out false (by rw [hs]; exact hg))
        rw [hg] at HBAD
        clear hc1 hs hg
        go_wp2_with fail
        refine (HBAD.out _).mono ?_
        rintro e w1 ⟨rfl, hb⟩
        have HB1 := Lib.hid (Kt.bthen HB.out hb)
        clear hb HBAD x0
        go_wp2_with fail
        go_ret
        exact ⟨_, rfl, .inr ⟨k, rfl, HGB.out, HP.out⟩, HB1.out⟩
      | true =>
        rw [hg] at HBAD
        have HN : Hid ((xs.take (k + 1)).filter goodS = xs.take (k + 1)) := Lib.hid (by rw [HS.out, if_pos hg, HP.out, HTK.out])
        clear hc1 hs hg
        go_wp2_with fail
        refine (HBAD.out _).mono ?_
        rintro e w1 ⟨rfl, hb⟩
        have HB1 := Lib.hid (Kt.bthen HB.out hb)
        clear hb HBAD x0
        go_wp2_with fail
        have hm := HM.out
        go_roundw
        case rel => exact ⟨k + 1, by omega, by rw [show wrap64 ((k : Int) + 1) = ((k + 1 : Nat) : Int) by unfold wrap64; omega], HN, HB1⟩
        case measure =>
          rw [show wrap64 ((k : Int) + 1) = ((k + 1 : Nat) : Int) by unfold wrap64; omega]
          simp [intOf] <;> omega
    · obtain rfl : k = xs.length := by omega
      have HP2 := HP.out
      rw [List.take_length] at HP2
      have HP3 := Lib.hid HP2
      clear HP2 HP
      go_wp2_with fail
      go_ret
      exact ⟨_, rfl, .inl ⟨rfl, HP3.out⟩, HB.out⟩
theorem zeroS (w : World) : (zeroValue 9).run Try.prog w = .ok (.string ByteArray.empty) w := by kernel_rfl
/-- DeleteFunc at its loop's head: i kept of the first j -/
structure DelInv (xs ys : List ByteArray) (i j : Nat) : Prop where
  len : ys.length = xs.length
  lt : i < j
  le : j ≤ xs.length
  low : ys.take i = (xs.take j).filter goodS
  high : ∀ t, j ≤ t → ys[t]? = xs[t]?
theorem DelInv.start {xs : List ByteArray} {k : Nat} (h : k < xs.length) (hb : goodS xs[k] = false) (hp : (xs.take k).filter goodS = xs.take k) : DelInv xs xs k (k + 1) where
  len := rfl
  lt := Nat.lt_succ_self _
  le := h
  low := by rw [filter_snoc h, hb, if_neg (by simp), hp]
  high := fun _ _ => rfl
theorem DelInv.keep {xs ys : List ByteArray} {i j : Nat} (d : DelInv xs ys i j) (h : j < xs.length) (hg : goodS xs[j] = true) : DelInv xs (ys.set i xs[j]) (i + 1) (j + 1) where
  len := by rw [List.length_set, d.len]
  lt := by have := d.lt; omega
  le := h
  low := by
    have hi : i < ys.length := by have := d.lt; rw [d.len]; omega
    rw [filter_snoc h, if_pos hg, ← d.low, List.take_succ_eq_append_getElem (by rw [List.length_set]; exact hi), List.getElem_set_self, List.take_set_of_le (Nat.le_refl _)]
  high := fun t ht => by
    rw [List.getElem?_set_ne (by have := d.lt; omega)]
    exact d.high t (by omega)
theorem DelInv.skip {xs ys : List ByteArray} {i j : Nat} (d : DelInv xs ys i j) (h : j < xs.length) (hg : goodS xs[j] = false) : DelInv xs ys i (j + 1) where
  len := d.len
  lt := by have := d.lt; omega
  le := h
  low := by rw [filter_snoc h, hg, if_neg (by simp), d.low]
  high := fun t ht => d.high t (by omega)
theorem DelInv.ilen {xs ys : List ByteArray} {i : Nat} (d : DelInv xs ys i xs.length) : ys.take i = xs.filter goodS ∧ (xs.filter goodS).length = i := by
  have h := d.low
  rw [List.take_length] at h
  refine ⟨h, ?_⟩
  rw [← h, List.length_take]
  have := d.lt; have := d.len; omega
set_option maxRecDepth 100000 in
set_option maxHeartbeats 1600000 in
theorem delete_calls (A : Option Addr) (c : Nat) (xs : List ByteArray) (w : World) (B : Nat) (hB : B ≤ w.heap.size) (hs : Kt.Sl w B 9 1 (.slice A xs.length c) xs.length (sts xs)) (hm : xs.length ≤ 4194304) :
    Calls Try.prog 20 #[.slice A xs.length c, .func (.func 21) #[] #[]] w fun e w' => ∃ U, e = .returned U ∧ Kt.Ar w' U 1 (xs.filter goodS).length (sts (xs.filter goodS)) ∧ Below B w w' := by
  have HIX := Lib.hid (index_calls xs _ w (Kt.Ar.of_sl hs) hm)
  have HS := Lib.hid hs
  have HM := Lib.hid hm
  clear hs hm
  go_enter Try.func20, Try.ntmps20
  go_wp2_with fail
  refine HIX.out.mono ?_
  rintro e w1 ⟨r, rfl, hf, hb⟩
  have HS1 := Lib.hid (HS.out.on hb)
  have HB1 := Lib.hid (hb.mono hB)
  have HB9 := Lib.hid (Nat.le_trans hB hb.size)
  clear hb HIX HS hB
  rcases hf with ⟨rfl, hall⟩ | ⟨k, rfl, ⟨hk, hbad⟩, hpre⟩
  · have HALL := Lib.hid hall
    clear hall
    go_wp2_with fail
    go_ret
    refine ⟨_, rfl, ?_, HB1.out⟩
    rw [HALL.out]
    exact Kt.Ar.of_sl HS1.out
  · have HI := Lib.hid (DelInv.start hk hbad hpre)
    obtain ⟨g, o, cap, hve, hgB, _, hnc, hcm, _, _⟩ := HS1.out.cells (by omega)
    cases hve
    have e1 : ((k : Int) == -1) = false := by rw [beq_eq_false_iff_ne]; omega
    have e2 : wrap64 ((k : Int) + 1) = ((k + 1 : Nat) : Int) := by have := HM.out; unfold wrap64; omega
    have HK := Lib.hid (And.intro hk hgB)
    clear hbad hpre hk hgB
    go_wp2_with fail
    have HE2 := Lib.hid e2
    clear e1 e2
    go_loopw [5, 6] (fun i j wr => ∃ (p q : Nat) (ys : List ByteArray), i = .int .i64 p ∧ j = .int .i64 q ∧ Hid (DelInv xs ys p q) ∧ Hid (Kt.Sl wr B 9 1 (.slice (some ⟨g, o, none⟩) xs.length c) xs.length (sts ys)) ∧ Hid (Below B w wr)) (fun _ j _ => xs.length - (intOf j).toNat)
    case atStart => exact ⟨k, k + 1, xs, rfl, by rw [HE2.out], HI, HS1, HB1⟩
    case round =>
      clear HI HS1 HB1
      obtain ⟨p, q, ys, rfl, rfl, HI, HS1, HB1⟩ := hrel
      by_cases hlt : q < xs.length
      · have hql : q < ys.length := by rw [HI.out.len]; exact hlt
        have hpl : p < ys.length := by have := HI.out.lt; omega
        have hxe : ys[q] = xs[q]'hlt := by
          have := HI.out.high q (Nat.le_refl _)
          rw [List.getElem?_eq_getElem hql, List.getElem?_eq_getElem hlt] at this
          simpa using this
        have hsq : (sts ys)[q]? = some (.string (xs[q]'hlt)) := by
          simp only [sts, List.getElem?_map, List.getElem?_eq_getElem hql, hxe]; rfl
        have hsp : (sts ys)[p]? = some (.string ys[p]) := by
          simp only [sts, List.getElem?_map, List.getElem?_eq_getElem hpl]; rfl
        have cq := Kt.sl_cell HS1.out q _ hsq
        have HKEEP : Hid (goodS (xs[q]'hlt) = true → DelInv xs (ys.set p (xs[q]'hlt)) (p + 1) (q + 1)) := Lib.hid (HI.out.keep hlt)
        have HSKIP : Hid (goodS (xs[q]'hlt) = false → DelInv xs ys p (q + 1)) := Lib.hid (HI.out.skip hlt)
        have HSP := Lib.hid hsp
        have HPQ : Hid (p < q ∧ q < xs.length ∧ p < ys.length ∧ p < xs.length * 1) := Lib.hid ⟨HI.out.lt, hlt, hpl, by have := HI.out.lt; omega⟩
        generalize xs[q]'hlt = s at *
        generalize ys[p] = old at *
        have HBW : Hid (B ≤ wr.heap.size) := Lib.hid (by have := HS1.out.lt g rfl; omega)
        have HBAD := Lib.hid (fun W => bad_calls s W)
        have q1 : (q : Int) < xs.length := by omega
        have q0 : (0 : Int) ≤ q := by omega
        have p1 : (p : Int) < xs.length := by have := HPQ.out; omega
        have p0 : (0 : Int) ≤ p := by omega
        clear hsq hsp hxe hql hpl HI hlt
        cases hg : goodS s with
        | true =>
          have HIN := Lib.hid (HKEEP.out hg)
          rw [hg] at HBAD
          clear hg HKEEP HSKIP
          go_wp2_with fail
          refine (HBAD.out _).mono ?_
          rintro e w2 ⟨rfl, hb⟩
          have HS2 := Lib.hid (HS1.out.on hb)
          have HB2 := Lib.hid (HB1.out.trans (hb.mono HBW.out))
          have cp := Kt.sl_cell HS2.out p _ HSP.out
          have fp := Kt.sl_free HS2.out (o + p)
          have HSET : Hid (Kt.Sl (w2.setCell ⟨g, o + p, none⟩ (.string s)) B 9 1 (.slice (some ⟨g, o, none⟩) xs.length c) xs.length (sts (ys.set p s))) := Lib.hid (by
            have := HS2.out.put p HPQ.out.2.2.2 (.string s)
            rwa [show (sts ys).set p (.string s) = sts (ys.set p s) by simp [sts, List.map_set]] at this)
          have HB3 := Lib.hid (HB2.out.setCell (p := ⟨g, o + p, none⟩) HK.out.2 (.string s))
          clear hb HBAD cq HS1 HB1 HS2 HB2
          go_wp2_with fail
          have hm := HM.out
          have hp := HPQ.out
          go_roundw
          case rel => exact ⟨p + 1, q + 1, ys.set p s, by rw [show wrap64 ((p : Int) + 1) = ((p + 1 : Nat) : Int) by unfold wrap64; omega], by rw [show wrap64 ((q : Int) + 1) = ((q + 1 : Nat) : Int) by unfold wrap64; omega], HIN, HSET, HB3⟩
          case measure =>
            rw [show wrap64 ((q : Int) + 1) = ((q + 1 : Nat) : Int) by unfold wrap64; omega]
            simp [intOf] <;> omega
        | false =>
          have HIN := Lib.hid (HSKIP.out hg)
          rw [hg] at HBAD
          clear hg HKEEP HSKIP
          go_wp2_with fail
          refine (HBAD.out _).mono ?_
          rintro e w2 ⟨rfl, hb⟩
          have HS2 := Lib.hid (HS1.out.on hb)
          have HB2 := Lib.hid (HB1.out.trans (hb.mono HBW.out))
          clear hb HBAD cq HS1 HB1
          go_wp2_with fail
          have hm := HM.out
          have hp := HPQ.out
          go_roundw
          case rel => exact ⟨p, q + 1, ys, rfl, by rw [show wrap64 ((q : Int) + 1) = ((q + 1 : Nat) : Int) by unfold wrap64; omega], HIN, HS2, HB2⟩
          case measure =>
            rw [show wrap64 ((q : Int) + 1) = ((q + 1 : Nat) : Int) by unfold wrap64; omega]
            simp [intOf] <;> omega
      · obtain rfl : q = xs.length := by have := HI.out.le; omega
        obtain ⟨hlow, hil⟩ := HI.out.ilen
        have hpx := HI.out.lt
        have hrow := HS1.out
        have hcl := fun ty => Lib.run_clear_slice (P := Try.prog) wr 42 9 ty (.string ByteArray.empty) Try.underlying42 zeroS rfl rfl g (o + p) (xs.length - p) (c - p) (by omega)
          (fun t ht => by
            have h1 : p + t < (sts ys).length := by rw [sts_len, HI.out.len]; omega
            have := Kt.sl_cell HS1.out (p + t) _ (List.getElem?_eq_getElem h1)
            rw [Nat.add_assoc, this]; rfl)
          (fun t _ => Kt.sl_free HS1.out _)
        have HRES : Hid (Kt.Ar (wr.setCells g (o + p) (List.replicate (xs.length - p) (.string ByteArray.empty))) (.slice (some ⟨g, o, none⟩) p c) 1 p (sts (xs.filter goodS))) := Lib.hid (by
          rcases hrow.2 with ⟨hv, _⟩ | ⟨g', o', cap', cur, hv, hb, hg, hn, hc, hsz, hx⟩
          · cases hv
          · cases hv
            obtain ⟨cur', h1, h2, h3, _⟩ := Kt.setCells_row (e := 9) (List.replicate (xs.length - p) (.string ByteArray.empty)) g (o + p) wr cur hg (by simp; omega)
            refine ⟨by rw [sts_len, hil, Nat.mul_one], _, c, rfl, by omega, fun _ => ⟨g, o, rfl, (Array.getElem?_eq_some_iff.1 h1).1, fun j hj => ?_⟩⟩
            have hjp : j < p := by rw [sts_len, hil] at hj; exact hj
            rw [cell_of_row _ _ _ _ _ _ h1, h3 (o + j) (by omega)]
            have hjy : j < ys.length := by rw [HI.out.len]; omega
            have hy : (sts ys)[j]? = some (sts (xs.filter goodS))[j] := by
              simp only [sts, List.getElem?_map, List.getElem_map, List.getElem?_eq_getElem hjy]
              have : (xs.filter goodS)[j]? = ys[j]? := by rw [← hlow, List.getElem?_take, if_pos hjp]
              rw [List.getElem?_eq_getElem hjy, List.getElem?_eq_getElem (by rw [hil]; exact hjp)] at this
              injection this with this
              simp [this]
            exact hx j _ hy)
        have HBF := Lib.hid (Kt.below_setCells (List.replicate (xs.length - p) (.string ByteArray.empty)) g (o + p) wr w HK.out.2 HB1.out)
        have HIL := Lib.hid hil
        have p1 : (p : Int) ≤ xs.length := by omega
        have p0 : (0 : Int) ≤ p := by omega
        have HPC : (p : Int) ≤ c := by omega
        clear hlow hil hrow HI HS1 HB1 hlt
        go_wp2_with fail
        go_ret
        refine ⟨_, rfl, ?_, HBF.out⟩
        rw [HIL.out]
        exact HRES.out
end Go.Proofs.Ytfcmmeapinppaaa
