/- budget: Check walked. -/
import Derived.Test.YthmcnopogahffaaBudD
namespace Go.Proofs.Ythmcnopogahffaa
open Go.RowKit Go.Shelf Go.Proofs.Ythmcnopogahffaa.Bud
def spv (l : List (Int × Int)) : List Value := l.flatMap fun s => [Value.int .i64 s.1, .int .i64 s.2]
theorem spv_len (l : List (Int × Int)) : (spv l).length = l.length * 2 := by
  induction l with
  | nil => rfl
  | cons x l ih => simp [spv] at ih ⊢; omega
theorem spv_at : ∀ (l : List (Int × Int)) (k : Nat) (h : k < l.length), (spv l)[k * 2]? = some (.int .i64 l[k].1) ∧ (spv l)[k * 2 + 1]? = some (.int .i64 l[k].2)
  | [], k, h => by cases h
  | x :: l, 0, _ => ⟨rfl, rfl⟩
  | x :: l, k + 1, h => by
    have := spv_at l k (by simpa using h)
    rw [show (k + 1) * 2 = k * 2 + 2 by omega]
    exact this
def btn (bs : List (Int × Int)) : List Bt := bs.map fun b => (b.1.toNat, b.2.toNat)
theorem btn_len (bs : List (Int × Int)) : (btn bs).length = bs.length := by simp [btn]
theorem Kt.Ar.spAt {w : World} {A : Option Addr} {c n : Nat} {l : List (Int × Int)} (h : Kt.Ar w (.slice A n c) 2 n (spv l)) (hn : l.length = n) (k : Nat) (hk : k < l.length) : ∃ b o, A = some ⟨b, o, none⟩ ∧ b < w.heap.size ∧ w.cell? ⟨b, o + k * 2, none⟩ = some (.int .i64 l[k].1) ∧ w.cell? ⟨b, o + k * 2 + 1, none⟩ = some (.int .i64 l[k].2) := by
  obtain ⟨_, _, e, _, hx⟩ := h.form
  cases e
  obtain ⟨b, o, rfl, hb, hc⟩ := hx (by omega)
  obtain ⟨h1, h2⟩ := spv_at l k (by omega)
  obtain ⟨l1, e1⟩ := List.getElem?_eq_some_iff.1 h1
  obtain ⟨l2, e2⟩ := List.getElem?_eq_some_iff.1 h2
  refine ⟨b, o, rfl, hb, ?_, ?_⟩
  · rw [hc _ l1, e1]
  · rw [Nat.add_assoc, hc _ l2, e2]
theorem Kt.Ar.iAt {w : World} {A : Option Addr} {c n : Nat} {l : List Int} (h : Kt.Ar w (.slice A n c) 1 n (iv l)) (_hn : l.length = n) (k : Nat) (hk : k < l.length) : ∃ b o, A = some ⟨b, o, none⟩ ∧ b < w.heap.size ∧ w.cell? ⟨b, o + k, none⟩ = some (.int .i64 l[k]) := by
  obtain ⟨b, o, c, e, h1, h2⟩ := h.intAt k hk
  cases e
  exact ⟨b, o, rfl, h1, h2⟩
theorem cell_al {w : World} {a : Addr} {v : Value} (h : w.cell? a = some v) (o : Obj) : (w.alloc o).cell? a = some v := by
  have hb := World.block_lt_of_cell? w _ h
  exact ((Kt.balloc (Below.refl w.heap.size w) o).cell hb).trans h
def InB (lanes : Int) (ps : List Int) (bs : List (Int × Int)) (j : Nat) : Prop := ∃ (h : j < bs.length) (h2 : j < ps.length), 0 ≤ bs[j].1 ∧ bs[j].1 < lanes ∧ 0 ≤ bs[j].2 ∧ bs[j].2 < ps[j]
structure Gd (lanes : Int) (ps : List Int) (bs : List (Int × Int)) : Prop where
  a : args lanes ps = 0
  l : bs.length = ps.length
  i : ∀ j, j < ps.length → InB lanes ps bs j
  r : Rt (nats ps) lanes.toNat (btn bs) (List.range ps.length)
theorem spv_btn {lanes : Int} {ps : List Int} {bs : List (Int × Int)} (hl : bs.length = ps.length) (h : ∀ j, j < ps.length → InB lanes ps bs j) : spv bs = bv (btn bs) := by
  unfold spv bv btn
  rw [List.flatMap_map]
  have : ∀ b ∈ bs, ((b.1.toNat : Nat) : Int) = b.1 ∧ ((b.2.toNat : Nat) : Int) = b.2 := fun b hb => by
    obtain ⟨j, hj, rfl⟩ := List.mem_iff_getElem.1 hb
    obtain ⟨_, _, h1, _, h3, _⟩ := h j (by omega)
    exact ⟨Int.toNat_of_nonneg h1, Int.toNat_of_nonneg h3⟩
  clear h hl
  induction bs with
  | nil => rfl
  | cons b bs ih =>
    rw [List.flatMap_cons, List.flatMap_cons, ih (fun x hx => this x (by simp [hx]))]
    obtain ⟨e1, e2⟩ := this b (by simp)
    rw [e1, e2]
theorem rt_in {lanes : Int} {ps : List Int} {bs : List (Int × Int)} (_hall : ps.all pwI = true) (h : ∀ j, j < ps.length → InB lanes ps bs j)
    (hd : ∀ u t, t < u → u < ps.length → confl (bt (btn bs) u) (bt (btn bs) t) (per (nats ps) u) (per (nats ps) t) = false) : Rt (nats ps) lanes.toNat (btn bs) (List.range ps.length) := by
  refine ⟨?_, fun t ht => ?_⟩
  · rw [List.pairwise_iff_getElem]
    intro i j hi hj hij
    rw [List.getElem_range, List.getElem_range]
    exact hd j i hij (by simpa using hj)
  · have ht := List.mem_range.1 ht
    obtain ⟨h0, h2, h3, h4, h5, h6⟩ := h t ht
    have e1 : bt (btn bs) t = (bs[t].1.toNat, bs[t].2.toNat) := by
      unfold bt btn
      rw [List.getD_eq_getElem?_getD, List.getElem?_map, List.getElem?_eq_getElem h0]; rfl
    have e2 : per (nats ps) t = ps[t].toNat := by
      unfold per nats
      rw [List.getD_eq_getElem?_getD, List.getElem?_map, List.getElem?_eq_getElem h2]; rfl
    rw [e1, e2]
    exact ⟨by show bs[t].1.toNat < _; omega, by show bs[t].2.toNat < _; omega⟩
theorem rt_out {n L : Nat} {qs : List Nat} {plan : List Bt} (h : Rt qs L plan (List.range n)) (u t : Nat) (htu : t < u) (hu : u < n) : confl (bt plan u) (bt plan t) (per qs u) (per qs t) = false := by
  have := (List.pairwise_iff_getElem.1 h.dis) t u (by simp; omega) (by simp; omega) htu
  rwa [List.getElem_range, List.getElem_range] at this
set_option maxRecDepth 100000 in
set_option maxHeartbeats 6400000 in
theorem check_calls (lanes : Int) (ps : List Int) (bs : List (Int × Int)) (QA PA : Option Addr) (n n2 qc pc : Nat) (hn : ps.length = n) (hn2 : bs.length = n2) (w : World) (hq : Kt.Ar w (.slice QA n qc) 1 n (iv ps)) (hp : Kt.Ar w (.slice PA n2 pc) 2 n2 (spv bs)) (hm : n ≤ 17592186044416) (_hm2 : n2 ≤ 17592186044416) :
    Calls Try.prog 12 #[.slice QA n qc, .slice PA n2 pc, .int .i64 lanes] w fun e w' => Below w.heap.size w w' ∧ ∃ c, e = .returned (.int .i64 c) ∧ (c = 0 ↔ Gd lanes ps bs) := by
  have HA := Lib.hid (args_calls lanes ps (.slice QA n qc) w (by subst hn; exact hq) (by omega))
  have HQ := Lib.hid hq; have HP := Lib.hid hp; have HN := Lib.hid hn; have HN2 := Lib.hid hn2
  clear hq hp hn hn2
  go_enter Try.func12, Try.ntmps12
  go_wp2_with fail
  refine HA.out.mono ?_
  rintro _ w1 ⟨rfl, hb⟩
  have HB := Lib.hid hb
  clear hb HA
  by_cases ha : args lanes ps = 0
  · obtain ⟨⟨hl1, hl2⟩, hlen, hall⟩ := args_zero ha
    have HALL := Lib.hid hall
    have HAZ := Lib.hid ha
    rw [ha]
    by_cases hnn : n2 = n
    · subst hnn
      have hn64 : n2 ≤ 64 := by rw [← HN.out]; exact hlen
      have HN64 := Lib.hid hn64
      clear hn64 hlen hall ha hm
      go_wp2_with fail
      go_loopw [26] (fun vi wr => ∃ k : Nat, Hid (k ≤ n2) ∧ vi = .int .i64 k ∧ Hid (∀ j, j < k → InB lanes ps bs j) ∧ Hid (Below w.heap.size w wr)) (fun vi _ => n2 - (intOf vi).toNat)
      case atStart => exact ⟨0, Lib.hid (Nat.zero_le _), rfl, Lib.hid (fun j hj => absurd hj (Nat.not_lt_zero _)), HB⟩
      case round =>
        clear HB
        obtain ⟨k, HK, rfl, HI, HB⟩ := hrel
        by_cases hlt : k < n2
        · have t1 := lt_int hlt
          have hkb : k < bs.length := by rw [HN2.out]; exact hlt
          have hkp : k < ps.length := by rw [HN.out]; exact hlt
          obtain ⟨g1, o1, rfl, _, x1⟩ := Kt.Ar.iAt (HQ.out.on HB.out) HN.out k hkp
          obtain ⟨g2, o2, rfl, _, y1, y2⟩ := (HP.out.on HB.out).spAt HN2.out k hkb
          have hw := i_next hlt HN64.out
          have HW := Lib.hid hw
          have HLT := Lib.hid hlt
          have HIB : Hid (InB lanes ps bs k ↔ (0 ≤ bs[k].1 ∧ bs[k].1 < lanes ∧ 0 ≤ bs[k].2 ∧ bs[k].2 < ps[k])) := Lib.hid ⟨fun ⟨_, _, h⟩ => h, fun h => ⟨hkb, hkp, h⟩⟩
          have HG : Hid (¬ InB lanes ps bs k → ¬ Gd lanes ps bs) := Lib.hid (fun h g => h (g.i k hkp))
          generalize bs[k].1 = x at y1 HIB
          generalize bs[k].2 = y at y2 HIB
          generalize ps[k] = P at x1 HIB
          clear hw hlt hkb hkp
          go_upto_region 9 with (fail)
          refine Kt.fold (fun W => W.heap[wr.heap.size]? = some (.cells #[.int .i64 x, .int .i64 y] 31 (0, 0)) ∧ W.cell? ⟨g1, o1 + k, none⟩ = some (.int .i64 P) ∧ Below w.heap.size w W) ⟨heap_alloc_new wr _, cell_al x1 _, Kt.balloc HB.out _⟩ ?_
          rintro W ⟨hrow, x3, hbw⟩
          have HBW := Lib.hid hbw
          have q1 := fun i => cell_of_row _ _ i _ _ _ hrow
          clear hbw hrow x1 y1 y2 HB HQ HP
          by_cases c1 : x < 0
          · have d1 : decide (x < 0) = true := decide_eq_true c1
            have HGG := Lib.hid (HG.out (fun h => by have := HIB.out.1 h; omega))
            go_quiet (fail)
            have HBN := Lib.hid (bdrewN HBW.out nq)
            go_wp2_with fail
            go_ret
            exact ⟨HBN.out, 1, rfl, ⟨fun h => (by cases h), fun h => absurd h HGG.out⟩⟩
          have d1 : decide (x < 0) = false := decide_eq_false c1
          by_cases c2 : lanes ≤ x
          · have d2 : decide (lanes ≤ x) = true := decide_eq_true c2
            have HGG := Lib.hid (HG.out (fun h => by have := HIB.out.1 h; omega))
            go_quiet (fail)
            have HBN := Lib.hid (bdrewN HBW.out nq)
            go_wp2_with fail
            go_ret
            exact ⟨HBN.out, 1, rfl, ⟨fun h => (by cases h), fun h => absurd h HGG.out⟩⟩
          have d2 : decide (lanes ≤ x) = false := decide_eq_false c2
          by_cases c3 : y < 0
          · have d3 : decide (y < 0) = true := decide_eq_true c3
            have HGG := Lib.hid (HG.out (fun h => by have := HIB.out.1 h; omega))
            go_quiet (fail)
            have HBN := Lib.hid (bdrewN HBW.out nq)
            go_wp2_with fail
            go_ret
            exact ⟨HBN.out, 1, rfl, ⟨fun h => (by cases h), fun h => absurd h HGG.out⟩⟩
          have d3 : decide (y < 0) = false := decide_eq_false c3
          by_cases c4 : P ≤ y
          · have d4 : decide (P ≤ y) = true := decide_eq_true c4
            have HGG := Lib.hid (HG.out (fun h => by have := HIB.out.1 h; omega))
            go_quiet (fail)
            have HBN := Lib.hid (bdrewN HBW.out nq)
            go_wp2_with fail
            go_ret
            exact ⟨HBN.out, 1, rfl, ⟨fun h => (by cases h), fun h => absurd h HGG.out⟩⟩
          have d4 : decide (P ≤ y) = false := decide_eq_false c4
          have HIK : Hid (InB lanes ps bs k) := Lib.hid (HIB.out.2 (by omega))
          go_quiet (fail)
          have HBN := Lib.hid (bdrewN HBW.out nq)
          go_wp2_with fail
          go_roundw
          case rel => exact ⟨k + 1, HLT, congrArg _ (by first | rfl | exact HW.out), Lib.hid (fun j hj => by
            by_cases e : j = k
            · subst e; exact HIK.out
            · exact HI.out j (by omega)), HBN⟩
          case measure => (try rw [HW.out]); exact meas_up HLT.out
        · obtain rfl : k = n2 := Nat.le_antisymm HK.out (Nat.not_lt.1 hlt)
          have HI2 : Hid (∀ j, j < ps.length → InB lanes ps bs j) := Lib.hid (fun j hj => HI.out j (by rw [← HN.out]; exact hj))
          have HIV := Lib.hid (show Kt.Ar w (.slice QA k qc) 1 k (iz (nats ps)) by rw [← iv_nats HALL.out]; exact HQ.out)
          have HIP := Lib.hid (show Kt.Ar w (.slice PA k pc) 2 k (bv (btn bs)) by rw [← spv_btn (by rw [HN2.out, HN.out]) HI2.out]; exact HP.out)
          have HNQ : Hid ((nats ps).length = k) := Lib.hid (by unfold nats; rw [List.length_map]; exact HN.out)
          have HNP : Hid ((btn bs).length = k) := Lib.hid ((btn_len bs).trans HN2.out)
          have HPW : Hid (∀ i, i < k → pw (per (nats ps) i)) := Lib.hid (fun i hi => pw_nats HALL.out i (by rw [HN.out]; exact hi))
          have HGY : Hid ((∀ u t, t < u → u < k → confl (bt (btn bs) u) (bt (btn bs) t) (per (nats ps) u) (per (nats ps) t) = false) → Gd lanes ps bs) := Lib.hid (fun h => ⟨HAZ.out, by rw [HN2.out, HN.out], HI2.out, rt_in HALL.out HI2.out (fun u t h1 h2 => h u t h1 (by rw [← HN.out]; exact h2))⟩)
          have HGN : Hid (∀ u t, t < u → u < k → confl (bt (btn bs) u) (bt (btn bs) t) (per (nats ps) u) (per (nats ps) t) = true → ¬ Gd lanes ps bs) := Lib.hid (fun u t h1 h2 h3 h => by rw [rt_out h.r u t h1 (by rw [HN.out]; exact h2)] at h3; cases h3)
          clear hlt HQ HP HI HI2 HALL HN HN2
          generalize nats ps = qs at *
          generalize btn bs = plan at *
          go_wp2_with fail
          go_loopw [57] (fun vi wr => ∃ u : Nat, Hid (u ≤ k) ∧ vi = .int .i64 u ∧ Hid (∀ a b, b < a → a < u → confl (bt plan a) (bt plan b) (per qs a) (per qs b) = false) ∧ Hid (Below w.heap.size w wr)) (fun vi _ => k - (intOf vi).toNat)
          case atStart => exact ⟨0, Lib.hid (Nat.zero_le _), rfl, Lib.hid (fun a b _ h => absurd h (Nat.not_lt_zero _)), HB⟩
          case round =>
            clear HB
            obtain ⟨u, HU, rfl, HD, HB⟩ := hrel
            by_cases hlt : u < k
            · have t1 := lt_int hlt
              obtain ⟨g1, o1, rfl, _, x1⟩ := (HIV.out.on HB.out).izAt HNQ.out u hlt
              obtain ⟨g2, o2, rfl, _, y1, y2⟩ := (HIP.out.on HB.out).bvAt HNP.out u hlt
              have hw := i_next hlt HN64.out
              have HW := Lib.hid hw
              have HLT := Lib.hid hlt
              obtain ⟨BU, hBU⟩ : ∃ b, b = bt plan u := ⟨_, rfl⟩
              rw [← hBU] at y1 y2
              have HBU := Lib.hid hBU
              clear hw hlt x1 hBU
              obtain ⟨X, Y⟩ := BU
              dsimp only at y1 y2
              go_upto_region 15 with (fail)
              refine Kt.fold (fun W => W.heap[wr.heap.size]? = some (.cells #[.int .i64 (X : Int), .int .i64 (Y : Int)] 31 (0, 0)) ∧ Below w.heap.size w W) ⟨heap_alloc_new wr _, Kt.balloc HB.out _⟩ ?_
              rintro W ⟨hrow, hbw⟩
              have HBW := Lib.hid hbw; have HROW := Lib.hid hrow
              clear hrow hbw HB y1 y2
              obtain ⟨G, hG⟩ : ∃ G, G = wr.heap.size := ⟨_, rfl⟩
              rw [← hG] at HROW ⊢
              clear hG
              go_wp2_with fail
              go_loopw [63] (fun vi wq => ∃ v : Nat, Hid (v ≤ u) ∧ vi = .int .i64 v ∧ Hid (∀ b, b < v → confl (bt plan u) (bt plan b) (per qs u) (per qs b) = false) ∧ Hid (Below w.heap.size w wq) ∧ Hid (wq.heap[G]? = some (.cells #[.int .i64 (X : Int), .int .i64 (Y : Int)] 31 (0, 0)))) (fun vi _ => u - (intOf vi).toNat)
              case atStart => exact ⟨0, Lib.hid (Nat.zero_le _), rfl, Lib.hid (fun b h => absurd h (Nat.not_lt_zero _)), HBW, HROW⟩
              case round =>
                clear HBW HROW
                obtain ⟨v, HV, rfl, HE, HBW, HROW⟩ := hrel
                by_cases hlt : v < u
                · have t2 := lt_int hlt
                  have hvk : v < k := Nat.lt_trans hlt HLT.out
                  have t3 := lt_int hvk
                  obtain ⟨g1', o1', e1, _, x1⟩ := (HIV.out.on HBW.out).izAt HNQ.out u HLT.out
                  cases e1
                  obtain ⟨g1', o1', e1, _, x2⟩ := (HIV.out.on HBW.out).izAt HNQ.out v hvk
                  cases e1
                  obtain ⟨g2', o2', e2, _, y1, y2⟩ := (HIP.out.on HBW.out).bvAt HNP.out v hvk
                  cases e2
                  have z1 := fun i => cell_of_row _ _ i _ _ _ HROW.out
                  have HC := Lib.hid (fun W => conf_calls (X, Y) (bt plan v) (per qs u) (per qs v) (HPW.out u HLT.out) (HPW.out v hvk) W)
                  have HCF : Hid (confl (bt plan u) (bt plan v) (per qs u) (per qs v) = confl (X, Y) (bt plan v) (per qs u) (per qs v)) := Lib.hid (by rw [← HBU.out])
                  have hw := i_next hvk HN64.out
                  have HW2 := Lib.hid hw
                  have HLT2 := Lib.hid hlt
                  have HGV := Lib.hid (HGN.out u v hlt HLT.out)
                  rw [HCF.out] at HGV
                  have HEV : Hid (confl (X, Y) (bt plan v) (per qs u) (per qs v) = false → ∀ b, b < v + 1 → confl (bt plan u) (bt plan b) (per qs u) (per qs b) = false) := Lib.hid (fun h b hb => by
                    by_cases e : b = v
                    · subst e; rw [HCF.out]; exact h
                    · exact HE.out b (by omega))
                  unfold bag at HC
                  dsimp only at HC
                  obtain ⟨q, hq⟩ : ∃ q, q = confl (X, Y) (bt plan v) (per qs u) (per qs v) := ⟨_, rfl⟩
                  rw [← hq] at HC HGV HEV
                  clear hq HCF hw hlt hvk
                  obtain ⟨c1, h1⟩ : ∃ c, c = (bt plan v).1 := ⟨_, rfl⟩
                  obtain ⟨c2, h2⟩ : ∃ c, c = (bt plan v).2 := ⟨_, rfl⟩
                  obtain ⟨P, h3⟩ : ∃ c, c = per qs u := ⟨_, rfl⟩
                  obtain ⟨Q, h4⟩ : ∃ c, c = per qs v := ⟨_, rfl⟩
                  rw [← h1] at y1 HC
                  rw [← h2] at y2 HC
                  rw [← h3] at x1 HC
                  rw [← h4] at x2 HC
                  clear h1 h2 h3 h4
                  go_upto_region 18 with (fail)
                  have HBD := Lib.hid (bdrewN HBW.out 1)
                  have HRD : Hid (wr.drew.heap[G]? = some (.cells #[.int .i64 (X : Int), .int .i64 (Y : Int)] 31 (0, 0))) := HROW
                  refine wp_region_still_tail 13 (by kernel_rfl) (by kernel_rfl) ?_
                  simp only [List.take_succ_cons, List.take_zero, List.drop_succ_cons, List.drop_zero]
                  change wpStill _ _ wr.drew _ _ _
                  iterate 13 still_step
                  refine wpStill_nil ?_
                  change wpList _ _ _ _ _ wr.drew
                  clear x1 x2 y1 y2 z1 t3
                  go_wp2_with fail
                  refine (HC.out wr.drew).mono ?_
                  rintro _ w2 ⟨rfl, hb⟩
                  have HB2 : Hid (Below w.heap.size w w2) := Lib.hid (Kt.bthen HBD.out hb)
                  have HR2 : Hid (w2.heap[G]? = some (.cells #[.int .i64 (X : Int), .int .i64 (Y : Int)] 31 (0, 0))) := Lib.hid (Kt.row_on hb HRD.out)
                  clear hb HC
                  cases q with
                  | true =>
                    have HGG := Lib.hid (HGV.out rfl)
                    go_wp2_with fail
                    go_ret
                    exact ⟨HB2.out, 13, rfl, ⟨fun h => (by cases h), fun h => absurd h HGG.out⟩⟩
                  | false =>
                    have HEE := Lib.hid (HEV.out rfl)
                    go_wp2_with fail
                    go_roundw
                    case rel => exact ⟨v + 1, HLT2, congrArg _ (by first | rfl | exact HW2.out), HEE, HB2, HR2⟩
                    case measure => (try rw [HW2.out]); exact meas_up HLT2.out
                · have t2 : ¬ (v : Int) < u := fun h => hlt (Int.ofNat_lt.1 h)
                  have HDN : Hid (∀ a b, b < a → a < u + 1 → confl (bt plan a) (bt plan b) (per qs a) (per qs b) = false) := Lib.hid (fun a b h1 h2 => by
                    by_cases e : a = u
                    · subst e; exact HE.out b (by omega)
                    · exact HD.out a b h1 (by omega))
                  clear hlt
                  go_wp2_with fail
                  go_roundw
                  case rel => exact ⟨u + 1, HLT, congrArg _ (by first | rfl | exact HW.out), HDN, HBW⟩
                  case measure => (try rw [HW.out]); exact meas_up HLT.out
            · have t1 : ¬ (u : Int) < k := fun h => hlt (Int.ofNat_lt.1 h)
              have HGD := Lib.hid (HGY.out (fun a b h1 h2 => HD.out a b h1 (by omega)))
              clear hlt
              go_wp2_with fail
              go_ret
              exact ⟨HB.out, 0, rfl, ⟨fun _ => HGD.out, fun _ => rfl⟩⟩
    · have HR : Hid (¬ Gd lanes ps bs) := Lib.hid (fun h => hnn (by rw [← HN.out, ← HN2.out]; exact h.l))
      have t1 : ¬ (n2 : Int) = n := fun h => hnn (by omega)
      clear hnn
      go_wp2_with fail
      go_ret
      exact ⟨HB.out, 4, rfl, ⟨fun h => (by cases h), fun h => absurd h HR.out⟩⟩
  · have HR : Hid (¬ Gd lanes ps bs) := Lib.hid (fun h => ha h.a)
    have HAZ := Lib.hid ha
    obtain ⟨c, hc⟩ : ∃ c, c = args lanes ps := ⟨_, rfl⟩
    rw [← hc] at HAZ ha ⊢
    clear hc
    go_wp2_with fail
    go_ret
    exact ⟨HB.out, c, rfl, ⟨fun h => absurd h HAZ.out, fun h => absurd h HR.out⟩⟩
end Go.Proofs.Ythmcnopogahffaa
