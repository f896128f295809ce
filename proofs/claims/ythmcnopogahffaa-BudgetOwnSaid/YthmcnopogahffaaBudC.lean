/- budget: slices.IndexFunc, ContainsFunc at numbers, whatever the predicate; place. -/
import Derived.Test.YthmcnopogahffaaBudB
import Derived.Shelf.Abstract
namespace Go.Proofs.Ythmcnopogahffaa
open Go.RowKit Go.Shelf Go.Proofs.Ythmcnopogahffaa.Bud
def FirstN (p : Nat → Bool) (l : List Nat) (r : Int) : Prop := (r = -1 ∧ ∀ s ∈ l, p s = false) ∨ ∃ k : Nat, r = (k : Int) ∧ ∃ h : k < l.length, p l[k] = true
theorem Kt.Ar.izAt' {w : World} {A : Option Addr} {c n : Nat} {l : List Nat} (h : Kt.Ar w (.slice A n c) 1 n (iz l)) (hn : l.length = n) (k : Nat) (hk : k < l.length) : ∃ b o, A = some ⟨b, o, none⟩ ∧ b < w.heap.size ∧ w.cell? ⟨b, o + k, none⟩ = some (.int .i64 (l[k] : Int)) := by
  have := h.izAt hn k (by omega)
  rw [show per l k = l[k] by simp [per, List.getD_eq_getElem?_getD, List.getElem?_eq_getElem hk]] at this
  exact this
set_option maxRecDepth 100000 in
set_option maxHeartbeats 1600000 in
theorem index_calls (p : Nat → Bool) (f : FuncId) (lb : Array Value) (l : List Nat) (A0 : Option Addr) (n c0 : Nat) (hn : l.length = n) (w : World) (hv : Kt.Ar w (.slice A0 n c0) 1 n (iz l)) (hm : n ≤ 64)
    (eg : ∀ args w, (callFunc f args).run Try.prog w = .ok (.enter f args) w)
    (hf : ∀ s ∈ l, ∀ (W : World), Below w.heap.size w W → Calls Try.prog f (#[.int .i64 (s : Int)] ++ lb) W fun e w' => e = .returned (.bool (p s)) ∧ Below W.heap.size W w') :
    Calls Try.prog 30 #[.slice A0 n c0, .func (.func f) #[] lb] w fun e w' => ∃ r, e = .returned (.int .i64 r) ∧ FirstN p l r ∧ Below w.heap.size w w' := by
  have HV := Lib.hid hv
  have HM := Lib.hid hm
  have HF := Lib.hid hf
  have HN := Lib.hid hn
  clear hv hm hf hn
  go_enter Try.func30, Try.ntmps30
  go_wp2_with fail
  go_loopw [8] (fun i wr => ∃ (k : Nat), k ≤ n ∧ i = .int .i64 k ∧ Hid (∀ j (h : j < l.length), j < k → p l[j] = false) ∧ Hid (Below w.heap.size w wr)) (fun i _ => n - (intOf i).toNat)
  case atStart => exact ⟨0, Nat.zero_le _, rfl, Lib.hid (fun j h hj => absurd hj (by omega)), Lib.hid (Below.refl _ _)⟩
  case round =>
    obtain ⟨k, hk, rfl, HP, HB⟩ := hrel
    by_cases hlt : k < n
    · have hll : k < l.length := by rw [HN.out]; exact hlt
      obtain ⟨b, o, rfl, hb0, x0⟩ := (HV.out.on HB.out).izAt' HN.out k hll
      have HC := Lib.hid (HF.out (l[k]'hll) (List.getElem_mem hll) wr HB.out)
      have HPK : Hid (∀ q, p (l[k]'hll) = q → ∃ h : k < l.length, p (l[k]'h) = q) := Lib.hid (fun q h => ⟨hll, h⟩)
      have ek := lt_int hlt
      have hw := i_next hlt HM.out
      have HW := Lib.hid hw
      have HK := Lib.hid hlt
      obtain ⟨q, hq⟩ : ∃ q, p (l[k]'hll) = q := ⟨_, rfl⟩
      have HQ := Lib.hid hq
      rw [hq] at HC
      have HC2 : Hid (Calls Try.prog f (#[.int .i64 ((l[k]'hll : Nat) : Int)] ++ lb) wr fun e w' => e = .returned (.bool q) ∧ Below wr.heap.size wr w') := HC
      clear hq HC hw
      generalize hL1 : (l[k]'hll) = x at x0 HC2
      clear hL1 hk
      cases q with
      | true =>
        go_wp2_with fail
        refine HC2.out.mono ?_
        rintro e w1 ⟨rfl, hb⟩
        have HB1 := Lib.hid (Kt.bthen HB.out hb)
        clear hb HC2
        go_wp2_with fail
        go_ret
        exact ⟨_, rfl, .inr ⟨k, rfl, HPK.out _ HQ.out⟩, HB1.out⟩
      | false =>
        go_wp2_with fail
        refine HC2.out.mono ?_
        rintro e w1 ⟨rfl, hb⟩
        have HB1 := Lib.hid (Kt.bthen HB.out hb)
        clear hb HC2
        go_wp2_with fail
        go_roundw
        case rel => exact ⟨k + 1, HK.out, congrArg _ (by first | rfl | exact HW.out), Lib.hid (fun j h hj => by
          by_cases e : j = k
          · subst e; exact HQ.out
          · exact HP.out j h (by omega)), HB1⟩
        case measure => (try rw [HW.out]); exact meas_up HK.out
    · have ek : ¬ (k : Int) < n := fun h => hlt (Int.ofNat_lt.1 h)
      have HA : Hid (∀ s ∈ l, p s = false) := Lib.hid (fun s hs => by
        obtain ⟨j, hj, rfl⟩ := List.mem_iff_getElem.1 hs
        exact HP.out j hj (by have := HN.out; omega))
      clear hlt hk
      go_wp2_with fail
      go_ret
      exact ⟨_, rfl, .inl ⟨rfl, HA.out⟩, HB.out⟩
set_option maxHeartbeats 1600000 in
theorem contains_calls (p : Nat → Bool) (f : FuncId) (lb : Array Value) (l : List Nat) (A0 : Option Addr) (n c0 : Nat) (hn : l.length = n) (w : World) (hv : Kt.Ar w (.slice A0 n c0) 1 n (iz l)) (hm : n ≤ 64)
    (eg : ∀ args w, (callFunc f args).run Try.prog w = .ok (.enter f args) w)
    (hf : ∀ s ∈ l, ∀ (W : World), Below w.heap.size w W → Calls Try.prog f (#[.int .i64 (s : Int)] ++ lb) W fun e w' => e = .returned (.bool (p s)) ∧ Below W.heap.size W w') :
    Calls Try.prog 26 #[.slice A0 n c0, .func (.func f) #[] lb] w fun e w' => e = .returned (.bool (l.any p)) ∧ Below w.heap.size w w' := by
  have HI := Lib.hid (index_calls p f lb l A0 n c0 hn w hv hm eg hf)
  clear hv hm hf eg
  go_enter Try.func26, Try.ntmps26
  go_wp2_with fail
  refine HI.out.mono ?_
  rintro e w1 ⟨r, rfl, hr, hb⟩
  have HB := Lib.hid hb
  clear hb HI
  rcases hr with ⟨rfl, hall⟩ | ⟨k, rfl, hk, hp⟩
  · have HA : Hid (l.any p = false) := Lib.hid (by rw [List.any_eq_false]; exact fun x hx => by simp [hall x hx])
    clear hall
    go_wp2_with fail
    go_ret
    exact ⟨by rw [HA.out]; rfl, HB.out⟩
  · have HA : Hid (l.any p = true) := Lib.hid (by rw [List.any_eq_true]; exact ⟨_, List.getElem_mem hk, hp⟩)
    have hk0 : (0 : Int) ≤ (k : Int) := Int.natCast_nonneg k
    clear hk hp
    go_wp2_with fail
    go_ret
    exact ⟨by rw [HA.out]; rfl, HB.out⟩
theorem eg_place : ∀ args w, (callFunc 27 args).run Try.prog w = .ok (.enter 27 args) w := enters_of Try.func27 (by kernel_rfl) rfl
def plR (r : Option Bt) : Value := match r with
  | some b => .tuple #[bag b, .bool true]
  | none => .tuple #[bag (0, 0), .bool false]
/-- the four boxes of place -/
structure PlIn (w W : World) (QA : Option Addr) (qc : Nat) (PA : Option Addr) (pc : Nat) (DA : Option Addr) (dc n m : Nat) (qs : List Nat) (plan : List Bt) (done : List Nat) (t : Nat) : Prop where
  pw : PW W QA qc PA pc n qs plan w.heap.size (w.heap.size + 1) (w.heap.size + 2) t
  r : W.heap[w.heap.size + 3]? = some (.cells #[.int .i64 0, .int .i64 0] 31 (0, 0))
  d : Kt.Ar W (.slice DA m dc) 1 m (iz done)
  b : Below w.heap.size w W
  s : w.heap.size + 4 ≤ W.heap.size
theorem PlIn.on {w W W' : World} {QA : Option Addr} {qc : Nat} {PA : Option Addr} {pc : Nat} {DA : Option Addr} {dc n m : Nat} {qs : List Nat} {plan : List Bt} {done : List Nat} {t : Nat} (h : PlIn w W QA qc PA pc DA dc n m qs plan done t) (hb : Below W.heap.size W W') : PlIn w W' QA qc PA pc DA dc n m qs plan done t :=
  ⟨h.pw.on hb, Kt.row_on hb h.r, h.d.on hb, Kt.bthen h.b hb, Nat.le_trans h.s hb.size⟩
theorem lns_next {qs : List Nat} {plan : List Bt} {done : List Nat} {t lane lanes : Nat} (h : lane < lanes) (hp : phs qs plan done t lane (per qs t) 0 = none) : lns qs plan done t (lanes - lane) lane = lns qs plan done t (lanes - (lane + 1)) (lane + 1) := by
  rw [show lanes - lane = lanes - (lane + 1) + 1 by omega]
  conv => lhs; unfold lns
  rw [hp]
theorem lns_here {qs : List Nat} {plan : List Bt} {done : List Nat} {t lane lanes ph : Nat} (h : lane < lanes) (hp : phs qs plan done t lane (per qs t) 0 = some ph) : lns qs plan done t (lanes - lane) lane = some (lane, ph) := by
  rw [show lanes - lane = lanes - (lane + 1) + 1 by omega]
  unfold lns
  rw [hp]
theorem phs_next {qs : List Nat} {plan : List Bt} {done : List Nat} {t lane ph P : Nat} (h : ph < P) (hp : okAt qs plan done t lane ph = false) : phs qs plan done t lane (P - ph) ph = phs qs plan done t lane (P - (ph + 1)) (ph + 1) := by
  rw [show P - ph = P - (ph + 1) + 1 by omega]
  conv => lhs; unfold phs
  rw [hp]
  rfl
theorem phs_here {qs : List Nat} {plan : List Bt} {done : List Nat} {t lane ph P : Nat} (h : ph < P) (hp : okAt qs plan done t lane ph = true) : phs qs plan done t lane (P - ph) ph = some ph := by
  rw [show P - ph = P - (ph + 1) + 1 by omega]
  unfold phs
  rw [hp]
  rfl
set_option maxRecDepth 100000 in
set_option maxHeartbeats 3200000 in
theorem place_calls (QA PA DA : Option Addr) (qc pc dc n m : Nat) (qs : List Nat) (plan : List Bt) (done : List Nat) (t lanes : Nat) (w : World) (hnq : qs.length = n) (hnp : plan.length = n) (hnd : done.length = m) (hq : Kt.Ar w (.slice QA n qc) 1 n (iz qs)) (hp : Kt.Ar w (.slice PA n pc) 2 n (bv plan)) (hd : Kt.Ar w (.slice DA m dc) 1 m (iz done))
    (hpw : ∀ i, i < n → pw (per qs i)) (ht : t < n) (hdn : ∀ k ∈ done, k < n) (hm : m ≤ 64) (hl : lanes ≤ 8) :
    Calls Try.prog 22 #[.slice QA n qc, .slice PA n pc, .slice DA m dc, .int .i64 (t : Int), .int .i64 (lanes : Int)] w fun e w' => e = .returned (plR (Bud.place qs plan done t lanes)) ∧ Below w.heap.size w w' := by
  have HPW := Lib.hid hpw; have HT := Lib.hid ht; have HDN := Lib.hid hdn; have HM := Lib.hid hm; have HL := Lib.hid hl; have HND := Lib.hid hnd; have HNQ := Lib.hid hnq
  have HIN : Hid (PlIn w ((((w.alloc (.cells #[.slice QA n qc] 22)).alloc (.cells #[.slice PA n pc] 23)).alloc (.cells #[.int .i64 (t : Int)] 3)).alloc (.cells #[.int .i64 0, .int .i64 0] 31)) QA qc PA pc DA dc n m qs plan done t) := Lib.hid (by
    have b1 := Kt.balloc (Below.refl w.heap.size w) (.cells #[.slice QA n qc] 22)
    have r1 := heap_alloc_new w (.cells #[.slice QA n qc] 22)
    have z1 : (w.alloc (.cells #[.slice QA n qc] 22)).heap.size = w.heap.size + 1 := World.size_alloc _ _
    generalize w.alloc (.cells #[.slice QA n qc] 22) = w1 at *
    have b2 := Kt.balloc (Below.refl w1.heap.size w1) (.cells #[.slice PA n pc] 23)
    have r2 := heap_alloc_new w1 (.cells #[.slice PA n pc] 23)
    have z2 : (w1.alloc (.cells #[.slice PA n pc] 23)).heap.size = w1.heap.size + 1 := World.size_alloc _ _
    generalize w1.alloc (.cells #[.slice PA n pc] 23) = w2 at *
    have b3 := Kt.balloc (Below.refl w2.heap.size w2) (.cells #[.int .i64 (t : Int)] 3)
    have r3 := heap_alloc_new w2 (.cells #[.int .i64 (t : Int)] 3)
    have z3 : (w2.alloc (.cells #[.int .i64 (t : Int)] 3)).heap.size = w2.heap.size + 1 := World.size_alloc _ _
    generalize w2.alloc (.cells #[.int .i64 (t : Int)] 3) = w3 at *
    have b4 := Kt.balloc (Below.refl w3.heap.size w3) (.cells #[.int .i64 0, .int .i64 0] 31)
    have r4 := heap_alloc_new w3 (.cells #[.int .i64 0, .int .i64 0] 31)
    have z4 : (w3.alloc (.cells #[.int .i64 0, .int .i64 0] 31)).heap.size = w3.heap.size + 1 := World.size_alloc _ _
    generalize w3.alloc (.cells #[.int .i64 0, .int .i64 0] 31) = w4 at *
    rw [z1] at r2
    rw [z2, z1] at r3
    rw [z3, z2, z1] at r4
    have c3 := Kt.bthen b3 b4
    have c2 := Kt.bthen b2 c3
    have c1 := Kt.bthen b1 c2
    exact ⟨⟨hnq, hnp, Kt.row_on c2 r1, Kt.row_on c3 r2, Kt.row_on b4 r3, hq.on c1, hp.on c1⟩, r4, hd.on c1, c1, by omega⟩)
  clear hnq hnp hnd hq hp hd hpw ht hdn hm hl
  go_enter Try.func22, Try.ntmps22
  go_wp2_with fail
  refine Kt.fold (fun W => PlIn w W QA qc PA pc DA dc n m qs plan done t) HIN.out ?_
  intro W0 hin
  have HIN := Lib.hid hin
  clear hin
  go_loopw [16] (fun vl wr => ∃ (lane : Nat), Hid (lane ≤ lanes) ∧ vl = .int .i64 lane ∧ Hid (PlIn w wr QA qc PA pc DA dc n m qs plan done t) ∧ Hid (lns qs plan done t (lanes - lane) lane = Bud.place qs plan done t lanes)) (fun vl _ => lanes - (intOf vl).toNat)
  case atStart => exact ⟨0, Lib.hid (Nat.zero_le _), rfl, HIN, Lib.hid rfl⟩
  case round =>
    clear HIN
    obtain ⟨lane, HLE, rfl, HIN, HE⟩ := hrel
    by_cases hlt : lane < lanes
    · have t1 := lt_int hlt
      have hw := i_next hlt (Nat.le_trans HL.out (by decide))
      have HW := Lib.hid hw
      have HLT := Lib.hid hlt
      obtain ⟨g1, o1, rfl, _, x1⟩ := HIN.out.pw.aq.izAt HNQ.out t HT.out
      have t2 := lt_int HT.out
      have z1 := fun i => cell_of_row _ _ i _ _ _ HIN.out.pw.q
      have z3 := fun i => cell_of_row _ _ i _ _ _ HIN.out.pw.t
      obtain ⟨P, hP⟩ : ∃ P, P = per qs t := ⟨_, rfl⟩
      have HPP := Lib.hid hP
      rw [← hP] at x1
      clear hP hw hlt
      go_wp2_with fail
      clear z1 z3 x1 t2
      go_loopw [23] (fun vp wq => ∃ (ph : Nat), Hid (ph ≤ P) ∧ vp = .int .i64 ph ∧ Hid (PlIn w wq (some ⟨g1, o1, none⟩) qc PA pc DA dc n m qs plan done t) ∧ Hid (phs qs plan done t lane (P - ph) ph = phs qs plan done t lane (per qs t) 0)) (fun vp _ => P - (intOf vp).toNat)
      case atStart => exact ⟨0, Lib.hid (Nat.zero_le _), rfl, HIN, Lib.hid (by rw [HPP.out]; rfl)⟩
      case round =>
        clear HIN
        obtain ⟨ph, HLP, rfl, HIN, HF⟩ := hrel
        by_cases hlt : ph < P
        · have t2 := lt_int hlt
          have hp32 : P ≤ 64 := by rw [HPP.out]; exact Nat.le_trans (pw_pos (HPW.out t HT.out)).2 (by decide)
          have hw := i_next hlt hp32
          have HW2 := Lib.hid hw
          have HLT2 := Lib.hid hlt
          clear hp32 hw hlt
          go_upto_region 8 with (fail)
          refine Kt.fold (fun W => PlIn w W (some ⟨g1, o1, none⟩) qc PA pc DA dc n m qs plan done t ∧ W.heap[wr.heap.size]? = some (.cells #[.int .i64 (lane : Int), .int .i64 (ph : Int)] 31 (0, 0))) ⟨HIN.out.on (Kt.balloc (Below.refl _ wr) _), heap_alloc_new wr _⟩ ?_
          rintro W1 ⟨hin, hnew⟩
          have HIN1 := Lib.hid hin; have HNEW := Lib.hid hnew
          have HNB : Hid (wr.heap.size ≠ w.heap.size + 3) := Lib.hid (by have := HIN.out.s; omega)
          clear hin hnew HIN
          have HC1 := Lib.hid (contains_calls (fun k => confl (lane, ph) (bt plan k) (per qs t) (per qs k)) 27 #[.pointer (some ⟨wr.heap.size, 0, none⟩), .pointer (some ⟨w.heap.size + 1, 0, none⟩), .pointer (some ⟨w.heap.size, 0, none⟩), .pointer (some ⟨w.heap.size + 2, 0, none⟩)] done DA m dc HND.out W1 HIN1.out.d HM.out eg_place
            (fun k hk W hb => pl1_calls (HIN1.out.pw.on hb) HPW.out (lane, ph) wr.heap.size (Kt.row_on hb HNEW.out) k (HDN.out k hk) HT.out))
          have HOK : Hid (okAt qs plan done t lane ph = !done.any fun k => confl (lane, ph) (bt plan k) (per qs t) (per qs k)) := Lib.hid rfl
          obtain ⟨q, hq⟩ : ∃ q, q = done.any fun k => confl (lane, ph) (bt plan k) (per qs t) (per qs k) := ⟨_, rfl⟩
          rw [← hq] at HC1 HOK
          clear hq
          go_wp2_with fail
          refine HC1.out.mono ?_
          rintro _ w2 ⟨rfl, hb⟩
          have HIN2 := Lib.hid (HIN1.out.on hb)
          have HNW2 := Lib.hid (Kt.row_on hb HNEW.out)
          clear hb HC1 HIN1 HNEW
          cases q with
          | true =>
            have HF2 := Lib.hid ((phs_next HLT2.out HOK.out).symm.trans HF.out)
            go_wp2_with fail
            go_roundw
            case rel => exact ⟨ph + 1, HLT2, congrArg _ (by first | rfl | exact HW2.out), HIN2, HF2⟩
            case measure => (try rw [HW2.out]); exact meas_up HLT2.out
          | false =>
            have HR : Hid (Bud.place qs plan done t lanes = some (lane, ph)) := Lib.hid (HE.out.symm.trans (lns_here HLT.out (HF.out.symm.trans (phs_here HLT2.out HOK.out))))
            have z1 := fun i => cell_of_row _ _ i _ _ _ HNW2.out
            have z2 : ∀ i, w2.cell? ⟨w.heap.size + 1 + 1 + 1, i, none⟩ = #[Value.int .i64 0, .int .i64 0][i]? := fun i => cell_of_row _ _ i _ _ _ HIN2.out.r
            have z3 : ∀ i, w2.frozen? ⟨w.heap.size + 1 + 1 + 1, i, none⟩ = false := fun i => frozen_of_row _ _ i _ _ HIN2.out.r
            have hne : wr.heap.size ≠ w.heap.size + 1 + 1 + 1 := HNB.out
            go_wp2_with fail
            refine bodyPost_ret (v := .tuple #[.agg #[.int .i64 (lane : Int), .int .i64 (ph : Int)], .bool true]) (by simp [z2, results, Try.results22, go_sem]) rfl ⟨by rw [HR.out]; rfl, (HIN2.out.b.setCell (p := ⟨w.heap.size + 1 + 1 + 1, 0, none⟩) (Nat.le_trans (Nat.le_succ _) (Nat.le_trans (Nat.le_succ _) (Nat.le_succ _))) _).setCell (p := ⟨w.heap.size + 1 + 1 + 1, 1, none⟩) (Nat.le_trans (Nat.le_succ _) (Nat.le_trans (Nat.le_succ _) (Nat.le_succ _))) _⟩
        · have t2 : ¬ (ph : Int) < P := fun h => hlt (Int.ofNat_lt.1 h)
          have HN : Hid (phs qs plan done t lane (per qs t) 0 = none) := Lib.hid (by rw [← HF.out, show P - ph = 0 by omega]; rfl)
          have HE2 := Lib.hid ((lns_next HLT.out HN.out).symm.trans HE.out)
          clear hlt
          go_wp2_with fail
          go_roundw
          case rel => exact ⟨lane + 1, HLT, congrArg _ (by first | rfl | exact HW.out), HIN, HE2⟩
          case measure => (try rw [HW.out]); exact meas_up HLT.out
    · have t1 : ¬ (lane : Int) < lanes := fun h => hlt (Int.ofNat_lt.1 h)
      have HR : Hid (Bud.place qs plan done t lanes = none) := Lib.hid (by rw [← HE.out, show lanes - lane = 0 by omega]; rfl)
      have z2 : ∀ i, wr.cell? ⟨w.heap.size + 1 + 1 + 1, i, none⟩ = #[Value.int .i64 0, .int .i64 0][i]? := fun i => cell_of_row _ _ i _ _ _ HIN.out.r
      have z3 : ∀ i, wr.frozen? ⟨w.heap.size + 1 + 1 + 1, i, none⟩ = false := fun i => frozen_of_row _ _ i _ _ HIN.out.r
      clear hlt
      go_wp2_with fail
      refine bodyPost_ret (v := .tuple #[.agg #[.int .i64 0, .int .i64 0], .bool false]) (by simp [z2, results, Try.results22, go_sem]) rfl ⟨by rw [HR.out]; rfl, (HIN.out.b.setCell (p := ⟨w.heap.size + 1 + 1 + 1, 0, none⟩) (Nat.le_trans (Nat.le_succ _) (Nat.le_trans (Nat.le_succ _) (Nat.le_succ _))) _).setCell (p := ⟨w.heap.size + 1 + 1 + 1, 1, none⟩) (Nat.le_trans (Nat.le_succ _) (Nat.le_trans (Nat.le_succ _) (Nat.le_succ _))) _⟩
end Go.Proofs.Ythmcnopogahffaa
