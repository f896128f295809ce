/- The walk of 'input'. -/
import Derived.Test.YtinhnlfhgfmagaaRepH
import Derived.BigQuiet
import Derived.Deep.QuietTactic
namespace Go.Proofs.Ytinhnlfhgfmagaa
open Go.RowKit Go.Proofs.Ytinhnlfhgfmagaa.Rep
theorem field_info : (Try.prog.info? 29).map (fun i => (i.zero, i.size, i.bytes)) = some (some (.agg #[.int .i64 0, .int .i64 0, .int .i64 0, .int .i64 0, .int .i64 0, .int .i64 0, .bool false]), 7, 56) := by kernel_rfl
/-- the usage of a field -/
def useAt (us : List Int) (k : Nat) : Int := us.getD (min k (us.length - 1)) 0
def fldAt (s : RS) (v : Int) (k : Nat) : Fld := ⟨s.bits, s.st.sz, s.st.p, useAt s.us k, s.st.mn, s.st.mx, bits .and .i64 v 1 == 1⟩
def feed (s : RS) (v : Int) (k : Nat) : RS := { s with out := s.out ++ [fldAt s v k], bits := s.bits + s.st.sz }
def feeds (s : RS) (v : Int) : Nat → RS
  | 0 => s
  | n + 1 => feed (feeds s v n) v n
def inp (s : RS) (v : Int) : RS × Int :=
  if s.st.sz = 0 ∨ s.st.mx < s.st.mn then (s, 1) else if 256 < (s.out.length : Int) + s.st.ct ∨ 512 < s.bits + s.st.ct * s.st.sz then (s, 2) else (feeds s v s.st.ct.toNat, 0)
theorem feeds_is (s : RS) (v : Int) : ∀ n, (feeds s v n).st = s.st ∧ (feeds s v n).stk = s.stk ∧ (feeds s v n).us = s.us ∧ (feeds s v n).dep = s.dep ∧ (feeds s v n).bits = s.bits + n * s.st.sz ∧ (feeds s v n).out.length = s.out.length + n
  | 0 => ⟨rfl, rfl, rfl, rfl, by simp [feeds], rfl⟩
  | n + 1 => by
    obtain ⟨a, b, c, d, e, f⟩ := feeds_is s v n
    refine ⟨a, b, c, d, ?_, ?_⟩
    · show (feeds s v n).bits + (feeds s v n).st.sz = _
      rw [e, a, Int.natCast_add, Int.add_mul]; omega
    · show ((feeds s v n).out ++ [_]).length = _
      rw [List.length_append, f]; rfl
theorem mul_bd {n : Nat} {c z : Int} (h : (n : Int) ≤ c) (hz : 0 ≤ z) : (n : Int) * z ≤ c * z := Int.mul_le_mul_of_nonneg_right h hz
theorem feeds_ok {s : RS} (h : s.Ok) (v : Int) (h1 : (s.out.length : Int) + s.st.ct ≤ 256) (h2 : s.bits + s.st.ct * s.st.sz ≤ 512) (n : Nat) (hn : (n : Int) ≤ s.st.ct) : (feeds s v n).Ok := by
  obtain ⟨a, b, c, d, e, f⟩ := feeds_is s v n
  have hm := mul_bd hn h.sz0
  have h0 : 0 ≤ (n : Int) * s.st.sz := Int.mul_nonneg (by omega) h.sz0
  exact ⟨by rw [a]; exact h.sz0, by rw [a]; exact h.sz1, by rw [a]; exact h.ct0, by rw [a]; exact h.ct1, by rw [b]; exact h.k4, by rw [b]; exact h.ks, by rw [c]; exact h.us, by rw [d]; exact h.d0, by rw [d]; exact h.d8, by rw [e]; have := h.b0; omega, by rw [e]; omega, by rw [f]; omega⟩
theorem feed_mid {s : RS} (h : s.Ok) (v : Int) (k : Nat) (h1 : s.out.length ≤ 255) : ({ s with out := s.out ++ [fldAt s v k] } : RS).Ok :=
  ⟨h.sz0, h.sz1, h.ct0, h.ct1, h.k4, h.ks, h.us, h.d0, h.d8, h.b0, h.b1, by show (s.out ++ [_]).length ≤ 256; rw [List.length_append]; show s.out.length + 1 ≤ 256; omega⟩
theorem feed_ok {s : RS} (h : s.Ok) (v : Int) (k : Nat) (h1 : s.out.length ≤ 255) (h2 : s.bits + s.st.sz ≤ 512) : (feed s v k).Ok :=
  ⟨h.sz0, h.sz1, h.ct0, h.ct1, h.k4, h.ks, h.us, h.d0, h.d8, by show 0 ≤ s.bits + s.st.sz; have := h.b0; have := h.sz0; omega, h2, by show (s.out ++ [_]).length ≤ 256; rw [List.length_append]; show s.out.length + 1 ≤ 256; omega⟩
theorem inp_ok {s : RS} (h : s.Ok) (v : Int) : (inp s v).1.Ok := by
  unfold inp
  split
  · exact h
  split
  · exact h
  · rename_i hn
    have := h.ct0
    exact feeds_ok h v (by omega) (by omega) _ (by omega)
theorem fld_one (f : Fld) : ∀ u ∈ f.cells, u.oneCell' = true := by simp [Fld.cells, Value.oneCell']
theorem use_cell {W : World} {B q m : Nat} {A : Option Addr} {us : List Int} (h : Kt.Sl W B 3 1 (.slice A us.length q) us.length (us.map (Value.int .i64))) (hm : us.length = m + 1) (k : Nat) : ∃ g o, A = some ⟨g, o, none⟩ ∧ W.cell? ⟨g, o + min k m, none⟩ = some (.int .i64 (useAt us k)) := by
  obtain ⟨g, o, cap, hv, _, hg, _, _, hc, _⟩ := h.cells (by omega)
  injection hv with h1 _ _
  have hlt : min k m < us.length := by omega
  refine ⟨g, o, h1, ?_⟩
  rw [hc (min k m) (by rw [List.length_map]; exact hlt)]
  simp only [List.getElem_map]
  congr 2
  unfold useAt
  have e : us.length - 1 = m := by omega
  rw [e, List.getD_eq_getElem?_getD, List.getElem?_eq_getElem hlt]; rfl
set_option maxRecDepth 100000 in
set_option maxHeartbeats 3200000 in
theorem inp_calls (w : World) (B b : Nat) (s : RS) (v : Int) (h : Rdr w B b s) : Calls Try.prog 21 #[.pointer (some ⟨b, 0, none⟩), .int .i64 v] w (Left w B b (Go.Proofs.Ytinhnlfhgfmagaa.inp s v)) := by
  obtain ⟨vs, vu, vo, h0⟩ := h
  have hbB := h0.bB
  have c0 := fun i => cell_of_row _ _ i _ _ _ h0.row
  unfold row at c0
  have HH := Lib.hid h0
  obtain ⟨A0, q0, rfl, hq1, hq2⟩ := h0.s3.form
  obtain ⟨sz0, sz1, ct0, ct1, k4, ks, us1, d0, d8, b0, b1, o1⟩ := h0.ok
  by_cases hz : s.st.sz = 0
  · have e : Go.Proofs.Ytinhnlfhgfmagaa.inp s v = (s, 1) := by unfold Go.Proofs.Ytinhnlfhgfmagaa.inp; rw [if_pos (.inl hz)]
    rw [e]
    have e1 : (s.st.sz == 0) = true := by simp [hz]
    clear e hz h0 ks
    go_enter Try.func21, Try.ntmps21
    go_wp2_with fail
    go_quiet (fail)
    go_wp2_with fail
    go_ret
    exact ⟨rfl, fun h => absurd h (show ¬ ((1 : Int) = 0) by decide), bdrewN (Below.refl _ _) _⟩
  have e1 : (s.st.sz == 0) = false := by simp [hz]
  by_cases hm : s.st.mx < s.st.mn
  · have e : Go.Proofs.Ytinhnlfhgfmagaa.inp s v = (s, 1) := by unfold Go.Proofs.Ytinhnlfhgfmagaa.inp; rw [if_pos (.inr hm)]
    rw [e]
    have e2 : decide (s.st.mn > s.st.mx) = true := decide_eq_true hm
    clear e hz h0 ks hm
    go_enter Try.func21, Try.ntmps21
    go_wp2_with fail
    go_quiet (fail)
    go_wp2_with fail
    go_ret
    exact ⟨rfl, fun h => absurd h (show ¬ ((1 : Int) = 0) by decide), bdrewN (Below.refl _ _) _⟩
  have HM : Hid (¬ (s.st.sz = 0 ∨ s.st.mx < s.st.mn)) := Lib.hid (fun h => h.elim hz hm)
  have e2 : decide (s.st.mn > s.st.mx) = false := decide_eq_false hm
  have hp0 : 0 ≤ s.st.ct * s.st.sz := Int.mul_nonneg ct0 sz0
  have hp1 : s.st.ct * s.st.sz ≤ 256 * 32 := Int.mul_le_mul ct1 sz1 sz0 (by omega)
  clear hz hm
  by_cases hbig : 256 < (s.out.length : Int) + s.st.ct ∨ 512 < s.bits + s.st.ct * s.st.sz
  · have e : Go.Proofs.Ytinhnlfhgfmagaa.inp s v = (s, 2) := by unfold Go.Proofs.Ytinhnlfhgfmagaa.inp; rw [if_neg HM.out, if_pos hbig]
    rw [e]
    obtain ⟨p, hp⟩ : ∃ p, s.st.ct * s.st.sz = p := ⟨_, rfl⟩
    rw [hp] at hp0 hp1 hbig
    clear e h0 ks HM
    by_cases h1 : 256 < (s.out.length : Int) + s.st.ct
    · clear hbig
      have e3 : decide ((s.out.length : Int) + s.st.ct > 256) = true := decide_eq_true h1
      clear h1
      go_enter Try.func21, Try.ntmps21
      go_wp2_with fail
      go_quiet (fail)
      go_wp2_with fail
      go_quiet (fail)
      go_wp2_with fail
      go_ret
      exact ⟨rfl, fun h => absurd h (show ¬ ((2 : Int) = 0) by decide), bdrewN (bdrewN (Below.refl _ _) _) _⟩
    · have h2 : 512 < s.bits + p := hbig.resolve_left h1
      have h1' : (s.out.length : Int) + s.st.ct ≤ 256 := by omega
      have e3 : decide ((s.out.length : Int) + s.st.ct > 256) = false := decide_eq_false h1
      have e4 : decide (s.bits + p > 512) = true := decide_eq_true h2
      clear hbig h1
      go_enter Try.func21, Try.ntmps21
      go_wp2_with fail
      go_quiet (fail)
      go_wp2_with fail
      go_quiet (fail)
      go_wp2_with fail
      go_ret
      exact ⟨rfl, fun h => absurd h (show ¬ ((2 : Int) = 0) by decide), bdrewN (bdrewN (Below.refl _ _) _) _⟩
  have h1 : (s.out.length : Int) + s.st.ct ≤ 256 := by omega
  have h2 : s.bits + s.st.ct * s.st.sz ≤ 512 := by omega
  have e : Go.Proofs.Ytinhnlfhgfmagaa.inp s v = (feeds s v s.st.ct.toNat, 0) := by unfold Go.Proofs.Ytinhnlfhgfmagaa.inp; rw [if_neg HM.out, if_neg hbig]
  rw [e]
  have HOK : Hid (∀ n : Nat, (n : Int) ≤ s.st.ct → (feeds s v n).Ok) := Lib.hid (feeds_ok h0.ok v h1 h2)
  have HIS := Lib.hid (feeds_is s v)
  have HBITS : Hid (∀ n : Nat, (n : Int) < s.st.ct → s.out.length + n ≤ 255 ∧ s.bits + (n : Int) * s.st.sz + s.st.sz ≤ 512) := Lib.hid (fun n hn => ⟨by omega, by
    have := mul_bd (n := n + 1) (c := s.st.ct) (by omega) sz0
    rw [Int.natCast_add, Int.add_mul] at this
    omega⟩)
  obtain ⟨p, hp⟩ : ∃ p, s.st.ct * s.st.sz = p := ⟨_, rfl⟩
  rw [hp] at hp0 hp1 h2
  obtain ⟨c, hc⟩ : ∃ c : Nat, s.st.ct = c := ⟨s.st.ct.toNat, by omega⟩
  have HC := Lib.hid hc
  have e3 : decide ((s.out.length : Int) + s.st.ct > 256) = false := decide_eq_false (by omega)
  have e4 : decide (s.bits + p > 512) = false := decide_eq_false (by omega)
  clear e h0 ks HM hbig hc
  go_enter Try.func21, Try.ntmps21
  go_wp2_with fail
  go_quiet (fail)
  go_wp2_with fail
  go_quiet (fail)
  go_wp2_with fail
  go_loopw [65] (fun x wr => ∃ (k : Nat) (t : RS), (k : Int) ≤ s.st.ct ∧ x = .int .i64 k ∧ Hid (feeds s v k = t) ∧ Hid (Rdr wr B b t) ∧ Hid (Below B w wr)) (fun x _ => s.st.ct.toNat - (intOf x).toNat)
  case atStart => exact ⟨0, s, by omega, rfl, Lib.hid rfl, Lib.hid ⟨_, _, _, HH.out.on (bdrewN (Below.refl _ _) _)⟩, Lib.hid (bdrewN (Below.refl _ _) _)⟩
  case round =>
    obtain ⟨k, t, hk, rfl, HT, HR, HBE⟩ := hrel
    by_cases hlt : (k : Int) < s.st.ct
    · obtain ⟨vs2, vu2, vo2, h2⟩ := HR.out
      obtain ⟨f1, f2, f3, f4, f5, f6⟩ := HIS.out k
      obtain ⟨g1, g2⟩ := HBITS.out k hlt
      rw [HT.out] at f1 f2 f3 f4 f5 f6
      have hk256 : (k : Int) ≤ 256 := by omega
      have m1 : t.out.length ≤ 255 := by omega
      have m2 : t.bits + t.st.sz ≤ 512 := by rw [f1, f5]; exact g2
      have m3 := h2.ok.b0
      have m4 := h2.ok.sz0
      have m5 := h2.ok.sz1
      have HN := Lib.hid (feed_mid h2.ok v k m1)
      have HN2 := Lib.hid (feed_ok h2.ok v k m1 m2)
      have mus := h2.ok.us
      obtain ⟨A2, q2, rfl, hq3, hq4⟩ := h2.s2.form
      obtain ⟨A3, q3, rfl, hq5, hq6⟩ := h2.s3.form
      have H2 := Lib.hid h2
      have c1 := fun i => cell_of_row _ _ i _ _ _ H2.out.row
      unfold row at c1
      have hbw := h2.lt
      clear h2 f1 f2 f3 f4 f5 f6 g1 g2
      go_upto_if 74 with (fail)
      go_cut [6] from 68 to 84 (fun u wx => u = .int .i64 (useAt t.us k) ∧ wx = wr)
      case first =>
        by_cases hu : t.us.length = 0
        · have e5 : useAt t.us k = 0 := by rw [List.eq_nil_of_length_eq_zero hu]; rfl
          have E5 := Lib.hid e5
          have e6 : (t.us.length : Int) ≤ 0 := by omega
          clear e5 hu
          go_wp2_with fail
          go_meet
          exact ⟨by rw [E5.out], rfl⟩
        · obtain ⟨m, hm⟩ : ∃ m, t.us.length = m + 1 := ⟨t.us.length - 1, by omega⟩
          obtain ⟨g, o, rfl, hc⟩ := use_cell H2.out.s2 hm k
          have e6 : decide ((t.us.length : Int) > 0) = true := decide_eq_true (by omega)
          have e9 : ((t.us.length : Int) - 1).toNat = m := by omega
          have e10 : (0 : Int) ≤ (t.us.length : Int) - 1 := by omega
          have e11 : (t.us.length : Int) - 1 < t.us.length := by omega
          by_cases hkm : k ≤ m
          · rw [Nat.min_eq_left hkm] at hc
            have e7 : (k : Int) ≤ (t.us.length : Int) - 1 := by omega
            have e8 : (k : Int) < t.us.length := by omega
            clear hu hm hkm
            go_wp2_with fail
            go_meet
            exact ⟨rfl, rfl⟩
          · rw [Nat.min_eq_right (by omega)] at hc
            have e7 : (t.us.length : Int) - 1 < k := by omega
            clear hu hm hkm
            go_wp2_with fail
            go_meet
            exact ⟨rfl, rfl⟩
      case rest =>
        obtain ⟨rfl, rfl⟩ := hcut
        go_wp2_with fail
        have hBW : B ≤ wc.heap.size := Nat.le_trans hbB (Nat.le_of_lt hbw)
        clear c1
        refine Kt.G.start 38 (RowAt b t vs2 (.slice A2 t.us.length q2) (.slice A3 t.out.length q3)) (by kernel_rfl) H2.out.row (fun hHeld => ?_)
        refine Kt.G.takeP 0 { dst := some 85, op := Op.move (Operand.tmp 0), type := 48, pos := "report.go:159", after := #[], guard := none } ?_ (fun _ => hHeld) rfl (by kernel_rfl) (fun _ _ _ h => h) (by rfl) ?_ ?_
        rotate_left
        · intro w; go_simp; try with_reducible rfl
        try simp only [Act.put, List.setIfInBounds_toArray, List.set_cons_zero, List.set_cons_succ]
        refine Kt.G.takeP 1 { dst := some 86, op := Op.move (Operand.tmp 0), type := 48, pos := "report.go:159", after := #[], guard := none } ?_ (fun _ => hHeld) rfl (by kernel_rfl) (fun _ _ _ h => h) (by rfl) ?_ ?_
        rotate_left
        · intro w; go_simp; try with_reducible rfl
        try simp only [Act.put, List.setIfInBounds_toArray, List.set_cons_zero, List.set_cons_succ]
        refine Kt.G.takeP 2 { dst := some 87, op := Op.nilCheck (Operand.tmp 86), type := 0, pos := "report.go:159", after := #[{ on := 1, ground := Ground.data }], guard := none } ?_ (fun _ => hHeld) rfl (by kernel_rfl) (fun _ _ _ h => h) (by rfl) ?_ ?_
        rotate_left
        · intro w; go_simp; try with_reducible rfl
        try simp only [Act.put, List.setIfInBounds_toArray, List.set_cons_zero, List.set_cons_succ]
        refine Kt.G.takeP 3 { dst := some 88, op := Op.fieldAddr 54 (Operand.tmp 87) 5, type := 0, pos := "report.go:159", after := #[{ on := 2, ground := Ground.data }], guard := none } ?_ (fun _ => hHeld) rfl (by kernel_rfl) (fun _ _ _ h => h) (by rfl) ?_ ?_
        rotate_left
        · intro w; go_simp; try with_reducible rfl
        try simp only [Act.put, List.setIfInBounds_toArray, List.set_cons_zero, List.set_cons_succ]
        refine Kt.G.take 4 { dst := some 89, op := Op.load 23 (Operand.tmp 88), type := 23, pos := "report.go:159", after := #[{ on := 3, ground := Ground.data }], guard := none } ?_ hHeld rfl (by kernel_rfl) (fun _ _ _ h => h) (by rfl) ?_ ?_
        rotate_left
        · intro w hSw; have c0 := fun i => cell_of_row _ _ i _ _ _ hSw; (try unfold row at c0); go_simp; try with_reducible rfl
        try simp only [Act.put, List.setIfInBounds_toArray, List.set_cons_zero, List.set_cons_succ]
        refine Kt.G.takeP 5 { dst := some 90, op := Op.move (Operand.tmp 0), type := 48, pos := "report.go:159", after := #[], guard := none } ?_ (fun _ => hHeld) rfl (by kernel_rfl) (fun _ _ _ h => h) (by rfl) ?_ ?_
        rotate_left
        · intro w; go_simp; try with_reducible rfl
        try simp only [Act.put, List.setIfInBounds_toArray, List.set_cons_zero, List.set_cons_succ]
        refine Kt.G.takeP 6 { dst := some 91, op := Op.nilCheck (Operand.tmp 90), type := 0, pos := "report.go:159", after := #[{ on := 5, ground := Ground.data }], guard := none } ?_ (fun _ => hHeld) rfl (by kernel_rfl) (fun _ _ _ h => h) (by rfl) ?_ ?_
        rotate_left
        · intro w; go_simp; try with_reducible rfl
        try simp only [Act.put, List.setIfInBounds_toArray, List.set_cons_zero, List.set_cons_succ]
        refine Kt.G.takeP 7 { dst := some 92, op := Op.fieldAddr 54 (Operand.tmp 91) 4, type := 0, pos := "report.go:159", after := #[{ on := 6, ground := Ground.data }], guard := none } ?_ (fun _ => hHeld) rfl (by kernel_rfl) (fun _ _ _ h => h) (by rfl) ?_ ?_
        rotate_left
        · intro w; go_simp; try with_reducible rfl
        try simp only [Act.put, List.setIfInBounds_toArray, List.set_cons_zero, List.set_cons_succ]
        refine Kt.G.take 8 { dst := some 93, op := Op.load 3 (Operand.tmp 92), type := 3, pos := "report.go:159", after := #[{ on := 7, ground := Ground.data }], guard := none } ?_ hHeld rfl (by kernel_rfl) (fun _ _ _ h => h) (by rfl) ?_ ?_
        rotate_left
        · intro w hSw; have c0 := fun i => cell_of_row _ _ i _ _ _ hSw; (try unfold row at c0); go_simp; try with_reducible rfl
        try simp only [Act.put, List.setIfInBounds_toArray, List.set_cons_zero, List.set_cons_succ]
        refine Kt.G.takeP 9 { dst := some 94, op := Op.move (Operand.tmp 0), type := 48, pos := "report.go:159", after := #[], guard := none } ?_ (fun _ => hHeld) rfl (by kernel_rfl) (fun _ _ _ h => h) (by rfl) ?_ ?_
        rotate_left
        · intro w; go_simp; try with_reducible rfl
        try simp only [Act.put, List.setIfInBounds_toArray, List.set_cons_zero, List.set_cons_succ]
        refine Kt.G.takeP 10 { dst := some 95, op := Op.nilCheck (Operand.tmp 94), type := 0, pos := "report.go:159", after := #[{ on := 9, ground := Ground.data }], guard := none } ?_ (fun _ => hHeld) rfl (by kernel_rfl) (fun _ _ _ h => h) (by rfl) ?_ ?_
        rotate_left
        · intro w; go_simp; try with_reducible rfl
        try simp only [Act.put, List.setIfInBounds_toArray, List.set_cons_zero, List.set_cons_succ]
        refine Kt.G.takeP 11 { dst := some 96, op := Op.fieldAddr 54 (Operand.tmp 95) 0, type := 0, pos := "report.go:159", after := #[{ on := 10, ground := Ground.data }], guard := none } ?_ (fun _ => hHeld) rfl (by kernel_rfl) (fun _ _ _ h => h) (by rfl) ?_ ?_
        rotate_left
        · intro w; go_simp; try with_reducible rfl
        try simp only [Act.put, List.setIfInBounds_toArray, List.set_cons_zero, List.set_cons_succ]
        refine Kt.G.takeP 12 { dst := some 97, op := Op.fieldAddr 50 (Operand.tmp 96) 3, type := 0, pos := "report.go:159", after := #[{ on := 11, ground := Ground.data }], guard := none } ?_ (fun _ => hHeld) rfl (by kernel_rfl) (fun _ _ _ h => h) (by rfl) ?_ ?_
        rotate_left
        · intro w; go_simp; try with_reducible rfl
        try simp only [Act.put, List.setIfInBounds_toArray, List.set_cons_zero, List.set_cons_succ]
        refine Kt.G.take 13 { dst := some 98, op := Op.load 3 (Operand.tmp 97), type := 3, pos := "report.go:159", after := #[{ on := 12, ground := Ground.data }], guard := none } ?_ hHeld rfl (by kernel_rfl) (fun _ _ _ h => h) (by rfl) ?_ ?_
        rotate_left
        · intro w hSw; have c0 := fun i => cell_of_row _ _ i _ _ _ hSw; (try unfold row at c0); go_simp; try with_reducible rfl
        try simp only [Act.put, List.setIfInBounds_toArray, List.set_cons_zero, List.set_cons_succ]
        refine Kt.G.takeP 14 { dst := some 99, op := Op.move (Operand.tmp 0), type := 48, pos := "report.go:159", after := #[], guard := none } ?_ (fun _ => hHeld) rfl (by kernel_rfl) (fun _ _ _ h => h) (by rfl) ?_ ?_
        rotate_left
        · intro w; go_simp; try with_reducible rfl
        try simp only [Act.put, List.setIfInBounds_toArray, List.set_cons_zero, List.set_cons_succ]
        refine Kt.G.takeP 15 { dst := some 100, op := Op.nilCheck (Operand.tmp 99), type := 0, pos := "report.go:159", after := #[{ on := 14, ground := Ground.data }], guard := none } ?_ (fun _ => hHeld) rfl (by kernel_rfl) (fun _ _ _ h => h) (by rfl) ?_ ?_
        rotate_left
        · intro w; go_simp; try with_reducible rfl
        try simp only [Act.put, List.setIfInBounds_toArray, List.set_cons_zero, List.set_cons_succ]
        refine Kt.G.takeP 16 { dst := some 101, op := Op.fieldAddr 54 (Operand.tmp 100) 0, type := 0, pos := "report.go:159", after := #[{ on := 15, ground := Ground.data }], guard := none } ?_ (fun _ => hHeld) rfl (by kernel_rfl) (fun _ _ _ h => h) (by rfl) ?_ ?_
        rotate_left
        · intro w; go_simp; try with_reducible rfl
        try simp only [Act.put, List.setIfInBounds_toArray, List.set_cons_zero, List.set_cons_succ]
        refine Kt.G.takeP 17 { dst := some 102, op := Op.fieldAddr 50 (Operand.tmp 101) 0, type := 0, pos := "report.go:159", after := #[{ on := 16, ground := Ground.data }], guard := none } ?_ (fun _ => hHeld) rfl (by kernel_rfl) (fun _ _ _ h => h) (by rfl) ?_ ?_
        rotate_left
        · intro w; go_simp; try with_reducible rfl
        try simp only [Act.put, List.setIfInBounds_toArray, List.set_cons_zero, List.set_cons_succ]
        refine Kt.G.take 18 { dst := some 103, op := Op.load 3 (Operand.tmp 102), type := 3, pos := "report.go:159", after := #[{ on := 17, ground := Ground.data }], guard := none } ?_ hHeld rfl (by kernel_rfl) (fun _ _ _ h => h) (by rfl) ?_ ?_
        rotate_left
        · intro w hSw; have c0 := fun i => cell_of_row _ _ i _ _ _ hSw; (try unfold row at c0); go_simp; try with_reducible rfl
        try simp only [Act.put, List.setIfInBounds_toArray, List.set_cons_zero, List.set_cons_succ]
        refine Kt.G.takeP 19 { dst := some 104, op := Op.move (Operand.tmp 6), type := 3, pos := "report.go:159", after := #[], guard := none } ?_ (fun _ => hHeld) rfl (by kernel_rfl) (fun _ _ _ h => h) (by rfl) ?_ ?_
        rotate_left
        · intro w; go_simp; try with_reducible rfl
        try simp only [Act.put, List.setIfInBounds_toArray, List.set_cons_zero, List.set_cons_succ]
        refine Kt.G.takeP 20 { dst := some 105, op := Op.move (Operand.tmp 0), type := 48, pos := "report.go:159", after := #[], guard := none } ?_ (fun _ => hHeld) rfl (by kernel_rfl) (fun _ _ _ h => h) (by rfl) ?_ ?_
        rotate_left
        · intro w; go_simp; try with_reducible rfl
        try simp only [Act.put, List.setIfInBounds_toArray, List.set_cons_zero, List.set_cons_succ]
        refine Kt.G.takeP 21 { dst := some 106, op := Op.nilCheck (Operand.tmp 105), type := 0, pos := "report.go:159", after := #[{ on := 20, ground := Ground.data }], guard := none } ?_ (fun _ => hHeld) rfl (by kernel_rfl) (fun _ _ _ h => h) (by rfl) ?_ ?_
        rotate_left
        · intro w; go_simp; try with_reducible rfl
        try simp only [Act.put, List.setIfInBounds_toArray, List.set_cons_zero, List.set_cons_succ]
        refine Kt.G.takeP 22 { dst := some 107, op := Op.fieldAddr 54 (Operand.tmp 106) 0, type := 0, pos := "report.go:159", after := #[{ on := 21, ground := Ground.data }], guard := none } ?_ (fun _ => hHeld) rfl (by kernel_rfl) (fun _ _ _ h => h) (by rfl) ?_ ?_
        rotate_left
        · intro w; go_simp; try with_reducible rfl
        try simp only [Act.put, List.setIfInBounds_toArray, List.set_cons_zero, List.set_cons_succ]
        refine Kt.G.takeP 23 { dst := some 108, op := Op.fieldAddr 50 (Operand.tmp 107) 1, type := 0, pos := "report.go:159", after := #[{ on := 22, ground := Ground.data }], guard := none } ?_ (fun _ => hHeld) rfl (by kernel_rfl) (fun _ _ _ h => h) (by rfl) ?_ ?_
        rotate_left
        · intro w; go_simp; try with_reducible rfl
        try simp only [Act.put, List.setIfInBounds_toArray, List.set_cons_zero, List.set_cons_succ]
        refine Kt.G.take 24 { dst := some 109, op := Op.load 3 (Operand.tmp 108), type := 3, pos := "report.go:159", after := #[{ on := 23, ground := Ground.data }], guard := none } ?_ hHeld rfl (by kernel_rfl) (fun _ _ _ h => h) (by rfl) ?_ ?_
        rotate_left
        · intro w hSw; have c0 := fun i => cell_of_row _ _ i _ _ _ hSw; (try unfold row at c0); go_simp; try with_reducible rfl
        try simp only [Act.put, List.setIfInBounds_toArray, List.set_cons_zero, List.set_cons_succ]
        refine Kt.G.takeP 25 { dst := some 110, op := Op.move (Operand.tmp 0), type := 48, pos := "report.go:159", after := #[], guard := none } ?_ (fun _ => hHeld) rfl (by kernel_rfl) (fun _ _ _ h => h) (by rfl) ?_ ?_
        rotate_left
        · intro w; go_simp; try with_reducible rfl
        try simp only [Act.put, List.setIfInBounds_toArray, List.set_cons_zero, List.set_cons_succ]
        refine Kt.G.takeP 26 { dst := some 111, op := Op.nilCheck (Operand.tmp 110), type := 0, pos := "report.go:159", after := #[{ on := 25, ground := Ground.data }], guard := none } ?_ (fun _ => hHeld) rfl (by kernel_rfl) (fun _ _ _ h => h) (by rfl) ?_ ?_
        rotate_left
        · intro w; go_simp; try with_reducible rfl
        try simp only [Act.put, List.setIfInBounds_toArray, List.set_cons_zero, List.set_cons_succ]
        refine Kt.G.takeP 27 { dst := some 112, op := Op.fieldAddr 54 (Operand.tmp 111) 0, type := 0, pos := "report.go:159", after := #[{ on := 26, ground := Ground.data }], guard := none } ?_ (fun _ => hHeld) rfl (by kernel_rfl) (fun _ _ _ h => h) (by rfl) ?_ ?_
        rotate_left
        · intro w; go_simp; try with_reducible rfl
        try simp only [Act.put, List.setIfInBounds_toArray, List.set_cons_zero, List.set_cons_succ]
        refine Kt.G.takeP 28 { dst := some 113, op := Op.fieldAddr 50 (Operand.tmp 112) 2, type := 0, pos := "report.go:159", after := #[{ on := 27, ground := Ground.data }], guard := none } ?_ (fun _ => hHeld) rfl (by kernel_rfl) (fun _ _ _ h => h) (by rfl) ?_ ?_
        rotate_left
        · intro w; go_simp; try with_reducible rfl
        try simp only [Act.put, List.setIfInBounds_toArray, List.set_cons_zero, List.set_cons_succ]
        refine Kt.G.take 29 { dst := some 114, op := Op.load 3 (Operand.tmp 113), type := 3, pos := "report.go:159", after := #[{ on := 28, ground := Ground.data }], guard := none } ?_ hHeld rfl (by kernel_rfl) (fun _ _ _ h => h) (by rfl) ?_ ?_
        rotate_left
        · intro w hSw; have c0 := fun i => cell_of_row _ _ i _ _ _ hSw; (try unfold row at c0); go_simp; try with_reducible rfl
        try simp only [Act.put, List.setIfInBounds_toArray, List.set_cons_zero, List.set_cons_succ]
        refine Kt.G.takeP 30 { dst := some 115, op := Op.move (Operand.tmp 1), type := 3, pos := "report.go:159", after := #[], guard := none } ?_ (fun _ => hHeld) rfl (by kernel_rfl) (fun _ _ _ h => h) (by rfl) ?_ ?_
        rotate_left
        · intro w; go_simp; try with_reducible rfl
        try simp only [Act.put, List.setIfInBounds_toArray, List.set_cons_zero, List.set_cons_succ]
        refine Kt.G.takeP 31 { dst := some 116, op := Op.binOp BinOp.and 3 (Operand.tmp 115) (Operand.const (Value.int IntKind.i64 1)) 3, type := 3, pos := "report.go:159", after := #[{ on := 30, ground := Ground.data }], guard := none } ?_ (fun _ => hHeld) rfl (by kernel_rfl) (fun _ _ _ h => h) (by rfl) ?_ ?_
        rotate_left
        · intro w; go_simp; try with_reducible rfl
        try simp only [Act.put, List.setIfInBounds_toArray, List.set_cons_zero, List.set_cons_succ]
        refine Kt.G.takeP 32 { dst := some 117, op := Op.binOp BinOp.eql 3 (Operand.tmp 116) (Operand.const (Value.int IntKind.i64 1)) 3, type := 4, pos := "report.go:159", after := #[{ on := 31, ground := Ground.data }], guard := none } ?_ (fun _ => hHeld) rfl (by kernel_rfl) (fun _ _ _ h => h) (by rfl) ?_ ?_
        rotate_left
        · intro w; go_simp; try with_reducible rfl
        try simp only [Act.put, List.setIfInBounds_toArray, List.set_cons_zero, List.set_cons_succ]
        refine Kt.G.takeP 33 { dst := some 118, op := Op.build 29 #[(0, Operand.tmp 93), (1, Operand.tmp 98), (2, Operand.tmp 103), (3, Operand.tmp 104), (4, Operand.tmp 109), (5, Operand.tmp 114), (6, Operand.tmp 117)], type := 29, pos := "report.go:159", after := #[{ on := 8, ground := Ground.data }, { on := 13, ground := Ground.data }, { on := 18, ground := Ground.data }, { on := 19, ground := Ground.data }, { on := 24, ground := Ground.data }, { on := 29, ground := Ground.data }, { on := 32, ground := Ground.data }], guard := none } ?_ (fun _ => hHeld) rfl (by kernel_rfl) (fun _ _ _ h => h) (by rfl) ?_ ?_
        rotate_left
        · intro w; go_simp; try with_reducible rfl
        try simp only [Act.put, List.setIfInBounds_toArray, List.set_cons_zero, List.set_cons_succ]
        refine Kt.G.one 34 { dst := some 119, op := Op.buildSlice 23 1 #[(0, Operand.tmp 118)], type := 23, pos := "report.go:159", after := #[{ on := 33, ground := Ground.data }], guard := none } rfl (by kernel_rfl) (by rfl) (fun K hK => ?_)
        go_simp
        refine hK.out _ _ (fun _ => (Below.heap_alloc _ _ _ hbw).trans hHeld) (fun hHeld => ?_)
        have hHeld := hHeld rfl
        clear hK K
        try simp only [Act.put, List.setIfInBounds_toArray, List.set_cons_zero, List.set_cons_succ]
        refine Kt.G.one 35 { dst := some 120, op := Op.call { callee := Callee.builtin Builtin.append, args := #[Operand.tmp 89, Operand.tmp 119], argTypes := #[23, 23] }, type := 23, pos := "report.go:159", after := #[{ on := 4, ground := Ground.data }, { on := 34, ground := Ground.data }], guard := none } rfl (by kernel_rfl) (by rfl) (fun K hK => ?_)
        refine Kt.wp_append_sl _ (.tmp 89) (.tmp 119) 23 rfl B 29 (.agg #[.int .i64 0, .int .i64 0, .int .i64 0, .int .i64 0, .int .i64 0, .int .i64 0, .bool false]) 7 56 field_info Try.underlying23 rfl (by decide) _ _ _ rfl (H2.out.s3.alloc _).drew ⟨wc.heap.size, 0, none⟩ 1 1 (fldAt t v k).cells rfl rfl (Kt.new_cells wc (fldAt t v k).cells.toArray _) (fld_one _) (by unfold maxLen; omega) (by omega) (by show B ≤ (wc.alloc _).heap.size; rw [World.size_alloc]; exact Nat.le_succ_of_le hBW) ?_
        intro A1 c1 w1 hsl hb1 hz1 hk1 ho1
        have hrow : RowAt b t vs2 (.slice A2 t.us.length q2) (.slice A3 t.out.length q3) w1 := (hk1 b (by show b < (wc.alloc _).heap.size; rw [World.size_alloc]; exact Nat.lt_succ_of_lt hbw) (fun e => H2.out.n3 b e rfl)).trans hHeld
        refine hK.out _ _ (fun _ => hrow) (fun hHeld => ?_)
        have hHeld := hHeld rfl
        clear hK K
        try simp only [Act.put, List.setIfInBounds_toArray, List.set_cons_zero, List.set_cons_succ]
        refine Kt.G.takeP 36 { dst := some 121, op := Op.nilCheck (Operand.tmp 85), type := 0, pos := "report.go:159", after := #[{ on := 0, ground := Ground.data }, { on := 0, ground := Ground.phase }, { on := 1, ground := Ground.phase }, { on := 2, ground := Ground.phase }, { on := 3, ground := Ground.phase }, { on := 4, ground := Ground.phase }, { on := 5, ground := Ground.phase }, { on := 6, ground := Ground.phase }, { on := 7, ground := Ground.phase }, { on := 8, ground := Ground.phase }, { on := 9, ground := Ground.phase }, { on := 10, ground := Ground.phase }, { on := 11, ground := Ground.phase }, { on := 12, ground := Ground.phase }, { on := 13, ground := Ground.phase }, { on := 14, ground := Ground.phase }, { on := 15, ground := Ground.phase }, { on := 16, ground := Ground.phase }, { on := 17, ground := Ground.phase }, { on := 18, ground := Ground.phase }, { on := 19, ground := Ground.phase }, { on := 20, ground := Ground.phase }, { on := 21, ground := Ground.phase }, { on := 22, ground := Ground.phase }, { on := 23, ground := Ground.phase }, { on := 24, ground := Ground.phase }, { on := 25, ground := Ground.phase }, { on := 26, ground := Ground.phase }, { on := 27, ground := Ground.phase }, { on := 28, ground := Ground.phase }, { on := 29, ground := Ground.phase }, { on := 30, ground := Ground.phase }, { on := 31, ground := Ground.phase }, { on := 32, ground := Ground.phase }, { on := 33, ground := Ground.phase }, { on := 34, ground := Ground.phase }, { on := 35, ground := Ground.phase }], guard := none } ?_ (fun _ => hHeld) rfl (by kernel_rfl) (fun _ _ _ h => h) (by rfl) ?_ ?_
        rotate_left
        · intro w; go_simp; try with_reducible rfl
        try simp only [Act.put, List.setIfInBounds_toArray, List.set_cons_zero, List.set_cons_succ]
        refine Kt.G.takeP 37 { dst := some 122, op := Op.fieldAddr 54 (Operand.tmp 121) 5, type := 0, pos := "report.go:159", after := #[{ on := 36, ground := Ground.data }, { on := 0, ground := Ground.phase }, { on := 1, ground := Ground.phase }, { on := 2, ground := Ground.phase }, { on := 3, ground := Ground.phase }, { on := 4, ground := Ground.phase }, { on := 5, ground := Ground.phase }, { on := 6, ground := Ground.phase }, { on := 7, ground := Ground.phase }, { on := 8, ground := Ground.phase }, { on := 9, ground := Ground.phase }, { on := 10, ground := Ground.phase }, { on := 11, ground := Ground.phase }, { on := 12, ground := Ground.phase }, { on := 13, ground := Ground.phase }, { on := 14, ground := Ground.phase }, { on := 15, ground := Ground.phase }, { on := 16, ground := Ground.phase }, { on := 17, ground := Ground.phase }, { on := 18, ground := Ground.phase }, { on := 19, ground := Ground.phase }, { on := 20, ground := Ground.phase }, { on := 21, ground := Ground.phase }, { on := 22, ground := Ground.phase }, { on := 23, ground := Ground.phase }, { on := 24, ground := Ground.phase }, { on := 25, ground := Ground.phase }, { on := 26, ground := Ground.phase }, { on := 27, ground := Ground.phase }, { on := 28, ground := Ground.phase }, { on := 29, ground := Ground.phase }, { on := 30, ground := Ground.phase }, { on := 31, ground := Ground.phase }, { on := 32, ground := Ground.phase }, { on := 33, ground := Ground.phase }, { on := 34, ground := Ground.phase }, { on := 35, ground := Ground.phase }], guard := none } ?_ (fun _ => hHeld) rfl (by kernel_rfl) (fun _ _ _ h => h) (by rfl) ?_ ?_
        rotate_left
        · intro w; go_simp; try with_reducible rfl
        try simp only [Act.put, List.setIfInBounds_toArray, List.set_cons_zero, List.set_cons_succ]
        refine Kt.G.one 38 { dst := none, op := Op.store 23 (Operand.tmp 122) (Operand.tmp 120), type := 0, pos := "report.go:159", after := #[{ on := 37, ground := Ground.data }, { on := 35, ground := Ground.data }, { on := 35, ground := Ground.chain }, { on := 0, ground := Ground.phase }, { on := 1, ground := Ground.phase }, { on := 2, ground := Ground.phase }, { on := 3, ground := Ground.phase }, { on := 4, ground := Ground.phase }, { on := 5, ground := Ground.phase }, { on := 6, ground := Ground.phase }, { on := 7, ground := Ground.phase }, { on := 8, ground := Ground.phase }, { on := 9, ground := Ground.phase }, { on := 10, ground := Ground.phase }, { on := 11, ground := Ground.phase }, { on := 12, ground := Ground.phase }, { on := 13, ground := Ground.phase }, { on := 14, ground := Ground.phase }, { on := 15, ground := Ground.phase }, { on := 16, ground := Ground.phase }, { on := 17, ground := Ground.phase }, { on := 18, ground := Ground.phase }, { on := 19, ground := Ground.phase }, { on := 20, ground := Ground.phase }, { on := 21, ground := Ground.phase }, { on := 22, ground := Ground.phase }, { on := 23, ground := Ground.phase }, { on := 24, ground := Ground.phase }, { on := 25, ground := Ground.phase }, { on := 26, ground := Ground.phase }, { on := 27, ground := Ground.phase }, { on := 28, ground := Ground.phase }, { on := 29, ground := Ground.phase }, { on := 30, ground := Ground.phase }, { on := 31, ground := Ground.phase }, { on := 32, ground := Ground.phase }, { on := 33, ground := Ground.phase }, { on := 34, ground := Ground.phase }, { on := 35, ground := Ground.phase }], guard := none } rfl (by kernel_rfl) (by rfl) (fun K hK => ?_)
        have c2 := fun i => cell_of_row _ _ i _ _ _ hrow
        have f2 := fun i => frozen_of_row _ _ i _ _ hrow
        (try unfold row at c2)
        have hbz : b < w1.heap.size := (Array.getElem?_eq_some_iff.1 hrow).1
        go_simp
        refine hK.out _ _ (Kt.G.late (by kernel_rfl)) (fun _ => ?_)
        clear hK K
        try simp only [Act.put, List.setIfInBounds_toArray, List.set_cons_zero, List.set_cons_succ]
        clear c2 f2
        refine Kt.G.done (by kernel_rfl) (NoPanic.normal ?_) _
        have HP : Hid (RdB (w1.setCell ⟨b, 9, none⟩ (.slice A1 (t.out.length + 1) c1)) B b { t with out := t.out ++ [fldAt t v k] } vs2 (.slice A2 t.us.length q2) (.slice A1 (t.out.length + 1) c1)) := Lib.hid (H2.out.push3 (fldAt t v k) hsl hk1 ho1 HN.out)
        have HB2 : Hid (Below B w (w1.setCell ⟨b, 9, none⟩ (.slice A1 (t.out.length + 1) c1))) := Lib.hid ((HBE.out.trans (((Below.refl B wc).alloc hBW _).drew.trans hb1)).setCell (p := ⟨b, 9, none⟩) hbB _)
        clear hsl hk1 ho1 hb1 hz1 hHeld hrow hbz
        go_wp2_with fail
        refine Kt.fold (fun W => Hid (RdB W B b { t with out := t.out ++ [fldAt t v k] } vs2 (.slice A2 t.us.length q2) (.slice A1 (t.out.length + 1) c1)) ∧ Hid (Below B w W)) ⟨HP, HB2⟩ (fun W2 hW2 => ?_)
        clear HP HB2
        obtain ⟨HP, HB2⟩ := hW2
        refine Kt.G.start 12 (RowAt b { t with out := t.out ++ [fldAt t v k] } vs2 (.slice A2 t.us.length q2) (.slice A1 (t.out.length + 1) c1)) (by kernel_rfl) HP.out.row (fun hHeld => ?_)
        refine Kt.G.takeP 0 { dst := some 123, op := Op.move (Operand.tmp 0), type := 48, pos := "report.go:160", after := #[], guard := none } ?_ (fun _ => hHeld) rfl (by kernel_rfl) (fun _ _ _ h => h) (by rfl) ?_ ?_
        rotate_left
        · intro w; go_simp; try with_reducible rfl
        try simp only [Act.put, List.setIfInBounds_toArray, List.set_cons_zero, List.set_cons_succ]
        refine Kt.G.takeP 1 { dst := some 124, op := Op.nilCheck (Operand.tmp 123), type := 0, pos := "report.go:160", after := #[{ on := 0, ground := Ground.data }], guard := none } ?_ (fun _ => hHeld) rfl (by kernel_rfl) (fun _ _ _ h => h) (by rfl) ?_ ?_
        rotate_left
        · intro w; go_simp; try with_reducible rfl
        try simp only [Act.put, List.setIfInBounds_toArray, List.set_cons_zero, List.set_cons_succ]
        refine Kt.G.takeP 2 { dst := some 125, op := Op.fieldAddr 54 (Operand.tmp 124) 4, type := 0, pos := "report.go:160", after := #[{ on := 1, ground := Ground.data }], guard := none } ?_ (fun _ => hHeld) rfl (by kernel_rfl) (fun _ _ _ h => h) (by rfl) ?_ ?_
        rotate_left
        · intro w; go_simp; try with_reducible rfl
        try simp only [Act.put, List.setIfInBounds_toArray, List.set_cons_zero, List.set_cons_succ]
        refine Kt.G.take 3 { dst := some 126, op := Op.load 3 (Operand.tmp 125), type := 3, pos := "report.go:160", after := #[{ on := 2, ground := Ground.data }], guard := none } ?_ hHeld rfl (by kernel_rfl) (fun _ _ _ h => h) (by rfl) ?_ ?_
        rotate_left
        · intro w hSw; have c0 := fun i => cell_of_row _ _ i _ _ _ hSw; (try unfold row at c0); go_simp; try with_reducible rfl
        try simp only [Act.put, List.setIfInBounds_toArray, List.set_cons_zero, List.set_cons_succ]
        refine Kt.G.takeP 4 { dst := some 127, op := Op.move (Operand.tmp 0), type := 48, pos := "report.go:160", after := #[], guard := none } ?_ (fun _ => hHeld) rfl (by kernel_rfl) (fun _ _ _ h => h) (by rfl) ?_ ?_
        rotate_left
        · intro w; go_simp; try with_reducible rfl
        try simp only [Act.put, List.setIfInBounds_toArray, List.set_cons_zero, List.set_cons_succ]
        refine Kt.G.takeP 5 { dst := some 128, op := Op.nilCheck (Operand.tmp 127), type := 0, pos := "report.go:160", after := #[{ on := 4, ground := Ground.data }], guard := none } ?_ (fun _ => hHeld) rfl (by kernel_rfl) (fun _ _ _ h => h) (by rfl) ?_ ?_
        rotate_left
        · intro w; go_simp; try with_reducible rfl
        try simp only [Act.put, List.setIfInBounds_toArray, List.set_cons_zero, List.set_cons_succ]
        refine Kt.G.takeP 6 { dst := some 129, op := Op.fieldAddr 54 (Operand.tmp 128) 0, type := 0, pos := "report.go:160", after := #[{ on := 5, ground := Ground.data }], guard := none } ?_ (fun _ => hHeld) rfl (by kernel_rfl) (fun _ _ _ h => h) (by rfl) ?_ ?_
        rotate_left
        · intro w; go_simp; try with_reducible rfl
        try simp only [Act.put, List.setIfInBounds_toArray, List.set_cons_zero, List.set_cons_succ]
        refine Kt.G.takeP 7 { dst := some 130, op := Op.fieldAddr 50 (Operand.tmp 129) 3, type := 0, pos := "report.go:160", after := #[{ on := 6, ground := Ground.data }], guard := none } ?_ (fun _ => hHeld) rfl (by kernel_rfl) (fun _ _ _ h => h) (by rfl) ?_ ?_
        rotate_left
        · intro w; go_simp; try with_reducible rfl
        try simp only [Act.put, List.setIfInBounds_toArray, List.set_cons_zero, List.set_cons_succ]
        refine Kt.G.take 8 { dst := some 131, op := Op.load 3 (Operand.tmp 130), type := 3, pos := "report.go:160", after := #[{ on := 7, ground := Ground.data }], guard := none } ?_ hHeld rfl (by kernel_rfl) (fun _ _ _ h => h) (by rfl) ?_ ?_
        rotate_left
        · intro w hSw; have c0 := fun i => cell_of_row _ _ i _ _ _ hSw; (try unfold row at c0); go_simp; try with_reducible rfl
        try simp only [Act.put, List.setIfInBounds_toArray, List.set_cons_zero, List.set_cons_succ]
        refine Kt.G.takeP 9 { dst := some 132, op := Op.binOp BinOp.add 3 (Operand.tmp 126) (Operand.tmp 131) 3, type := 3, pos := "report.go:160", after := #[{ on := 3, ground := Ground.data }, { on := 8, ground := Ground.data }], guard := none } ?_ (fun _ => hHeld) rfl (by kernel_rfl) (fun _ _ _ h => h) (by rfl) ?_ ?_
        rotate_left
        · intro w; go_simp; try with_reducible rfl
        try simp only [Act.put, List.setIfInBounds_toArray, List.set_cons_zero, List.set_cons_succ]
        refine Kt.G.takeP 10 { dst := some 133, op := Op.nilCheck (Operand.tmp 123), type := 0, pos := "report.go:160", after := #[{ on := 0, ground := Ground.data }, { on := 0, ground := Ground.phase }, { on := 1, ground := Ground.phase }, { on := 2, ground := Ground.phase }, { on := 3, ground := Ground.phase }, { on := 4, ground := Ground.phase }, { on := 5, ground := Ground.phase }, { on := 6, ground := Ground.phase }, { on := 7, ground := Ground.phase }, { on := 8, ground := Ground.phase }, { on := 9, ground := Ground.phase }], guard := none } ?_ (fun _ => hHeld) rfl (by kernel_rfl) (fun _ _ _ h => h) (by rfl) ?_ ?_
        rotate_left
        · intro w; go_simp; try with_reducible rfl
        try simp only [Act.put, List.setIfInBounds_toArray, List.set_cons_zero, List.set_cons_succ]
        refine Kt.G.takeP 11 { dst := some 134, op := Op.fieldAddr 54 (Operand.tmp 133) 4, type := 0, pos := "report.go:160", after := #[{ on := 10, ground := Ground.data }, { on := 0, ground := Ground.phase }, { on := 1, ground := Ground.phase }, { on := 2, ground := Ground.phase }, { on := 3, ground := Ground.phase }, { on := 4, ground := Ground.phase }, { on := 5, ground := Ground.phase }, { on := 6, ground := Ground.phase }, { on := 7, ground := Ground.phase }, { on := 8, ground := Ground.phase }, { on := 9, ground := Ground.phase }], guard := none } ?_ (fun _ => hHeld) rfl (by kernel_rfl) (fun _ _ _ h => h) (by rfl) ?_ ?_
        rotate_left
        · intro w; go_simp; try with_reducible rfl
        try simp only [Act.put, List.setIfInBounds_toArray, List.set_cons_zero, List.set_cons_succ]
        refine Kt.G.one 12 { dst := none, op := Op.store 3 (Operand.tmp 134) (Operand.tmp 132), type := 0, pos := "report.go:160", after := #[{ on := 11, ground := Ground.data }, { on := 9, ground := Ground.data }, { on := 0, ground := Ground.phase }, { on := 1, ground := Ground.phase }, { on := 2, ground := Ground.phase }, { on := 3, ground := Ground.phase }, { on := 4, ground := Ground.phase }, { on := 5, ground := Ground.phase }, { on := 6, ground := Ground.phase }, { on := 7, ground := Ground.phase }, { on := 8, ground := Ground.phase }, { on := 9, ground := Ground.phase }], guard := none } rfl (by kernel_rfl) (by rfl) (fun K hK => ?_)
        have c2 := fun i => cell_of_row _ _ i _ _ _ hHeld
        have f2 := fun i => frozen_of_row _ _ i _ _ hHeld
        (try unfold row at c2)
        go_simp
        refine hK.out _ _ (Kt.G.late (by kernel_rfl)) (fun _ => ?_)
        clear hK K
        try simp only [Act.put, List.setIfInBounds_toArray, List.set_cons_zero, List.set_cons_succ]
        clear c2 f2
        refine Kt.G.done (by kernel_rfl) (NoPanic.normal ?_) _
        go_wp2_with fail
        go_roundw
        case rel =>
          refine ⟨k + 1, feed t v k, by omega, by go_num, Lib.hid (by show feed (feeds s v k) v k = _; rw [HT.out]), Lib.hid ⟨_, _, _, ((HP.out.on (Below.refl _ W2).drew).put 8 (.int .i64 (t.bits + t.st.sz)) (feed t v k) rfl rfl rfl rfl HN2.out)⟩, Lib.hid (HB2.out.drew.setCell (p := ⟨b, 8, none⟩) hbB _)⟩
        case measure => (simp [intOf] <;> omega)
    · have hk2 : (k : Int) = s.st.ct := by omega
      have HX : Hid (Left w B b (feeds s v s.st.ct.toNat, 0) (.returned (.int .i64 0)) wr) := Lib.hid ⟨rfl, fun _ => by
        have : s.st.ct.toNat = k := by omega
        rw [this]; show Rdr wr B b (feeds s v k); rw [HT.out]; exact HR.out, HBE.out⟩
      have hlt2 : s.st.ct ≤ (k : Int) := by omega
      go_wp2_with fail
      go_ret
      exact HX.out
end Go.Proofs.Ytinhnlfhgfmagaa
