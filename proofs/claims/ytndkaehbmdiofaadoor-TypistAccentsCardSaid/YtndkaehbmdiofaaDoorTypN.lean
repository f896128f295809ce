/- typist: the reference's HasKey, Types, Between, TypistRight walked. -/
import Derived.Test.YtndkaehbmdiofaaDoorTypG
import Derived.Test.YtndkaehbmdiofaaDoorTypR
namespace Go.Proofs.YtndkaehbmdiofaaDoor
open Go.RowKit Go.Proofs.YtndkaehbmdiofaaDoor.Typ
theorem types_calls (c : Int) (w : World) : Calls Tryd.prog 14 #[.int .i64 c] w fun e w' => e = .returned (.bool (prints c)) ∧ Below w.heap.size w w' := by
  obtain ⟨ok, hok⟩ : ∃ x, signs c = x := ⟨_, rfl⟩
  have HP : Hid (prints c = (ok || c == 42)) := Lib.hid (by unfold prints; rw [hok, Bool.or_comm])
  have HSG := Lib.hid (fun W => signs_calls c W)
  rw [hok] at HSG
  rw [HP.out]
  clear hok HP
  go_enter Tryd.func14, Tryd.ntmps14
  go_wp2_with fail
  refine (HSG.out _).mono ?_; rintro e w1 ⟨rfl, hb⟩
  have HB := Lib.hid hb
  clear hb HSG
  cases ok
  · go_wp2_with fail
    go_ret
    exact ⟨rfl, HB.out⟩
  · go_wp2_with fail
    go_ret
    exact ⟨rfl, HB.out⟩
def btw (x a b : Int) : Bool := decide (a ≤ x) && decide (x ≤ b)
theorem between_calls (x a b : Int) (w : World) : Calls Tryd.prog 24 #[.int .i64 x, .int .i64 a, .int .i64 b] w fun e w' => e = .returned (.bool (btw x a b)) ∧ w' = w := by
  unfold btw
  by_cases h1 : a ≤ x
  · by_cases h2 : x ≤ b
    · rw [decide_eq_true h1, decide_eq_true h2]
      go_enter Tryd.func24, Tryd.ntmps24
      go_wp2
      go_ret
      exact ⟨rfl, rfl⟩
    · rw [decide_eq_true h1, decide_eq_false h2]
      go_enter Tryd.func24, Tryd.ntmps24
      go_wp2
      go_ret
      exact ⟨rfl, rfl⟩
  · rw [decide_eq_false h1]
    go_enter Tryd.func24, Tryd.ntmps24
    go_wp2
    go_ret
    exact ⟨rfl, rfl⟩
theorem quo_is (x P : Nat) (hx : x < 18446744073709551616) : ((IntKind.u64.wrap ((x : Int) / (P : Int))).tmod 2 == 1) = ((x / P) % 2 == 1) := by
  have h1 : ((x : Int) / (P : Int)) = ((x / P : Nat) : Int) := by norm_cast
  have h2 : x / P ≤ x := Nat.div_le_self _ _
  have h3 : IntKind.u64.wrap ((x / P : Nat) : Int) = ((x / P : Nat) : Int) % 18446744073709551616 := rfl
  rw [h1, h3]
  generalize x / P = y at *
  rw [Int.emod_eq_of_lt (by omega) (by omega), Int.tmod_eq_emod_of_nonneg (by omega), Bool.eq_iff_iff, beq_iff_eq, beq_iff_eq]
  omega
theorem haskey_calls (h : Hd) (c : Nat) (hc : c < 256) (w : World) : Calls Tryd.prog 23 #[h.v, .int .i64 c] w fun e w' => e = .returned (.bool (h.has c)) ∧ Below w.heap.size w w' := by
  obtain ⟨q, hq⟩ : ∃ q, c / 64 = q := ⟨_, rfl⟩
  obtain ⟨r, hr⟩ : ∃ r, c % 64 = r := ⟨_, rfl⟩
  have hq4 : q < 4 := by omega
  have hr6 : r < 64 := by omega
  have hcell := h.cell q hq4
  have HH := Lib.hid (show h.has c = (((h.at (c / 64)).toNat / 2 ^ (c % 64)) % 2 == 1) from rfl)
  rw [hq, hr] at HH
  have e4 : (c : Int).tdiv 64 = (q : Int) := by
    rw [Int.tdiv_eq_ediv_of_nonneg (by omega)]; omega
  have e6 : IntKind.i64.wrap (q : Int) = (q : Int) := IntWalk.i64_in _ (by omega)
  have e5 : (c : Int).tmod 64 = (r : Int) := by
    rw [Int.tmod_eq_emod_of_nonneg (by omega)]; omega
  have eq0 : (0 : Int) ≤ (q : Int) := by omega
  have eq2 : (q : Int) < 4 := by omega
  have er0 : (0 : Int) ≤ (r : Int) := by omega
  have er6 : ¬ (r : Int) < 0 := by omega
  have hP2 : 2 ^ r < 2 ^ 64 := Nat.pow_lt_pow_right (by omega) hr6
  have hP1 : 0 < 2 ^ r := Nat.pow_pos (by omega)
  have hmin : min r 64 = r := by omega
  have hpw0 : IntKind.u64.wrap ((2 : Int) ^ r) = ((2 ^ r : Nat) : Int) := by
    have : IntKind.u64.wrap ((2 : Int) ^ r) = ((2 : Int) ^ r) % 18446744073709551616 := rfl
    rw [this]
    have e2 : ((2 : Int) ^ r) = ((2 ^ r : Nat) : Int) := by simp
    rw [e2]
    generalize (2 ^ r : Nat) = m at *
    omega
  have hpw : IntKind.u64.wrap ((2 : Int) ^ min r 64) = ((2 ^ r : Nat) : Int) := by rw [hmin]; exact hpw0
  obtain ⟨P, hP⟩ : ∃ P, 2 ^ r = P := ⟨_, rfl⟩
  rw [hP] at hP1 hpw HH
  have hp0 : (0 : Int) < P := by omega
  have hp1 : ((P : Int) == 0) = false := by rw [beq_eq_false_iff_ne]; omega
  have hp2 : ¬ (P : Int) = 0 := by omega
  have HP := Lib.hid hP1
  unfold Hd.v Hd.vs
  clear hq hr hq4 hr6 hc hP2 hP1 hpw0 hP hmin
  go_enter Tryd.func23, Tryd.ntmps23
  go_wp2_with fail
  go_quiet (fail)
  go_wp2_with fail
  have hv := quo_is (h.at q).toNat P (h.at q).toNat_lt
  rw [hv, ← HH.out]
  go_ret
  exact ⟨rfl, bdrewN (Kt.balloc (Below.refl _ _) _) _⟩
theorem low_has (h : Hd) : (h.a.toNat % 16 = 0) ↔ ∀ i, i < 4 → h.has i = false := by
  have e : ∀ i, i < 4 → h.has i = h.a.toNat.testBit i := fun i hi => by
    rw [Hd.has_bit, show i / 64 = 0 by omega, show i % 64 = i by omega]; rfl
  constructor
  · intro h0 i hi
    rw [e i hi]
    have := Nat.testBit_mod_two_pow h.a.toNat 4 i
    rw [show (2 : Nat) ^ 4 = 16 from rfl, h0, Nat.zero_testBit, decide_eq_true hi, Bool.true_and] at this
    exact this.symm
  · intro h0
    apply Nat.eq_of_testBit_eq
    intro i
    rw [show (16 : Nat) = 2 ^ 4 from rfl, Nat.testBit_mod_two_pow, Nat.zero_testBit]
    by_cases hi : i < 4
    · rw [← e i hi, h0 i hi, Bool.and_false]
    · rw [decide_eq_false hi]; rfl
set_option maxRecDepth 100000 in
set_option maxHeartbeats 3200000 in
theorem right_calls (t : St) (w0 : World) (ht : FmT t) : Calls Tryd.prog 16 #[t.v] w0 fun e w' => e = .returned (.int .i64 0) ∧ Below w0.heap.size w0 w' := by
  have HF := Lib.hid ht
  have HLW := Lib.hid ((low_has t.held).1 ht.low)
  have HR0 := Lib.hid (heap_alloc_new w0 (.cells t.cs 37))
  have HB0 := Lib.hid (Kt.balloc (Below.refl _ w0) (.cells t.cs 37))
  clear ht
  unfold St.v
  go_enter Tryd.func16, Tryd.ntmps16
  go_wp2_with fail
  refine Kt.fold (fun X => Hid (X.heap[w0.heap.size]? = some (.cells t.cs 37 (0, 0)) ∧ Below w0.heap.size w0 X)) (Lib.hid ⟨HR0.out, HB0.out⟩) (fun W HW => ?_)
  clear HR0 HB0
  go_loopw [3, 6] (fun b ii wr => ∃ k : Nat, b = .bool false ∧ ii = .int .i64 k ∧ Hid (k ≤ 4) ∧ Hid (wr.heap[w0.heap.size]? = some (.cells t.cs 37 (0, 0)) ∧ Below w0.heap.size w0 wr)) (fun _ ii _ => 4 - (intOf ii).toNat)
  case atStart => exact ⟨0, rfl, rfl, Lib.hid (Nat.zero_le _), HW⟩
  case round =>
    clear HW
    obtain ⟨k, rfl, rfl, HK, HWR⟩ := hrel
    have hr := HWR.out.1
    unfold St.cs at hr
    have q := fun i => cell_of_row _ _ i _ _ _ hr
    clear hr
    by_cases hk : k < 4
    · have hk' : (k : Int) < 4 := by omega
      have HKC := Lib.hid (fun W => haskey_calls t.held k (by omega) W)
      rw [HLW.out k hk] at HKC
      unfold Hd.v Hd.vs at HKC
      have HH := Lib.hid hk
      clear hk HK
      go_wp2_with fail
      refine (HKC.out _).mono ?_; rintro e w2 ⟨rfl, hb⟩
      have HW2 : Hid (w2.heap[w0.heap.size]? = some (.cells t.cs 37 (0, 0)) ∧ Below w0.heap.size w0 w2) := Lib.hid ⟨Kt.row_on hb HWR.out.1, Kt.bthen HWR.out.2 hb⟩
      clear hb HKC q HWR
      go_wp2_with fail
      exact ⟨⟨k + 1, rfl, rfl, Lib.hid HH.out, HW2⟩, nxm HH.out⟩
    · have hk' : ¬ (k : Int) < 4 := by omega
      clear hk HK
      have HTY := Lib.hid (fun W => types_calls t.last W)
      have HBD := Lib.hid (fun W => between_calls t.dead 0 2 W)
      have HBW := Lib.hid (fun W => between_calls t.wait 1 20 W)
      have b1 : btw t.dead 0 2 = true := by unfold btw; rw [decide_eq_true HF.out.d0, decide_eq_true HF.out.d2]; rfl
      rw [b1] at HBD
      have hsz : ¬ (4096 : Int) < t.text.size := by have := HF.out.sz; omega
      clear b1 HLW
      rcases HF.out.lw with ⟨l1, l2⟩ | ⟨p1, p2, p3, p4⟩
      · have l1' : (t.last == 0) = true := by rw [beq_iff_eq]; exact l1
        have l2' : (t.wait != 0) = false := by rw [l2]; rfl
        have l3' : (t.last != 0) = false := by rw [l1]; rfl
        have hp : prints t.last = false := by rw [l1]; decide
        rw [hp] at HTY
        clear l1 l2 hp HF
        go_wp2_with fail
        refine (HTY.out _).mono ?_; rintro e w2 ⟨rfl, hb⟩
        have H2 : Hid (w2.heap[w0.heap.size]? = some (.cells t.cs 37 (0, 0)) ∧ Below w0.heap.size w0 w2) := Lib.hid ⟨Kt.row_on hb HWR.out.1, Kt.bthen HWR.out.2 hb⟩
        clear hb q
        have hr := H2.out.1
        unfold St.cs at hr
        have q := fun i => cell_of_row _ _ i _ _ _ hr
        clear hr
        go_wp2_with fail
        refine (HBD.out _).mono ?_; rintro e w3 ⟨rfl, rfl⟩
        go_wp2_with fail
        go_ret
        exact ⟨rfl, H2.out.2⟩
      · obtain ⟨r1, r2⟩ := prints_in p1
        have l1' : (t.last == 0) = false := by rw [beq_eq_false_iff_ne]; omega
        have l3' : (t.last != 0) = true := by rw [bne_iff_ne]; omega
        have b2 : btw t.wait 1 20 = true := by unfold btw; rw [decide_eq_true p3, decide_eq_true p4]; rfl
        have HHK := Lib.hid (fun W => haskey_calls t.held t.last.toNat (by omega) W)
        rw [p2, show ((t.last.toNat : Nat) : Int) = t.last by omega] at HHK
        unfold Hd.v Hd.vs at HHK
        rw [p1] at HTY
        rw [b2] at HBW
        clear p1 p2 p3 p4 r1 r2 b2 HF
        go_wp2_with fail
        refine (HTY.out _).mono ?_; rintro e w2 ⟨rfl, hb⟩
        have H2 : Hid (w2.heap[w0.heap.size]? = some (.cells t.cs 37 (0, 0)) ∧ Below w0.heap.size w0 w2) := Lib.hid ⟨Kt.row_on hb HWR.out.1, Kt.bthen HWR.out.2 hb⟩
        clear hb q
        have hr := H2.out.1
        unfold St.cs at hr
        have q := fun i => cell_of_row _ _ i _ _ _ hr
        clear hr
        go_wp2_with fail
        refine (HHK.out _).mono ?_; rintro e w3 ⟨rfl, hb⟩
        have H3 : Hid (w3.heap[w0.heap.size]? = some (.cells t.cs 37 (0, 0)) ∧ Below w0.heap.size w0 w3) := Lib.hid ⟨Kt.row_on hb H2.out.1, Kt.bthen H2.out.2 hb⟩
        clear hb q
        have hr := H3.out.1
        unfold St.cs at hr
        have q := fun i => cell_of_row _ _ i _ _ _ hr
        clear hr
        go_wp2_with fail
        refine (HBW.out _).mono ?_; rintro e w4 ⟨rfl, rfl⟩
        go_wp2_with fail
        refine (HBD.out _).mono ?_; rintro e w5 ⟨rfl, rfl⟩
        go_wp2_with fail
        go_ret
        exact ⟨rfl, H3.out.2⟩
end Go.Proofs.YtndkaehbmdiofaaDoor
