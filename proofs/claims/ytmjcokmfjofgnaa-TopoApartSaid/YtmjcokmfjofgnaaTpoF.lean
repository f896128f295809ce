/- topo: the reference's Path, Node, Before, Fits, Tree, Beginning walked. -/
import Derived.Test.YtmjcokmfjofgnaaTpoA
namespace Go.Proofs.Ytmjcokmfjofgnaa
open Go.RowKit Go.Shelf Go.Proofs.Ytmjcokmfjofgnaa.Rou Go.Proofs.Ytmjcokmfjofgnaa.Tpo
def btw (x a b : Int) : Bool := decide (a ≤ x) && decide (x ≤ b)
theorem between_calls (x a b : Int) (w : World) : Calls Try.prog 42 #[.int .i64 x, .int .i64 a, .int .i64 b] w fun e w' => e = .returned (.bool (btw x a b)) ∧ w' = w := by
  unfold btw
  by_cases h1 : a ≤ x
  · by_cases h2 : x ≤ b
    · rw [decide_eq_true h1, decide_eq_true h2]
      go_enter Try.func42, Try.ntmps42
      go_wp2
      go_ret
      exact ⟨rfl, rfl⟩
    · rw [decide_eq_true h1, decide_eq_false h2]
      go_enter Try.func42, Try.ntmps42
      go_wp2
      go_ret
      exact ⟨rfl, rfl⟩
  · rw [decide_eq_false h1]
    go_enter Try.func42, Try.ntmps42
    go_wp2
    go_ret
    exact ⟨rfl, rfl⟩
set_option maxHeartbeats 1600000 in
theorem path_calls (p : List Int) (A : Option Addr) (c : Nat) (w : World) (h : Wy w A c p) : Calls Try.prog 41 #[.slice A p.length c] w fun e w' => ∃ z, e = .returned (.int .i64 z) ∧ w' = w := by
  by_cases h6 : (6 : Int) < p.length
  · clear h
    go_enter Try.func41, Try.ntmps41
    go_wp2_with fail
    go_ret
    first | exact ⟨_, rfl, rfl⟩ | exact ⟨⟨_, rfl⟩, rfl⟩
  · by_cases h0 : p.length = 0
    · have e0 : ((p.length : Int) == 0) = true := by rw [beq_iff_eq]; omega
      clear h h0
      go_enter Try.func41, Try.ntmps41
      go_wp2_with fail
      go_ret
      first | exact ⟨_, rfl, rfl⟩ | exact ⟨⟨_, rfl⟩, rfl⟩
    · have e0 : ((p.length : Int) == 0) = false := by rw [beq_eq_false_iff_ne]; omega
      obtain ⟨_, _, ev, _, hx⟩ := h.form
      cases ev
      obtain ⟨b, o, rfl, _, hc⟩ := hx (by omega)
      have hcc : ∀ j, j < p.length → w.cell? ⟨b, o + j, none⟩ = some (.int .i64 (p.getD j 0)) := fun j hj => by
        rw [hc j (by rw [inv_len]; exact hj)]
        simp [inv, List.getD_eq_getElem?_getD, List.getElem?_eq_getElem hj]
      have H1 := Lib.hid (Try.slices_Min_int b o p.length c p w (by omega) (Nat.le_refl _) (by omega) hcc)
      have H2 := Lib.hid (Try.slices_Max_int b o p.length c p w (by omega) (Nat.le_refl _) (by omega) hcc)
      obtain ⟨m1, hm1⟩ : ∃ m, Lib.minOf (p.take p.length) = m := ⟨_, rfl⟩
      obtain ⟨m2, hm2⟩ : ∃ m, Lib.maxOf (p.take p.length) = m := ⟨_, rfl⟩
      rw [hm1] at H1
      rw [hm2] at H2
      clear h h0 hx hc hcc hm1 hm2
      by_cases c1 : m1 < 1
      · go_enter Try.func41, Try.ntmps41
        go_wp2_with fail
        refine H1.out.mono ?_; rintro e w1 ⟨rfl, rfl⟩
        go_wp2_with fail
        go_ret
        first | exact ⟨_, rfl, rfl⟩ | exact ⟨⟨_, rfl⟩, rfl⟩
      · by_cases c2 : 15 < m2
        · go_enter Try.func41, Try.ntmps41
          go_wp2_with fail
          refine H1.out.mono ?_; rintro e w1 ⟨rfl, rfl⟩
          go_wp2_with fail
          refine H2.out.mono ?_; rintro e w1 ⟨rfl, rfl⟩
          go_wp2_with fail
          go_ret
          first | exact ⟨_, rfl, rfl⟩ | exact ⟨⟨_, rfl⟩, rfl⟩
        · go_enter Try.func41, Try.ntmps41
          go_wp2_with fail
          refine H1.out.mono ?_; rintro e w1 ⟨rfl, rfl⟩
          go_wp2_with fail
          refine H2.out.mono ?_; rintro e w1 ⟨rfl, rfl⟩
          go_wp2_with fail
          go_ret
          first | exact ⟨_, rfl, rfl⟩ | exact ⟨⟨_, rfl⟩, rfl⟩
set_option maxHeartbeats 1600000 in
theorem rnode_calls (x : Nh) (w : World) (h : Rn w x) : Calls Try.prog 29 #[x.v] w fun e w' => ∃ b, e = .returned (.bool b) ∧ Below w.heap.size w w' := by
  obtain ⟨A, c, n⟩ := x
  obtain ⟨p, kd, po, se⟩ := n
  have hal := Kt.balloc (Below.refl _ w) (.cells #[.slice A p.length c, .int .i64 kd, .int .i64 po, .int .i64 se] 25)
  have hrow := heap_alloc_new w (.cells #[.slice A p.length c, .int .i64 kd, .int .i64 po, .int .i64 se] 25)
  have HP := Lib.hid (path_calls p A c _ (h.way.on hal))
  have HB := Lib.hid hal
  have q := fun i => cell_of_row _ _ i _ _ _ hrow
  unfold Nh.v
  dsimp only
  clear h hal hrow
  go_enter Try.func29, Try.ntmps29
  go_wp2_with fail
  refine HP.out.mono ?_; rintro e w1 ⟨z, rfl, rfl⟩
  clear HP
  by_cases hz : z = 0
  · subst hz
    go_wp2_with fail
    refine (between_calls kd 1 3 _).mono ?_; rintro e w1 ⟨rfl, rfl⟩
    obtain ⟨b1, hb1⟩ : ∃ b, btw kd 1 3 = b := ⟨_, rfl⟩
    rw [hb1]
    clear hb1
    cases b1
    · go_wp2_with fail
      go_ret
      exact ⟨_, rfl, HB.out⟩
    · by_cases hk : kd = 1
      · subst hk
        go_wp2_with fail
        refine (between_calls po 1 15 _).mono ?_; rintro e w1 ⟨rfl, rfl⟩
        obtain ⟨b2, hb2⟩ : ∃ b, btw po 1 15 = b := ⟨_, rfl⟩
        rw [hb2]
        clear hb2
        cases b2
        · go_wp2_with fail
          go_ret
          exact ⟨_, rfl, HB.out⟩
        · go_wp2_with fail
          go_ret
          exact ⟨_, rfl, HB.out⟩
      · have hk1 : (kd == 1) = false := beq_eq_false_iff_ne.2 hk
        clear hk
        go_wp2_with fail
        go_ret
        exact ⟨_, rfl, HB.out⟩
  · have hz1 : (z != 0) = true := by rw [bne_iff_ne]; exact hz
    clear hz
    go_wp2_with fail
    go_ret
    exact ⟨_, rfl, HB.out⟩
def befB : List Int → List Int → Bool
  | _, [] => false
  | [], _ :: _ => true
  | x :: a, y :: b => if x < y then true else (x == y && befB a b)
theorem Wy.tail {w : World} {c : Nat} {x : Int} {l : List Int} {b o : Nat} (h : Wy w (some ⟨b, o, none⟩) c (x :: l)) : (c = 1 → l = []) ∧ (c ≠ 1 → Wy w (some ⟨b, o + 1, none⟩) (c - 1) l) := by
  obtain ⟨_, _, e, hn, hx⟩ := h.form
  cases e
  rw [List.length_cons] at hn
  constructor
  · intro hc
    exact List.eq_nil_of_length_eq_zero (by omega)
  · intro hc
    refine ⟨by rw [inv_len, Nat.mul_one], _, _, rfl, by omega, fun h0 => ⟨b, o + 1, rfl, ?_, fun j hj => ?_⟩⟩
    · obtain ⟨b', o', e', hb, _⟩ := hx (by simp)
      cases e'
      exact hb
    · obtain ⟨b', o', e', hb, hc'⟩ := hx (by simp)
      cases e'
      have := hc' (j + 1) (by rw [inv_len, List.length_cons]; rw [inv_len] at hj; omega)
      rw [show o + (j + 1) = o + 1 + j by omega] at this
      rw [this]
      simp [inv]
set_option maxHeartbeats 1600000 in
theorem before_nil (xs : List Int) (A B : Option Addr) (c d : Nat) (w : World) : Calls Try.prog 30 #[.slice A xs.length c, .slice B 0 d] w fun e w' => e = .returned (.bool false) ∧ Dn w w' := by
  go_enter Try.func30, Try.ntmps30
  go_wp2_with fail
  go_ret
  exact ⟨rfl, Dn.refl _⟩
set_option maxRecDepth 100000 in
set_option maxHeartbeats 3200000 in
theorem beforeD : ∀ (xs ys : List Int) (A B : Option Addr) (c d : Nat) (w : World), Wy w A c xs → Wy w B d ys → xs.length ≤ mx → ys.length ≤ mx →
    Calls Try.prog 30 #[.slice A xs.length c, .slice B ys.length d] w fun e w' => e = .returned (.bool (befB xs ys)) ∧ Dn w w'
  | xs, [], A, B, c, d, w, _, _, _, _ => by
    have e : befB xs [] = false := by cases xs <;> rfl
    rw [e]
    exact before_nil xs A B c d w
  | [], y :: ys, A, B, c, d, w, _, _, _, h2 => by
    unfold mx at h2
    rw [List.length_cons] at h2
    change Calls Try.prog 30 #[.slice A 0 c, .slice B (ys.length + 1) d] w _
    obtain ⟨n, hn⟩ : ∃ n, ys.length + 1 = n := ⟨_, rfl⟩
    rw [hn]
    have e0 : ((n : Int) == 0) = false := by rw [beq_eq_false_iff_ne]; omega
    clear h2 hn
    go_enter Try.func30, Try.ntmps30
    go_wp2_with fail
    go_quiet (fail)
    go_wp2_with fail
    go_ret
    exact ⟨rfl, (Dn.refl _).more _⟩
  | x :: xs, y :: ys, A, B, c, d, w, h1, h2, hm1, hm2 => by
    unfold mx at hm1 hm2
    rw [List.length_cons] at hm1 hm2
    obtain ⟨b1, o1, rfl, _, x0⟩ := h1.cell 0 (by simp)
    obtain ⟨b2, o2, rfl, _, y0⟩ := h2.cell 0 (by simp)
    have hc1 := h1.cap
    have hc2 := h2.cap
    rw [List.length_cons] at hc1 hc2
    obtain ⟨t1, t1'⟩ := Wy.tail h1
    obtain ⟨t2, t2'⟩ := Wy.tail h2
    have HO : Hid (∀ W, Dn w W → Calls Try.prog 30 #[.slice (if c = 1 then some ⟨b1, o1, none⟩ else some ⟨b1, o1 + 1, none⟩) xs.length (c - 1), .slice (if d = 1 then some ⟨b2, o2, none⟩ else some ⟨b2, o2 + 1, none⟩) ys.length (d - 1)] W fun e w' => e = .returned (.bool (befB xs ys)) ∧ Dn W w') := Lib.hid (fun W hW => by
      refine beforeD xs ys _ _ _ _ W ?_ ?_ (by unfold mx; omega) (by unfold mx; omega)
      · split
        next h => rw [t1 h]; exact ⟨rfl, _, _, rfl, Nat.zero_le _, fun h0 => absurd h0 (by simp)⟩
        next h => exact (t1' h).on hW.bel
      · split
        next h => rw [t2 h]; exact ⟨rfl, _, _, rfl, Nat.zero_le _, fun h0 => absurd h0 (by simp)⟩
        next h => exact (t2' h).on hW.bel)
    rw [Nat.add_zero] at x0 y0
    have hx0 : w.cell? ⟨b1, o1, none⟩ = some (.int .i64 x) := x0
    have hy0 : w.cell? ⟨b2, o2, none⟩ = some (.int .i64 y) := y0
    change Calls Try.prog 30 #[.slice (some ⟨b1, o1, none⟩) (xs.length + 1) c, .slice (some ⟨b2, o2, none⟩) (ys.length + 1) d] w _
    have HE : Hid (befB (x :: xs) (y :: ys) = if x < y then true else (x == y && befB xs ys)) := Lib.hid rfl
    obtain ⟨R, hR⟩ : ∃ R, befB xs ys = R := ⟨_, rfl⟩
    rw [hR] at HO HE
    obtain ⟨n1, hn1⟩ : ∃ n, xs.length = n := ⟨_, rfl⟩
    obtain ⟨n2, hn2⟩ : ∃ n, ys.length = n := ⟨_, rfl⟩
    rw [hn1] at HO hc1 ⊢
    rw [hn2] at HO hc2 ⊢
    have e1 : (((n1 + 1 : Nat) : Int) == 0) = false := by rw [beq_eq_false_iff_ne]; omega
    have e2 : (((n2 + 1 : Nat) : Int) == 0) = false := by rw [beq_eq_false_iff_ne]; omega
    have s1 : (1 : Int) ≤ (n1 : Int) + 1 := by omega
    have s2 : (1 : Int) ≤ (n2 : Int) + 1 := by omega
    have l1 : (1 : Int) ≤ c := by omega
    have l2 : (1 : Int) ≤ d := by omega
    clear x0 y0 h1 h2 hm1 hm2 t1 t1' t2 t2' hR hn1 hn2
    by_cases hxy : x < y
    · rw [if_pos hxy] at HE
      clear HO
      go_enter Try.func30, Try.ntmps30
      go_wp2_with fail
      go_quiet (fail)
      go_wp2_with fail
      go_ret
      exact ⟨by rw [HE.out]; rfl, (Dn.refl _).more _⟩
    · rw [if_neg hxy] at HE
      have hxy' : y ≤ x := by omega
      have hxy2 : decide (x < y) = false := decide_eq_false hxy
      by_cases he : x = y
      · subst he
        go_enter Try.func30, Try.ntmps30
        go_wp2_with fail
        go_quiet (fail)
        go_wp2_with fail
        go_quiet (exact (HO.out _ ⟨_, rfl⟩).mono (fun e w'' h => ⟨h.1, by obtain ⟨m, hm⟩ := h.2; exact ⟨_, by rw [hm, World.drewN_drewN, Nat.add_assoc]⟩⟩))
        go_wp2_with fail
        all_goals
          go_ret
          exact ⟨by rw [HE.out, beq_self_eq_true, Bool.true_and]; rfl, by first | exact ⟨_, rfl⟩ | exact ((Dn.refl _).more _).more _⟩
      · have he' : (x == y) = false := beq_eq_false_iff_ne.2 he
        clear HO
        go_enter Try.func30, Try.ntmps30
        go_wp2_with fail
        go_quiet (fail)
        go_wp2_with fail
        go_quiet (fail)
        go_wp2_with fail
        go_ret
        exact ⟨by rw [HE.out, he']; rfl, by first | exact ⟨_, rfl⟩ | exact ((Dn.refl _).more _).more _⟩
set_option maxRecDepth 100000 in
set_option maxHeartbeats 3200000 in
theorem rfits_calls (x : Nh) (l : List Nh) (V : Value) (w : World) (hv : Tr w V l) (hm : l.length ≤ 40) (hx : Rn w x) (h1 : 1 ≤ x.n.path.length) (h6 : x.n.path.length ≤ 6) :
    Calls Try.prog 31 #[V, x.v] w fun e w' => ∃ b, e = .returned (.bool b) ∧ Below w.heap.size w w' := by
  obtain ⟨A0, c0, rfl⟩ := hv.form
  obtain ⟨A, c, n⟩ := x
  obtain ⟨p, kd, po, se⟩ := n
  dsimp only at h1 h6
  obtain ⟨k, hk⟩ : ∃ k, p.length = k + 1 := ⟨p.length - 1, by omega⟩
  obtain ⟨b, o, hA, hb, hc⟩ := hx.way.cell k (by dsimp only; omega)
  obtain ⟨b', o', hA', _, hc0⟩ := hx.way.cell 0 (by dsimp only; omega)
  dsimp only at hA hA'
  subst hA
  cases hA'
  obtain ⟨port, hport⟩ : ∃ z, p[k]'(by omega) = z := ⟨_, rfl⟩
  obtain ⟨port0, hport0⟩ : ∃ z, p[0]'(by omega) = z := ⟨_, rfl⟩
  rw [show (Nd.path ⟨p, kd, po, se⟩)[k] = port from hport] at hc
  rw [show (Nd.path ⟨p, kd, po, se⟩)[0] = port0 from hport0, Nat.add_zero] at hc0
  have hw1 : wrap64 ((p.length : Int) - 1) = (k : Int) := by unfold wrap64; omega
  have hk1 : (k : Int) < p.length := by omega
  have hk2 : (k : Int) ≤ c := by have := Wy.cap hx.way; dsimp only at this; omega
  have hk0 : (0 : Int) < p.length := by omega
  have hal := Kt.balloc (Below.refl _ w) (.cells #[.slice (some ⟨b, o, none⟩) p.length c, .int .i64 kd, .int .i64 po, .int .i64 se] 25)
  have hrow := heap_alloc_new w (.cells #[.slice (some ⟨b, o, none⟩) p.length c, .int .i64 kd, .int .i64 po, .int .i64 se] 25)
  have HV := Lib.hid hv
  have HX := Lib.hid hx
  have HK := Lib.hid (And.intro hk h6)
  have HB := Lib.hid hal
  have HR := Lib.hid hrow
  have HM := Lib.hid hm
  have HCB := Lib.hid (And.intro hb hc)
  have q := fun i => cell_of_row _ _ i _ _ _ hrow
  unfold Nh.v
  dsimp only
  clear hv hx hal hrow h1 h6 hk hm hport hport0 hb hc
  by_cases hz : k = 0
  · have hz' : ((k : Int) == 0) = true := by rw [beq_iff_eq]; omega
    clear hz
    go_enter Try.func31, Try.ntmps31
    go_wp2_with fail
    go_ret
    exact ⟨_, rfl, HB.out⟩
  · have hz' : ((k : Int) == 0) = false := by rw [beq_eq_false_iff_ne]; omega
    clear hz hc0
    go_enter Try.func31, Try.ntmps31
    go_wp2_with fail
    rw [hw1]
    clear q hw1 hz'
    go_loopw [21] (fun ii wr => ∃ j : Nat, ii = .int .i64 j ∧ Hid (j ≤ l.length) ∧ Hid (wr.heap[w.heap.size]? = some (.cells #[.slice (some ⟨b, o, none⟩) p.length c, .int .i64 kd, .int .i64 po, .int .i64 se] 25 (0, 0)) ∧ Below w.heap.size w wr)) (fun ii _ => l.length - (intOf ii).toNat)
    case atStart => exact ⟨0, rfl, Lib.hid (Nat.zero_le _), Lib.hid ⟨HR.out, HB.out⟩⟩
    case round =>
      obtain ⟨j, rfl, HJ, HWR⟩ := hrel
      by_cases hlt : j < l.length
      · have ej : (j : Int) < l.length := by omega
        have hwj := up1 j (by have := HM.out; omega)
        obtain ⟨b2, o2, cc, hve, hb0, x0, x1, x2, x3⟩ := Tr.node (HV.out.on HWR.out.2) j hlt
        cases hve
        have hrn := (HV.out.nth j hlt).on HWR.out.2
        have HLT := Lib.hid (show j < l.length from hlt)
        generalize l[j] = y at *
        obtain ⟨Ay, cy, ny⟩ := y
        obtain ⟨py, ky, oy, sy⟩ := ny
        dsimp only at x0 x1 x2 x3
        have b1 := Kt.balloc (Below.refl _ wr) (.cells #[.slice Ay py.length cy, .int .i64 ky, .int .i64 oy, .int .i64 sy] 25)
        obtain ⟨ys, hys⟩ : ∃ ys, p.take k = ys := ⟨_, rfl⟩
        have hyl : ys.length = k := by rw [← hys, List.length_take]; have := HK.out.1; omega
        have hpart := ((HX.out.way.on HWR.out.2).on b1).part k (by dsimp only; have := HK.out.1; omega)
        dsimp only at hpart
        rw [hys] at hpart
        have hle1 := hrn.le
        unfold mx at hle1
        dsimp only at hle1
        have HO := Lib.hid (fun n => ieqD py ys Ay (some ⟨b, o, none⟩) cy c _ ((hrn.way.on b1).on (bdrewN (Below.refl _ _) n)) (Wy.on (by rw [← hyl] at hpart; exact hpart) (bdrewN (Below.refl _ _) n)) (by unfold big; omega) (by have := HK.out; unfold big; omega))
        rw [hyl] at HO
        obtain ⟨eq, heq⟩ : ∃ v, decide (py = ys) = v := ⟨_, rfl⟩
        rw [heq] at HO
        have r3 := Kt.row_on b1 HWR.out.1
        have r7 := heap_alloc_new wr (.cells #[.slice Ay py.length cy, .int .i64 ky, .int .i64 oy, .int .i64 sy] 25)
        have q3 := fun i => cell_of_row _ _ i _ _ _ r3
        have q7 := fun i => cell_of_row _ _ i _ _ _ r7
        have hcc : (wr.alloc (.cells #[.slice Ay py.length cy, .int .i64 ky, .int .i64 oy, .int .i64 sy] 25)).cell? ⟨b, o + k, none⟩ = some (.int .i64 port) := ((Kt.bthen HWR.out.2 b1).cell (p := ⟨b, o + k, none⟩) HCB.out.1).trans HCB.out.2
        have HB4 := Lib.hid (And.intro r3 (Kt.bthen HWR.out.2 b1))
        clear hrn b1 hys hyl hpart hle1 heq r3 r7 hlt
        by_cases hk1 : ky = 1
        · subst hk1
          cases eq
          · go_wp2_with fail
            refine wp_region_quiet_lit (by kernel_rfl) (by kernel_rfl) ?_
            iterate 10 quiet_step (fail)
            refine wpQuiet_step (fun K hK => ?_); go_simp; apply Exists.intro; refine ⟨fun n => ?_, hK _ ?_⟩
            exact Calls.quiet_of (HO.out n)
            clear hK K
            iterate 1 quiet_step (fail)
            refine wpQuiet_nil ?_; intro _ hw'; obtain ⟨nq, hw''⟩ := hw'; subst hw''
            go_wp2_with fail
            refine ⟨⟨j + 1, by first | rfl | rw [hwj], Lib.hid HLT.out, Lib.hid ⟨HB4.out.1, bdrewN HB4.out.2 _⟩⟩, by first | exact dec1 HLT.out | (rw [hwj]; exact dec1 HLT.out)⟩
          · go_wp2_with fail
            refine wp_region_quiet_lit (by kernel_rfl) (by kernel_rfl) ?_
            iterate 10 quiet_step (fail)
            refine wpQuiet_step (fun K hK => ?_); go_simp; apply Exists.intro; refine ⟨fun n => ?_, hK _ ?_⟩
            exact Calls.quiet_of (HO.out n)
            clear hK K
            iterate 1 quiet_step (fail)
            refine wpQuiet_nil ?_; intro _ hw'; obtain ⟨nq, hw''⟩ := hw'; subst hw''
            go_wp2_with fail
            go_quiet (fail)
            go_wp2_with fail
            go_ret
            exact ⟨_, rfl, by first | exact bdrewN HB4.out.2 _ | exact bdrewN (bdrewN HB4.out.2 _) _⟩
        · have hk1' : (ky == 1) = false := beq_eq_false_iff_ne.2 hk1
          clear hk1 HO
          go_wp2_with fail
          go_quiet (fail)
          go_wp2_with fail
          refine ⟨⟨j + 1, by first | rfl | rw [hwj], Lib.hid HLT.out, Lib.hid ⟨HB4.out.1, bdrewN HB4.out.2 _⟩⟩, by first | exact dec1 HLT.out | (rw [hwj]; exact dec1 HLT.out)⟩
      · have ej : ¬ (j : Int) < l.length := by omega
        clear hlt
        go_wp2_with fail
        go_ret
        first | exact ⟨_, rfl, HWR.out.2⟩ | exact ⟨.inl rfl, HWR.out.2⟩ | exact ⟨⟨_, rfl⟩, HWR.out.2⟩
set_option maxRecDepth 100000 in
set_option maxHeartbeats 3200000 in
theorem rtree_calls (l : List Nh) (V : Value) (w : World) (hv : Tr w V l) (hrt : Rt (nds l)) : Calls Try.prog 19 #[V] w fun e w' => ∃ z, e = .returned (.int .i64 z) ∧ Below w.heap.size w w' := by
  obtain ⟨A0, c0, rfl⟩ := hv.form
  have HV := Lib.hid hv
  have HRT := Lib.hid hrt
  have H40 : Hid (l.length ≤ 40) := Lib.hid (by have := hrt.len; rw [nds_len] at this; exact this)
  have h40' : ¬ (40 : Int) < l.length := by have := H40.out; omega
  clear hv hrt
  go_enter Try.func19, Try.ntmps19
  go_wp2_with fail
  go_loopw [14] (fun ii wr => ∃ k : Nat, ii = .int .i64 k ∧ Hid (Below w.heap.size w wr)) (fun ii _ => l.length - (intOf ii).toNat)
  case atStart => exact ⟨0, rfl, Lib.hid (Below.refl _ _)⟩
  case round =>
    obtain ⟨k, rfl, HB⟩ := hrel
    by_cases hlt : k < l.length
    · have ek : (k : Int) < l.length := by omega
      obtain ⟨b, o, c, hve, hb0, x0, x1, x2, x3⟩ := Tr.node (HV.out.on HB.out) k hlt
      cases hve
      have hw1 := up1 k (by have := H40.out; omega)
      have hval := valid_len (HRT.out.valid _ (mem_nds.2 ⟨_, List.getElem_mem hlt, rfl⟩))
      have hrn := HV.out.nth k hlt
      have HX1 := Lib.hid (show k < l.length from hlt)
      generalize l[k] = x at *
      obtain ⟨A, cc, n⟩ := x
      obtain ⟨p, kd, po, se⟩ := n
      dsimp only at x0 x1 x2 x3 hval
      have hal := Kt.balloc HB.out (.cells #[.slice A p.length cc, .int .i64 kd, .int .i64 po, .int .i64 se] 25)
      have HC := Lib.hid (rnode_calls ⟨A, cc, ⟨p, kd, po, se⟩⟩ _ (hrn.on hal))
      have HB1 := Lib.hid hal
      unfold Nh.v at HC
      dsimp only at HC
      clear hal hrn hlt hval
      go_wp2_with fail
      refine HC.out.mono ?_
      rintro e w1 ⟨v, rfl, hb⟩
      have HB2 := Lib.hid (Kt.bthen HB1.out hb)
      clear hb HC x0 x1 x2 x3
      cases v
      · go_wp2_with fail
        go_ret
        first | exact ⟨_, rfl, HB2.out⟩ | exact ⟨⟨_, rfl⟩, HB2.out⟩
      · go_wp2_with fail
        exact ⟨⟨k + 1, by first | rfl | rw [hw1], HB2⟩, by first | exact dec1 HX1.out | (rw [hw1]; exact dec1 HX1.out)⟩
    · have ek : ¬ (k : Int) < l.length := by omega
      clear hlt
      go_wp2_with fail
      go_loopw [24] (fun ii wr => ∃ k : Nat, ii = .int .i64 k ∧ Hid (Below w.heap.size w wr)) (fun ii _ => l.length - (intOf ii).toNat)
      case atStart => exact ⟨0, rfl, HB⟩
      case round =>
        clear HB ek
        obtain ⟨k, rfl, HB⟩ := hrel
        by_cases hlt : k < l.length
        · have ek : (k : Int) < l.length := by omega
          obtain ⟨b, o, c, hve, hb0, x0, x1, x2, x3⟩ := Tr.node (HV.out.on HB.out) k hlt
          cases hve
          have hw1 := up1 k (by have := H40.out; omega)
          have hrn := HV.out.nth k hlt
          have HX1 := Lib.hid (show k < l.length from hlt)
          by_cases hk0 : k = 0
          · subst hk0
            generalize l[0] = x at *
            obtain ⟨A, cc, n⟩ := x
            obtain ⟨p, kd, po, se⟩ := n
            dsimp only at x0 x1 x2 x3
            simp only [Nat.zero_mul, Nat.add_zero] at x0 x1 x2 x3
            have hal := Kt.balloc HB.out (.cells #[.slice A p.length cc, .int .i64 kd, .int .i64 po, .int .i64 se] 25)
            have HB1 := Lib.hid hal
            clear hal hrn hlt
            go_wp2_with fail
            go_quiet (fail)
            go_wp2_with fail
            exact ⟨⟨0 + 1, by first | rfl | rw [hw1], Lib.hid (bdrewN HB1.out _)⟩, by first | exact dec1 HX1.out | (rw [hw1]; exact dec1 HX1.out)⟩
          · have hk1 : (0 : Int) < k := by omega
            have hkn : 0 < k := by omega
            have hkd : decide (0 < k) = true := decide_eq_true hkn
            obtain ⟨m, hm⟩ : ∃ m, k = m + 1 := ⟨k - 1, by omega⟩
            have hml : m < l.length := by omega
            obtain ⟨b2, o2, c2, hve2, z4, y0, z5, z6, z7⟩ := Tr.node (HV.out.on HB.out) m hml
            cases hve2
            have hr2 := HV.out.nth m hml
            have hwm : wrap64 ((k : Int) - 1) = (m : Int) := by unfold wrap64; omega
            have hwm' : IntKind.i64.wrap ((k : Int) - 1) = (m : Int) := by rw [IntWalk.i64_in _ (by have := H40.out; omega)]; omega
            have em : (m : Int) < l.length := by omega
            generalize l[k] = x at *
            generalize l[m] = y at *
            obtain ⟨A, cc, n⟩ := x
            obtain ⟨p, kd, po, se⟩ := n
            dsimp only at x0 x1 x2 x3
            have hal1 := Kt.balloc (Below.refl _ wr) (.cells #[.slice A p.length cc, .int .i64 kd, .int .i64 po, .int .i64 se] 25)
            have HO := Lib.hid (fun n => beforeD y.n.path p y.A A y.c cc _ (((hr2.way.on HB.out).on hal1).on (bdrewN (Below.refl _ _) n)) (((hrn.way.on HB.out).on hal1).on (bdrewN (Below.refl _ _) n)) hr2.le hrn.le)
            have HB1 := Lib.hid (Kt.bthen HB.out hal1)
            have hy0 := (hal1.cell (p := ⟨b, o + m * 4, none⟩) hb0).trans y0
            have r6 := heap_alloc_new wr (.cells #[.slice A p.length cc, .int .i64 kd, .int .i64 po, .int .i64 se] 25)
            have q6 := fun i => cell_of_row _ _ i _ _ _ r6
            obtain ⟨v, hv⟩ : ∃ v, befB y.n.path p = v := ⟨_, rfl⟩
            rw [hv] at HO
            clear hal1 hrn hlt hr2 hml hm hk0 z4 z5 z6 z7 r6 hv y0
            cases v
            · go_wp2_with fail
              refine wp_region_quiet_lit (by kernel_rfl) (by kernel_rfl) ?_
              iterate 11 quiet_step (fail)
              refine wpQuiet_step (fun K hK => ?_); go_simp; apply Exists.intro; refine ⟨fun n => ?_, hK _ ?_⟩
              exact Calls.quiet_of (HO.out n)
              clear hK K
              iterate 2 quiet_step (fail)
              refine wpQuiet_nil ?_; intro _ hw'; obtain ⟨nq, hw''⟩ := hw'; subst hw''
              go_wp2_with fail
              go_ret
              first | exact ⟨_, rfl, bdrewN HB1.out _⟩ | exact ⟨⟨_, rfl⟩, bdrewN HB1.out _⟩
            · go_wp2_with fail
              refine wp_region_quiet_lit (by kernel_rfl) (by kernel_rfl) ?_
              iterate 11 quiet_step (fail)
              refine wpQuiet_step (fun K hK => ?_); go_simp; apply Exists.intro; refine ⟨fun n => ?_, hK _ ?_⟩
              exact Calls.quiet_of (HO.out n)
              clear hK K
              iterate 2 quiet_step (fail)
              refine wpQuiet_nil ?_; intro _ hw'; obtain ⟨nq, hw''⟩ := hw'; subst hw''
              go_wp2_with fail
              exact ⟨⟨k + 1, by first | rfl | rw [hw1], Lib.hid (bdrewN HB1.out _)⟩, by first | exact dec1 HX1.out | (rw [hw1]; exact dec1 HX1.out)⟩
        · have ek : ¬ (k : Int) < l.length := by omega
          clear hlt
          go_wp2_with fail
          go_loopw [46] (fun ii wr => ∃ k : Nat, ii = .int .i64 k ∧ Hid (Below w.heap.size w wr)) (fun ii _ => l.length - (intOf ii).toNat)
          case atStart => exact ⟨0, rfl, HB⟩
          case round =>
            clear HB ek
            obtain ⟨k, rfl, HB⟩ := hrel
            by_cases hlt : k < l.length
            · have ek : (k : Int) < l.length := by omega
              obtain ⟨b, o, c, hve, hb0, x0, x1, x2, x3⟩ := Tr.node (HV.out.on HB.out) k hlt
              cases hve
              have hw1 := up1 k (by have := H40.out; omega)
              have hval := valid_len (HRT.out.valid _ (mem_nds.2 ⟨_, List.getElem_mem hlt, rfl⟩))
              have hrn := HV.out.nth k hlt
              have HX1 := Lib.hid (show k < l.length from hlt)
              generalize l[k] = x at *
              obtain ⟨A, cc, n⟩ := x
              obtain ⟨p, kd, po, se⟩ := n
              dsimp only at x0 x1 x2 x3 hval
              have hal := Kt.balloc HB.out (.cells #[.slice A p.length cc, .int .i64 kd, .int .i64 po, .int .i64 se] 25)
              have HC := Lib.hid (rfits_calls ⟨A, cc, ⟨p, kd, po, se⟩⟩ l _ _ (HV.out.on hal) H40.out (hrn.on hal) hval.1 hval.2)
              have HB1 := Lib.hid hal
              unfold Nh.v at HC
              dsimp only at HC
              clear hal hrn hlt hval
              go_wp2_with fail
              refine HC.out.mono ?_
              rintro e w1 ⟨v, rfl, hb⟩
              have HB2 := Lib.hid (Kt.bthen HB1.out hb)
              clear hb HC x0 x1 x2 x3
              cases v
              · go_wp2_with fail
                go_ret
                first | exact ⟨_, rfl, HB2.out⟩ | exact ⟨⟨_, rfl⟩, HB2.out⟩
              · go_wp2_with fail
                exact ⟨⟨k + 1, by first | rfl | rw [hw1], HB2⟩, by first | exact dec1 HX1.out | (rw [hw1]; exact dec1 HX1.out)⟩
            · have ek : ¬ (k : Int) < l.length := by omega
              clear hlt
              go_wp2_with fail
              go_ret
              first | exact ⟨_, rfl, HB.out⟩ | exact ⟨⟨_, rfl⟩, HB.out⟩
theorem take_ne {a b : List Int} {n : Nat} (h : cp a b < n) (ha : n ≤ a.length) (hb : n ≤ b.length) : a.take n ≠ b.take n := fun e => by
  have h0 := congrArg (fun l => l[cp a b]?) e
  simp only [List.getElem?_take, if_pos h] at h0
  rw [List.getElem?_eq_getElem (by omega), List.getElem?_eq_getElem (by omega)] at h0
  injection h0 with h0
  exact cp_end (by omega) (by omega) h0
set_option maxRecDepth 100000 in
set_option maxHeartbeats 3200000 in
theorem begin_calls (xs ys : List Int) (A B : Option Addr) (c d : Nat) (w : World) (ha : Wy w A c xs) (hb : Wy w B d ys) (hm : xs.length ≤ mx) (hm2 : ys.length ≤ mx) :
    Calls Try.prog 20 #[.slice A xs.length c, .slice B ys.length d] w fun e w' => ∃ A' c', e = .returned (.slice A' (cp xs ys) c') ∧ Dn w w' := by
  have HA := Lib.hid ha
  have HB := Lib.hid hb
  have HM := Lib.hid (And.intro hm hm2)
  have HL := Lib.hid (And.intro (cp_left xs ys) (cp_right xs ys))
  have HC := Lib.hid (And.intro ha.cap hb.cap)
  unfold mx at HM
  clear ha hb hm hm2
  obtain ⟨n0, hn0⟩ : ∃ n, min xs.length ys.length = n := ⟨_, rfl⟩
  have HN := Lib.hid hn0
  go_enter Try.func20, Try.ntmps20
  go_wp2_with fail
  have hmin : min (xs.length : Int) (ys.length : Int) = (n0 : Int) := by omega
  rw [hmin]
  clear hmin hn0
  go_loopw [5] (fun ii wr => ∃ n : Nat, ii = .int .i64 n ∧ Hid (cp xs ys ≤ n ∧ n ≤ n0) ∧ Hid (Dn w wr)) (fun ii _ => (intOf ii).toNat)
  case atStart => exact ⟨n0, rfl, Lib.hid ⟨by have := HL.out; have := HN.out; omega, Nat.le_refl _⟩, Lib.hid (Dn.refl _)⟩
  case round =>
    obtain ⟨n, rfl, HK, HD⟩ := hrel
    by_cases h0 : n = 0
    · subst h0
      have e0 : cp xs ys = 0 := by have := HK.out; omega
      have HE := Lib.hid e0
      clear e0
      go_wp2_with fail
      go_ret
      exact ⟨none, 0, by rw [HE.out]; rfl, HD.out⟩
    · have hpos : (0 : Int) < n := by omega
      have hposn : 0 < n := by omega
      have hb := HK.out
      have hnn := HN.out
      have hmm := HM.out
      have l1 : (xs.take n).length = n := by rw [List.length_take]; omega
      have l2 : (ys.take n).length = n := by rw [List.length_take]; omega
      have HO := Lib.hid (fun m => ieqD (xs.take n) (ys.take n) A B c d (wr.drewN m) (Wy.on (by have := (HA.out.on HD.out.bel).part n (by omega); unfold Wy; rw [l1]; exact this) (bdrewN (Below.refl _ _) m)) (Wy.on (by have := (HB.out.on HD.out.bel).part n (by omega); unfold Wy; rw [l2]; exact this) (bdrewN (Below.refl _ _) m)) (by rw [l1]; unfold big; omega) (by rw [l2]; unfold big; omega))
      have k1 : (n : Int) ≤ c := by have := HC.out.1; omega
      have k2 : (n : Int) ≤ d := by have := HC.out.2; omega
      have hw1 : wrap64 ((n : Int) - 1) = ((n - 1 : Nat) : Int) := by unfold wrap64; omega
      rw [l1, l2] at HO
      by_cases he : n = cp xs ys
      · rw [decide_eq_true (show xs.take n = ys.take n by rw [he]; exact cp_take xs ys)] at HO
        have HE := Lib.hid he
        clear hb hnn hmm l1 l2 h0 he hw1
        go_wp2_with fail
        go_quiet (exact Calls.quiet_of (HO.out _))
        go_wp2_with fail
        go_ret
        refine ⟨A, c, ?_, HD.out.more _⟩
        rw [← HE.out]; rfl
      · rw [decide_eq_false (take_ne (by omega) (by omega) (by omega))] at HO
        have HE := Lib.hid (show cp xs ys ≤ n - 1 ∧ n - 1 ≤ n0 ∧ n - 1 < n by omega)
        clear hb hnn hmm l1 l2 h0 he
        go_wp2_with fail
        go_quiet (exact Calls.quiet_of (HO.out _))
        go_wp2_with fail
        refine ⟨⟨n - 1, by first | rfl | rw [hw1], Lib.hid ⟨HE.out.1, HE.out.2.1⟩, Lib.hid (HD.out.more _)⟩, ?_⟩
        first
          | (rw [hw1]; simp only [intOf]; have := HE.out; omega)
          | (simp only [intOf]; have := HE.out; omega)
end Go.Proofs.Ytmjcokmfjofgnaa
