/- The law HostCuts, walked. -/
import Derived.Test.YtidcbboonjenhaaHstU
namespace Go.Proofs.Ytidcbboonjenhaa
open Go.RowKit Classical Go.Proofs.Ytidcbboonjenhaa.Slt
/-- the machine handed in, and up to three more, each in a box -/
structure RK (w : World) (bs : List (Nat × Mv)) (W : World) : Prop where
  b : ∀ x ∈ bs, Mb x.1 x.2 W ∧ MA W x.2
  bel : Below w.heap.size w W
theorem RK.on {w W W' : World} {bs : List (Nat × Mv)} (h : RK w bs W) (hb : Below W.heap.size W W') : RK w bs W' := ⟨fun x hx => ⟨(h.b x hx).1.on hb, (h.b x hx).2.on hb⟩, Kt.bthen h.bel hb⟩
/-- a machine that a call gave is stored in a new box -/
theorem RK.add {w W W9 : World} {bs : List (Nat × Mv)} {B : Nat} {M : Mv} (h : RK w bs W) (hm : MO W B M) (hr : Mb W.heap.size M W9) (hu : Upd W.heap.size (W.alloc (.cells (mA zM) 45)) W9) : RK w ((W.heap.size, M) :: bs) W9 := by
  have hb : Below W.heap.size W W9 := (Kt.balloc (Below.refl _ W) (.cells (mA zM) 45)).trans hu.below
  refine ⟨fun x hx => ?_, Kt.bthen h.bel hb⟩
  rcases List.mem_cons.1 hx with rfl | hx
  · exact ⟨hr, hm.ma.on hb⟩
  · exact ⟨(h.b x hx).1.on hb, (h.b x hx).2.on hb⟩
section
variable {ops : Array Oper} {rest : List Oper} {o : Oper} {a : Act} {w : World} {Q : Exit → Act → World → Prop}
theorem load_mb_g (hgd : Region.wanted o (yielded ops a.tmps) = true) (x : Operand) (ho : o.op = .load 45 x) (g : Nat) (hx : a.eval x = .pointer (some ⟨g, 0, none⟩)) (M : Mv) (hb : Mb g M w) (hk : Mk M)
    (h : wpList Try.prog ops Q rest (a.put o.dst (.agg (mA M))) w) : wpList Try.prog ops Q (o :: rest) a w := by
  refine BigFrame.wpList_want hgd fun K hK => ?_
  exact wp_load_row 45 x ho g hx 45 (mA M) (0, 0) _ hb Try.underlying45 rfl (by rw [mA_size hk]; exact size_machine) (hK _ _ h)
end
theorem wk_bd {M : Mv} {n j : Int} {m : Ms} (h : WkR M n m j) : 0 ≤ j ∧ j ≤ 1000 := by
  cases h with
  | no _ => omega
  | run k _ _ _ _ _ h => omega
theorem wk_len {M : Mv} {n j : Int} {m : Ms} (hk : Mk M) (hw : Wf M.r.cs) (hw2 : Wf M.v.cs) (l1 : M.r.cs.length ≤ 5864062014805) (l2 : M.v.cs.length ≤ 5864062014805) (h : WkR M n m j) :
    m.r.cs.length ≤ 5864062014805 ∧ m.v.cs.length ≤ 5864062014805 ∧ Wf m.r.cs ∧ Wf m.v.cs := by
  by_cases hv : Vl M
  · have hs := h.vs hk hw hw2 hv
    have h1 := hs.r.hi
    have h2 := hs.v.hi
    exact ⟨Nat.le_trans h1 (by decide), Nat.le_trans h2 (by decide), hs.wf, hs.wf2⟩
  · cases h with
    | no _ => exact ⟨l1, l2, hw, hw2⟩
    | run _ _ h => exact absurd h hv
set_option maxRecDepth 100000 in
set_option maxHeartbeats 3200000 in
theorem cuts_walk (v0 v1 v2 : Value) (w : World) (r0 : Fr.RdV w reachBytes machTy v0) (r1 : Fr.RdV w reachBytes (.int .i64) v1) (r2 : Fr.RdV w reachBytes (.int .i64) v2)
    (n0 : ∀ (cs : Array Value) a l c, v0 = .agg cs → (((cs.toList.drop 0).take 6).drop 0).take 1 = [.slice a l c] → l * Try.prog.bytesOf 96 ≤ reachBytes)
    (n1 : ∀ (cs : Array Value) a l c, v0 = .agg cs → (((cs.toList.drop 6).take 6).drop 0).take 1 = [.slice a l c] → l * Try.prog.bytesOf 96 ≤ reachBytes) :
    Calls Try.prog 5 #[v0, v1, v2] w fun e w' => e = .returned (.bool true) ∧ Below w.heap.size w w' := by
  obtain ⟨M, rfl, hM, hw, hw2⟩ := mach_in r0
  obtain ⟨l1, l2⟩ := mach_len hM n0 n1
  obtain ⟨a, h, _⟩ := r1
  simp only [List.cons.injEq, and_true] at h
  subst h
  obtain ⟨b, h, _⟩ := r2
  simp only [List.cons.injEq, and_true] at h
  subst h
  clear r0 n0 n1
  have HR := Lib.hid (show RK w [(w.heap.size, M)] (w.alloc (.cells (mA M) 45)) from ⟨fun x hx => by obtain rfl := List.mem_singleton.1 hx; exact ⟨heap_alloc_new w _, hM.on (Kt.balloc (Below.refl _ w) _)⟩, Kt.balloc (Below.refl _ w) _⟩)
  by_cases hbad : a < 1 ∨ (1 ≤ a ∧ b < 1) ∨ (1 ≤ a ∧ 1 ≤ b ∧ 500 < a) ∨ (1 ≤ a ∧ 1 ≤ b ∧ a ≤ 500 ∧ 500 < b)
  · clear hM hw hw2 l1 l2
    rcases hbad with h | ⟨h1, h⟩ | ⟨h1, h2, h⟩ | ⟨h1, h2, h3, h⟩
    all_goals
      go_enter Try.func5, Try.ntmps5
      go_wp2_with fail
      refine (hostLives_calls _).mono ?_
      rintro _ W5 ⟨rfl, hb5⟩
      have HB5 := Lib.hid (Kt.bthen HR.out.bel hb5)
      clear hb5
      go_wp2_with fail
      go_ret
      exact ⟨rfl, HB5.out⟩
  · have ha : 1 ≤ a ∧ a ≤ 500 ∧ 1 ≤ b ∧ b ≤ 500 := by omega
    have HA := Lib.hid ha
    have hk := hM.k
    have HL := Lib.hid (And.intro l1 (And.intro l2 (And.intro hw hw2)))
    have HK := Lib.hid hk
    have HW1 := Lib.hid (fun n W (h : MA W M) => work_calls M n W h l1 l2 hw hw2)
    have a1 := ha.1; have a2 := ha.2.1; have a3 := ha.2.2.1; have a4 := ha.2.2.2
    have hsum : wrap64 (a + b) = a + b := by unfold wrap64; omega
    have Z0 := zero_machine
    have b0 := (HR.out.b (w.heap.size, M) (by simp)).1
    clear hM hw hw2 l1 l2 hbad ha
    go_enter Try.func5, Try.ntmps5
    go_wp2_with (refine load_mb rfl (.tmp 3) rfl w.heap.size rfl M b0 hk ?_)
    refine (HW1.out a _ (HR.out.b (w.heap.size, M) (by simp)).2).mono ?_
    rintro _ W1 ⟨M1, i, w1, rfl, hmo, hb⟩
    have HWR1 := Lib.hid w1
    have HR1 := Lib.hid (HR.out.on hb)
    have hk1 := hmo.k
    have hz1 : Mb W1.heap.size zM (W1.alloc (.cells (mA zM) 45)) := heap_alloc_new W1 _
    have HMO := Lib.hid hmo
    clear hb w1 hmo HR b0
    go_upto_region 4 with (refine store_mb rfl (.tmp 7) (.tmp 32) rfl W1.heap.size rfl M1 rfl hk1 zM hz1 zM_ok ?_
                           intro W2 hW2 hU2)
    have HR2 := Lib.hid (HR1.out.add HMO.out hW2 hU2)
    have q1 := HL.out
    have hl := wk_len HK.out q1.2.2.1 q1.2.2.2 q1.1 q1.2.1 HWR1.out
    have HW2 := Lib.hid (fun n W (h : MA W M1) => work_calls M1 n W h hl.1 hl.2.1 hl.2.2.1 hl.2.2.2)
    obtain ⟨g1, hg1⟩ : ∃ g1, g1 = W1.heap.size := ⟨_, rfl⟩
    rw [← hg1] at HR2 ⊢
    clear hU2 hW2 hz1 HMO HR1 hg1 q1 hl
    have b1 := (HR2.out.b (g1, M1) (by simp)).1
    go_wp2_with (refine load_mb rfl (.tmp 7) rfl g1 rfl M1 b1 hk1 ?_)
    refine (HW2.out b _ (HR2.out.b (g1, M1) (by simp)).2).mono ?_
    rintro _ W3 ⟨M2, j, w2, rfl, hmo, hb⟩
    have HWR2 := Lib.hid w2
    have HR3 := Lib.hid (HR2.out.on hb)
    have hk2 := hmo.k
    have hz3 : Mb W3.heap.size zM (W3.alloc (.cells (mA zM) 45)) := heap_alloc_new W3 _
    have HMO := Lib.hid hmo
    clear hb w2 hmo HR2 b1 HW2
    go_upto_region 5 with (refine store_mb rfl (.tmp 9) (.tmp 38) rfl W3.heap.size rfl M2 rfl hk2 zM hz3 zM_ok ?_
                           intro W4 hW4 hU4)
    have HR4 := Lib.hid (HR3.out.add HMO.out hW4 hU4)
    obtain ⟨g2, hg2⟩ : ∃ g2, g2 = W3.heap.size := ⟨_, rfl⟩
    rw [← hg2] at HR4 ⊢
    clear hU4 hW4 hz3 HMO HR3 hg2
    have b0 := (HR4.out.b (w.heap.size, M) (by simp)).1
    go_wp2_with (refine load_mb rfl (.tmp 3) rfl w.heap.size rfl M b0 hk ?_)
    refine (HW1.out (a + b) _ (HR4.out.b (w.heap.size, M) (by simp)).2).mono ?_
    rintro _ W5 ⟨M3, k, w3, rfl, hmo, hb⟩
    have HWR3 := Lib.hid w3
    have HR5 := Lib.hid (HR4.out.on hb)
    have hk3 := hmo.k
    have hz5 : Mb W5.heap.size zM (W5.alloc (.cells (mA zM) 45)) := heap_alloc_new W5 _
    have HMO := Lib.hid hmo
    clear hb w3 hmo HR4 b0 HW1
    go_upto_region 6 with (refine store_mb rfl (.tmp 11) (.tmp 46) rfl W5.heap.size rfl M3 rfl hk3 zM hz5 zM_ok ?_
                           intro W6 hW6 hU6)
    have HR6 := Lib.hid (HR5.out.add HMO.out hW6 hU6)
    obtain ⟨g3, hg3⟩ : ∃ g3, g3 = W5.heap.size := ⟨_, rfl⟩
    rw [← hg3] at HR6 ⊢
    clear hU6 hW6 hz5 HMO HR5 hg3
    have q1 := HL.out
    have HC := Lib.hid (cuts_plain HK.out q1.2.2.1 q1.2.2.2 a1 a2 a3 a4 HWR1.out HWR2.out HWR3.out)
    have v1 := wk_bd HWR1.out
    have v2 := wk_bd HWR2.out
    have v3 := wk_bd HWR3.out
    have e1 : wrap64 (i + j) = i + j := by unfold wrap64; omega
    have e2 : i + j = k := HC.out.1
    have e3 : i ≤ a := HC.out.2.2.1
    have hl := wk_len HK.out q1.2.2.1 q1.2.2.2 q1.1 q1.2.1 HWR1.out
    clear q1 v1 v2 v3
    go_wp2_with fail
    refine (hostLives_calls _).mono ?_
    rintro _ W7 ⟨rfl, hb⟩
    have HR7 := Lib.hid (HR6.out.on hb)
    clear hb HR6
    have c2 := (HR7.out.b (g2, M2) (by simp)).1
    have c3 := (HR7.out.b (g3, M3) (by simp)).1
    have hl2 := wk_len hk1 hl.2.2.1 hl.2.2.2 hl.1 hl.2.1 HWR2.out
    have HSM := Lib.hid (same_mach M2 M3 W7 (HR7.out.b (g2, M2) (by simp)).2 (HR7.out.b (g3, M3) (by simp)).2 HC.out.2.1.symm (Nat.le_trans hl2.1 (by decide)) (Nat.le_trans hl2.2.1 (by decide)))
    clear hl hl2
    subst e2
    go_wp2_with (first
      | (refine load_mb_g (by rfl) (.tmp 9) rfl g2 rfl M2 c2 hk2 ?_)
      | (refine load_mb_g (by rfl) (.tmp 11) rfl g3 rfl M3 c3 hk3 ?_))
    refine HSM.out.mono ?_
    rintro _ W8 ⟨rfl, hb⟩
    have HB8 := Lib.hid (Kt.bthen HR7.out.bel hb)
    rcases HC.out.2.2.2 with e4 | e4
    all_goals
      go_wp2_with fail
      go_ret
      try exact ⟨by simp, HB8.out⟩
    all_goals (go_ret; exact ⟨rfl, HB8.out⟩)
end Go.Proofs.Ytidcbboonjenhaa
