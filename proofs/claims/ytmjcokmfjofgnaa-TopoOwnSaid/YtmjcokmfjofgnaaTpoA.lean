/- topo: trees that came in. -/
import Derived.Test.YtmjcokmfjofgnaaTpoV
import Derived.Test.YtmjcokmfjofgnaaFr
namespace Go.Proofs.Ytmjcokmfjofgnaa
open Go.RowKit Go.Shelf Go.Proofs.Ytmjcokmfjofgnaa.Rou Go.Proofs.Ytmjcokmfjofgnaa.Tpo
def ndTy : Fr.Ty := .cat 1 (.slice 1 (.int .i64)) (.cat 1 (.int .i64) (.cat 1 (.int .i64) (.cat 1 (.int .i64) .nil)))
theorem way_of {w : World} {v : Value} (r : Fr.RdV w reachBytes (.slice 1 (.int .i64)) v) : ∃ A c p, v = .slice A p.length c ∧ Wy w A c p ∧ p.length ≤ mx := by
  obtain ⟨ns, h1, _, h⟩ := Kt.ar_ints r
  obtain ⟨A, c, rfl, _, _⟩ := h.form
  exact ⟨A, c, ns, rfl, h, Nat.le_trans h1 (by decide)⟩
theorem cells_of {w : World} {cs : List Value} (r : Fr.Rd w reachBytes ndTy cs) : ∃ x : Nh, cs = x.cs ∧ Rn w x := by
  obtain ⟨l, r1, e, hl, h1, h2⟩ := Fr.cat_open r
  obtain ⟨l2, r2, e2, hl2, h3, h4⟩ := Fr.cat_open h2
  obtain ⟨l3, r3, e3, hl3, h5, h6⟩ := Fr.cat_open h4
  obtain ⟨l4, r4, e4, hl4, h7, h8⟩ := Fr.cat_open h6
  obtain ⟨kd, rfl, _⟩ := h3
  obtain ⟨po, rfl, _⟩ := h5
  obtain ⟨se, rfl, _⟩ := h7
  have h8' : r4 = [] := h8
  obtain ⟨v, rfl⟩ : ∃ v, l = [v] := by
    match l, hl with
    | [v], _ => exact ⟨v, rfl⟩
  obtain ⟨A, c, p, rfl, hw, hp⟩ := way_of (w := w) (v := v) h1
  refine ⟨⟨A, c, ⟨p, kd, po, se⟩⟩, ?_, ⟨hw, hp⟩⟩
  rw [e, e2, e3, e4, h8']
  rfl
theorem node_of {w : World} {v : Value} (r : Fr.RdV w reachBytes ndTy v) : ∃ x : Nh, v = x.v ∧ Rn w x := by
  obtain ⟨cs, rfl, hc⟩ := r
  obtain ⟨x, hx, hr⟩ := cells_of hc
  refine ⟨x, ?_, hr⟩
  show Value.agg cs = Value.agg _
  congr 1
  rw [← Array.toList_inj, hx]
  rfl
theorem els_of {w : World} : ∀ els : List (List Value), (∀ cs ∈ els, Fr.Rd w reachBytes ndTy cs) → ∃ l : List Nh, l.length = els.length ∧ els.flatten = ncs l ∧ ∀ x ∈ l, Rn w x
  | [], _ => ⟨[], rfl, rfl, fun _ h => (by cases h)⟩
  | cs :: els, h => by
    obtain ⟨l, h1, h2, h3⟩ := els_of els (fun c hc => h c (List.mem_cons_of_mem _ hc))
    obtain ⟨x, hx, hr⟩ := cells_of (h cs (List.mem_cons_self ..))
    refine ⟨x :: l, by simp [h1], ?_, fun y hy => ?_⟩
    · rw [List.flatten_cons, h2, hx]; rfl
    · rcases List.mem_cons.1 hy with rfl | hy
      · exact hr
      · exact h3 y hy
theorem tree_of {w : World} {v : Value} (r : Fr.RdV w reachBytes (.slice 4 ndTy) v) : ∃ l : List Nh, Tr w v l ∧ l.length ≤ mx := by
  obtain ⟨els, h1, h2, h3⟩ := Kt.ar_open r (by decide)
  obtain ⟨l, hl, hf, hr⟩ := els_of els (fun x hx => (h1 x hx).2)
  rw [← hl, hf] at h3
  exact ⟨l, ⟨h3, hr⟩, by rw [hl]; exact Nat.le_trans h2 (by decide)⟩
theorem Tr.form {w : World} {V : Value} {l : List Nh} (h : Tr w V l) : ∃ A c, V = .slice A l.length c := by
  obtain ⟨A, c, e, _, _⟩ := h.ar.form
  exact ⟨A, c, e⟩
set_option maxRecDepth 100000 in
set_option maxHeartbeats 3200000 in
theorem back_calls (x : Nh) (l : List Nh) (V : Value) (w : World) (hv : Tr w V l) (hl : l.length ≤ mx) (hx : Rn w x) :
    Calls Try.prog 5 #[V, x.v] w fun e w' => e = .returned (.bool true) ∧ Below w.heap.size w w' := by
  obtain ⟨A0, c0, rfl⟩ := hv.form
  obtain ⟨A, c, n⟩ := x
  obtain ⟨p, kd, po, se⟩ := n
  have hal := Kt.balloc (Below.refl _ w) (.cells #[.slice A p.length c, .int .i64 kd, .int .i64 po, .int .i64 se] 25)
  have hrow := heap_alloc_new w (.cells #[.slice A p.length c, .int .i64 kd, .int .i64 po, .int .i64 se] 25)
  have HP := Lib.hid (plug_calls ⟨A, c, ⟨p, kd, po, se⟩⟩ l (.slice A0 l.length c0) _ (hv.on hal) hl (hx.on hal))
  have HV := Lib.hid hv
  have HX := Lib.hid hx
  have HL := Lib.hid hl
  have HB := Lib.hid hal
  have HR := Lib.hid hrow
  have q0 := fun i => cell_of_row _ _ i _ _ _ hrow
  unfold Nh.v at HP ⊢
  dsimp only at HP ⊢
  clear hv hx hl hal hrow
  go_enter Try.func5, Try.ntmps5
  go_wp2_with fail
  refine HP.out.mono ?_
  rintro e w1 ⟨z, V1, l1, rfl, hp⟩
  obtain ⟨A1, c1, rfl⟩ := hp.own.tr.form
  have HP1 := Lib.hid hp
  have HB1 := Lib.hid (Kt.bthen HB.out hp.bel)
  have HR1 := Lib.hid (Kt.row_on hp.bel HR.out)
  clear hp HP HB HR q0
  go_wp2_with fail
  refine (plives_calls _).mono ?_
  rintro e w2 ⟨rfl, hb⟩
  have HB2 := Lib.hid (Kt.bthen HB1.out hb)
  have HR2 := Lib.hid (Kt.row_on hb HR1.out)
  have HT2 := Lib.hid (HP1.out.own.onw hb)
  clear hb HB1 HR1
  by_cases hz : z = 0
  · have HOK := Lib.hid (HP1.out.ok.1 hz)
    have HNW := Lib.hid (HP1.out.new hz)
    subst hz
    have hll : l1.length ≤ mx := by
      have h1 := congrArg List.length HNW.out
      rw [nds_len, ins_len] at h1
      have h2 := HOK.out.room
      unfold mx; omega
    have HUN := Lib.hid (unplug_calls p A c l1 _ _ HT2.out.tr hll (HX.out.way.on HB2.out) HX.out.le)
    have HLL := Lib.hid hll
    have q2 := fun i => cell_of_row _ _ i _ _ _ HR2.out
    clear hll HP1
    go_wp2_with fail
    refine HUN.out.mono ?_
    rintro e w3 ⟨z, V2, l2, V3, l3, rfl, hu⟩
    obtain rfl : z = 0 := hu.ok.2 ⟨by rw [HNW.out]; exact plug_rt HOK.out, by rw [HNW.out]; exact ⟨_, ins_mem.2 (.inl rfl), rfl⟩⟩
    obtain ⟨e1, e2⟩ := back_plain HOK.out
    have HE2 : Hid (nds l2 = nds l) := Lib.hid (by rw [hu.left rfl, HNW.out]; exact e1)
    have HE3 : Hid (nds l3 = [⟨p, kd, po, se⟩]) := Lib.hid (by rw [hu.gone rfl, HNW.out]; exact e2)
    obtain ⟨A2, c2, rfl⟩ := hu.own1.tr.form
    obtain ⟨A3, c3, rfl⟩ := hu.own2.tr.form
    have HU := Lib.hid hu
    have HB3 := Lib.hid (Kt.bthen HB2.out hu.bel)
    have HR3 := Lib.hid (Kt.row_on hu.bel HR2.out)
    have hlen : l2.length = l.length := by have := congrArg List.length HE2.out; rw [nds_len, nds_len] at this; exact this
    have HST := Lib.hid (stree_calls l2 l _ _ _ HE2.out HU.out.own1.tr (HV.out.on HB3.out) (by rw [hlen]; exact HL.out))
    clear hu e1 e2 hlen HUN q2 HB2 HR2 HT2 HLL
    go_wp2_with fail
    refine HST.out.mono ?_
    rintro e w4 ⟨rfl, hb⟩
    have HB4 := Lib.hid (Kt.bthen HB3.out hb)
    have HT4 := Lib.hid (HU.out.own2.onw hb)
    have hr4 := Kt.row_on hb HR3.out
    have q4 := fun i => cell_of_row _ _ i _ _ _ hr4
    have b5 := Kt.balloc (Below.refl _ w4) (.cells #[.slice A p.length c, .int .i64 kd, .int .i64 po, .int .i64 se] 25)
    have h1 : Tr (w4.alloc (.cells #[.slice A p.length c, .int .i64 kd, .int .i64 po, .int .i64 se] 25)) (.slice (some ⟨w4.heap.size, 0, none⟩) 1 1) [⟨A, c, ⟨p, kd, po, se⟩⟩] := ⟨Kt.Ar.new w4 #[.slice A p.length c, .int .i64 kd, .int .i64 po, .int .i64 se] 25 1 4 rfl, fun y hy => by
      rw [List.mem_singleton] at hy
      subst hy
      exact (HX.out.on HB4.out).on b5⟩
    have hl3 : l3.length = 1 := by have := congrArg List.length HE3.out; rw [nds_len] at this; exact this
    have HST2 := Lib.hid (stree_calls l3 [⟨A, c, ⟨p, kd, po, se⟩⟩] _ _ _ HE3.out (HT4.out.tr.on b5) h1 (by rw [hl3]; decide))
    have HB5 := Lib.hid (Kt.bthen HB4.out b5)
    rw [hl3] at HST2 ⊢
    clear hb hr4 b5 h1 hl3 HST HB3 HR3 HU
    go_wp2_with fail
    refine HST2.out.mono ?_
    rintro e w6 ⟨rfl, hb⟩
    have HB6 := Lib.hid (Kt.bthen HB5.out hb)
    clear hb q4 HST2
    go_wp2_with fail
    go_ret
    exact ⟨rfl, HB6.out⟩
  · obtain rfl : l1 = [] := HP1.out.bad hz
    have hz1 : (z != 0) = true := by rw [bne_iff_ne]; exact hz
    clear hz
    go_wp2_with fail
    refine (plives_calls _).mono ?_
    rintro e w3 ⟨rfl, hb⟩
    have HB3 := Lib.hid (Kt.bthen HB2.out hb)
    clear hb
    go_wp2_with fail
    go_ret
    exact ⟨rfl, HB3.out⟩
theorem back_walk (v0 v1 : Value) (w : World) (r0 : Fr.RdV w reachBytes (.slice 4 (.cat 1 (.slice 1 (.int .i64)) (.cat 1 (.int .i64) (.cat 1 (.int .i64) (.cat 1 (.int .i64) .nil))))) v0) (r1 : Fr.RdV w reachBytes (.cat 1 (.slice 1 (.int .i64)) (.cat 1 (.int .i64) (.cat 1 (.int .i64) (.cat 1 (.int .i64) .nil)))) v1) :
    Calls Try.prog 5 #[v0, v1] w fun e w' => e = .returned (.bool true) ∧ Below w.heap.size w w' := by
  obtain ⟨l, hv, hl⟩ := tree_of r0
  obtain ⟨x, rfl, hx⟩ := node_of r1
  exact back_calls x l v0 w hv hl hx
end Go.Proofs.Ytmjcokmfjofgnaa
