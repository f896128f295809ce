/- topo: SameNode, SameTree where both are the same; topoLives. -/
import Derived.Test.YtmjcokmfjofgnaaTpoL
import Derived.Test.YtmjcokmfjofgnaaTpoU
namespace Go.Proofs.Ytmjcokmfjofgnaa
open Go.RowKit Go.Shelf Go.Proofs.Ytmjcokmfjofgnaa.Rou Go.Proofs.Ytmjcokmfjofgnaa.Tpo
set_option maxHeartbeats 1600000 in
theorem same_calls (x y : Nh) (w : World) (h : x.n = y.n) (hx : Rn w x) (hy : Rn w y) : Calls Try.prog 15 #[x.v, y.v] w fun e w' => e = .returned (.bool true) ∧ Below w.heap.size w w' := by
  obtain ⟨A, c, n⟩ := x
  obtain ⟨A1, c1, n1⟩ := y
  dsimp only at h
  subst h
  obtain ⟨p, kd, po, se⟩ := n
  obtain ⟨r1, r2, hb⟩ := box2n w #[.slice A p.length c, .int .i64 kd, .int .i64 po, .int .i64 se] #[.slice A1 p.length c1, .int .i64 kd, .int .i64 po, .int .i64 se] 25 25
  have hle := hx.le
  unfold mx at hle
  dsimp only at hle
  have HC := Lib.hid (ieqD p p A A1 c c1 _ (hx.way.on hb) (hy.way.on hb) (by unfold big; omega) (by unfold big; omega))
  have HB := Lib.hid hb
  have q1 := fun i => cell_of_row _ _ i _ _ _ r1
  have q2 := fun i => cell_of_row _ _ i _ _ _ r2
  have HR := Lib.hid (And.intro r1 r2)
  rw [decide_eq_true rfl] at HC
  unfold Nh.v
  dsimp only
  clear hx hy r1 r2 hb hle
  go_enter Try.func15, Try.ntmps15
  go_wp2_with fail
  refine HC.out.mono ?_
  rintro e w1 ⟨rfl, hd⟩
  have r1 := Kt.row_on hd.bel HR.out.1
  have r2 := Kt.row_on hd.bel HR.out.2
  have q1' := fun i => cell_of_row _ _ i _ _ _ r1
  have q2' := fun i => cell_of_row _ _ i _ _ _ r2
  have HB1 := Lib.hid (Kt.bthen HB.out hd.bel)
  clear r1 r2 hd q1 q2 HC
  go_wp2_with fail
  go_ret
  exact ⟨rfl, HB1.out⟩
theorem eg15 : ∀ args w, (callFunc 15 args).run Try.prog w = .ok (.enter 15 args) w := enters_of Try.func15 (by kernel_rfl) rfl
set_option maxRecDepth 100000 in
set_option maxHeartbeats 3200000 in
theorem eqfun_calls (l1 l2 : List Nh) (V1 V2 : Value) (w : World) (h : nds l1 = nds l2) (h1 : Tr w V1 l1) (h2 : Tr w V2 l2) (hm : l1.length ≤ mx) :
    Calls Try.prog 27 #[V1, V2, .func (.func 15) #[] #[]] w fun e w' => e = .returned (.bool true) ∧ Below w.heap.size w w' := by
  have hl : l1.length = l2.length := by have := congrArg List.length h; rw [nds_len, nds_len] at this; exact this
  have HE : Hid (∀ k (a : k < l1.length) (b : k < l2.length), (l1[k]).n = (l2[k]).n) := Lib.hid (fun k a b => by
    rw [← nds_at l1 k a, ← nds_at l2 k b]
    congr 1)
  obtain ⟨A1, c1, rfl, _, _⟩ := h1.ar.form
  obtain ⟨A2, c2, rfl, _, _⟩ := h2.ar.form
  have H1 := Lib.hid h1
  have H2 := Lib.hid h2
  have HM := Lib.hid hm
  have HLL := Lib.hid hl
  unfold mx at HM
  rw [← hl]
  clear h h1 h2 hm hl
  have eg := eg15
  go_enter Try.func27, Try.ntmps27
  go_wp2_with fail
  go_loopw [17] (fun ii wr => ∃ k : Nat, ii = .int .i64 k ∧ Hid (k ≤ l1.length) ∧ Hid (Below w.heap.size w wr)) (fun ii _ => l1.length - (intOf ii).toNat)
  case atStart => exact ⟨0, rfl, Lib.hid (Nat.zero_le _), Lib.hid (Below.refl _ _)⟩
  case round =>
    obtain ⟨k, rfl, HK, HB⟩ := hrel
    by_cases hlt : k < l1.length
    · have hlt2 : k < l2.length := by have := HLL.out; omega
      have ek : (k : Int) < l1.length := by omega
      have hw1 : wrap64 ((k : Int) + 1) = ((k + 1 : Nat) : Int) := by have := HM.out; unfold wrap64; omega
      obtain ⟨b, o, cc, hve, hb0, x0, x1, x2, x3⟩ := Tr.node (H1.out.on HB.out) k hlt
      obtain ⟨b', o', cc', hve', hb0', y0, y1, y2, y3⟩ := Tr.node (H2.out.on HB.out) k hlt2
      cases hve
      rw [← HLL.out] at hve'
      cases hve'
      have hr1 := (H1.out.nth k hlt).on HB.out
      have hr2 := (H2.out.nth k hlt2).on HB.out
      have he := HE.out k hlt hlt2
      have HLT := Lib.hid (show k < l1.length from hlt)
      generalize l1[k] = x at *
      generalize l2[k] = y at *
      obtain ⟨Ax, cx, nx⟩ := x
      obtain ⟨Ay, cy, ny⟩ := y
      dsimp only at he
      subst he
      obtain ⟨px, kx, ox, sx⟩ := nx
      dsimp only at x0 x1 x2 x3 y0 y1 y2 y3
      have b2 := Kt.balloc (Kt.balloc (Below.refl _ wr) (.cells #[.slice Ax px.length cx, .int .i64 kx, .int .i64 ox, .int .i64 sx] 25)) (.cells #[.slice Ay px.length cy, .int .i64 kx, .int .i64 ox, .int .i64 sx] 25)
      have HC := Lib.hid (same_calls ⟨Ax, cx, ⟨px, kx, ox, sx⟩⟩ ⟨Ay, cy, ⟨px, kx, ox, sx⟩⟩ _ rfl (hr1.on b2) (hr2.on b2))
      have HB2 := Lib.hid (Kt.bthen HB.out b2)
      unfold Nh.v at HC
      dsimp only at HC
      clear hr1 hr2 b2 hlt hlt2
      go_wp2_with fail
      refine HC.out.mono ?_
      rintro e w1 ⟨rfl, hb⟩
      have HB3 := Lib.hid (Kt.bthen HB2.out hb)
      clear hb HC x0 x1 x2 x3 y0 y1 y2 y3
      go_wp2_with fail
      exact ⟨⟨k + 1, by first | rfl | rw [hw1], Lib.hid HLT.out, HB3⟩, by first | exact dec1 HLT.out | (rw [hw1]; exact dec1 HLT.out)⟩
    · have ek : ¬ (k : Int) < l1.length := by omega
      clear hlt
      go_wp2_with fail
      go_ret
      exact ⟨rfl, HB.out⟩
theorem stree_calls (l1 l2 : List Nh) (V1 V2 : Value) (w : World) (h : nds l1 = nds l2) (h1 : Tr w V1 l1) (h2 : Tr w V2 l2) (hm : l1.length ≤ mx) :
    Calls Try.prog 12 #[V1, V2] w fun e w' => e = .returned (.bool true) ∧ Below w.heap.size w w' := by
  have HC := Lib.hid (eqfun_calls l1 l2 V1 V2 w h h1 h2 hm)
  obtain ⟨A1, c1, rfl, _, _⟩ := h1.ar.form
  obtain ⟨A2, c2, rfl, _, _⟩ := h2.ar.form
  clear h h1 h2 hm
  go_enter Try.func12, Try.ntmps12
  go_wp2_with fail
  refine HC.out.mono ?_
  rintro e w1 ⟨rfl, hb⟩
  go_wp2_with fail
  go_ret
  exact ⟨rfl, hb⟩
def n1 : Nd := ⟨[1], 1, 2, 0⟩
def n2 : Nd := ⟨[1, 2], 2, 0, 9⟩
theorem ok1 : PlugOk [] n1 := ⟨⟨by decide, fun _ h => (by cases h), List.Pairwise.nil, fun _ h => (by cases h)⟩, by decide, fun _ h => (by cases h), by decide, by decide⟩
theorem fr2 : ∀ x ∈ insP [] n1, x.path ≠ n2.path := fun x h => by
  rcases ins_mem.1 h with rfl | h
  · decide
  · cases h
theorem ok2 : PlugOk (insP [] n1) n2 := ⟨plug_rt ok1, by decide, fr2, by decide, by decide⟩
set_option maxRecDepth 100000 in
set_option maxHeartbeats 3200000 in
theorem plives_calls (w : World) : Calls Try.prog 10 #[] w fun e w' => e = .returned (.bool true) ∧ Below w.heap.size w w' := by
  have b1 := Kt.balloc (Below.refl _ w) (.cells #[.int .i64 1] 3)
  have a1 : Wy (w.alloc (.cells #[.int .i64 1] 3)) (some ⟨w.heap.size, 0, none⟩) 1 [1] := Kt.Ar.new w #[.int .i64 1] 3 1 1 rfl
  have HP1 := Lib.hid (plug_calls ⟨some ⟨w.heap.size, 0, none⟩, 1, n1⟩ [] (.slice none 0 0) _ ⟨Kt.Ar.of_sl (B := 0) (e := 25) (Kt.Sl.nil _ _ _ _), fun _ h => (by cases h)⟩ (Nat.zero_le _) ⟨a1, by show 1 ≤ mx; decide⟩)
  have HB1 := Lib.hid b1
  unfold Nh.v at HP1
  dsimp only [n1] at HP1
  clear b1 a1
  go_enter Try.func10, Try.ntmps10
  go_wp2_with fail
  refine HP1.out.mono ?_
  rintro e w1 ⟨z, V1, l1, rfl, hp⟩
  obtain rfl : z = 0 := hp.ok.2 ok1
  have HN1 : Hid (nds l1 = insP [] n1) := Lib.hid (hp.new rfl)
  have HOK2 : Hid (PlugOk (nds l1) n2) := Lib.hid (by rw [HN1.out]; exact ok2)
  have HT1 := Lib.hid (hp.own.mono HB1.out.size)
  have HB2 := Lib.hid (Kt.bthen HB1.out hp.bel)
  obtain ⟨A1, c1, rfl, _, _⟩ := hp.own.sl.form
  have b3 := Kt.balloc (Below.refl _ w1) (.cells #[.int .i64 1, .int .i64 2] 3)
  have a2 : Wy (w1.alloc (.cells #[.int .i64 1, .int .i64 2] 3)) (some ⟨w1.heap.size, 0, none⟩) 2 [1, 2] := Kt.Ar.new w1 #[.int .i64 1, .int .i64 2] 3 2 1 rfl
  have hl1 : l1.length = 1 := by rw [← nds_len, HN1.out, ins_len]; rfl
  have HP2 := Lib.hid (plug_calls ⟨some ⟨w1.heap.size, 0, none⟩, 2, n2⟩ l1 _ _ (HT1.out.tr.on b3) (by rw [hl1]; decide) ⟨a2, by show 2 ≤ mx; decide⟩)
  have HB3 := Lib.hid (Kt.bthen HB2.out b3)
  unfold Nh.v at HP2
  dsimp only [n2] at HP2
  rw [hl1] at HP2 ⊢
  clear hp b3 a2 HP1
  go_wp2_with fail
  refine HP2.out.mono ?_
  rintro e w2 ⟨z, V2, l2, rfl, hp⟩
  obtain rfl : z = 0 := hp.ok.2 HOK2.out
  have HN2 : Hid (nds l2 = insP (insP [] n1) n2) := Lib.hid (by rw [hp.new rfl, HN1.out]; rfl)
  have HT2 := Lib.hid (hp.own.mono HB3.out.size)
  have HB4 := Lib.hid (Kt.bthen HB3.out hp.bel)
  obtain ⟨A2, c2, rfl, _, _⟩ := hp.own.sl.form
  have b5 := Kt.balloc (Below.refl _ w2) (.cells #[.int .i64 1, .int .i64 2] 3)
  have a3 : Wy (w2.alloc (.cells #[.int .i64 1, .int .i64 2] 3)) (some ⟨w2.heap.size, 0, none⟩) 2 [1, 2] := Kt.Ar.new w2 #[.int .i64 1, .int .i64 2] 3 2 1 rfl
  have hl2 : l2.length = 2 := by rw [← nds_len, HN2.out, ins_len, ins_len]; rfl
  have HF := Lib.hid (tfind_calls [1, 2] (some ⟨w2.heap.size, 0, none⟩) 2 l2 _ _ (HT2.out.tr.on b5) (by rw [hl2]; decide) a3 (by decide) (fun y hy => by
    rw [HN2.out] at hy
    have := (valid_len ((plug_rt ok2).valid y hy)).2
    unfold px; omega))
  have HB5 := Lib.hid (Kt.bthen HB4.out b5)
  have HL2 := Lib.hid hl2
  rw [hl2] at HF ⊢
  clear hp b5 a3 HP2 hl1 hl2
  go_wp2_with fail
  refine HF.out.mono ?_
  rintro e w3 ⟨y, ok, rfl, hok, hin, _, _, hb⟩
  obtain rfl : ok = true := by
    rw [hok, HN2.out, List.any_eq_true]
    exact ⟨n2, ins_mem.2 (.inl rfl), decide_eq_true rfl⟩
  obtain ⟨hy1, hy2⟩ := hin rfl
  have hyn : y.n = n2 := by
    rw [HN2.out] at hy1
    rcases ins_mem.1 hy1 with h | h
    · exact h
    · exact absurd hy2 (fr2 _ h)
  have HB6 := Lib.hid (Kt.bthen HB5.out hb)
  obtain ⟨Ay, cy, ny⟩ := y
  dsimp only at hyn
  subst hyn
  unfold Nh.v n2
  dsimp only
  clear hok hin hy1 hy2 hb HF
  go_wp2_with fail
  go_ret
  exact ⟨rfl, Kt.balloc HB6.out _⟩
end Go.Proofs.Ytmjcokmfjofgnaa
