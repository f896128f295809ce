/- topo: slices.IndexFunc, ContainsFunc of nodes; find, fits walked. -/
import Derived.Test.YtmjcokmfjofgnaaTpoW
import Derived.Test.YtmjcokmfjofgnaaTpoQ
namespace Go.Proofs.Ytmjcokmfjofgnaa
open Go.RowKit Go.Shelf Go.Proofs.Ytmjcokmfjofgnaa.Rou Go.Proofs.Ytmjcokmfjofgnaa.Tpo
def FirstP (p : Nd → Bool) (l : List Nd) (r : Int) : Prop := (r = -1 ∧ ∀ s ∈ l, p s = false) ∨ ∃ k : Nat, r = (k : Int) ∧ (∃ h : k < l.length, p l[k] = true) ∧ ∀ j (h : j < l.length), j < k → p l[j] = false
theorem nds_at (l : List Nh) (k : Nat) (h : k < l.length) : (nds l)[k]'(by unfold nds; rw [List.length_map]; exact h) = (l[k]).n := by simp [nds]
theorem nds_len (l : List Nh) : (nds l).length = l.length := by simp [nds]
set_option maxRecDepth 100000 in
set_option maxHeartbeats 1600000 in
theorem index_calls (p : Nd → Bool) (f : FuncId) (lb : Array Value) (l : List Nh) (V : Value) (w : World) (hv : Tr w V l) (hm : l.length ≤ mx)
    (eg : ∀ args w, (callFunc f args).run Try.prog w = .ok (.enter f args) w)
    (hf : ∀ x ∈ l, ∀ (W : World), Below w.heap.size w W → Calls Try.prog f (#[x.v] ++ lb) W fun e w' => e = .returned (.bool (p x.n)) ∧ Below W.heap.size W w') :
    Calls Try.prog 33 #[V, .func (.func f) #[] lb] w fun e w' => ∃ r, e = .returned (.int .i64 r) ∧ FirstP p (nds l) r ∧ Below w.heap.size w w' := by
  obtain ⟨A0, c0, rfl, _, _⟩ := hv.ar.form
  have HV := Lib.hid hv
  have HM := Lib.hid hm
  have HF := Lib.hid hf
  unfold mx at HM
  clear hv hm hf
  go_enter Try.func33, Try.ntmps33
  go_wp2_with fail
  go_loopw [8] (fun i wr => ∃ (k : Nat), k ≤ l.length ∧ i = .int .i64 k ∧ Hid (∀ j (h : j < l.length), j < k → p (l[j]).n = false) ∧ Hid (Below w.heap.size w wr)) (fun i _ => l.length - (intOf i).toNat)
  case atStart => exact ⟨0, Nat.zero_le _, rfl, Lib.hid (fun j h hj => absurd hj (by omega)), Lib.hid (Below.refl _ _)⟩
  case round =>
    obtain ⟨k, hk, rfl, HP, HB⟩ := hrel
    by_cases hlt : k < l.length
    · obtain ⟨b, o, c, hve, hb0, x0, x1, x2, x3⟩ := Tr.node (HV.out.on HB.out) k hlt
      cases hve
      have HC := Lib.hid (HF.out (l[k]'hlt) (List.getElem_mem hlt) wr HB.out)
      have HPK : Hid (∀ q, p (l[k]'hlt).n = q → ∃ h : k < l.length, p (l[k]'h).n = q) := Lib.hid (fun q h => ⟨hlt, h⟩)
      have ek : (k : Int) < l.length := by omega
      have ek0 : (0 : Int) ≤ k := by omega
      have HK := Lib.hid hlt
      obtain ⟨q, hq⟩ : ∃ q, p (l[k]'hlt).n = q := ⟨_, rfl⟩
      have HQ := Lib.hid hq
      rw [hq] at HC
      unfold Nh.v at HC
      clear hq
      generalize hL1 : (l[k]'hlt).n.path.length = pl at *
      generalize hL2 : (l[k]'hlt).n.kind = kd at *
      generalize hL3 : (l[k]'hlt).n.ports = po at *
      generalize hL4 : (l[k]'hlt).n.serial = se at *
      generalize hL5 : (l[k]'hlt).A = AA at *
      generalize hL6 : (l[k]'hlt).c = cc at *
      clear hL1 hL2 hL3 hL4 hL5 hL6 hk
      cases q with
      | true =>
        go_wp2_with fail
        refine HC.out.mono ?_
        rintro e w1 ⟨rfl, hb⟩
        have HB1 := Lib.hid (Kt.bthen HB.out hb)
        clear hb HC
        go_wp2_with fail
        go_ret
        refine ⟨_, rfl, .inr ⟨k, rfl, ?_, ?_⟩, HB1.out⟩
        · obtain ⟨h, hp⟩ := HPK.out _ HQ.out
          exact ⟨by rw [nds_len]; exact h, by rw [nds_at l k h]; exact hp⟩
        · intro j h hj
          rw [nds_len] at h
          rw [nds_at l j h]; exact HP.out j h hj
      | false =>
        go_wp2_with fail
        refine HC.out.mono ?_
        rintro e w1 ⟨rfl, hb⟩
        have HB1 := Lib.hid (Kt.bthen HB.out hb)
        clear hb HC
        go_wp2_with fail
        have hm := HM.out
        have hk := HK.out
        go_roundw
        case rel => exact ⟨k + 1, by omega, by rw [show wrap64 ((k : Int) + 1) = ((k + 1 : Nat) : Int) by unfold wrap64; omega], Lib.hid (fun j h hj => by
          by_cases e : j = k
          · subst e; exact HQ.out
          · exact HP.out j h (by omega)), HB1⟩
        case measure =>
          rw [show wrap64 ((k : Int) + 1) = ((k + 1 : Nat) : Int) by unfold wrap64; omega]
          simp [intOf] <;> omega
    · obtain rfl : k = l.length := by omega
      go_wp2_with fail
      go_ret
      refine ⟨_, rfl, .inl ⟨rfl, fun s hs => ?_⟩, HB.out⟩
      obtain ⟨x, hx, rfl⟩ := List.mem_map.1 hs
      obtain ⟨j, hj, rfl⟩ := List.mem_iff_getElem.1 hx
      exact HP.out j hj hj
theorem first_mem {p : Nd → Bool} {l : List Nd} {r : Int} (h : FirstP p l r) : (0 ≤ r) ↔ ∃ s ∈ l, p s = true := by
  rcases h with ⟨rfl, hall⟩ | ⟨k, rfl, ⟨hk, hp⟩, _⟩
  · constructor
    · intro h; omega
    · rintro ⟨s, hs, hp⟩; rw [hall s hs] at hp; cases hp
  · exact ⟨fun _ => ⟨_, List.getElem_mem hk, hp⟩, fun _ => by omega⟩
theorem contains_calls (p : Nd → Bool) (f : FuncId) (lb : Array Value) (l : List Nh) (V : Value) (w : World) (hv : Tr w V l) (hm : l.length ≤ mx)
    (eg : ∀ args w, (callFunc f args).run Try.prog w = .ok (.enter f args) w)
    (hf : ∀ x ∈ l, ∀ (W : World), Below w.heap.size w W → Calls Try.prog f (#[x.v] ++ lb) W fun e w' => e = .returned (.bool (p x.n)) ∧ Below W.heap.size W w') :
    Calls Try.prog 35 #[V, .func (.func f) #[] lb] w fun e w' => e = .returned (.bool ((nds l).any p)) ∧ Below w.heap.size w w' := by
  have HI := Lib.hid (index_calls p f lb l V w hv hm eg hf)
  obtain ⟨A0, c0, rfl, _, _⟩ := hv.ar.form
  clear hv hm hf eg
  go_enter Try.func35, Try.ntmps35
  go_wp2_with fail
  refine HI.out.mono ?_
  rintro e w1 ⟨r, rfl, hr, hb⟩
  have HB := Lib.hid hb
  have HA : Hid (decide (0 ≤ r) = (nds l).any p) := Lib.hid (by
    rw [Bool.eq_iff_iff, decide_eq_true_iff, List.any_eq_true]; exact first_mem hr)
  clear hb HI hr
  go_wp2_with fail
  go_ret
  exact ⟨by rw [← HA.out]; rfl, HB.out⟩
def eqB (p : List Int) (x : Nd) : Bool := decide (x.path = p)
theorem eg34 : ∀ args w, (callFunc 34 args).run Try.prog w = .ok (.enter 34 args) w := enters_of Try.func34 (by kernel_rfl) rfl
theorem eg36 : ∀ args w, (callFunc 36 args).run Try.prog w = .ok (.enter 36 args) w := enters_of Try.func36 (by kernel_rfl) rfl
set_option maxHeartbeats 800000 in
theorem eqp_calls (p : List Int) (A : Option Addr) (c : Nat) (x : Nh) (b : Nat) (w : World) (hb : w.heap[b]? = some (.cells #[.slice A p.length c] 23 (0, 0))) (hp : Wy w A c p) (hm : p.length ≤ mx) (hx : Rn w x) :
    Calls Try.prog 34 #[x.v, .pointer (some ⟨b, 0, none⟩)] w fun e w' => e = .returned (.bool (eqB p x.n)) ∧ Below w.heap.size w w' := by
  obtain ⟨A1, c1, n⟩ := x
  obtain ⟨p1, kd, po, se⟩ := n
  have hal := Kt.balloc (Below.refl _ w) (.cells #[.slice A1 p1.length c1, .int .i64 kd, .int .i64 po, .int .i64 se] 25)
  have HC := Lib.hid (ieqD p1 p A1 A c1 c _ ((Rn.way hx).on hal) (hp.on hal) (by have := hx.le; unfold mx at this; unfold big; dsimp only at this; omega) (by unfold mx at hm; unfold big; omega))
  have HN := heap_alloc_new w (.cells #[.slice A1 p1.length c1, .int .i64 kd, .int .i64 po, .int .i64 se] 25)
  have HBX := Kt.row_on hal hb
  have HB := Lib.hid hal
  have HE : Hid (eqB p ⟨p1, kd, po, se⟩ = decide (p1 = p)) := Lib.hid rfl
  have q1 := fun i => cell_of_row _ _ i _ _ _ HN
  have q2 := fun i => cell_of_row _ _ i _ _ _ HBX
  unfold Nh.v
  dsimp only
  clear hb hp hm hx hal HN HBX
  go_enter Try.func34, Try.ntmps34
  go_wp2_with fail
  refine HC.out.mono ?_
  rintro e w1 ⟨rfl, hd⟩
  have HB1 := Lib.hid (Kt.bthen HB.out hd.bel)
  clear hd HC q1 q2
  go_wp2_with fail
  go_ret
  exact ⟨by rw [HE.out]; rfl, HB1.out⟩
set_option maxHeartbeats 800000 in
theorem find_calls (p : List Int) (A : Option Addr) (c : Nat) (l : List Nh) (V : Value) (w : World) (hv : Tr w V l) (hl : l.length ≤ mx) (hp : Wy w A c p) (hm : p.length ≤ mx) :
    Calls Try.prog 22 #[V, .slice A p.length c] w fun e w' => ∃ r, e = .returned (.int .i64 r) ∧ FirstP (eqB p) (nds l) r ∧ Below w.heap.size w w' := by
  obtain ⟨A0, c0, rfl, _, _⟩ := hv.ar.form
  have hal := Kt.balloc (Below.refl _ w) (.cells #[.slice A p.length c] 23)
  have hrow := heap_alloc_new w (.cells #[.slice A p.length c] 23)
  have HI := Lib.hid (index_calls (eqB p) 34 #[.pointer (some ⟨w.heap.size, 0, none⟩)] l (.slice A0 l.length c0) _ (hv.on hal) hl eg34 (fun x hx W hW => eqp_calls p A c x w.heap.size W (Kt.row_on hW hrow) ((hp.on hal).on hW) hm (((hv.on hal).rn x hx).on hW)))
  have HB := Lib.hid hal
  clear hv hl hp hm hal hrow
  go_enter Try.func22, Try.ntmps22
  go_wp2_with fail
  refine HI.out.mono ?_
  rintro e w1 ⟨r, rfl, hr, hb⟩
  have HR := Lib.hid hr
  have HB1 := Lib.hid (Kt.bthen HB.out hb)
  clear hr hb HI
  go_wp2_with fail
  go_ret
  exact ⟨r, rfl, HR.out, HB1.out⟩
set_option maxHeartbeats 1600000 in
theorem hub_calls (n x : Nh) (k : Nat) (b6 b3 b5 : Nat) (w : World) (hk : n.n.path.length = k + 1) (h6 : w.heap[b6]? = some (.cells #[.int .i64 (lastOf n.n.path)] 3 (0, 0)))
    (h3 : w.heap[b3]? = some (.cells #[.slice n.A n.n.path.length n.c, .int .i64 n.n.kind, .int .i64 n.n.ports, .int .i64 n.n.serial] 25 (0, 0))) (h5 : w.heap[b5]? = some (.cells #[.int .i64 k] 3 (0, 0))) (hn : Rn w n) (hx : Rn w x) :
    Calls Try.prog 36 #[x.v, .pointer (some ⟨b6, 0, none⟩), .pointer (some ⟨b3, 0, none⟩), .pointer (some ⟨b5, 0, none⟩)] w fun e w' => e = .returned (.bool (hubB n.n x.n)) ∧ Below w.heap.size w w' := by
  obtain ⟨A1, c1, n1⟩ := x
  obtain ⟨p1, kd, po, se⟩ := n1
  obtain ⟨A2, c2, n2⟩ := n
  obtain ⟨p2, kd2, po2, se2⟩ := n2
  dsimp only at hk h6 h3
  have hal := Kt.balloc (Below.refl _ w) (.cells #[.slice A1 p1.length c1, .int .i64 kd, .int .i64 po, .int .i64 se] 25)
  obtain ⟨ys, hys⟩ : ∃ ys, p2.take k = ys := ⟨_, rfl⟩
  have hyl : ys.length = k := by rw [← hys, List.length_take]; omega
  have hpart := (hn.way.on hal).part k (by dsimp only; omega)
  dsimp only at hpart
  rw [hys] at hpart
  have hle2 := hn.le
  have hle1 := hx.le
  unfold mx at hle1 hle2
  dsimp only at hle1 hle2
  have HC := Lib.hid (fun n => ieqD p1 ys A1 A2 c1 c2 _ (((Rn.way hx).on hal).on (bdrewN (Below.refl _ _) n)) (Wy.on (by rw [← hyl] at hpart; exact hpart) (bdrewN (Below.refl _ _) n)) (by unfold big; omega) (by unfold big; omega))
  rw [hyl] at HC
  have HN := heap_alloc_new w (.cells #[.slice A1 p1.length c1, .int .i64 kd, .int .i64 po, .int .i64 se] 25)
  have q1 := fun i => cell_of_row _ _ i _ _ _ HN
  have q6 := fun i => cell_of_row _ _ i _ _ _ (Kt.row_on hal h6)
  have q3 := fun i => cell_of_row _ _ i _ _ _ (Kt.row_on hal h3)
  have q5 := fun i => cell_of_row _ _ i _ _ _ (Kt.row_on hal h5)
  have HB := Lib.hid hal
  have HE : Hid (hubB ⟨p2, kd2, po2, se2⟩ ⟨p1, kd, po, se⟩ = (decide (kd = 1) && decide (lastOf p2 ≤ po) && decide (p1 = ys))) := Lib.hid (by rw [← hys, show k = p2.length - 1 by omega]; rfl)
  have hc2 := Wy.cap hn.way
  dsimp only at hc2
  have hk1 : (k : Int) ≤ p2.length := by omega
  have hk2 : (k : Int) ≤ c2 := by omega
  generalize lastOf p2 = port at *
  unfold Nh.v
  dsimp only
  clear h6 h3 h5 hn hx hal HN hpart hys hle1 hle2 hyl hk hc2
  by_cases h1 : kd = 1
  · subst h1
    rw [decide_eq_true rfl, Bool.true_and] at HE
    by_cases h2 : port ≤ po
    · rw [decide_eq_true h2, Bool.true_and] at HE
      go_enter Try.func36, Try.ntmps36
      go_wp2_with fail
      refine wp_region_quiet_lit (by kernel_rfl) (by kernel_rfl) ?_
      iterate 16 quiet_step (fail)
      refine wpQuiet_step (fun K hK => ?_); go_simp; apply Exists.intro; refine ⟨fun n => ?_, hK _ ?_⟩
      exact Calls.quiet_of (HC.out n)
      clear hK K
      iterate 2 quiet_step (fail)
      refine wpQuiet_nil ?_; intro _ hw'; obtain ⟨nq, hw''⟩ := hw'; subst hw''
      go_wp2_with fail
      go_ret
      exact ⟨by rw [HE.out]; rfl, bdrewN HB.out _⟩
    · rw [decide_eq_false h2, Bool.false_and] at HE
      have h2' : decide (port ≤ po) = false := decide_eq_false h2
      have h2'' : po < port := by omega
      clear HC
      go_enter Try.func36, Try.ntmps36
      go_wp2_with fail
      go_quiet (fail)
      go_wp2_with fail
      go_ret
      exact ⟨by rw [HE.out]; rfl, bdrewN HB.out _⟩
  · rw [decide_eq_false h1, Bool.false_and, Bool.false_and] at HE
    have h1' : (kd == 1) = false := beq_eq_false_iff_ne.2 h1
    clear HC h1
    go_enter Try.func36, Try.ntmps36
    go_wp2_with fail
    go_quiet (fail)
    go_wp2_with fail
    go_ret
    exact ⟨by rw [HE.out]; rfl, bdrewN HB.out _⟩
end Go.Proofs.Ytmjcokmfjofgnaa
