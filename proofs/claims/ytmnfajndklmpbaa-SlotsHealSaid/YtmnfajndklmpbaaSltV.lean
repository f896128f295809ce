/- The law SlotsHeal, walked. -/
import Derived.Test.YtmnfajndklmpbaaSltH
namespace Go.Proofs.Ytmnfajndklmpbaa
open Go.RowKit Classical Go.Proofs.Ytmnfajndklmpbaa.Slt
theorem set_ok (x : List Int) (hx : x.length = 66) (h : SlotOk x) (n : Nat) (n1 : 1 ≤ n) (n2 : n < 32) (hz : G x (2 + n) ≠ 0) (v : Int) (v1 : 1 ≤ v) (v2 : v ≤ 3) : SlotOk (x.set (2 + n) v) ∧ G (x.set (2 + n) v) 0 = G x 0 ∧ G (x.set (2 + n) v) 1 = G x 1 ∧ 1 < G x 0 := by
  have hC : Called x := by
    rcases h with ⟨a, b, h⟩ | ⟨_, h⟩
    · exact absurd (h (2 + n) (by omega) (by omega)) hz
    · exact h
  have hst : 1 < G x 0 := by
    rcases h with ⟨a, b, h⟩ | ⟨h, _⟩
    · exact absurd (h (2 + n) (by omega) (by omega)) hz
    · exact h
  have g : ∀ j, G (x.set (2 + n) v) j = if j = 2 + n then v else G x j := fun j => G_set _ _ _ _ (by omega)
  have g0 : G (x.set (2 + n) v) 0 = G x 0 := by rw [g, if_neg (by omega)]
  have g1 : G (x.set (2 + n) v) 1 = G x 1 := by rw [g, if_neg (by omega)]
  refine ⟨.inr ⟨by rw [g0]; exact hst, ⟨by rw [g0]; exact hC.st, by rw [g1]; exact hC.a1, by rw [g1]; exact hC.a2, ?_, ?_, ?_, ?_, ?_⟩⟩, g0, g1, hst⟩
  · rw [g]; split
    · omega
    · exact hC.e1
  · rw [g, if_neg (by omega)]; exact hC.e0
  · rw [g, if_neg (by omega)]; exact hC.m0
  · intro i i1 i2
    have := hC.ends i i1 i2
    rw [g (34 + i), if_neg (by omega), g]
    split
    · next q =>
      obtain rfl : i = n := by omega
      exact ⟨by omega, v2, this.2.2.1, this.2.2.2.1, fun q => absurd q (by omega)⟩
    · exact this
  · rw [g0, ← hC.more]
    constructor
    · rintro ⟨i, i1, i2, i3⟩
      rw [g] at i3
      split at i3
      · next q => obtain rfl : i = n := by omega
                  exact ⟨i, i1, i2, hz⟩
      · exact ⟨i, i1, i2, i3⟩
    · rintro ⟨i, i1, i2, i3⟩
      refine ⟨i, i1, i2, ?_⟩
      rw [g]; split
      · omega
      · exact i3
theorem keep_ok {l : List Int} (hl : l.length = 594) (ho : Ok l) {n : Nat} (n1 : 1 ≤ n) (n2 : n ≤ 8) {y : List Int} (hy : y.length = 66) (hs : SlotOk y) (ha : G y 1 = G (at_ l n) 1) : Ok (put l n y) := by
  refine put_ok l hl ho n n1 n2 y hy hs ?_
  rw [ha, G_at l n 1 (by omega)]
  by_cases z : G l (n * 66 + 1) = 0
  · exact .inl z
  · refine .inr fun k k1 k2 kn q => ?_
    by_cases lt : k < n
    · rcases ho.two n k k1 lt (by omega) with r | r
      · exact z r
      · exact r q
    · rcases ho.two k n n1 (by omega) k2 with r | r
      · exact z (q.trans r)
      · exact r q.symm
theorem did_end {L z : List Int} {n : Nat} {K e a c m : Int} (ho : Ok L) (n1 : 1 ≤ n) (n2 : n ≤ 8) (hK : 6 ≤ K) (hK9 : K ≤ 9) (h : Did L K n e a z c m) : c = cmdCode (at_ L n) K e a ∧ (c = 1 → z = put L n (endMade (at_ L n) K e a)) := by
  cases h with
  | bad h => exact absurd ho h
  | noop _ h => omega
  | enable i _ h hF => omega
  | full _ h _ => omega
  | trb _ _ _ h => omega
  | done j y _ _ _ hs _ _ hc hM =>
    obtain rfl : n = j := by omega
    refine ⟨hc.symm, fun _ => ?_⟩
    cases hM with
    | off h => omega
    | call _ h _ => omega
    | conf _ h _ => omega
    | ends _ => rfl
  | refused j _ _ _ hs _ _ hne =>
    obtain rfl : n = j := by omega
    exact ⟨rfl, fun h => absurd h hne⟩
/-- the slot on its way to be healed -/
def way (x : List Int) (k : Nat) (m : Int) : Nat → List Int
  | 0 => x.set (2 + k) 2
  | 1 => (x.set (2 + k) 2).set (2 + k) 3
  | 2 => ((x.set (2 + k) 2).set (2 + k) 3).set (34 + k) m
  | _ => (((x.set (2 + k) 2).set (2 + k) 3).set (34 + k) m).set (2 + k) 1
theorem way_len (x : List Int) (hx : x.length = 66) (k : Nat) (m : Int) : ∀ i, (way x k m i).length = 66
  | 0 => by simp [way, hx]
  | 1 => by simp [way, hx]
  | 2 => by simp [way, hx]
  | _ + 3 => by simp [way, hx]
theorem G_way (x : List Int) (hx : x.length = 66) (k : Nat) (hk : k < 32) (m : Int) (i j : Nat) : G (way x k m i) j = if j = 2 + k then (if i = 0 then 2 else if i ≤ 2 then 3 else 1) else if j = 34 + k ∧ 2 ≤ i then m else G x j := by
  have hs : ∀ (y : List Int) (p : Nat) (v : Int), y.length = 66 → p < 66 → ∀ j, G (y.set p v) j = if j = p then v else G y j := fun y p v hy hp j => G_set _ _ _ _ (by omega)
  match i with
  | 0 =>
    show G (x.set (2 + k) 2) j = _
    rw [hs _ _ _ hx (by omega)]
    by_cases e : j = 2 + k
    · rw [if_pos e, if_pos e]; rfl
    · rw [if_neg e, if_neg e, if_neg (by omega)]
  | 1 =>
    show G ((x.set (2 + k) 2).set (2 + k) 3) j = _
    rw [hs _ _ _ (by simp [hx]) (by omega), hs _ _ _ hx (by omega)]
    by_cases e : j = 2 + k
    · rw [if_pos e, if_pos e]; rfl
    · rw [if_neg e, if_neg e, if_neg e, if_neg (by omega)]
  | 2 =>
    show G (((x.set (2 + k) 2).set (2 + k) 3).set (34 + k) m) j = _
    rw [hs _ _ _ (by simp [hx]) (by omega), hs _ _ _ (by simp [hx]) (by omega), hs _ _ _ hx (by omega)]
    by_cases e : j = 2 + k
    · rw [if_pos e, if_neg (by omega), if_pos e]; rfl
    · rw [if_neg e, if_neg e, if_neg e]
      by_cases e2 : j = 34 + k
      · rw [if_pos e2, if_pos ⟨e2, by omega⟩]
      · rw [if_neg e2, if_neg (fun h => e2 h.1)]
  | i + 3 =>
    show G ((((x.set (2 + k) 2).set (2 + k) 3).set (34 + k) m).set (2 + k) 1) j = _
    rw [hs _ _ _ (by simp [hx]) (by omega), hs _ _ _ (by simp [hx]) (by omega), hs _ _ _ (by simp [hx]) (by omega), hs _ _ _ hx (by omega)]
    by_cases e : j = 2 + k
    · rw [if_pos e, if_pos e, if_neg (by omega), if_neg (by omega)]
    · rw [if_neg e, if_neg e, if_neg e, if_neg e]
      by_cases e2 : j = 34 + k
      · rw [if_pos e2, if_pos ⟨e2, by omega⟩]
      · rw [if_neg e2, if_neg (fun h => e2 h.1)]
def orders (i : Nat) : Int := if i = 0 then 6 else if i = 1 then 8 else 9
structure Heals (l : List Int) (n k : Nat) (m : Int) : Prop where
  len : l.length = 594
  ok : Ok l
  n1 : 1 ≤ n
  n2 : n ≤ 8
  k1 : 1 ≤ k
  k2 : k < 32
  on : G l (n * 66 + 2 + k) = 1
  m1 : 0 ≤ m
  m2 : m ≤ 65535
theorem Heals.all {l : List Int} {n k : Nat} {m : Int} (h : Heals l n k m) : ∀ i, i < 3 → Ok (put l n (way (at_ l n) k m i)) ∧ cmdCode (way (at_ l n) k m i) (orders i) k m = 1 := by
  have hx := at_len l h.len n (by have := h.n2; omega)
  have k1 := h.k1
  have k2 := h.k2
  have m1 := h.m1
  have m2 := h.m2
  have hs := h.ok.slot n h.n1 (by have := h.n2; omega)
  have hon : G (at_ l n) (2 + k) = 1 := by rw [G_at _ _ _ (by omega), ← Nat.add_assoc]; exact h.on
  have s0 := set_ok _ hx hs k k1 k2 (by omega) 2 (by omega) (by omega)
  have key : ∀ i, i < 3 → SlotOk (way (at_ l n) k m i) := by
    intro i hi
    have e0 : G (way (at_ l n) k m 0) (2 + k) = 2 := by rw [G_way _ hx _ k2, if_pos rfl]; rfl
    have o1 : SlotOk (way (at_ l n) k m 1) := (set_ok _ (way_len _ hx k m 0) s0.1 k k1 k2 (by rw [e0]; decide) 3 (by omega) (by omega)).1
    have e1 : G (way (at_ l n) k m 1) (2 + k) = 3 := by rw [G_way _ hx _ k2, if_pos rfl]; rfl
    have t1 : G (way (at_ l n) k m 1) 0 = G (at_ l n) 0 := by rw [G_way _ hx _ k2, if_neg (by omega), if_neg (by omega)]
    have := ends_ok (way (at_ l n) k m 1) (way_len _ hx k m 1) o1 (by rw [t1]; have := s0.2.2.2; omega) 8 k m (end1 (v := 3) k1 (by omega) e1 (by decide) (.inr (.inr (.inl ⟨rfl, m1, m2, rfl⟩))))
    rw [made8] at this
    match i, hi with
    | 0, _ => exact s0.1
    | 1, _ => exact o1
    | 2, _ => exact this.1
  intro i hi
  refine ⟨keep_ok h.len h.ok h.n1 h.n2 (way_len _ hx k m i) (key i hi) (by rw [G_way _ hx _ k2, if_neg (by omega), if_neg (by omega)]), ?_⟩
  have t : G (way (at_ l n) k m i) 0 = G (at_ l n) 0 := by rw [G_way _ hx _ k2, if_neg (by omega), if_neg (by omega)]
  have ee : G (way (at_ l n) k m i) (2 + k) = if i = 0 then 2 else 3 := by
    rw [G_way _ hx _ k2, if_pos rfl]
    by_cases q : i = 0
    · rw [if_pos q, if_pos q]
    · rw [if_neg q, if_neg q, if_pos (by omega)]
  unfold cmdCode
  rw [if_neg (by rw [t]; have := s0.2.2.2; omega)]
  match i, hi with
  | 0, _ => exact end1 (v := 2) k1 (by omega) ee (by decide) (.inl ⟨rfl, rfl⟩)
  | 1, _ => exact end1 (v := 3) k1 (by omega) ee (by decide) (.inr (.inr (.inl ⟨rfl, m1, m2, rfl⟩)))
  | 2, _ => exact end1 (v := 3) k1 (by omega) ee (by decide) (.inr (.inr (.inr ⟨rfl, .inl rfl⟩)))
theorem Heals.step {l : List Int} {n k : Nat} {m : Int} (h : Heals l n k m) (i : Nat) (hi : i < 3) {z : List Int} {c q : Int} (hd : Did (put l n (way (at_ l n) k m i)) (orders i) n k m z c q) : c = 1 ∧ z = put l n (way (at_ l n) k m (i + 1)) := by
  have n2 := h.n2
  have hx := at_len l h.len n (by omega)
  have hw := way_len _ hx k m i
  obtain ⟨ho, hc⟩ := h.all i hi
  have hat := at_put l h.len n (by omega) _ hw
  obtain ⟨e1, e2⟩ := did_end ho h.n1 h.n2 (by unfold orders; split <;> (try split) <;> omega) (by unfold orders; split <;> (try split) <;> omega) hd
  rw [hat] at e1 e2
  rw [hc] at e1
  refine ⟨e1, ?_⟩
  rw [e2 e1, put_put l h.len n (by omega) _ _ hw (by rw [endMade_len]; exact hw)]
  match i, hi with
  | 0, _ => rw [show orders 0 = 6 from rfl, made3 _ _ _ _ (.inl rfl)]; rfl
  | 1, _ => rw [show orders 1 = 8 from rfl, made8]; rfl
  | 2, _ => rw [show orders 2 = 9 from rfl, made9]; rfl
theorem Heals.ring {l : List Int} {n k : Nat} {m : Int} (h : Heals l n k m) {z : List Int} {c q : Int} (hd : Did (put l n (way (at_ l n) k m 0)) 9 n k 0 z c q) : c = 19 := by
  have n2 := h.n2
  have k1 := h.k1
  have k2 := h.k2
  have hx := at_len l h.len n (by omega)
  have hw := way_len _ hx k m 0
  obtain ⟨ho, _⟩ := h.all 0 (by omega)
  have hat := at_put l h.len n (by omega) _ hw
  obtain ⟨e1, _⟩ := did_end ho h.n1 h.n2 (by omega) (by omega) hd
  rw [hat] at e1
  have hs := h.ok.slot n h.n1 (by omega)
  have hon : G (at_ l n) (2 + k) = 1 := by rw [G_at _ _ _ (by omega), ← Nat.add_assoc]; exact h.on
  have s0 := set_ok _ hx hs k k1 k2 (by omega) 2 (by omega) (by omega)
  have t : G (way (at_ l n) k m 0) 0 = G (at_ l n) 0 := by rw [G_way _ hx _ k2, if_neg (by omega), if_neg (by omega)]
  have ee : G (way (at_ l n) k m 0) (2 + k) = 2 := by rw [G_way _ hx _ k2, if_pos rfl]; rfl
  unfold cmdCode at e1
  rw [if_neg (by rw [t]; have := s0.2.2.2; omega), if_neg (by decide), if_neg (by decide), if_neg (by decide), end19 (v := 2) k1 (by omega) ee (by decide) (by omega)] at e1
  exact e1
theorem Heals.start {l : List Int} {n k : Nat} {m : Int} (h : Heals l n k m) : l.set (n * 66 + 2 + k) 2 = put l n (way (at_ l n) k m 0) := by
  have := put_two l h.len n (by have := h.n2; omega) (at_ l n) (at_len l h.len n (by have := h.n2; omega)) 2 k (by have := h.k2; omega) 2
  rwa [put_at l h.len n (by have := h.n2; omega)] at this
theorem Heals.last {l : List Int} {n k : Nat} {m : Int} (h : Heals l n k m) : put l n (way (at_ l n) k m 3) = l.set (n * 66 + 34 + k) m := by
  have n2 := h.n2
  have k2 := h.k2
  have hx := at_len l h.len n (by omega)
  have hw := way_len _ hx k m 3
  have e := put_two l h.len n (by omega) (at_ l n) hx 34 k (by omega) m
  rw [put_at l h.len n (by omega)] at e
  rw [e]
  congr 1
  refine G_ext (by rw [hw, List.length_set, hx]) fun j hj => ?_
  have hon : G (at_ l n) (2 + k) = 1 := by rw [G_at _ _ _ (by omega), ← Nat.add_assoc]; exact h.on
  rw [G_way _ hx _ k2, G_set _ _ _ _ (by omega)]
  by_cases e1 : j = 2 + k
  · rw [if_pos e1, if_neg (by omega), if_neg (by omega), if_neg (by omega), e1, hon]
  · rw [if_neg e1]
    by_cases e2 : j = 34 + k
    · rw [if_pos ⟨e2, by omega⟩, if_pos e2]
    · rw [if_neg (fun q => e2 q.1), if_neg e2]
theorem idx3 (i : Nat) (hi : i < 3) (w : World) : (Instr.index 43 (.agg #[.int .i64 6, .int .i64 8, .int .i64 9]) (.int .i64 i)).run Try.prog w = .ok (.int .i64 (orders i)) w := by
  match i, hi with
  | 0, _ => exact (show (Instr.index 43 (.agg #[.int .i64 6, .int .i64 8, .int .i64 9]) (.int .i64 ((0 : Nat) : Int))).run Try.prog w = .ok (.int .i64 (orders 0)) w by kernel_rfl)
  | 1, _ => exact (show (Instr.index 43 (.agg #[.int .i64 6, .int .i64 8, .int .i64 9]) (.int .i64 ((1 : Nat) : Int))).run Try.prog w = .ok (.int .i64 (orders 1)) w by kernel_rfl)
  | 2, _ => exact (show (Instr.index 43 (.agg #[.int .i64 6, .int .i64 8, .int .i64 9]) (.int .i64 ((2 : Nat) : Int))).run Try.prog w = .ok (.int .i64 (orders 2)) w by kernel_rfl)
set_option maxRecDepth 100000 in
set_option maxHeartbeats 3200000 in
theorem heal_walk {B : Nat} (v0 v1 v2 v3 : Value) (w : World) (r0 : Fr.RdV w B boardTy v0) (r1 : Fr.RdV w B (.int .i64) v1) (r2 : Fr.RdV w B (.int .i64) v2) (r3 : Fr.RdV w B (.int .i64) v3) :
    Calls Try.prog 8 #[v0, v1, v2, v3] w fun e w' => e = .returned (.bool true) ∧ Below w.heap.size w w' := by
  obtain ⟨l, rfl, hl⟩ := board_in r0
  obtain ⟨s, rfl⟩ := int_in r1
  obtain ⟨e, rfl⟩ := int_in r2
  obtain ⟨m, rfl⟩ := int_in r3
  clear r0 r1 r2 r3
  have HH := Lib.hid (fun W => halt_calls l hl s e W)
  have hsz : (Try.prog.info? 27).map (·.size) = some l.length := by rw [hl]; exact size_board
  have Z0 := zero_board
  have b0 : Bx 27 w.heap.size l (w.alloc (.cells (Kt.ia .i64 l) 27)) := heap_alloc_new w _
  have hbel : Below w.heap.size w _ := Kt.balloc (Below.refl _ w) (.cells (Kt.ia .i64 l) 27)
  have EG := fun op p q y z w => guard_board op p q y z w
  go_enter Try.func8, Try.ntmps8
  go_wp2_with (refine load_bx rfl 27 (.tmp 4) rfl w.heap.size rfl l b0 Try.underlying27 hsz ?_)
  refine (HH.out _).mono ?_
  rintro en w1 ⟨h, hd, hhl, rfl, hb⟩
  have hsh : (Try.prog.info? 27).map (·.size) = some h.length := by rw [hhl]; exact size_board
  have hb9 : Bx 27 w1.heap.size h (w1.alloc (.cells (Kt.ia .i64 h) 27)) := heap_alloc_new _ _
  replace b0 := (b0.on hb).on (Kt.balloc (Below.refl _ _) (.cells (Kt.ia .i64 h) 27))
  have hgw : w.heap.size ≤ w1.heap.size := (Kt.bthen hbel hb).size
  replace hbel := Kt.balloc (Kt.bthen hbel hb) (.cells (Kt.ia .i64 h) 27)
  have HDD := Lib.hid hd
  clear hb hd
  go_upto_region 2 with (refine store_new rfl 27 (.tmp 9) (.tmp 20) rfl w1.heap.size rfl rfl h rfl _ (by rw [Kt.ia_size, zb_len, hhl]) hsh ?_)
  generalize w1.alloc (.cells (Kt.ia .i64 h) 27) = W at *
  generalize w1.heap.size = g at *
  go_wp2_with fail
  refine (lives_calls _).mono ?_
  rintro en w2 ⟨rfl, hb⟩
  replace b0 := b0.on hb
  replace hb9 := hb9.on hb
  replace hbel := Kt.bthen hbel hb
  clear hb
  cases hh : HDD.out with
  | no _ =>
    have EQ := fun w => ((eq_board l l hl hl).1 rfl w).1
    clear hh
    go_wp2_with (first
      | (refine load_bx_g rfl 27 (.tmp 9) rfl g rfl l hb9 Try.underlying27 hsz ?_)
      | (refine load_bx_g rfl 27 (.tmp 4) rfl w.heap.size rfl l b0 Try.underlying27 hsz ?_))
    refine (lives_calls _).mono ?_
    rintro en w3 ⟨rfl, hb⟩
    go_wp2_with fail
    go_ret
    exact ⟨rfl, Kt.bthen hbel hb⟩
  | yes ho s1 s2 e1 e2 hon =>
    clear hh
    obtain ⟨n, rfl, n1, n2⟩ : ∃ n : Nat, s = n ∧ 1 ≤ n ∧ n ≤ 8 := ⟨s.toNat, by omega, by omega, by omega⟩
    obtain ⟨k, rfl, k1, k2⟩ : ∃ k : Nat, e = k ∧ 1 ≤ k ∧ k < 32 := ⟨e.toNat, by omega, by omega, by omega⟩
    rw [Int.toNat_natCast, Int.toNat_natCast] at *
    have hne : l.set (n * 66 + 2 + k) 2 ≠ l := fun q => by
      have := G_set l (n * 66 + 2 + k) (n * 66 + 2 + k) 2 (by omega)
      rw [q, if_pos rfl, hon] at this
      omega
    have EQ := fun w => ((eq_board (l.set (n * 66 + 2 + k) 2) l hhl hl).2 hne w).1
    have g1 : decide ((n : Int) < 1) = false := decide_eq_false (by omega)
    have g2 : decide (8 < (n : Int)) = false := decide_eq_false (by omega)
    have g3 : decide ((k : Int) < 1) = false := decide_eq_false (by omega)
    have g4 : decide (31 < (k : Int)) = false := decide_eq_false (by omega)
    have n9 : (n : Int) < 9 := by omega
    have k32 : (k : Int) < 32 := by omega
    by_cases hm : m < 0 ∨ (0 ≤ m ∧ 65535 < m)
    · clear ho s1 s2 e1 e2 hon hne n1 n2 k1 k2 HH
      generalize l.set (n * 66 + 2 + k) 2 = h at *
      rcases hm with hm | ⟨hm, hm2⟩
      · go_wp2_with (first
          | (refine load_bx_g rfl 27 (.tmp 9) rfl g rfl h hb9 Try.underlying27 hsh ?_)
          | (refine load_bx_g rfl 27 (.tmp 4) rfl w.heap.size rfl l b0 Try.underlying27 hsz ?_))
        refine (lives_calls _).mono ?_
        rintro en w3 ⟨rfl, hb⟩
        go_wp2_with fail
        go_ret
        exact ⟨rfl, Kt.bthen hbel hb⟩
      · have g5 : decide (m < 0) = false := decide_eq_false (by omega)
        go_wp2_with (first
          | (refine load_bx_g rfl 27 (.tmp 9) rfl g rfl h hb9 Try.underlying27 hsh ?_)
          | (refine load_bx_g rfl 27 (.tmp 4) rfl w.heap.size rfl l b0 Try.underlying27 hsz ?_))
        refine (lives_calls _).mono ?_
        rintro en w3 ⟨rfl, hb⟩
        go_wp2_with fail
        go_ret
        exact ⟨rfl, Kt.bthen hbel hb⟩
    · have HL := Lib.hid (Heals.mk hl ho n1 n2 k1 k2 hon (by omega : 0 ≤ m) (by omega : m ≤ 65535))
      have g5 : decide (m < 0) = false := decide_eq_false (by omega)
      have g6 : decide (65535 < m) = false := decide_eq_false (by omega)
      clear ho s1 s2 e1 e2 hon hne n1 n2 k1 k2 hm HH HDD
      rw [HL.out.start] at *
      have HRING := Lib.hid (fun z c q => HL.out.ring (z := z) (c := c) (q := q))
      have HSTEP := Lib.hid (fun i hi z c q => HL.out.step (z := z) (c := c) (q := q) i hi)
      have HLAST := HL.out.last
      have hlens := fun i => put_len l hl n (by have := HL.out.n2; omega) _ (way_len (at_ l n) (at_len l hl n (by have := HL.out.n2; omega)) k m i)
      have HLENS := Lib.hid hlens
      have hn9 := HL.out.n2
      have hk9 := HL.out.k2
      have HNK := Lib.hid (And.intro hn9 hk9)
      generalize hy : (fun i => put l n (way (at_ l n) k m i)) = Y at *
      have hy' : ∀ i, put l n (way (at_ l n) k m i) = Y i := fun i => by rw [← hy]
      simp only [hy'] at *
      clear hy hy' hlens hn9 hk9
      have HD9 := Lib.hid (fun W => do_calls (Y 0) hhl 9 n k 0 W)
      unfold cmdV at *
      have h10 : Bx 27 w2.heap.size l (w2.alloc (.cells (Kt.ia .i64 l) 27)) := heap_alloc_new _ _
      have h9 := hb9.on (Kt.balloc (Below.refl _ _) (.cells (Kt.ia .i64 l) 27))
      have hbel2 := Kt.balloc hbel (.cells (Kt.ia .i64 l) 27)
      have hg9 : g < w2.heap.size := hb9.lt
      have hsw : w.heap.size ≤ w2.heap.size := hbel.size
      go_upto_region 5 with (first
        | (refine load_bx_g rfl 27 (.tmp 9) rfl g rfl (Y 0) hb9 Try.underlying27 hsh ?_)
        | (refine load_bx_g rfl 27 (.tmp 4) rfl w.heap.size rfl l b0 Try.underlying27 hsz ?_)
        | (refine load_bx rfl 27 (.tmp 4) rfl w.heap.size rfl l b0 Try.underlying27 hsz ?_)
        | (refine store_new rfl 27 (.tmp 10) (.tmp 53) rfl w2.heap.size rfl rfl l rfl _ (by rw [Kt.ia_size, zb_len, hl]) hsz ?_))
      generalize w2.alloc (.cells (Kt.ia .i64 l) 27) = W3 at *
      generalize w2.heap.size = gq at *
      have c0 := h10.cell (n * 66 + 34 + k) (by have := HNK.out.1; have := HNK.out.2; omega)
      have q0 := h10.free (n * 66 + 34 + k)
      have HU := Lib.hid ((Upd.refl gq W3).set (n * 66 + 34 + k) (.int .i64 m))
      have h10' := h10.set (n * 66 + 34 + k) m
      rw [← HLAST] at h10'
      have h9' := HU.out.box h9 (by omega)
      have hbel3 := HU.out.to hbel2 hsw
      clear EQ g1 g2 g3 g4 g5 g6 HLAST hb9 b0 hbel h10 h9 hbel2
      go_upto_region 6 with (fail)
      generalize W3.setCell ⟨gq, n * 66 + 34 + k, none⟩ (.int .i64 m) = W5 at *
      clear HU c0 q0
      go_wp2_with (refine load_bx rfl 27 (.tmp 9) rfl g rfl (Y 0) h9' Try.underlying27 hsh ?_)
      refine (HD9.out _).mono ?_
      rintro en w6 ⟨z, c, q, hd, rfl, hb⟩
      obtain rfl := HRING.out z c q hd
      have hzl : z.length = 594 := hd.len hhl
      have hsz2 : (Try.prog.info? 27).map (·.size) = some z.length := by rw [hzl]; exact size_board
      have H0 := Lib.hid (And.intro ((h9'.on hb).on (Kt.balloc (Below.refl _ _) (.cells (Kt.ia .i64 z) 27))) (And.intro ((h10'.on hb).on (Kt.balloc (Below.refl _ _) (.cells (Kt.ia .i64 z) 27))) (Kt.balloc (Kt.bthen hbel3 hb) (.cells (Kt.ia .i64 z) 27))))
      clear hb hd h9' h10' hbel3 HRING HD9
      have HGG := Lib.hid (And.intro hg9 hsw)
      have HGW := Lib.hid hgw
      clear hg9 hsw hgw
      go_wp2_with (refine store_new rfl 27 (.tmp 11) (.tmp 67) rfl w6.heap.size rfl rfl z rfl _ (by rw [Kt.ia_size, zb_len, hzl]) hsz2 ?_)
      clear Z0 hsz2 hzl
      go_loopw [73] (fun ii wr => ∃ i : Nat, Hid (i ≤ 3) ∧ ii = .int .i64 i ∧ Hid (Bx 27 g (Y i) wr ∧ Bx 27 gq (Y 3) wr ∧ Below w.heap.size w wr)) (fun ii _ => 3 - (intOf ii).toNat)
      case atStart => exact ⟨0, Lib.hid (by omega), rfl, H0⟩
      case round =>
        clear H0
        obtain ⟨i, HI, rfl, H0⟩ := hrel
        by_cases hi : i < 3
        · have hi' : (i : Int) < 3 := by omega
          have ix := fun W => idx3 i hi W
          have h9 := H0.out.1
          have hly := HLENS.out i
          have hsy : (Try.prog.info? 27).map (·.size) = some (Y i).length := by rw [hly]; exact size_board
          have HDK := Lib.hid (fun W => do_calls (Y i) hly (orders i) n k m W)
          have HST := Lib.hid (HSTEP.out i hi)
          unfold cmdV at *
          generalize orders i = oo at *
          go_wp2_with (refine load_bx rfl 27 (.tmp 9) rfl g rfl (Y i) h9 Try.underlying27 hsy ?_)
          refine (HDK.out _).mono ?_
          rintro en w7 ⟨z, c, q, hd, rfl, hb⟩
          obtain ⟨rfl, rfl⟩ := HST.out z c q hd
          have h9b := H0.out.1.on hb
          have HQ := Lib.hid (And.intro (H0.out.2.1.on hb) (Kt.bthen H0.out.2.2 hb))
          have hly2 := HLENS.out (i + 1)
          have hll : (Y i).length = (Y (i + 1)).length := by rw [hly, hly2]
          have hsy2 : (Try.prog.info? 27).map (·.size) = some (Y (i + 1)).length := by rw [hly2]; exact size_board
          clear hd hb h9 H0 ix
          go_wp2_with (refine store_bx rfl 27 (.tmp 9) (.tmp 84) rfl g rfl (Y (i + 1)) rfl (Y i) h9b hll hsy2 ?_
                       intro W2 hW2 hU2)
          exact ⟨⟨i + 1, Lib.hid hi, rfl, Lib.hid ⟨hW2, hU2.box HQ.out.1 (by have := HGG.out.1; omega), hU2.to HQ.out.2 HGW.out⟩⟩, next_i hi⟩
        · obtain rfl : i = 3 := by have := HI.out; omega
          have h9 := H0.out.1
          have h10 := H0.out.2.1
          have hly := HLENS.out 3
          have hsy : (Try.prog.info? 27).map (·.size) = some (Y 3).length := by rw [hly]; exact size_board
          have EQ := fun w => ((eq_board (Y 3) (Y 3) hly hly).1 rfl w).1
          go_wp2_with (first
            | (refine load_bx rfl 27 (.tmp 9) rfl g rfl (Y 3) h9 Try.underlying27 hsy ?_)
            | (refine load_bx rfl 27 (.tmp 10) rfl gq rfl (Y 3) h10 Try.underlying27 hsy ?_))
          go_ret
          exact ⟨rfl, H0.out.2.2⟩
end Go.Proofs.Ytmnfajndklmpbaa
