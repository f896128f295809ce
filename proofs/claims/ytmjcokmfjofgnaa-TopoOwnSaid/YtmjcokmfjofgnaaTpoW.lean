/- topo: nodes that can be read; valid walked. -/
import Derived.Test.YtmjcokmfjofgnaaTpoR
import Derived.Test.YtmjcokmfjofgnaaTpoP
import Derived.Shelf.Abstract
namespace Go.Proofs.Ytmjcokmfjofgnaa
open Go.RowKit Go.Shelf Go.Proofs.Ytmjcokmfjofgnaa.Rou Go.Proofs.Ytmjcokmfjofgnaa.Tpo
/-- a node, and where its path lies -/
structure Nh where
  A : Option Addr
  c : Nat
  n : Nd
def Nh.cs (x : Nh) : List Value := [.slice x.A x.n.path.length x.c, .int .i64 x.n.kind, .int .i64 x.n.ports, .int .i64 x.n.serial]
def Nh.v (x : Nh) : Value := .agg #[.slice x.A x.n.path.length x.c, .int .i64 x.n.kind, .int .i64 x.n.ports, .int .i64 x.n.serial]
def ncs (l : List Nh) : List Value := l.flatMap Nh.cs
def nds (l : List Nh) : List Nd := l.map Nh.n
def mx : Nat := 140737488355328
/-- what a path may have, that it can be copied -/
def px : Nat := 17592186044416
structure Rn (w : World) (x : Nh) : Prop where
  way : Wy w x.A x.c x.n.path
  le : x.n.path.length ≤ mx
theorem Rn.on {w w' : World} {x : Nh} (h : Rn w x) (hb : Below w.heap.size w w') : Rn w' x := ⟨h.way.on hb, h.le⟩
/-- a tree that can be read -/
structure Tr (w : World) (V : Value) (l : List Nh) : Prop where
  ar : Kt.Ar w V 4 l.length (ncs l)
  rn : ∀ x ∈ l, Rn w x
theorem Tr.on {w w' : World} {V : Value} {l : List Nh} (h : Tr w V l) (hb : Below w.heap.size w w') : Tr w' V l := ⟨h.ar.on hb, fun x hx => (h.rn x hx).on hb⟩
theorem ncs_len (l : List Nh) : (ncs l).length = l.length * 4 := by
  induction l with
  | nil => rfl
  | cons x l ih =>
    show (x.cs ++ ncs l).length = _
    rw [List.length_append, ih, List.length_cons]
    show 4 + _ = _
    omega
theorem ncs_app (a b : List Nh) : ncs (a ++ b) = ncs a ++ ncs b := by simp [ncs]
theorem ncs_one (l : List Nh) : ∀ u ∈ ncs l, u.oneCell' = true := by
  intro u hu
  simp only [ncs, List.mem_flatMap] at hu
  obtain ⟨x, _, hx⟩ := hu
  simp only [Nh.cs, List.mem_cons, List.not_mem_nil, or_false] at hx
  rcases hx with rfl | rfl | rfl | rfl <;> rfl
theorem ncs_at : ∀ (l : List Nh) (k : Nat) (h : k < l.length) (i : Nat), i < 4 → (ncs l)[k * 4 + i]? = (l[k].cs)[i]?
  | x :: l, 0, _, i, hi => by
    show (x.cs ++ ncs l)[0 * 4 + i]? = x.cs[i]?
    rw [List.getElem?_append_left (by show 0 * 4 + i < 4; omega)]
    congr 1; omega
  | x :: l, k + 1, h, i, hi => by
    show (x.cs ++ ncs l)[(k + 1) * 4 + i]? = _
    rw [List.getElem?_append_right (by show 4 ≤ _; omega)]
    rw [show (k + 1) * 4 + i - x.cs.length = k * 4 + i by show (k + 1) * 4 + i - 4 = _; omega]
    exact ncs_at l k (Nat.lt_of_succ_lt_succ h) i hi
/-- the cells of the k-th node -/
theorem Tr.node {w : World} {V : Value} {l : List Nh} (h : Tr w V l) (k : Nat) (hk : k < l.length) : ∃ b o c, V = .slice (some ⟨b, o, none⟩) l.length c ∧ b < w.heap.size ∧
    w.cell? ⟨b, o + k * 4, none⟩ = some (.slice l[k].A l[k].n.path.length l[k].c) ∧ w.cell? ⟨b, o + k * 4 + 1, none⟩ = some (.int .i64 l[k].n.kind) ∧ w.cell? ⟨b, o + k * 4 + 2, none⟩ = some (.int .i64 l[k].n.ports) ∧ w.cell? ⟨b, o + k * 4 + 3, none⟩ = some (.int .i64 l[k].n.serial) := by
  obtain ⟨A, c, e, _, hx⟩ := h.ar.form
  obtain ⟨b, o, rfl, hb, hc⟩ := hx (by omega)
  have hl := ncs_len l
  have key : ∀ i, i < 4 → w.cell? ⟨b, o + (k * 4 + i), none⟩ = (l[k].cs)[i]? := fun i hi => by
    rw [hc (k * 4 + i) (by omega), ← ncs_at l k hk i hi, List.getElem?_eq_getElem]
  exact ⟨b, o, c, e, hb, key 0 (by decide), key 1 (by decide), key 2 (by decide), key 3 (by decide)⟩
theorem Tr.nth {w : World} {V : Value} {l : List Nh} (h : Tr w V l) (k : Nat) (hk : k < l.length) : Rn w l[k] := h.rn _ (List.getElem_mem hk)
theorem chk_ok' (l : List Int) : chk l = 0 ↔ okPath l = true := by
  unfold okPath
  simp only [Bool.and_eq_true, decide_eq_true_eq, List.all_eq_true]
  constructor
  · intro h
    obtain ⟨h1, h2, h3⟩ := chk_zero h
    refine ⟨⟨h1, h2⟩, fun x hx => ?_⟩
    obtain ⟨j, hj, rfl⟩ := List.mem_iff_getElem.1 hx
    exact h3 j hj
  · rintro ⟨⟨h1, h2⟩, h3⟩
    exact chk_ok (by omega) (by omega) (fun j hj => h3 _ (List.getElem_mem hj))
set_option maxHeartbeats 1600000 in
theorem valid_calls (x : Nh) (w : World) (h : Rn w x) : Calls Try.prog 21 #[x.v] w fun e w' => e = .returned (.bool (validB x.n)) ∧ Below w.heap.size w w' := by
  obtain ⟨A, c, n⟩ := x
  obtain ⟨p, kd, po, se⟩ := n
  obtain ⟨hw, hle⟩ := h
  dsimp only at hw hle
  have HB := Lib.hid (Kt.balloc (Below.refl _ w) (.cells #[.slice A p.length c, .int .i64 kd, .int .i64 po, .int .i64 se] 25))
  have HN := Lib.hid (heap_alloc_new w (.cells #[.slice A p.length c, .int .i64 kd, .int .i64 po, .int .i64 se] 25))
  have HC := Lib.hid (rcheck_calls p A c _ (hw.on HB.out))
  have HV : Hid (validB ⟨p, kd, po, se⟩ = (okPath p && decide (1 ≤ kd) && decide (kd ≤ 3) && (if kd = 1 then decide (1 ≤ po) && decide (po ≤ 15) && decide (p.length < 6) else decide (po = 0)))) := Lib.hid rfl
  have q := fun i => cell_of_row _ _ i _ _ _ HN.out
  unfold Nh.v
  dsimp only
  by_cases h0 : chk p = 0
  · rw [h0] at HC
    rw [(chk_ok' p).1 h0, Bool.true_and] at HV
    clear h0 hw hle
    by_cases h1 : 1 ≤ kd
    · rw [decide_eq_true h1, Bool.true_and] at HV
      by_cases h2 : kd ≤ 3
      · rw [decide_eq_true h2, Bool.true_and] at HV
        by_cases h3 : kd = 1
        · rw [if_pos h3] at HV
          subst h3
          by_cases h4 : 1 ≤ po
          · rw [decide_eq_true h4, Bool.true_and] at HV
            by_cases h5 : po ≤ 15
            · rw [decide_eq_true h5, Bool.true_and] at HV
              have HL : Hid (decide ((p.length : Int) < 6) = decide (p.length < 6)) := Lib.hid (decide_eq_decide.2 (by omega))
              go_enter Try.func21, Try.ntmps21
              go_wp2_with fail
              refine HC.out.mono ?_; rintro e w1 ⟨rfl, rfl⟩
              go_wp2_with fail
              go_ret
              exact ⟨by rw [HV.out, ← HL.out]; rfl, HB.out⟩
            · rw [decide_eq_false h5, Bool.false_and] at HV
              go_enter Try.func21, Try.ntmps21
              go_wp2_with fail
              refine HC.out.mono ?_; rintro e w1 ⟨rfl, rfl⟩
              go_wp2_with fail
              go_ret
              exact ⟨by rw [HV.out]; rfl, HB.out⟩
          · rw [decide_eq_false h4, Bool.false_and, Bool.false_and] at HV
            go_enter Try.func21, Try.ntmps21
            go_wp2_with fail
            refine HC.out.mono ?_; rintro e w1 ⟨rfl, rfl⟩
            go_wp2_with fail
            go_ret
            exact ⟨by rw [HV.out]; rfl, HB.out⟩
        · rw [if_neg h3] at HV
          have h3' : (kd == 1) = false := beq_eq_false_iff_ne.2 h3
          have HL : Hid ((po == 0) = decide (po = 0)) := Lib.hid rfl
          clear h3
          go_enter Try.func21, Try.ntmps21
          go_wp2_with fail
          refine HC.out.mono ?_; rintro e w1 ⟨rfl, rfl⟩
          go_wp2_with fail
          go_ret
          exact ⟨by rw [HV.out, ← HL.out]; rfl, HB.out⟩
      · rw [decide_eq_false h2, Bool.false_and] at HV
        go_enter Try.func21, Try.ntmps21
        go_wp2_with fail
        refine HC.out.mono ?_; rintro e w1 ⟨rfl, rfl⟩
        go_wp2_with fail
        go_ret
        exact ⟨by rw [HV.out]; rfl, HB.out⟩
    · rw [decide_eq_false h1, Bool.false_and, Bool.false_and] at HV
      go_enter Try.func21, Try.ntmps21
      go_wp2_with fail
      refine HC.out.mono ?_; rintro e w1 ⟨rfl, rfl⟩
      go_wp2_with fail
      go_ret
      exact ⟨by rw [HV.out]; rfl, HB.out⟩
  · have hv : okPath p = false := by
      cases ho : okPath p
      · rfl
      · exact absurd ((chk_ok' p).2 ho) h0
    rw [hv, Bool.false_and, Bool.false_and, Bool.false_and] at HV
    have h0' : (chk p != 0) = true := by rw [bne_iff_ne]; exact h0
    generalize chk p = E at *
    clear h0 hw hle hv
    go_enter Try.func21, Try.ntmps21
    go_wp2_with fail
    refine HC.out.mono ?_; rintro e w1 ⟨rfl, rfl⟩
    go_wp2_with fail
    go_ret
    exact ⟨by rw [HV.out]; rfl, HB.out⟩
end Go.Proofs.Ytmjcokmfjofgnaa
