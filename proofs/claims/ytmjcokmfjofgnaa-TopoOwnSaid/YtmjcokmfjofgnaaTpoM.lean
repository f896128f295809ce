/- topo: copied, Find, Plug walked. -/
import Derived.Test.YtmjcokmfjofgnaaTpoC
import Derived.Test.YtmjcokmfjofgnaaTpoI
namespace Go.Proofs.Ytmjcokmfjofgnaa
open Go.RowKit Go.Shelf Go.Proofs.Ytmjcokmfjofgnaa.Rou Go.Proofs.Ytmjcokmfjofgnaa.Tpo
theorem lt_of_row0 {w : World} {b : Nat} {cs : Array Value} {t : TypeId} (h : w.heap[b]? = some (.cells cs t (0, 0))) : b < w.heap.size := (Array.getElem?_eq_some_iff.1 h).1
/-- a node whose path lies in a block of its own, from B on -/
structure On (w : World) (B : Nat) (x : Nh) : Prop where
  own : Kt.Sl w B 3 1 (.slice x.A x.n.path.length x.c) x.n.path.length (inv x.n.path)
  le : x.n.path.length ≤ mx
theorem On.rn {w : World} {B : Nat} {x : Nh} (h : On w B x) : Rn w x := ⟨Kt.Ar.of_sl h.own, h.le⟩
theorem On.on {w w' : World} {B : Nat} {x : Nh} (h : On w B x) (hb : Below w.heap.size w w') : On w' B x := ⟨h.own.on hb, h.le⟩
theorem On.mono {w : World} {B B' : Nat} {x : Nh} (h : On w B x) (hb : B' ≤ B) : On w B' x := ⟨h.own.mono hb, h.le⟩
/-- what else is stored: but for one block of nodes all is as it was -/
theorem On.keep {w w' : World} {B : Nat} {x : Nh} (h : On w B x) {v : Value} (hk : ∀ k, k < w.heap.size → v.ownBlock ≠ some k → w'.heap[k]? = w.heap[k]?) {n : Nat} {xs : List Value} {B' : Nat} (hv : Kt.Sl w B' 25 4 v n xs) : On w' B x := by
  refine ⟨h.own.keep fun k hk1 => hk k (h.own.lt k hk1).2 fun hk2 => ?_, h.le⟩
  rcases h.own.2 with ⟨e, _⟩ | ⟨g, o, cap, cur, e, _, hg, _⟩
  · rw [e] at hk1; cases hk1
  · rw [e] at hk1
    rcases hv.2 with ⟨e2, _⟩ | ⟨g2, o2, cap2, cur2, e2, _, hg2, _⟩
    · rw [e2] at hk2; cases hk2
    · rw [e2] at hk2
      simp [Value.ownBlock] at hk1 hk2
      subst hk1
      subst hk2
      rw [hg] at hg2
      injection hg2 with q
      injection q with q1 q2
      exact absurd q2 (by decide)
/-- a tree of one's own -/
structure To (w : World) (B : Nat) (V : Value) (l : List Nh) : Prop where
  sl : Kt.Sl w B 25 4 V l.length (ncs l)
  on : ∀ x ∈ l, On w B x
theorem To.tr {w : World} {B : Nat} {V : Value} {l : List Nh} (h : To w B V l) : Tr w V l := ⟨by
  obtain ⟨A, c, rfl, _, _⟩ := h.sl.form
  exact Kt.Ar.of_sl h.sl, fun x hx => (h.on x hx).rn⟩
theorem To.onw {w w' : World} {B : Nat} {V : Value} {l : List Nh} (h : To w B V l) (hb : Below w.heap.size w w') : To w' B V l := ⟨h.sl.on hb, fun x hx => (h.on x hx).on hb⟩
theorem To.mono {w : World} {B B' : Nat} {V : Value} {l : List Nh} (h : To w B V l) (hb : B' ≤ B) : To w B' V l := ⟨h.sl.mono hb, fun x hx => (h.on x hx).mono hb⟩
theorem To.nil (w : World) (B : Nat) : To w B (.slice none 0 0) [] := ⟨Kt.Sl.nil _ _ _ _, fun x hx => (by cases hx)⟩
theorem box2n (w : World) (c1 c2 : Array Value) (t1 t2 : TypeId) :
    ((w.alloc (.cells c1 t1)).alloc (.cells c2 t2)).heap[w.heap.size]? = some (.cells c1 t1 (0, 0)) ∧
    ((w.alloc (.cells c1 t1)).alloc (.cells c2 t2)).heap[w.heap.size + 1]? = some (.cells c2 t2 (0, 0)) ∧
    Below w.heap.size w ((w.alloc (.cells c1 t1)).alloc (.cells c2 t2)) := by
  have b1 := Kt.balloc (Below.refl _ (w.alloc (.cells c1 t1))) (.cells c2 t2)
  have r1 := heap_alloc_new w (.cells c1 t1)
  have r2 := heap_alloc_new (w.alloc (.cells c1 t1)) (.cells c2 t2)
  rw [World.size_alloc] at r2
  exact ⟨Kt.row_on b1 r1, r2, Kt.balloc (Kt.balloc (Below.refl _ w) _) _⟩
set_option maxHeartbeats 1600000 in
theorem copied_calls (x : Nh) (w : World) (hx : Rn w x) (hpx : x.n.path.length ≤ px) : Calls Try.prog 24 #[x.v] w fun e w' => ∃ A c, e = .returned (⟨A, c, x.n⟩ : Nh).v ∧ On w' w.heap.size ⟨A, c, x.n⟩ ∧ Below w.heap.size w w' := by
  obtain ⟨A, c, n⟩ := x
  obtain ⟨p, kd, po, se⟩ := n
  have hle := hx.le
  dsimp only at hle
  have HW := Lib.hid hx.way
  have HL := Lib.hid hle
  obtain ⟨r1, r2, b2⟩ := box2n w #[.slice A p.length c, .int .i64 kd, .int .i64 po, .int .i64 se] #[.slice none 0 0, .int .i64 0, .int .i64 0, .int .i64 0] 25 25
  have HC := Lib.hid (icl_calls (.slice A p.length c) p.length (inv p) _ (HW.out.on b2) (inv_one p) hpx)
  have HB2 := Lib.hid b2
  have HR := Lib.hid (And.intro r1 r2)
  unfold Nh.v
  dsimp only
  clear hx hle hpx b2 r1 r2
  go_enter Try.func24, Try.ntmps24
  go_wp2_with fail
  refine HC.out.mono ?_
  rintro e w1 ⟨A', c', rfl, hs, hb⟩
  have HS : Hid (Kt.Sl w1 (w.heap.size + 1 + 1) 3 1 (.slice A' p.length c') p.length (inv p)) := Lib.hid (by
    rw [World.size_alloc, World.size_alloc] at hs
    exact hs)
  have HB3 := Lib.hid (Kt.bthen HB2.out hb)
  have h1 := Kt.row_on hb HR.out.1
  have h2 := Kt.row_on hb HR.out.2
  have q1 := fun i => cell_of_row _ _ i _ _ _ h1
  have q2 := fun i => cell_of_row _ _ i _ _ _ h2
  have f1 := fun i => frozen_of_row _ _ i _ _ h1
  have f2 := fun i => frozen_of_row _ _ i _ _ h2
  clear hs hb HR HC HB2
  have HH := Lib.hid h2
  clear h1 h2
  go_wp2_with fail
  change bodyPost _ _ _ _ _ ((w1.setCells w.heap.size 0 [.slice A' p.length c']).setCells (w.heap.size + 1) 0 [.slice A' p.length c', .int .i64 kd, .int .i64 po, .int .i64 se])
  have hrow := Kt.fill [.slice A' p.length c', .int .i64 kd, .int .i64 po, .int .i64 se] ((Kt.setCells_other [.slice A' p.length c'] w.heap.size 0 w1 (w.heap.size + 1) (by omega)).trans HH.out) rfl
  have hsl := (HS.out.sets [.slice A' p.length c'] w.heap.size 0 (fun k hk => by have := (HS.out.lt k hk).1; omega)).sets [.slice A' p.length c', .int .i64 kd, .int .i64 po, .int .i64 se] (w.heap.size + 1) 0 (fun k hk => by have := (HS.out.lt k hk).1; omega)
  have hbel : Below w.heap.size w ((w1.setCells w.heap.size 0 [.slice A' p.length c']).setCells (w.heap.size + 1) 0 [.slice A' p.length c', .int .i64 kd, .int .i64 po, .int .i64 se]) := Kt.below_setCells _ _ _ _ _ (Nat.le_succ _) (Kt.below_setCells _ _ _ _ _ (Nat.le_refl _) HB3.out)
  generalize (w1.setCells w.heap.size 0 [.slice A' p.length c']).setCells (w.heap.size + 1) 0 [.slice A' p.length c', .int .i64 kd, .int .i64 po, .int .i64 se] = W' at *
  have hq := fun i => cell_of_row _ _ i _ _ _ hrow
  exact bodyPost_ret (v := .agg #[.slice A' p.length c', .int .i64 kd, .int .i64 po, .int .i64 se]) (by simp [results, Try.results24, go_sem, hq]) rfl ⟨A', c', rfl, ⟨hsl.mono (by omega), HL.out⟩, hbel⟩
def zn : Nh := ⟨none, 0, ⟨[], 0, 0, 0⟩⟩
set_option maxHeartbeats 1600000 in
theorem tfind_calls (p : List Int) (A : Option Addr) (c : Nat) (l : List Nh) (V : Value) (w : World) (hv : Tr w V l) (hl : l.length ≤ mx) (hp : Wy w A c p) (hm : p.length ≤ mx) (hs : ∀ y ∈ nds l, y.path.length ≤ px) :
    Calls Try.prog 14 #[V, .slice A p.length c] w fun e w' => ∃ y ok, e = .returned (.tuple #[y.v, .bool ok]) ∧ ok = (nds l).any (eqB p) ∧ (ok = true → y.n ∈ nds l ∧ y.n.path = p) ∧ (ok = false → y = zn) ∧ On w' w.heap.size y ∧ Below w.heap.size w w' := by
  obtain ⟨A0, c0, rfl, _, _⟩ := hv.ar.form
  have hal := Kt.balloc (Below.refl _ w) (.cells #[.slice none 0 0, .int .i64 0, .int .i64 0, .int .i64 0] 25)
  have hrow := heap_alloc_new w (.cells #[.slice none 0 0, .int .i64 0, .int .i64 0, .int .i64 0] 25)
  have HF := Lib.hid (find_calls p A c l (.slice A0 l.length c0) _ (hv.on hal) hl (hp.on hal) hm)
  have HV := Lib.hid hv
  have HB := Lib.hid hal
  have HR := Lib.hid hrow
  have HPX := Lib.hid hs
  clear hv hl hp hm hal hrow hs
  go_enter Try.func14, Try.ntmps14
  go_wp2_with fail
  refine HF.out.mono ?_
  rintro e w1 ⟨r, rfl, hr, hb⟩
  have HR1 := Lib.hid (Kt.row_on hb HR.out)
  have HB1 := Lib.hid (Kt.bthen HB.out hb)
  have HA : Hid (decide (0 ≤ r) = (nds l).any (eqB p)) := Lib.hid (by
    rw [Bool.eq_iff_iff, decide_eq_true_iff, List.any_eq_true]; exact first_mem hr)
  clear hb HF HR HB
  rcases hr with ⟨rfl, _⟩ | ⟨k, rfl, ⟨hk, hpk⟩, _⟩
  · have q1 := fun i => cell_of_row _ _ i _ _ _ HR1.out
    have f1 := fun i => frozen_of_row _ _ i _ _ HR1.out
    go_wp2_with fail
    change bodyPost _ _ _ _ _ (w1.setCells w.heap.size 0 [.slice none 0 0, .int .i64 0, .int .i64 0, .int .i64 0])
    have hrow := Kt.fill [.slice none 0 0, .int .i64 0, .int .i64 0, .int .i64 0] HR1.out rfl
    have hbel : Below w.heap.size w (w1.setCells w.heap.size 0 [.slice none 0 0, .int .i64 0, .int .i64 0, .int .i64 0]) := Kt.below_setCells _ _ _ _ _ (Nat.le_refl _) HB1.out
    generalize w1.setCells w.heap.size 0 [.slice none 0 0, .int .i64 0, .int .i64 0, .int .i64 0] = W' at *
    have hq := fun i => cell_of_row _ _ i _ _ _ hrow
    exact bodyPost_ret (v := .tuple #[.agg #[.slice none 0 0, .int .i64 0, .int .i64 0, .int .i64 0], .bool false]) (by simp [results, Try.results14, go_sem, hq]) rfl ⟨zn, false, rfl, HA.out, fun h => (by cases h), fun _ => rfl, ⟨Kt.Sl.nil _ _ _ _, Nat.zero_le _⟩, hbel⟩
  · rw [nds_len] at hk
    rw [nds_at l k hk] at hpk
    obtain ⟨b, o, cc, hve, hb0, x0, x1, x2, x3⟩ := Tr.node (HV.out.on HB1.out) k hk
    cases hve
    have hrn := (HV.out.nth k hk).on HB1.out
    have HM : Hid ((l[k]).n ∈ nds l) := Lib.hid (mem_nds.2 ⟨_, List.getElem_mem hk, rfl⟩)
    have ek : (k : Int) < l.length := by omega
    have ek0 : ¬ (k : Int) < 0 := by omega
    generalize l[k] = x at *
    obtain ⟨Ax, cx, n⟩ := x
    obtain ⟨pp, kd, po, se⟩ := n
    dsimp only at x0 x1 x2 x3
    have HC := Lib.hid (copied_calls ⟨Ax, cx, ⟨pp, kd, po, se⟩⟩ w1 hrn (HPX.out _ HM.out))
    have HP := Lib.hid (of_decide_eq_true hpk)
    unfold Nh.v at HC
    dsimp only at HC
    clear hrn hpk hk
    go_wp2_with fail
    refine HC.out.mono ?_
    rintro e w2 ⟨A2, c2, rfl, hon, hb⟩
    have HR2 := Lib.hid (Kt.row_on hb HR1.out)
    have HB2 := Lib.hid (Kt.bthen HB1.out hb)
    have HON := Lib.hid hon
    have HSZ := Lib.hid (lt_of_row0 HR1.out)
    have q1 := fun i => cell_of_row _ _ i _ _ _ HR2.out
    have f1 := fun i => frozen_of_row _ _ i _ _ HR2.out
    clear hb hon HC x0 x1 x2 x3 HR1 HB1
    go_wp2_with fail
    change bodyPost _ _ _ _ _ (w2.setCells w.heap.size 0 [.slice A2 pp.length c2, .int .i64 kd, .int .i64 po, .int .i64 se])
    have hrow := Kt.fill [.slice A2 pp.length c2, .int .i64 kd, .int .i64 po, .int .i64 se] HR2.out rfl
    have hbel : Below w.heap.size w (w2.setCells w.heap.size 0 [.slice A2 pp.length c2, .int .i64 kd, .int .i64 po, .int .i64 se]) := Kt.below_setCells _ _ _ _ _ (Nat.le_refl _) HB2.out
    have hsl := HON.out.own.sets [.slice A2 pp.length c2, .int .i64 kd, .int .i64 po, .int .i64 se] w.heap.size 0 (fun k hk => by have := (HON.out.own.lt k hk).1; have := HSZ.out; omega)
    generalize w2.setCells w.heap.size 0 [.slice A2 pp.length c2, .int .i64 kd, .int .i64 po, .int .i64 se] = W' at *
    have hq := fun i => cell_of_row _ _ i _ _ _ hrow
    refine bodyPost_ret (v := .tuple #[.agg #[.slice A2 pp.length c2, .int .i64 kd, .int .i64 po, .int .i64 se], .bool true]) (by simp [results, Try.results14, go_sem, hq]) rfl ⟨⟨A2, c2, ⟨pp, kd, po, se⟩⟩, true, rfl, ?_, fun _ => ⟨HM.out, HP.out⟩, fun h => (by cases h), ⟨hsl.mono (Nat.le_of_lt HSZ.out), HON.out.le⟩, hbel⟩
    rw [← HA.out]
    exact (decide_eq_true (by omega)).symm
end Go.Proofs.Ytmjcokmfjofgnaa
