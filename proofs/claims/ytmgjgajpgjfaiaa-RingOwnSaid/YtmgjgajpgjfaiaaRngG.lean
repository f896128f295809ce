/- The walks of package ring: a ring in a box beside two lists; Play, ringLives. -/
import Derived.Test.YtmgjgajpgjfaiaaRngF
namespace Go.Proofs.Ytmgjgajpgjfaiaa
open Go.RowKit
theorem infoU : (Try.prog.info? 33).map (fun i => (i.zero, i.size, i.bytes)) = some (some (.int .u64 0), 1, 8) := by kernel_rfl
def Apart (u v : Value) : Prop := ∀ k, u.ownBlock = some k → v.ownBlock ≠ some k
def Off (u : Value) (b : Nat) : Prop := ∀ k, u.ownBlock = some k → k ≠ b
def boxed (C : Value) (r : Rg) : List Value := [C, .int .i64 r.pa, .int .i64 r.pb, .int .i64 r.ga, .int .i64 r.gb, .int .i64 r.sn]
/-- the ring r in the box b, its cells and the words of two lists each in a block of its own, from B on -/
structure PS (B b : Nat) (C : Value) (r : Rg) (o1 : Value) (l1 : List Int) (o2 : Value) (l2 : List Int) (w : World) : Prop where
  row : w.heap[b]? = some (.cells (boxed C r).toArray 27 (0, 0))
  cs : Kt.Sl w B 47 3 C r.cs.length (cvs r.cs)
  s1 : Kt.Sl w B 33 1 o1 l1.length (us l1)
  s2 : Kt.Sl w B 33 1 o2 l2.length (us l2)
  oc : Off C b
  of1 : Off o1 b
  of2 : Off o2 b
  c1 : Apart C o1
  c2 : Apart C o2
  a12 : Apart o1 o2
section
variable {B b : Nat} {C : Value} {r : Rg} {o1 o2 : Value} {l1 l2 : List Int} {w w' : World}
theorem Apart.symm {u v : Value} (h : Apart u v) : Apart v u := fun k hk h2 => h k h2 hk
theorem PS.on (h : PS B b C r o1 l1 o2 l2 w) (hb : Below w.heap.size w w') : PS B b C r o1 l1 o2 l2 w' :=
  ⟨Kt.row_on hb h.row, h.cs.on hb, h.s1.on hb, h.s2.on hb, h.oc, h.of1, h.of2, h.c1, h.c2, h.a12⟩
theorem PS.alloc (h : PS B b C r o1 l1 o2 l2 w) (o : Obj) : PS B b C r o1 l1 o2 l2 (w.alloc o) := h.on (Kt.balloc (Below.refl _ w) o)
theorem PS.ra (h : PS B b C r o1 l1 o2 l2 w) : RA w (rgV C r) r := ⟨C, rfl, Kt.Ar.of_sl h.cs⟩
theorem PS.swap (h : PS B b C r o1 l1 o2 l2 w) : PS B b C r o2 l2 o1 l1 w := ⟨h.row, h.cs, h.s2, h.s1, h.oc, h.of2, h.of1, h.c2, h.c1, h.a12.symm⟩
theorem PS.app (h : PS B b C r o1 l1 o2 l2 w) {v : Value} {x : Int} (hs : Kt.Sl w' B 33 1 v (l1.length + 1) (us l1 ++ [.int .u64 x])) (hk : ∀ k, k < w.heap.size → o1.ownBlock ≠ some k → w'.heap[k]? = w.heap[k]?)
    (hl : ∀ k, v.ownBlock = some k → o1.ownBlock = some k ∨ w.heap.size ≤ k) : PS B b C r v (l1 ++ [x]) o2 l2 w' := by
  have hlt := (Array.getElem?_eq_some_iff.1 h.row).1
  refine ⟨(hk b hlt (fun e => h.of1 b e rfl)).trans h.row, h.cs.keep fun k hc => hk k (h.cs.lt k hc).2 (h.c1 k hc), ?_, h.s2.keep fun k hc => hk k (h.s2.lt k hc).2 (h.a12.symm k hc), h.oc, ?_, h.of2, ?_, h.c2, ?_⟩
  · have e : us (l1 ++ [x]) = us l1 ++ [.int .u64 x] := by simp [us]
    rw [e, List.length_append]; exact hs
  · intro k hv
    rcases hl k hv with h1 | h1
    · exact h.of1 k h1
    · omega
  · intro k hc hv
    rcases hl k hv with h1 | h1
    · exact h.c1 k hc h1
    · have := (h.cs.lt k hc).2; omega
  · intro k hv h2
    rcases hl k hv with h1 | h1
    · exact h.a12 k h1 h2
    · have := (h.s2.lt k h2).2; omega
theorem PS.store (h : PS B b C r o1 l1 o2 l2 w) {C' : Value} {r' : Rg} (hb : Below w.heap.size w w') (hs : Kt.Sl w' w.heap.size 47 3 C' r'.cs.length (cvs r'.cs)) (hB : B ≤ w.heap.size) : PS B b C' r' o1 l1 o2 l2 (w'.setCells b 0 (boxed C' r')) := by
  have h' := h.on hb
  have hlt := (Array.getElem?_eq_some_iff.1 h.row).1
  have hC : ∀ k, C'.ownBlock = some k → w.heap.size ≤ k := fun k hk => (hs.lt k hk).1
  refine ⟨Kt.fill _ h'.row rfl, Kt.Sl.sets (hs.mono hB) _ _ _ fun k hk => by have := hC k hk; omega, h'.s1.sets _ _ _ h.of1, h'.s2.sets _ _ _ h.of2, fun k hk => by have := hC k hk; omega, h.of1, h.of2, ?_, ?_, h.a12⟩
  · intro k hk h1; have := hC k hk; have := (h.s1.lt k h1).2; omega
  · intro k hk h1; have := hC k hk; have := (h.s2.lt k h1).2; omega
theorem PS.put (h : PS B b C r o1 l1 o2 l2 w) {C' : Value} {r' : Rg} (hs : Kt.Sl w B 47 3 C' r'.cs.length (cvs r'.cs)) (ho : Off C' b) (a1 : Apart C' o1) (a2 : Apart C' o2) : PS B b C' r' o1 l1 o2 l2 (w.setCells b 0 (boxed C' r')) :=
  ⟨Kt.fill _ h.row rfl, hs.sets _ _ _ ho, h.s1.sets _ _ _ h.of1, h.s2.sets _ _ _ h.of2, ho, h.of1, h.of2, a1, a2, h.a12⟩
end
def tv (t : Int × Int) : List Value := [.int .i64 t.1, .int .u64 t.2]
def tvs (l : List (Int × Int)) : List Value := l.flatMap tv
theorem tvs_len (l : List (Int × Int)) : (tvs l).length = l.length * 2 := by
  induction l with
  | nil => rfl
  | cons c l ih => simp only [tvs, List.flatMap_cons, List.length_append] at ih ⊢; rw [ih]; simp [tv]; omega
theorem tvs_get (l : List (Int × Int)) : ∀ (i j : Nat), j < 2 → (tvs l)[i * 2 + j]? = (l[i]?).bind fun c => (tv c)[j]? := by
  induction l with
  | nil => intro i j _; simp [tvs]
  | cons c l ih =>
    intro i j hj
    have e : tvs (c :: l) = tv c ++ tvs l := rfl
    rw [e, List.getElem?_append]
    have hl : (tv c).length = 2 := rfl
    cases i with
    | zero => rw [if_pos (by omega)]; simp
    | succ i => rw [if_neg (by omega), hl, show (i + 1) * 2 + j - 2 = i * 2 + j by omega, ih i j hj]; simp
/-- the words that were put, how many were got, how many of these are known -/
def turn (m : Nat) (st : List Int × Nat × Nat) (t : Int × Int) : List Int × Nat × Nat :=
  if t.1 = 1 then (if st.1.length < st.2.2 + (m - 1) then (st.1 ++ [t.2], st.2.1, st.2.2) else st)
  else if t.1 = 2 then (if st.2.1 < st.1.length then (st.1, st.2.1 + 1, st.2.2) else st)
  else if t.1 = 3 then (st.1, st.2.1, st.2.1) else st
def turns (m : Nat) (ts : List (Int × Int)) : List Int × Nat × Nat := ts.foldl (turn m) ([], 0, 0)
theorem turns_succ (m : Nat) (ts : List (Int × Int)) (k : Nat) (h : k < ts.length) : turns m (ts.take (k + 1)) = turn m (turns m (ts.take k)) ts[k] := by
  unfold turns
  rw [List.take_succ_eq_append_getElem h, List.foldl_append]; rfl
def InvS (m : Nat) (st : List Int × Nat × Nat) (r : Rg) : Prop := Inv m st.1 st.2.1 st.2.2 r
def PlayRel (w : World) (b m : Nat) (st : List Int × Nat × Nat) (ov : Value) (wr : World) : Prop :=
  ∃ C r out, out = st.1.take st.2.1 ∧ InvS m st r ∧ PS (w.heap.size + 1) b C r ov out (.slice none 0 0) [] wr ∧ wr.heap[w.heap.size]? = some (.cells #[.slice none 0 0, .int .i64 0, .int .i64 0, .int .i64 0, .int .i64 0, .int .i64 0] 27 (0, 0)) ∧ Below w.heap.size w wr ∧ w.heap.size < b
theorem PlayRel.store {w : World} {b m : Nat} {st' : List Int × Nat × Nat} {C C' : Value} {r r' : Rg} {ov : Value} {out : List Int} {wr w3 : World} (hi : InvS m st' r') (ho : out = st'.1.take st'.2.1)
    (hps : PS (w.heap.size + 1) b C r ov out (.slice none 0 0) [] wr) (hr0 : wr.heap[w.heap.size]? = some (.cells #[.slice none 0 0, .int .i64 0, .int .i64 0, .int .i64 0, .int .i64 0, .int .i64 0] 27 (0, 0))) (hbel : Below w.heap.size w wr) (hz : w.heap.size < b)
    (hb : Below wr.heap.size wr w3) (hs : Kt.Sl w3 wr.heap.size 47 3 C' r'.cs.length (cvs r'.cs)) (o : Obj) : PlayRel w b m st' ov ((w3.setCells b 0 (boxed C' r')).alloc o) := by
  have hlt := (Array.getElem?_eq_some_iff.1 hr0).1
  exact ⟨C', r', out, ho, hi, (PS.store hps hb hs (by omega)).alloc o, Kt.otherA _ (Kt.row_on hb hr0) (by omega) o, Kt.balloc (Kt.below_setCells _ _ _ _ _ (by omega) (Kt.bthen hbel hb)) o, hz⟩
theorem PlayRel.store0 {w : World} {b m : Nat} {st' : List Int × Nat × Nat} {C C' : Value} {r r' : Rg} {ov : Value} {out : List Int} {wr w3 : World} (hi : InvS m st' r') (ho : out = st'.1.take st'.2.1)
    (hps : PS (w.heap.size + 1) b C r ov out (.slice none 0 0) [] wr) (hr0 : wr.heap[w.heap.size]? = some (.cells #[.slice none 0 0, .int .i64 0, .int .i64 0, .int .i64 0, .int .i64 0, .int .i64 0] 27 (0, 0))) (hbel : Below w.heap.size w wr) (hz : w.heap.size < b)
    (hb : Below wr.heap.size wr w3) (hs : Kt.Sl w3 wr.heap.size 47 3 C' r'.cs.length (cvs r'.cs)) : PlayRel w b m st' ov (w3.setCells b 0 (boxed C' r')) := by
  have hlt := (Array.getElem?_eq_some_iff.1 hr0).1
  exact ⟨C', r', out, ho, hi, PS.store hps hb hs (by omega), (Kt.setCells_other _ _ _ _ _ (by omega)).trans (Kt.row_on hb hr0), Kt.below_setCells _ _ _ _ _ (by omega) (Kt.bthen hbel hb), hz⟩
theorem PlayRel.keep {w : World} {b m : Nat} {st' : List Int × Nat × Nat} {C : Value} {r : Rg} {ov : Value} {out : List Int} {wr w3 : World} (hi : InvS m st' r) (ho : out = st'.1.take st'.2.1)
    (hps : PS (w.heap.size + 1) b C r ov out (.slice none 0 0) [] wr) (hr0 : wr.heap[w.heap.size]? = some (.cells #[.slice none 0 0, .int .i64 0, .int .i64 0, .int .i64 0, .int .i64 0, .int .i64 0] 27 (0, 0))) (hbel : Below w.heap.size w wr) (hz : w.heap.size < b)
    (hb : Below wr.heap.size wr w3) : PlayRel w b m st' ov w3 :=
  ⟨C, r, out, ho, hi, hps.on hb, Kt.row_on hb hr0, Kt.bthen hbel hb, hz⟩
theorem turns_len (m : Nat) (ts : List (Int × Int)) : ∀ k, k ≤ ts.length → (turns m (ts.take k)).1.length ≤ k
  | 0, _ => by simp [turns]
  | k + 1, h => by
    have ih := turns_len m ts k (by omega)
    rw [turns_succ m ts k (by omega)]
    unfold turn
    split
    · split
      · simp; omega
      · omega
    · split
      · split <;> (try dsimp only) <;> omega
      · split <;> (try dsimp only) <;> omega
/-- a word is appended to the list, and then the ring stored -/
theorem PS.got {B b : Nat} {C C' : Value} {r r' : Rg} {o1 o2 v : Value} {l1 l2 : List Int} {wr w3 w4 : World} {x : Int} (h : PS B b C r o1 l1 o2 l2 wr) (hb : Below wr.heap.size wr w3) (hs : Kt.Sl w3 wr.heap.size 47 3 C' r'.cs.length (cvs r'.cs)) (hB : B ≤ wr.heap.size)
    (hv : Kt.Sl w4 B 33 1 v (l1.length + 1) (us l1 ++ [.int .u64 x])) (hk : ∀ k, k < w3.heap.size → o1.ownBlock ≠ some k → w4.heap[k]? = w3.heap[k]?) (hl : ∀ k, v.ownBlock = some k → o1.ownBlock = some k ∨ w3.heap.size ≤ k) :
    PS B b C r v (l1 ++ [x]) o2 l2 w4 ∧ PS B b C' r' v (l1 ++ [x]) o2 l2 (w4.setCells b 0 (boxed C' r')) := by
  have h1 := (h.on hb).app hv hk hl
  have hlt := (Array.getElem?_eq_some_iff.1 h.row).1
  have hC : ∀ k, C'.ownBlock = some k → wr.heap.size ≤ k ∧ k < w3.heap.size := fun k hk => hs.lt k hk
  refine ⟨h1, h1.put ((hs.keep fun k hc => hk k (hC k hc).2 fun e => ?_).mono hB) (fun k hc => by have := hC k hc; omega) (fun k hc e => ?_) (fun k hc e => ?_)⟩
  · have := (h.s1.lt k e).2; have := hC k hc; omega
  · rcases hl k e with h2 | h2
    · have := (h.s1.lt k h2).2; have := hC k hc; omega
    · have := hC k hc; omega
  · have := (h.s2.lt k e).2; have := hC k hc; omega
def PlayPost (w : World) (out : List Int) (e : Ending) (w' : World) : Prop := ∃ A n c r o, e = .returned (.tuple #[rgV (.slice A n c) r, o, .int .i64 0]) ∧ Kt.Ar w' o 1 out.length (us out) ∧ Below w.heap.size w w'
set_option maxHeartbeats 3200000 in
theorem play_ok (m : Nat) (U : Value) (ts : List (Int × Int)) (w : World) (h2 : 2 ≤ m) (h63 : m ≤ 63) (hU : Kt.Ar w U 2 ts.length (tvs ts)) (hk : ∀ t ∈ ts, t.1 = 1 ∨ t.1 = 2 ∨ t.1 = 3) (hn : ts.length ≤ 1000) :
    Calls Try.prog 18 #[.int .i64 (m + 1 : Nat), U] w (PlayPost w ((turns m ts).1.take (turns m ts).2.1)) := by
  have HK := Lib.hid hk; clear hk
  obtain ⟨A, c, rfl, hcl, hcells⟩ := hU.form
  have HCELLS := Lib.hid hcells; clear hU hcells
  have d1 : (ts.length : Int) ≤ 1000 := by omega
  go_enter Try.func18, Try.ntmps18
  go_wp2_with fail
  refine (new_ok (m + 1) _ (by omega) (by omega)).mono ?_
  rintro en w1 ⟨v, rfl, ⟨C, rfl, hs⟩, hb⟩
  have r0 := Kt.box1 hb
  have hz1 : w.heap.size < w1.heap.size := (Array.getElem?_eq_some_iff.1 r0).1
  have hbel := Kt.bthen (Kt.balloc (Below.refl _ w) _) hb
  have hinv := Inv.new m h2 h63
  generalize newR (m + 1) = r at *
  obtain ⟨CA, Cc, rfl, _, _⟩ := hs.form
  have hs0 := hs.mono (B' := w.heap.size + 1) (by simp)
  have HREL : PlayRel w w1.heap.size m ([], 0, 0) (.slice none 0 0) (w1.alloc (.cells (boxed (.slice CA r.cs.length Cc) r).toArray 27)) :=
    ⟨_, r, [], rfl, hinv, ⟨heap_alloc_new w1 _, hs0.alloc _, Kt.Sl.nil _ _ _ _, Kt.Sl.nil _ _ _ _, fun k hk => by have := (hs.lt k hk).2; omega, fun k hk => by simp [Value.ownBlock] at hk, fun k hk => by simp [Value.ownBlock] at hk, fun k _ hk => by simp [Value.ownBlock] at hk, fun k _ hk => by simp [Value.ownBlock] at hk, fun k _ hk => by simp [Value.ownBlock] at hk⟩, (Below.heap_alloc w1 _ _ hz1).trans r0, Kt.balloc hbel _, hz1⟩
  clear hb r0 hbel hs hs0 hinv
  unfold rgV
  go_wp2_with fail
  go_loopw [9, 33] (fun o i wr => ∃ k : Nat, k ≤ ts.length ∧ i = .int .i64 k ∧ PlayRel w w1.heap.size m (turns m (ts.take k)) o wr) (fun _ i _ => ts.length - (intOf i).toNat)
  case atStart => exact ⟨0, Nat.zero_le _, rfl, HREL⟩
  case round =>
    clear HREL
    obtain ⟨k, hk, rfl, C', r', out, hout, hinv, hps, hr0, hbel, hz0⟩ := hrel
    obtain ⟨OA, oc, rfl, _, _⟩ := hps.s1.form
    obtain ⟨CA', Cc', rfl, _, _⟩ := hps.cs.form
    by_cases hlt : k < ts.length
    · have hst := turns_succ m ts k hlt
      have hkind := HK.out _ (List.getElem_mem hlt)
      obtain ⟨x, hx⟩ : ∃ x, ts[k] = x := ⟨_, rfl⟩
      rw [hx] at hst hkind
      obtain ⟨x1, x2⟩ := x
      obtain ⟨b, o, rfl, hb, hcell⟩ := HCELLS.out (by omega)
      have g : ∀ j (hj : j < 2), wr.cell? ⟨b, o + (k * 2 + j), none⟩ = (tv (x1, x2))[j]? := fun j hj => by
        rw [hbel.cell (p := ⟨b, o + (k * 2 + j), none⟩) hb, hcell (k * 2 + j) (by rw [tvs_len]; omega), ← List.getElem?_eq_getElem, tvs_get _ _ _ hj, List.getElem?_eq_getElem hlt, hx]; rfl
      have g0 : wr.cell? ⟨b, o + k * 2, none⟩ = some (.int .i64 x1) := g 0 (by omega)
      have g1 : wr.cell? ⟨b, o + k * 2 + 1, none⟩ = some (.int .u64 x2) := g 1 (by omega)
      have HX := Lib.hid hx; clear hx hcell g
      obtain ⟨st, hst0⟩ : ∃ st, turns m (ts.take k) = st := ⟨_, rfl⟩
      rw [hst0] at hst hinv hout
      have HST0 := Lib.hid hst0; clear hst0
      obtain ⟨ins, gt, sn⟩ := st
      have hrow := hps.row
      have q := fun i => cell_of_row _ _ i _ _ _ hrow
      have qf := fun i => frozen_of_row _ _ i _ _ hrow
      have hz2 : w1.heap.size < wr.heap.size := (Array.getElem?_eq_some_iff.1 hrow).1
      have hz3 : w.heap.size < wr.heap.size := by omega
      unfold boxed at q hrow
      dsimp only at hkind hst hinv hout
      have HOUT := Lib.hid hout; clear hout
      rcases hkind with rfl | rfl | rfl
      · by_cases hroom : ins.length < sn + (m - 1)
        · have hf := hinv.full
          rw [decide_eq_false (by dsimp only; omega)] at hf
          have hnx : InvS m (ins ++ [x2], gt, sn) (putR r' x2) := hinv.putI x2 hroom
          have hst2 : turns m (ts.take (k + 1)) = (ins ++ [x2], gt, sn) := by rw [hst]; unfold turn; rw [if_pos rfl, if_pos hroom]
          have HST := Lib.hid hst2; clear hst hst2
          have HNX := Lib.hid hnx; have HINV := Lib.hid hinv; clear hnx hinv
          go_wp2_with fail
          refine (put_ok _ r' x2 _ (RA.on hps.ra (Kt.balloc (Below.refl _ wr) _)) HINV.out.right hf).mono ?_
          rintro en w3 ⟨v, rfl, ⟨C3, rfl, hs3⟩, hb3⟩
          generalize putR r' x2 = r3 at *
          obtain ⟨C3A, C3c, rfl, _, _⟩ := hs3.form
          have hb3' := Kt.bthen (Kt.balloc (Below.refl _ wr) _) hb3
          have q3 := fun i => cell_of_row _ _ i _ _ _ (hps.on hb3').row
          have qf3 := fun i => frozen_of_row _ _ i _ _ (hps.on hb3').row
          have hz4 : w1.heap.size < w3.heap.size := (Array.getElem?_eq_some_iff.1 (hps.on hb3').row).1
          unfold boxed at q3
          unfold rgV
          go_wp2_with fail
          go_roundw
          case rel =>
            refine ⟨k + 1, by omega, by go_num, ?_⟩
            rw [HST.out]
            exact PlayRel.store (C' := .slice C3A r3.cs.length C3c) (r' := r3) HNX.out (by rw [HOUT.out]; exact (List.take_append_of_le_length HINV.out.gp).symm) hps hr0 hbel hz0 hb3' (hs3.mono (by simp)) _
          case measure => simp [intOf]; omega
        · have hf := hinv.full
          have hrm := hinv.room
          rw [decide_eq_true (by dsimp only at hrm; dsimp only; omega)] at hf
          have hst2 : turns m (ts.take (k + 1)) = (ins, gt, sn) := by rw [hst]; unfold turn; rw [if_pos rfl, if_neg hroom]
          have HST := Lib.hid hst2; clear hst hst2 hrm
          have HINV := Lib.hid hinv; clear hinv
          go_wp2_with fail
          refine (put_full _ r' x2 _ (RA.on hps.ra (Kt.balloc (Below.refl _ wr) _)) HINV.out.right hf).mono ?_
          rintro en w3 ⟨n3, rfl, rfl, hb3⟩
          have hb3' := Kt.bthen (Kt.balloc (Below.refl _ wr) _) hb3
          unfold zeroR rgV
          go_wp2_with fail
          go_roundw
          case rel =>
            refine ⟨k + 1, by omega, by go_num, ?_⟩
            rw [HST.out]
            exact PlayRel.keep HINV.out HOUT.out hps hr0 hbel hz0 (Kt.balloc hb3' _)
          case measure => simp [intOf]; omega
      · by_cases hgot0 : gt < ins.length
        · obtain ⟨hg1, hg2⟩ := hinv.get_yes hgot0
          have hnx : InvS m (ins, gt + 1, sn) (getR r') := hinv.getI hgot0
          have hst2 : turns m (ts.take (k + 1)) = (ins, gt + 1, sn) := by rw [hst]; unfold turn; rw [if_neg (show ¬ (2 : Int) = 1 by decide), if_pos rfl, if_pos hgot0]
          have HST := Lib.hid hst2; clear hst hst2
          have HNX := Lib.hid hnx; have HINV := Lib.hid hinv; clear hnx hinv
          go_wp2_with fail
          refine (get_yes _ r' _ (RA.on hps.ra (Kt.balloc (Below.refl _ wr) _)) HINV.out.right hg1).mono ?_
          rintro en w3 ⟨v, rfl, ⟨C3, rfl, hs3⟩, hb3⟩
          generalize getR r' = r3 at *
          rw [hg2]
          generalize hy : ins[gt] = y at *
          have HY := Lib.hid hy; clear hy hg2
          obtain ⟨C3A, C3c, rfl, _, _⟩ := hs3.form
          have hb3' := Kt.bthen (Kt.balloc (Below.refl _ wr) _) hb3
          have q3 := fun i => cell_of_row _ _ i _ _ _ (hps.on hb3').row
          have qf3 := fun i => frozen_of_row _ _ i _ _ (hps.on hb3').row
          have hz4 : w1.heap.size < w3.heap.size := (Array.getElem?_eq_some_iff.1 (hps.on hb3').row).1
          unfold boxed at q3
          have hlen := turns_len m ts k hk
          have hol : out.length ≤ ts.length := by have h1 := HOUT.out; rw [h1, List.length_take]; have h2 := HST0.out; rw [h2] at hlen; dsimp only at hlen; omega
          have HLEN := Lib.hid hlen; clear hlen
          unfold rgV
          go_wp2_with (
            at_builtin
            go_loud (refine Kt.append_sl _ (by rfl) (.tmp 62) (.tmp 64) 32 rfl (w.heap.size + 1) 33 (.int .u64 0) 1 8 infoU Try.underlying32 rfl (by decide) _ _ _ rfl (((hps.on hb3').alloc _).alloc _).s1 ⟨_, 0, none⟩ 1 1 [.int .u64 y] rfl rfl (Kt.new_cells' _ #[.int .u64 y] _ _ (by simp)) (by simp [Value.oneCell']) (by unfold maxLen; omega) (by omega) (by simp; omega) ?_)
            intro A4 c4 w4 hs4 hb4 hz5 hk4 hl4
            have hgot := PS.got (w3 := (w3.alloc _).alloc _) hps (Kt.balloc (Kt.balloc hb3' _) _) (((hs3.mono (by simp)).alloc _).alloc _) (by omega) hs4 hk4 hl4
            have r7 := hgot.1.row
            have r14 : w4.heap[w3.heap.size]? = some (.cells (boxed (.slice C3A r3.cs.length C3c) r3).toArray 27 (0, 0)) := (hk4 _ (by simp; omega) (fun e => by have := (hps.s1.lt _ e).2; have := hb3'.size; omega)).trans ((Below.heap_alloc _ _ _ (by simp)).trans (heap_alloc_new w3 _))
            have q7 := fun i => cell_of_row _ _ i _ _ _ r7
            have qf7 := fun i => frozen_of_row _ _ i _ _ r7
            have q14 := fun i => cell_of_row _ _ i _ _ _ r14
            have qf14 := fun i => frozen_of_row _ _ i _ _ r14
            have hr4 : w4.heap[w.heap.size]? = some (.cells #[.slice none 0 0, .int .i64 0, .int .i64 0, .int .i64 0, .int .i64 0, .int .i64 0] 27 (0, 0)) := (hk4 _ (by simp; omega) (fun e => by have := (hps.s1.lt _ e).1; omega)).trans ((Below.heap_alloc _ _ _ (by simp; omega)).trans ((Below.heap_alloc _ _ _ (by omega)).trans (Kt.row_on hb3' hr0)))
            have hbel4 := (Kt.balloc (Kt.balloc (Kt.bthen hbel hb3') _) _).trans (hb4.mono (Nat.le_succ _))
            have HG := Lib.hid hgot.2; have HR4 := Lib.hid hr4; have HB4 := Lib.hid hbel4
            unfold boxed at q7 q14
            clear hgot r7 r14 hs4 hb4 hk4 hl4 hr4 hbel4 q qf q3 qf3)
          go_roundw
          case rel =>
            refine ⟨k + 1, by omega, by go_num, ?_⟩
            rw [HST.out]
            refine ⟨.slice C3A r3.cs.length C3c, r3, out ++ [y], ?_, HNX.out, by have h := HG.out; exact h, (Kt.setCells_other (boxed (.slice C3A r3.cs.length C3c) r3) w1.heap.size 0 _ _ (by omega)).trans HR4.out, Kt.below_setCells (boxed (.slice C3A r3.cs.length C3c) r3) w1.heap.size 0 _ _ (by omega) HB4.out, hz0⟩
            rw [HOUT.out, List.take_succ_eq_append_getElem hgot0, HY.out]
          case measure => simp [intOf]; omega
        · have hg1 := hinv.get_no hgot0
          have hst2 : turns m (ts.take (k + 1)) = (ins, gt, sn) := by rw [hst]; unfold turn; rw [if_neg (show ¬ (2 : Int) = 1 by decide), if_pos rfl, if_neg hgot0]
          have HST := Lib.hid hst2; clear hst hst2
          have HINV := Lib.hid hinv; clear hinv
          go_wp2_with fail
          refine (get_no _ r' _ (RA.on hps.ra (Kt.balloc (Below.refl _ wr) _)) HINV.out.right hg1).mono ?_
          rintro en w3 ⟨v, rfl, ⟨C3, rfl, hs3⟩, hb3⟩
          obtain ⟨C3A, C3c, rfl, _, _⟩ := hs3.form
          have hb3' := Kt.bthen (Kt.balloc (Below.refl _ wr) _) hb3
          have q3 := fun i => cell_of_row _ _ i _ _ _ (hps.on hb3').row
          have qf3 := fun i => frozen_of_row _ _ i _ _ (hps.on hb3').row
          have hz4 : w1.heap.size < w3.heap.size := (Array.getElem?_eq_some_iff.1 (hps.on hb3').row).1
          unfold boxed at q3
          unfold rgV
          go_wp2_with fail
          go_roundw
          case rel =>
            refine ⟨k + 1, by omega, by go_num, ?_⟩
            rw [HST.out]
            exact PlayRel.store (C' := .slice C3A r'.cs.length C3c) (r' := r') HINV.out HOUT.out hps hr0 hbel hz0 hb3' (hs3.mono (by simp)) _
          case measure => simp [intOf]; omega
      · have hnx : InvS m (ins, gt, gt) (learnR r') := hinv.learnI
        have hst2 : turns m (ts.take (k + 1)) = (ins, gt, gt) := by rw [hst]; unfold turn; rw [if_neg (show ¬ (3 : Int) = 1 by decide), if_neg (show ¬ (3 : Int) = 2 by decide), if_pos rfl]
        have HST := Lib.hid hst2; clear hst hst2
        have HNX := Lib.hid hnx; have HINV := Lib.hid hinv; clear hnx hinv
        go_wp2_with fail
        refine (learn_ok _ r' _ (RA.on hps.ra (Kt.balloc (Below.refl _ wr) _)) HINV.out.right).mono ?_
        rintro en w3 ⟨v, rfl, ⟨C3, rfl, hs3⟩, hb3⟩
        generalize learnR r' = r3 at *
        obtain ⟨C3A, C3c, rfl, _, _⟩ := hs3.form
        have hb3' := Kt.bthen (Kt.balloc (Below.refl _ wr) _) hb3
        have q3 := fun i => cell_of_row _ _ i _ _ _ (hps.on hb3').row
        have qf3 := fun i => frozen_of_row _ _ i _ _ (hps.on hb3').row
        have hz4 : w1.heap.size < w3.heap.size := (Array.getElem?_eq_some_iff.1 (hps.on hb3').row).1
        unfold boxed at q3
        unfold rgV
        go_wp2_with fail
        go_roundw
        case rel =>
          refine ⟨k + 1, by omega, by go_num, ?_⟩
          rw [HST.out]
          exact PlayRel.store0 (C' := .slice C3A r3.cs.length C3c) (r' := r3) HNX.out HOUT.out hps hr0 hbel hz0 hb3' (hs3.mono (by simp))
        case measure => simp [intOf]; omega
    · obtain rfl : k = ts.length := by omega
      rw [List.take_length] at hinv hout
      have hrow := hps.row
      have q := fun i => cell_of_row _ _ i _ _ _ hrow
      have qf := fun i => frozen_of_row _ _ i _ _ hrow
      have q0 := fun i => cell_of_row _ _ i _ _ _ hr0
      have qf0 := fun i => frozen_of_row _ _ i _ _ hr0
      have hz2 : w1.heap.size < wr.heap.size := (Array.getElem?_eq_some_iff.1 hrow).1
      have hz3 : w.heap.size < wr.heap.size := by omega
      unfold boxed at q hrow
      have HOUT := Lib.hid hout; have HINV := Lib.hid hinv; clear hout hinv
      go_wp2_with fail
      refine bodyPost_ret (v := .tuple #[rgV (.slice CA' r'.cs.length Cc') r', .slice OA out.length oc, .int .i64 0]) (by simp [rgV, results, Try.results18, go_sem, q0]) rfl ⟨_, _, _, _, _, rfl, ?_, ?_⟩
      · rw [← HOUT.out]
        exact Kt.Ar.of_sl (hps.s1.sets (boxed (.slice CA' r'.cs.length Cc') r') w.heap.size 0 (fun k hk => by have := (hps.s1.lt k hk).1; omega))
      · exact Kt.below_setCells (boxed (.slice CA' r'.cs.length Cc') r') w.heap.size 0 _ _ (Nat.le_refl _) hbel
theorem lives_calls (w : World) : Calls Try.prog 9 #[] w fun e w' => e = .returned (.bool true) ∧ Below w.heap.size w w' := by
  go_enter Try.func9, Try.ntmps9
  go_wp2_with fail
  refine (play_ok 2 _ [(1, 7), (1, 8), (2, 0), (1, 9), (3, 0), (1, 10), (2, 0), (2, 0)] _ (by omega) (by omega) (Kt.Ar.new w _ _ 8 2 rfl) (by simp) (by simp)).mono ?_
  rintro en w1 ⟨A, n, c, r, o, rfl, ho, hb⟩
  have ho2 : Kt.Ar w1 o 1 [7, 10].length (us [7, 10]) := ho
  obtain ⟨OA, oc, rfl, _, _⟩ := ho2.form
  have hb1 := Kt.bthen (Kt.balloc (Below.refl _ w) _) hb
  clear ho hb
  unfold rgV
  go_wp2_with fail
  refine (eqU _ _ [7, 10] [7, 10] _ ((ho2.on (Kt.balloc (Kt.balloc (Below.refl _ w1) _) _))) (Kt.Ar.new' (w1.alloc _) _ _ 2 1 _ (by simp) rfl) (by simp)).mono ?_
  rintro en w2 ⟨rfl, hb2⟩
  have e1 : decide (([7, 10] : List Int) = [7, 10]) = true := by decide
  rw [e1]
  clear e1
  have hb3 := Kt.bthen (Kt.balloc (Kt.balloc hb1 _) _) hb2
  clear hb2
  go_wp2_with fail
  go_ret
  exact ⟨rfl, hb3⟩
end Go.Proofs.Ytmgjgajpgjfaiaa
