/- RingOrder, walked. -/
import Derived.Test.YtmgjgajpgjfaiaaRngR
import Derived.Test.YtmgjgajpgjfaiaaAny
namespace Go.Proofs.Ytmgjgajpgjfaiaa
open Go.RowKit
theorem Kt.Ar.pre {w : World} {A : Option Addr} {n m c sz : Nat} {xs : List Value} (h : Kt.Ar w (.slice A n c) sz n xs) (hm : m ≤ n) : Kt.Ar w (.slice A m c) sz m (xs.take (m * sz)) := by
  obtain ⟨A', c', e, hn, hx⟩ := h.form
  cases e
  have hl := h.len
  have hle : m * sz ≤ n * sz := Nat.mul_le_mul_right _ hm
  refine ⟨by rw [List.length_take]; omega, _, _, rfl, by omega, fun h0 => ?_⟩
  obtain ⟨b, o, e2, hb, hc⟩ := hx (by omega)
  exact ⟨b, o, e2, hb, fun j hj => by rw [List.getElem_take]; exact hc j (by rw [List.length_take] at hj; omega)⟩
def OrdRel (w : World) (b m : Nat) (st : List Int × Nat × Nat) (ov1 ov2 : Value) (wr : World) : Prop := ∃ C r out, out = st.1.take st.2.1 ∧ InvS m st r ∧ PS w.heap.size b C r ov1 st.1 ov2 out wr ∧ Below w.heap.size w wr ∧ w.heap.size ≤ b
theorem Kt.news_row {w : World} {g : Nat} {cs : Array Value} {e : TypeId} (h : w.heap[g]? = some (.cells cs e (0, 0))) : ∀ j u, cs.toList[j]? = some u → w.cell? ((⟨g, 0, none⟩ : Addr).add j) = some u := fun j u hj => by
  rw [Addr.add_lit, cell_of_row w g _ cs e (0, 0) h, Nat.zero_add]; simpa using hj
section
variable {w : World} {b m : Nat} {st st' : List Int × Nat × Nat} {C C' o1 o2 : Value} {r r' : Rg} {out : List Int} {wr w3 : World}
theorem OrdRel.store0 (hi : InvS m st' r') (ho : out = st'.1.take st'.2.1) (hps : PS w.heap.size b C r o1 st'.1 o2 out wr) (hbel : Below w.heap.size w wr) (hz : w.heap.size ≤ b)
    (hb : Below wr.heap.size wr w3) (hs : Kt.Sl w3 wr.heap.size 47 3 C' r'.cs.length (cvs r'.cs)) : OrdRel w b m st' o1 o2 (w3.setCells b 0 (boxed C' r')) :=
  ⟨C', r', out, ho, hi, PS.store hps hb hs hbel.size, Kt.below_setCells _ _ _ _ _ hz (Kt.bthen hbel hb), hz⟩
theorem OrdRel.keep (hi : InvS m st' r) (ho : out = st'.1.take st'.2.1) (hps : PS w.heap.size b C r o1 st'.1 o2 out wr) (hbel : Below w.heap.size w wr) (hz : w.heap.size ≤ b) (hb : Below wr.heap.size wr w3) : OrdRel w b m st' o1 o2 w3 :=
  ⟨C, r, out, ho, hi, hps.on hb, Kt.bthen hbel hb, hz⟩
end
set_option maxHeartbeats 6400000 in
set_option maxRecDepth 100000 in
theorem order_main (m : Nat) (U : Value) (ts : List (Int × Int)) (w : World) (h2 : 2 ≤ m) (h63 : m ≤ 63) (hU : Kt.Ar w U 2 ts.length (tvs ts)) (hn : ts.length ≤ 500) :
    Calls Try.prog 3 #[.int .i64 (m + 1 : Nat), U] w fun e w' => e = .returned (.bool true) ∧ Below w.heap.size w w' := by
  obtain ⟨A, c, rfl, hcl, hcells⟩ := hU.form
  have HCELLS := Lib.hid hcells; clear hU hcells
  have d1 : (ts.length : Int) ≤ 500 := by omega
  have d3 : (m : Int) ≤ 63 := by omega
  have d4 : (2 : Int) ≤ m := by omega
  go_enter Try.func3, Try.ntmps3
  go_wp2_with fail
  refine (new_ok (m + 1) _ (by omega) (by omega)).mono ?_
  rintro en w1 ⟨v, rfl, ⟨C, rfl, hs⟩, hbel⟩
  have hinv := Inv.new m h2 h63
  generalize newR (m + 1) = r at *
  obtain ⟨CA, Cc, rfl, _, _⟩ := hs.form
  have hps : PS w.heap.size w1.heap.size (.slice CA r.cs.length Cc) r nilV [] nilV [] (w1.alloc (.cells (boxed (.slice CA r.cs.length Cc) r).toArray 27)) :=
    ⟨heap_alloc_new w1 _, hs.alloc _, Kt.Sl.nil _ _ _ _, Kt.Sl.nil _ _ _ _, fun k hk => by have := (hs.lt k hk).2; omega, fun k hk => by simp [nilV, Value.ownBlock] at hk, fun k hk => by simp [nilV, Value.ownBlock] at hk, fun k _ hk => by simp [nilV, Value.ownBlock] at hk, fun k _ hk => by simp [nilV, Value.ownBlock] at hk, fun k _ hk => by simp [nilV, Value.ownBlock] at hk⟩
  have hb0 := Kt.balloc hbel (.cells (boxed (.slice CA r.cs.length Cc) r).toArray 27)
  have hzb := hbel.size
  unfold rgV
  go_wp2_with fail
  refine (lives_calls _).mono ?_
  rintro en w2 ⟨rfl, hb2⟩
  have HREL : OrdRel w w1.heap.size m ([], 0, 0) nilV nilV w2 := ⟨_, r, [], rfl, hinv, hps.on hb2, Kt.bthen hb0 hb2, hzb⟩
  clear hps hb0 hinv hs hb2 hbel
  go_wp2_with fail
  go_loopw [7, 8, 36] (fun a b i wr => ∃ k : Nat, k ≤ ts.length ∧ i = .int .i64 k ∧ OrdRel w w1.heap.size m (turns m (ts.take k)) a b wr) (fun _ _ i _ => ts.length - (intOf i).toNat)
  case atStart => exact ⟨0, Nat.zero_le _, rfl, HREL⟩
  case round =>
    clear HREL
    obtain ⟨k, hk, rfl, C', r', out, hout, hinv, hps, hbel, hz0⟩ := hrel
    obtain ⟨CA', Cc', rfl, _, _⟩ := hps.cs.form
    obtain ⟨IA, Ic, rfl, hIc, _⟩ := hps.s1.form
    obtain ⟨OA, Oc, rfl, _, _⟩ := hps.s2.form
    have hlen := turns_len m ts k hk
    by_cases hlt : k < ts.length
    · have hst := turns_succ m ts k hlt
      obtain ⟨x, hx⟩ : ∃ x, ts[k] = x := ⟨_, rfl⟩
      rw [hx] at hst
      obtain ⟨x1, x2⟩ := x
      obtain ⟨b, o, rfl, hb, hcell⟩ := HCELLS.out (by omega)
      have g : ∀ j (hj : j < 2), wr.cell? ⟨b, o + (k * 2 + j), none⟩ = (tv (x1, x2))[j]? := fun j hj => by
        rw [hbel.cell (p := ⟨b, o + (k * 2 + j), none⟩) hb, hcell (k * 2 + j) (by rw [tvs_len]; omega), ← List.getElem?_eq_getElem, tvs_get _ _ _ hj, List.getElem?_eq_getElem hlt, hx]; rfl
      have g0 : wr.cell? ⟨b, o + k * 2, none⟩ = some (.int .i64 x1) := g 0 (by omega)
      have g1 : wr.cell? ⟨b, o + k * 2 + 1, none⟩ = some (.int .u64 x2) := g 1 (by omega)
      have HX := Lib.hid hx; clear hx hcell g
      obtain ⟨st, hst0⟩ : ∃ st, turns m (ts.take k) = st := ⟨_, rfl⟩
      rw [hst0] at hst hinv hlen hout hps ⊢
      have HST0 := Lib.hid hst0; clear hst0
      obtain ⟨ins, gt, sn⟩ := st
      dsimp only at hlen hout hps ⊢
      have hsg : sn ≤ gt := hinv.sg
      have hgp : gt ≤ ins.length := hinv.gp
      have hol : out.length = gt := by rw [hout, List.length_take]; omega
      have HOUT := Lib.hid hout; have HOL := Lib.hid hol; clear hout
      have hrow := hps.row
      have q := fun i => cell_of_row _ _ i _ _ _ hrow
      have qf := fun i => frozen_of_row _ _ i _ _ hrow
      have hz2 : w1.heap.size < wr.heap.size := (Array.getElem?_eq_some_iff.1 hrow).1
      unfold boxed at q hrow
      have HINV := Lib.hid hinv
      have HST := Lib.hid hst; clear hst
      rw [hol] at hps ⊢
      clear hol
      by_cases k1 : x1 = 1
      · subst k1
        by_cases hroom : ins.length < sn + (m - 1)
        · have hf := hinv.full
          rw [decide_eq_false (by dsimp only; omega)] at hf
          clear hinv
          go_wp2_with fail
          refine (put_ok _ r' x2 _ (RA.on hps.ra (Kt.balloc (Below.refl _ wr) _)) HINV.out.right hf).mono ?_
          rintro en w3 ⟨v, rfl, ⟨C3, rfl, hs3⟩, hb3⟩
          have hnx : InvS m (ins ++ [x2], gt, sn) (putR r' x2) := HINV.out.putI x2 hroom
          have HNX := Lib.hid hnx; clear hnx
          generalize putR r' x2 = r3 at *
          obtain ⟨C3A, C3c, rfl, _, _⟩ := hs3.form
          have hb3' := Kt.bthen (Kt.balloc (Below.refl _ wr) _) hb3
          have hz11 : wr.heap.size < w3.heap.size := (Array.getElem?_eq_some_iff.1 (Kt.box1 hb3)).1
          have q11 := fun i => cell_of_row _ _ i _ _ _ (Kt.box1 hb3)
          have qf11 := fun i => frozen_of_row _ _ i _ _ (Kt.box1 hb3)
          have q3 := fun i => cell_of_row _ _ i _ _ _ (hps.on hb3').row
          have qf3 := fun i => frozen_of_row _ _ i _ _ (hps.on hb3').row
          have hz3 : w1.heap.size < w3.heap.size := (Array.getElem?_eq_some_iff.1 (hps.on hb3').row).1
          unfold boxed at q3
          unfold rgV
          go_wp2_with fail
          clear q11 qf11 q3 qf3 q qf
          have hbC := Kt.balloc hb3' (.cells #[.slice C3A r3.cs.length C3c, .int .i64 r3.pa, .int .i64 r3.pb, .int .i64 r3.ga, .int .i64 r3.gb, .int .i64 r3.sn] 27)
          have hsC := (hs3.mono (B' := wr.heap.size) (by first | (simp; done) | (have := hb3'.size; simp; omega))).alloc (.cells #[.slice C3A r3.cs.length C3c, .int .i64 r3.pa, .int .i64 r3.pb, .int .i64 r3.ga, .int .i64 r3.gb, .int .i64 r3.sn] 27)
          have rA := heap_alloc_new w3 (.cells #[.slice C3A r3.cs.length C3c, .int .i64 r3.pa, .int .i64 r3.pb, .int .i64 r3.ga, .int .i64 r3.gb, .int .i64 r3.sn] 27)
          have rB := (Below.heap_alloc w3 (.cells #[.slice C3A r3.cs.length C3c, .int .i64 r3.pa, .int .i64 r3.pb, .int .i64 r3.ga, .int .i64 r3.gb, .int .i64 r3.sn] 27) _ hz11).trans (Kt.box1 hb3)
          have pp := hps.on hbC
          have hbW := Kt.bthen hbel hbC
          generalize w3.alloc (.cells #[.slice C3A r3.cs.length C3c, .int .i64 r3.pa, .int .i64 r3.pb, .int .i64 r3.ga, .int .i64 r3.gb, .int .i64 r3.sn] 27) = W at *
          have HF := (((Kt.Fb.nil w hbW).add rB).add rA).drew
          replace hbC := hbC.drew
          replace hsC := hsC.drew
          replace pp := PS.on pp (Below.refl _ W).drew
          have hol := HOL.out
          have hw3 := hb3'.size
          refine Kt.G.start 7 (Kt.Fb w [(w3.heap.size, #[.slice C3A r3.cs.length C3c, .int .i64 r3.pa, .int .i64 r3.pb, .int .i64 r3.ga, .int .i64 r3.gb, .int .i64 r3.sn], 27), (wr.heap.size, #[.int .i64 1, .int .u64 x2], 35)]) (by kernel_rfl) HF (fun hHeld => ?_)
          refine Kt.G.take 0 { dst := some 53, op := Op.load 27 (Operand.tmp 11), type := 27, pos := "ring.go:28", after := #[], guard := none } ?_ hHeld rfl (by kernel_rfl) (fun _ _ _ h => h) (by rfl) ?_ ?_
          rotate_left
          · intro w hSw; have r0 := hSw.row _ (List.Mem.head _); have c0 := fun i => cell_of_row _ _ i _ _ _ r0; have r1 := hSw.row _ (List.Mem.tail _ (List.Mem.head _)); have c1 := fun i => cell_of_row _ _ i _ _ _ r1; dsimp only at *; go_simp; try with_reducible rfl
          try simp only [Act.put, List.setIfInBounds_toArray, List.set_cons_zero, List.set_cons_succ]
          refine Kt.G.takeP 1 { dst := some 54, op := Op.move (Operand.tmp 7), type := 32, pos := "ring.go:28", after := #[], guard := none } ?_ (fun _ => hHeld) rfl (by kernel_rfl) (fun _ _ _ h => h) (by rfl) ?_ ?_
          rotate_left
          · intro w; go_simp; try with_reducible rfl
          try simp only [Act.put, List.setIfInBounds_toArray, List.set_cons_zero, List.set_cons_succ]
          refine Kt.G.takeP 2 { dst := some 55, op := Op.fieldAddr 35 (Operand.tmp 10) 1, type := 0, pos := "ring.go:28", after := #[], guard := none } ?_ (fun _ => hHeld) rfl (by kernel_rfl) (fun _ _ _ h => h) (by rfl) ?_ ?_
          rotate_left
          · intro w; go_simp; try with_reducible rfl
          try simp only [Act.put, List.setIfInBounds_toArray, List.set_cons_zero, List.set_cons_succ]
          refine Kt.G.take 3 { dst := some 56, op := Op.load 33 (Operand.tmp 55), type := 33, pos := "ring.go:28", after := #[{ on := 2, ground := Ground.data }], guard := none } ?_ hHeld rfl (by kernel_rfl) (fun _ _ _ h => h) (by rfl) ?_ ?_
          rotate_left
          · intro w hSw; have r0 := hSw.row _ (List.Mem.head _); have c0 := fun i => cell_of_row _ _ i _ _ _ r0; have r1 := hSw.row _ (List.Mem.tail _ (List.Mem.head _)); have c1 := fun i => cell_of_row _ _ i _ _ _ r1; dsimp only at *; go_simp; try with_reducible rfl
          try simp only [Act.put, List.setIfInBounds_toArray, List.set_cons_zero, List.set_cons_succ]
          refine Kt.G.one 4 { dst := some 57, op := Op.buildSlice 32 1 #[(0, Operand.tmp 56)], type := 32, pos := "ring.go:28", after := #[{ on := 3, ground := Ground.data }], guard := none } rfl (by kernel_rfl) (by rfl) (fun K hK => ?_)
          go_simp
          refine hK.out _ _ (fun _ => hHeld.alloc _) (fun hHeld => ?_)
          have hHeld := hHeld rfl
          clear hK K
          try simp only [Act.put, List.setIfInBounds_toArray, List.set_cons_zero, List.set_cons_succ]
          replace pp := pp.alloc (.cells #[.int .u64 x2] 33)
          replace hbC := Kt.balloc hbC (.cells #[.int .u64 x2] 33)
          replace hsC := hsC.alloc (.cells #[.int .u64 x2] 33)
          have hrn := heap_alloc_new (W.drew) (.cells #[.int .u64 x2] 33)
          refine Kt.G.one 5 { dst := some 58, op := Op.call { callee := Callee.builtin Builtin.append, args := #[Operand.tmp 54, Operand.tmp 57], argTypes := #[32, 32] }, type := 32, pos := "ring.go:28", after := #[{ on := 1, ground := Ground.data }, { on := 4, ground := Ground.data }], guard := none } rfl (by kernel_rfl) (by rfl) (fun K hK => ?_)
          refine Kt.wp_append_sl _ (.tmp 54) (.tmp 57) 32 rfl w.heap.size 33 (.int .u64 0) 1 8 infoU Try.underlying32 rfl (by decide) _ _ _ rfl pp.s1 ⟨_, 0, none⟩ 1 1 [.int .u64 x2] rfl rfl (Kt.news_row hrn) (by simp [Value.oneCell']) (by unfold maxLen; omega) (by omega) (hHeld.bel.size) ?_
          intro A4 c4 w4 hs4 hb4 hz5 hk4 hl4
          have pz := PS.got hps hbC hsC hbel.size hs4 hk4 hl4
          have r7 := pz.1.row
          have bz := hHeld.bel.trans hb4
          refine hK.out _ _ (fun _ => ⟨fun r hr => (hk4 _ (hHeld.lt hr) (fun e => by have := (hps.s1.lt _ e).2; simp only [List.mem_cons, List.not_mem_nil, or_false] at hr; rcases hr with rfl | rfl <;> dsimp only at this <;> omega)).trans (hHeld.row r hr), bz⟩) (fun hHeld => ?_)
          have hHeld := hHeld rfl
          clear hK K
          try simp only [Act.put, List.setIfInBounds_toArray, List.set_cons_zero, List.set_cons_succ]
          refine Kt.G.one 6 { dst := none, op := Op.store 27 (Operand.tmp 5) (Operand.tmp 53), type := 0, pos := "ring.go:28", after := #[{ on := 0, ground := Ground.data }, { on := 5, ground := Ground.chain }, { on := 0, ground := Ground.phase }, { on := 1, ground := Ground.textOnly Departure.lateStores }, { on := 2, ground := Ground.textOnly Departure.lateStores }, { on := 3, ground := Ground.textOnly Departure.lateStores }, { on := 4, ground := Ground.textOnly Departure.lateStores }, { on := 5, ground := Ground.textOnly Departure.lateStoresUnsure }], guard := none } rfl (by kernel_rfl) (by rfl) (fun K hK => ?_)
          have c7 := fun i => cell_of_row _ _ i _ _ _ r7; have f7 := fun i => frozen_of_row _ _ i _ _ r7
          unfold boxed at c7
          go_simp
          refine hK.out _ _ (fun _ => ⟨fun r hr => (Kt.setCells_other [.slice C3A r3.cs.length C3c, .int .i64 r3.pa, .int .i64 r3.pb, .int .i64 r3.ga, .int .i64 r3.gb, .int .i64 r3.sn] w1.heap.size 0 _ _ (by simp only [List.mem_cons, List.not_mem_nil, or_false] at hr; rcases hr with rfl | rfl <;> dsimp only <;> omega)).trans (hHeld.row r hr), Kt.below_setCells [.slice C3A r3.cs.length C3c, .int .i64 r3.pa, .int .i64 r3.pb, .int .i64 r3.ga, .int .i64 r3.gb, .int .i64 r3.sn] w1.heap.size 0 _ _ hz0 hHeld.bel⟩) (fun hHeld => ?_)
          have hHeld := hHeld rfl
          clear hK K
          try simp only [Act.put, List.setIfInBounds_toArray, List.set_cons_zero, List.set_cons_succ]
          clear c7 f7 r7
          refine Kt.G.one 7 { dst := some 7, op := Op.assign (Operand.tmp 58), type := 32, pos := "ring.go:28", after := #[{ on := 5, ground := Ground.data }, { on := 6, ground := Ground.chain }, { on := 0, ground := Ground.phase }, { on := 1, ground := Ground.phase }, { on := 2, ground := Ground.phase }, { on := 3, ground := Ground.phase }, { on := 4, ground := Ground.phase }, { on := 5, ground := Ground.phase }, { on := 6, ground := Ground.phase }], guard := none } rfl (by kernel_rfl) (by rfl) (fun K hK => ?_)
          go_simp
          refine hK.out _ _ (Kt.G.late (by kernel_rfl)) (fun _ => ?_)
          clear hK K
          try simp only [Act.put, List.setIfInBounds_toArray, List.set_cons_zero, List.set_cons_succ]
          refine Kt.G.done (by kernel_rfl) (NoPanic.normal ?_) _
          have PZ := Lib.hid pz.2; have BZ := Lib.hid bz
          clear pz bz hk4 hs4 hb4 hz5 hl4 hrn hbC hsC pp rA rB hbW
          go_wp2_with fail
          go_roundw
          case rel =>
            refine ⟨k + 1, by omega, by go_num, ?_⟩
            rw [HST.out, turn_one hroom]
            refine ⟨.slice C3A r3.cs.length C3c, r3, out, ?_, HNX.out, PZ.out, Kt.below_setCells (boxed (.slice C3A r3.cs.length C3c) r3) w1.heap.size 0 _ _ hz0 BZ.out, hz0⟩
            rw [HOUT.out]; exact (List.take_append_of_le_length hgp).symm
          case measure => simp [intOf]; omega
        · have hf := hinv.full
          have hrm : ins.length ≤ sn + (m - 1) := hinv.room
          rw [decide_eq_true (by dsimp only; omega)] at hf
          clear hinv
          go_wp2_with fail
          refine (put_full _ r' x2 _ (RA.on hps.ra (Kt.balloc (Below.refl _ wr) _)) HINV.out.right hf).mono ?_
          rintro en w3 ⟨n3, rfl, rfl, hb3⟩
          have hb3' := Kt.bthen (Kt.balloc (Below.refl _ wr) _) hb3
          have q3 := fun i => cell_of_row _ _ i _ _ _ (hps.on hb3').row
          have qf3 := fun i => frozen_of_row _ _ i _ _ (hps.on hb3').row
          have hz3 : w1.heap.size < w3.heap.size := (Array.getElem?_eq_some_iff.1 (hps.on hb3').row).1
          unfold boxed at q3
          unfold zeroR rgV
          go_wp2_with fail
          go_roundw
          case rel =>
            refine ⟨k + 1, by omega, by go_num, ?_⟩
            rw [HST.out, turn_full hroom]
            exact OrdRel.keep HINV.out HOUT.out hps hbel hz0 (Kt.balloc hb3' _)
          case measure => simp [intOf]; omega
      · by_cases k2 : x1 = 2
        · subst k2
          clear k1
          by_cases hgot0 : gt < ins.length
          · have hnx : InvS m (ins, gt + 1, sn) (getR r') := HINV.out.getI hgot0
            have HNX := Lib.hid hnx; clear hnx
            obtain ⟨hg1, hg2⟩ := HINV.out.get_yes hgot0
            have t1 : decide ((gt : Int) < ins.length) = true := decide_eq_true (by omega)
            clear hinv
            go_wp2_with fail
            refine (get_yes _ r' _ (RA.on hps.ra (Kt.balloc (Below.refl _ wr) _)) HINV.out.right hg1).mono ?_
            rintro en w3 ⟨v, rfl, ⟨C3, rfl, hs3⟩, hb3⟩
            generalize getR r' = r3 at *
            rw [hg2]
            generalize hy : ins[gt] = y at *
            have HY := Lib.hid hy; clear hy hg2
            obtain ⟨C3A, C3c, rfl, _, _⟩ := hs3.form
            have hb3' := Kt.bthen (Kt.balloc (Below.refl _ wr) _) hb3
            have hz11 : wr.heap.size < w3.heap.size := (Array.getElem?_eq_some_iff.1 (Kt.box1 hb3)).1
            have q3 := fun i => cell_of_row _ _ i _ _ _ (hps.on hb3').row
            have qf3 := fun i => frozen_of_row _ _ i _ _ (hps.on hb3').row
            have hz3 : w1.heap.size < w3.heap.size := (Array.getElem?_eq_some_iff.1 (hps.on hb3').row).1
            unfold boxed at q3
            unfold rgV
            go_wp2_with fail
            clear q3 qf3 q qf
            have hbC := Kt.balloc hb3' (.cells #[.slice C3A r3.cs.length C3c, .int .i64 r3.pa, .int .i64 r3.pb, .int .i64 r3.ga, .int .i64 r3.gb, .int .i64 r3.sn] 27)
            have hsC := (hs3.mono (B' := wr.heap.size) (by first | (simp; done) | (have := hb3'.size; simp; omega))).alloc (.cells #[.slice C3A r3.cs.length C3c, .int .i64 r3.pa, .int .i64 r3.pb, .int .i64 r3.ga, .int .i64 r3.gb, .int .i64 r3.sn] 27)
            have rA := heap_alloc_new w3 (.cells #[.slice C3A r3.cs.length C3c, .int .i64 r3.pa, .int .i64 r3.pb, .int .i64 r3.ga, .int .i64 r3.gb, .int .i64 r3.sn] 27)
            have pp := hps.on hbC
            have hbW := Kt.bthen hbel hbC
            generalize w3.alloc (.cells #[.slice C3A r3.cs.length C3c, .int .i64 r3.pa, .int .i64 r3.pb, .int .i64 r3.ga, .int .i64 r3.gb, .int .i64 r3.sn] 27) = W at *
            have HF := ((Kt.Fb.nil w hbW).add rA).drew
            replace hbC := hbC.drew
            replace hsC := hsC.drew
            replace pp := PS.on pp (Below.refl _ W).drew
            have hol := HOL.out
            have hw3 := hb3'.size
            refine Kt.G.start 6 (Kt.Fb w [(w3.heap.size, #[.slice C3A r3.cs.length C3c, .int .i64 r3.pa, .int .i64 r3.pb, .int .i64 r3.ga, .int .i64 r3.gb, .int .i64 r3.sn], 27)]) (by kernel_rfl) HF (fun hHeld => ?_)
            refine Kt.G.take 0 { dst := some 82, op := Op.load 27 (Operand.tmp 13), type := 27, pos := "ring.go:38", after := #[], guard := none } ?_ hHeld rfl (by kernel_rfl) (fun _ _ _ h => h) (by rfl) ?_ ?_
            rotate_left
            · intro w hSw; have r0 := hSw.row _ (List.Mem.head _); have c0 := fun i => cell_of_row _ _ i _ _ _ r0; dsimp only at *; go_simp; try with_reducible rfl
            try simp only [Act.put, List.setIfInBounds_toArray, List.set_cons_zero, List.set_cons_succ]
            refine Kt.G.takeP 1 { dst := some 83, op := Op.move (Operand.tmp 8), type := 32, pos := "ring.go:38", after := #[], guard := none } ?_ (fun _ => hHeld) rfl (by kernel_rfl) (fun _ _ _ h => h) (by rfl) ?_ ?_
            rotate_left
            · intro w; go_simp; try with_reducible rfl
            try simp only [Act.put, List.setIfInBounds_toArray, List.set_cons_zero, List.set_cons_succ]
            refine Kt.G.takeP 2 { dst := some 84, op := Op.move (Operand.tmp 14), type := 33, pos := "ring.go:38", after := #[], guard := none } ?_ (fun _ => hHeld) rfl (by kernel_rfl) (fun _ _ _ h => h) (by rfl) ?_ ?_
            rotate_left
            · intro w; go_simp; try with_reducible rfl
            try simp only [Act.put, List.setIfInBounds_toArray, List.set_cons_zero, List.set_cons_succ]
            refine Kt.G.one 3 { dst := some 85, op := Op.buildSlice 32 1 #[(0, Operand.tmp 84)], type := 32, pos := "ring.go:38", after := #[{ on := 2, ground := Ground.data }], guard := none } rfl (by kernel_rfl) (by rfl) (fun K hK => ?_)
            go_simp
            refine hK.out _ _ (fun _ => hHeld.alloc _) (fun hHeld => ?_)
            have hHeld := hHeld rfl
            clear hK K
            try simp only [Act.put, List.setIfInBounds_toArray, List.set_cons_zero, List.set_cons_succ]
            replace pp := pp.alloc (.cells #[.int .u64 y] 33)
            replace hbC := Kt.balloc hbC (.cells #[.int .u64 y] 33)
            replace hsC := hsC.alloc (.cells #[.int .u64 y] 33)
            have hrn := heap_alloc_new (W.drew) (.cells #[.int .u64 y] 33)
            refine Kt.G.one 4 { dst := some 86, op := Op.call { callee := Callee.builtin Builtin.append, args := #[Operand.tmp 83, Operand.tmp 85], argTypes := #[32, 32] }, type := 32, pos := "ring.go:38", after := #[{ on := 1, ground := Ground.data }, { on := 3, ground := Ground.data }], guard := none } rfl (by kernel_rfl) (by rfl) (fun K hK => ?_)
            refine Kt.wp_append_sl _ (.tmp 83) (.tmp 85) 32 rfl w.heap.size 33 (.int .u64 0) 1 8 infoU Try.underlying32 rfl (by decide) _ _ _ rfl pp.s2 ⟨_, 0, none⟩ 1 1 [.int .u64 y] rfl rfl (Kt.news_row hrn) (by simp [Value.oneCell']) (by unfold maxLen; omega) (by omega) (hHeld.bel.size) ?_
            intro A4 c4 w4 hs4 hb4 hz5 hk4 hl4
            have pz := PS.got hps.swap hbC hsC hbel.size hs4 hk4 hl4
            have r7 := pz.1.row
            have bz := hHeld.bel.trans hb4
            refine hK.out _ _ (fun _ => ⟨fun r hr => (hk4 _ (hHeld.lt hr) (fun e => by have := (hps.s2.lt _ e).2; simp only [List.mem_cons, List.not_mem_nil, or_false] at hr; subst hr; dsimp only at this; omega)).trans (hHeld.row r hr), bz⟩) (fun hHeld => ?_)
            have hHeld := hHeld rfl
            clear hK K
            try simp only [Act.put, List.setIfInBounds_toArray, List.set_cons_zero, List.set_cons_succ]
            refine Kt.G.one 5 { dst := none, op := Op.store 27 (Operand.tmp 5) (Operand.tmp 82), type := 0, pos := "ring.go:38", after := #[{ on := 0, ground := Ground.data }, { on := 4, ground := Ground.chain }, { on := 0, ground := Ground.phase }, { on := 1, ground := Ground.textOnly Departure.lateStores }, { on := 2, ground := Ground.textOnly Departure.lateStores }, { on := 3, ground := Ground.textOnly Departure.lateStores }, { on := 4, ground := Ground.textOnly Departure.lateStoresUnsure }], guard := none } rfl (by kernel_rfl) (by rfl) (fun K hK => ?_)
            have c7 := fun i => cell_of_row _ _ i _ _ _ r7; have f7 := fun i => frozen_of_row _ _ i _ _ r7
            unfold boxed at c7
            go_simp
            refine hK.out _ _ (fun _ => ⟨fun r hr => (Kt.setCells_other [.slice C3A r3.cs.length C3c, .int .i64 r3.pa, .int .i64 r3.pb, .int .i64 r3.ga, .int .i64 r3.gb, .int .i64 r3.sn] w1.heap.size 0 _ _ (by simp only [List.mem_cons, List.not_mem_nil, or_false] at hr; subst hr; dsimp only; omega)).trans (hHeld.row r hr), Kt.below_setCells [.slice C3A r3.cs.length C3c, .int .i64 r3.pa, .int .i64 r3.pb, .int .i64 r3.ga, .int .i64 r3.gb, .int .i64 r3.sn] w1.heap.size 0 _ _ hz0 hHeld.bel⟩) (fun hHeld => ?_)
            have hHeld := hHeld rfl
            clear hK K
            try simp only [Act.put, List.setIfInBounds_toArray, List.set_cons_zero, List.set_cons_succ]
            clear c7 f7 r7
            refine Kt.G.one 6 { dst := some 8, op := Op.assign (Operand.tmp 86), type := 32, pos := "ring.go:38", after := #[{ on := 4, ground := Ground.data }, { on := 5, ground := Ground.chain }, { on := 0, ground := Ground.phase }, { on := 1, ground := Ground.phase }, { on := 2, ground := Ground.phase }, { on := 3, ground := Ground.phase }, { on := 4, ground := Ground.phase }, { on := 5, ground := Ground.phase }], guard := none } rfl (by kernel_rfl) (by rfl) (fun K hK => ?_)
            go_simp
            refine hK.out _ _ (Kt.G.late (by kernel_rfl)) (fun _ => ?_)
            clear hK K
            try simp only [Act.put, List.setIfInBounds_toArray, List.set_cons_zero, List.set_cons_succ]
            refine Kt.G.done (by kernel_rfl) (NoPanic.normal ?_) _
            have PZ := Lib.hid pz.2; have BZ := Lib.hid bz
            clear pz bz hk4 hs4 hb4 hz5 hl4 hrn hbC hsC pp rA hbW
            go_wp2_with fail
            go_roundw
            case rel =>
              refine ⟨k + 1, by omega, by go_num, ?_⟩
              rw [HST.out, turn_get hgot0]
              have hp := PZ.out.swap
              rw [hol] at hp
              refine ⟨.slice C3A r3.cs.length C3c, r3, out ++ [y], ?_, HNX.out, hp, Kt.below_setCells (boxed (.slice C3A r3.cs.length C3c) r3) w1.heap.size 0 _ _ hz0 BZ.out, hz0⟩
              rw [HOUT.out, List.take_succ_eq_append_getElem hgot0, HY.out]
            case measure => simp [intOf]; omega
          · have hg1 := HINV.out.get_no hgot0
            have t1 : decide ((gt : Int) < ins.length) = false := decide_eq_false (by omega)
            clear hinv
            go_wp2_with fail
            refine (get_no _ r' _ (RA.on hps.ra (Kt.balloc (Below.refl _ wr) _)) HINV.out.right hg1).mono ?_
            rintro en w3 ⟨v, rfl, ⟨C3, rfl, hs3⟩, hb3⟩
            obtain ⟨C3A, C3c, rfl, _, _⟩ := hs3.form
            have hb3' := Kt.bthen (Kt.balloc (Below.refl _ wr) _) hb3
            have q3 := fun i => cell_of_row _ _ i _ _ _ (hps.on hb3').row
            have qf3 := fun i => frozen_of_row _ _ i _ _ (hps.on hb3').row
            have hz3 : w1.heap.size < w3.heap.size := (Array.getElem?_eq_some_iff.1 (hps.on hb3').row).1
            unfold boxed at q3
            unfold rgV
            go_wp2_with fail
            go_roundw
            case rel =>
              refine ⟨k + 1, by omega, by go_num, ?_⟩
              rw [HST.out, turn_none hgot0]
              exact OrdRel.keep HINV.out HOUT.out hps hbel hz0 (Kt.balloc hb3' _)
            case measure => simp [intOf]; omega
        · by_cases k3 : x1 = 3
          · subst k3
            clear k1 k2
            have hnx : InvS m (ins, gt, gt) (learnR r') := HINV.out.learnI
            have HNX := Lib.hid hnx; clear hnx hinv
            go_wp2_with fail
            refine (learn_ok _ r' _ (RA.on hps.ra (Kt.balloc (Below.refl _ wr) _)) HINV.out.right).mono ?_
            rintro en w3 ⟨v, rfl, ⟨C3, rfl, hs3⟩, hb3⟩
            generalize learnR r' = r3 at *
            obtain ⟨C3A, C3c, rfl, _, _⟩ := hs3.form
            have hb3' := Kt.bthen (Kt.balloc (Below.refl _ wr) _) hb3
            have q3 := fun i => cell_of_row _ _ i _ _ _ (hps.on hb3').row
            have qf3 := fun i => frozen_of_row _ _ i _ _ (hps.on hb3').row
            have hz3 : w1.heap.size < w3.heap.size := (Array.getElem?_eq_some_iff.1 (hps.on hb3').row).1
            unfold boxed at q3
            unfold rgV
            go_wp2_with fail
            go_roundw
            case rel =>
              refine ⟨k + 1, by omega, by go_num, ?_⟩
              rw [HST.out, turn_learn]
              exact OrdRel.store0 (C' := .slice C3A r3.cs.length C3c) (r' := r3) HNX.out HOUT.out hps hbel hz0 hb3' (hs3.mono (by simp))
            case measure => simp [intOf]; omega
          · have e1 : (x1 == 1) = false := beq_eq_false_iff_ne.2 k1
            have e2 : (x1 == 2) = false := beq_eq_false_iff_ne.2 k2
            have e3 : (x1 == 3) = false := beq_eq_false_iff_ne.2 k3
            clear hinv
            go_wp2_with fail
            go_roundw
            case rel =>
              refine ⟨k + 1, by omega, by go_num, ?_⟩
              rw [HST.out, turn_other k1 k2 k3]
              exact OrdRel.keep HINV.out HOUT.out hps hbel hz0 (Kt.balloc (Below.refl _ _) _)
            case measure => simp [intOf]; omega
    · obtain rfl : k = ts.length := by omega
      rw [List.take_length] at *
      generalize turns m ts = st at *
      obtain ⟨ins, gt, sn⟩ := st
      dsimp only at hout hps hlen hIc ⊢
      have hgp : gt ≤ ins.length := hinv.gp
      have hol : out.length = gt := by rw [hout, List.length_take]; omega
      rw [hol] at hps ⊢
      have hgi : gt ≤ Ic := by omega
      have hil : ins.length ≤ 500 := by omega
      have har := Kt.Ar.pre (Kt.Ar.of_sl hps.s1) hgp
      have har2 := Kt.Ar.of_sl hps.s2
      rw [hol] at har2
      have e1 : (us ins).take (gt * 1) = us out := by rw [hout, us, us, Nat.mul_one, List.map_take]
      rw [e1] at har
      have HA := Lib.hid har; have HA2 := Lib.hid har2; have HOL := Lib.hid hol; have HOUT := Lib.hid hout
      clear har har2 e1 hps hinv hout hol hlen
      go_wp2_with fail
      · refine (eqU _ _ out out _ (by rw [HOL.out]; exact HA.out) (by rw [HOL.out]; exact HA2.out) (by have := HOL.out; omega)).mono ?_
        rintro en w9 ⟨rfl, hb9⟩
        have e : decide (out = out) = true := by simp
        rw [e]
        clear e
        have hb10 := Kt.bthen hbel hb9
        go_wp2_with fail
        go_ret
        exact ⟨rfl, hb10⟩
      · have hgl : ins.length = gt := by omega
        rw [hgl]
        refine (eqU _ _ out out _ (by rw [HOL.out]; exact HA.out) (by rw [HOL.out]; exact HA2.out) (by have := HOL.out; omega)).mono ?_
        rintro en w9 ⟨rfl, hb9⟩
        have e : decide (out = out) = true := by simp
        rw [e]
        clear e
        have hb10 := Kt.bthen hbel hb9
        go_wp2_with fail
        go_ret
        exact ⟨rfl, hb10⟩
set_option maxHeartbeats 800000 in
theorem order_bad (n : Int) (A : Option Addr) (k c : Nat) (w : World) (h : n < 3 ∨ 64 < n) : Calls Try.prog 3 #[.int .i64 n, .slice A k c] w fun e w' => e = .returned (.bool true) ∧ Below w.heap.size w w' := by
  go_enter Try.func3, Try.ntmps3
  go_wp2_with fail
  refine (new_bad n _ h).mono ?_
  rintro en w1 ⟨n1, hn, rfl, hbel⟩
  have hn1 : (n1 != 0) = true := by rw [bne_iff_ne]; exact hn
  unfold zeroR rgV
  go_wp2_with fail
  refine (lives_calls _).mono ?_
  rintro en w2 ⟨rfl, hb2⟩
  replace hb2 := Kt.bthen (Kt.balloc hbel _) hb2
  go_wp2_with fail
  refine (lives_calls _).mono ?_
  rintro en w3 ⟨rfl, hb3⟩
  replace hb3 := Kt.bthen hb2 hb3
  go_wp2_with fail
  go_ret
  exact ⟨rfl, hb3⟩
set_option maxHeartbeats 800000 in
theorem order_long (m : Nat) (U : Value) (ts : List (Int × Int)) (w : World) (h2 : 2 ≤ m) (h63 : m ≤ 63) (hU : Kt.Ar w U 2 ts.length (tvs ts)) (hn : (500 : Int) < ts.length) :
    Calls Try.prog 3 #[.int .i64 (m + 1 : Nat), U] w fun e w' => e = .returned (.bool true) ∧ Below w.heap.size w w' := by
  obtain ⟨A, c, rfl, hcl, _⟩ := hU.form
  clear hU
  go_enter Try.func3, Try.ntmps3
  go_wp2_with fail
  refine (new_ok (m + 1) _ (by omega) (by omega)).mono ?_
  rintro en w1 ⟨v, rfl, ⟨C, rfl, hs⟩, hbel⟩
  generalize newR (m + 1) = r at *
  obtain ⟨CA, Cc, rfl, _, _⟩ := hs.form
  clear hs
  unfold rgV
  go_wp2_with fail
  refine (lives_calls _).mono ?_
  rintro en w2 ⟨rfl, hb2⟩
  replace hb2 := Kt.bthen (Kt.balloc hbel _) hb2
  go_wp2_with fail
  refine (lives_calls _).mono ?_
  rintro en w3 ⟨rfl, hb3⟩
  replace hb3 := Kt.bthen hb2 hb3
  go_wp2_with fail
  go_ret
  exact ⟨rfl, hb3⟩
theorem order_walk (v0 v1 : Value) (w : World) (r0 : Fr.RdV w reachBytes (.int .i64) v0) (r1 : Fr.RdV w reachBytes (.slice 2 (.cat 1 (.int .i64) (.cat 1 (.int .u64) .nil))) v1) :
    Calls Try.prog 3 #[v0, v1] w fun e w' => e = .returned (.bool true) ∧ Below w.heap.size w w' := by
  obtain ⟨n, h, _⟩ := r0
  simp only [List.cons.injEq, and_true] at h
  subst h
  obtain ⟨ts, _, hU⟩ := ar_turns r1
  by_cases hn : n < 3 ∨ 64 < n
  · obtain ⟨A, c, rfl, _⟩ := hU.form
    exact order_bad n A _ c w hn
  · obtain ⟨m, rfl⟩ : ∃ m : Nat, n = (m + 1 : Nat) := ⟨n.toNat - 1, by omega⟩
    by_cases hl : ts.length ≤ 500
    · exact order_main m v1 ts w (by omega) (by omega) hU hl
    · exact order_long m v1 ts w (by omega) (by omega) hU (by omega)
end Go.Proofs.Ytmgjgajpgjfaiaa
