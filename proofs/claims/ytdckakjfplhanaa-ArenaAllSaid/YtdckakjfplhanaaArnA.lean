/- ArenaAll walked. -/
import Derived.Test.YtdckakjfplhanaaArnU
namespace Go.Proofs.Ytdckakjfplhanaa
open Go.RowKit Go.Proofs.Ytdckakjfplhanaa.Arn
theorem give_must {B : Nat} {size : Int} {l : List (Int × Int)} {a : Int} {e : Ending} {w' : World} (hc : chk size l = 0) (hk : ∃ s ∈ l, s.1 = a) (h : GiveIs B size l a e w') :
    ∃ (l2 : List (Int × Int)) (A : Option Addr) (c : Nat), l.length = l2.length + 1 ∧ chk size l2 = 0 ∧ e = .returned (.tuple #[.agg #[.int .i64 size, .slice A l2.length c], .int .i64 0]) ∧ Kt.Sl w' B 30 2 (.slice A l2.length c) l2.length (spv l2) := by
  rcases h with ⟨n, hn, _, h | ⟨_, _, h⟩⟩ | ⟨_, k, m, A, c, hm, ⟨hk2, h1⟩, h2, rfl, h3⟩
  · exact absurd (h.symm.trans hc) hn
  · obtain ⟨s, h4, h5⟩ := hk
    exact absurd h5 (h s h4)
  · obtain ⟨s1, s2, s3, s4⟩ := chk_ok hc
    have e2 := rem_len l k hk2
    obtain rfl : m = (rem l k).length := by omega
    exact ⟨rem l k, A, c, by omega, chk_of s1 s2 (by omega) (okS_rem size l k 0 s4), rfl, h3⟩
theorem next_le {j a b : Nat} (h : j + a ≤ 64) (e : a = b + 1) : j + 1 + b ≤ 64 := by omega
theorem next_j {j a : Nat} (h : j + a ≤ 64) : wrap64 ((j : Int) + 1) = ((j + 1 : Nat) : Int) := by unfold wrap64; omega
theorem less_j {j a : Nat} (h : j + a ≤ 64) (h0 : a ≠ 0) : 65 - (intOf (.int .i64 (wrap64 ((j : Int) + 1)))).toNat < 65 - (intOf (.int .i64 (j : Int))).toNat := by
  rw [next_j h]
  simp only [intOf]
  omega
theorem less_l {j a : Nat} (h : j + a ≤ 64) : wrap64 ((a : Int) - 1) = (a : Int) - 1 := by unfold wrap64; omega
theorem sum_nil : sum ([] : List (Int × Int)) = 0 := rfl
set_option maxRecDepth 100000 in
set_option maxHeartbeats 3200000 in
theorem all_walk (v0 v1 : Value) (w : World) (r0 : Fr.RdV w reachBytes arTy v0) (r1 : Fr.RdV w reachBytes (.slice 1 (.int .i64)) v1) :
    Calls Try.prog 7 #[v0, v1] w fun e w' => e = .returned (.bool true) ∧ Below w.heap.size w w' := by
  obtain ⟨size, l, A0, c0, rfl, hv, hl⟩ := ar_arena r0
  obtain ⟨ns, hn, _, ho⟩ := Kt.ar_ints r1
  obtain ⟨O0, d0, rfl, _, _⟩ := ho.form
  clear r0 r1
  have hb0 := Kt.balloc (Below.refl _ w) (.cells #[.int .i64 size, .slice A0 l.length c0] 24)
  have HB0 := Lib.hid hb0
  have HA0 := Lib.hid (heap_alloc_new w (.cells #[.int .i64 size, .slice A0 l.length c0] 24))
  have HV := Lib.hid hv
  have HOR := Lib.hid ho
  have HLB := Lib.hid (And.intro hl hn)
  have HL := Lib.hid (lives_calls)
  clear hv hl hb0 hn ho
  by_cases hc : chk size l = 0
  · have HC := Lib.hid hc
    obtain ⟨s1, s2, s3, _⟩ := chk_ok hc
    have H3 := Lib.hid s3
    clear hc s1 s2 s3
    go_enter Try.func7, Try.ntmps7
    go_wp2_with fail
    refine (HL.out _).mono ?_
    rintro e w1 ⟨rfl, hb⟩
    have HB1 := Lib.hid (Kt.bthen HB0.out hb)
    have HA1 := Lib.hid (Kt.row_on hb HA0.out)
    have q := fun i => cell_of_row _ _ i _ _ _ HA1.out
    have HCK := Lib.hid (check_calls size l _ w1 (HV.out.on HB1.out) (Nat.le_trans HLB.out.1 (by decide +kernel)))
    rw [HC.out] at HCK
    clear hb HB0 HA0
    go_wp2_with fail
    refine HCK.out.mono ?_
    rintro e w2 ⟨rfl, hb⟩
    have HB2 := Lib.hid (Kt.bthen HB1.out hb)
    have HA2 := Lib.hid (Kt.row_on hb HA1.out)
    clear hb HB1 HA1 q HCK
    go_wp2_with fail
    go_loopw [5] (fun i wr => ∃ (j : Nat) (l2 : List (Int × Int)) (A : Option Addr) (c : Nat), i = .int .i64 j ∧ Hid (chk size l2 = 0 ∧ j + l2.length ≤ 64) ∧ Hid (Kt.Ar wr (.slice A l2.length c) 2 l2.length (spv l2)) ∧ Hid (Below w.heap.size w wr) ∧ Hid (wr.heap[w.heap.size]? = some (.cells #[.int .i64 size, .slice A l2.length c] 24 (0, 0)))) (fun i _ => 65 - (intOf i).toNat)
    case atStart => exact ⟨0, l, A0, c0, rfl, Lib.hid ⟨HC.out, by have := H3.out; omega⟩, Lib.hid (HV.out.on HB2.out), HB2, HA2⟩
    case round =>
      clear HB2 HA2 HV HC H3
      obtain ⟨j, l2, A, c, rfl, HC, HV, HB, HA⟩ := hrel
      have q := fun i => cell_of_row _ _ i _ _ _ HA.out
      by_cases h0 : l2.length = 0
      · obtain rfl := List.eq_nil_of_length_eq_zero h0
        have hnot : ¬ (0 : Int) < (([] : List (Int × Int)).length : Int) := by simp
        have HF := Lib.hid (free_calls size [] _ wr HV.out (by simp))
        rw [if_pos HC.out.1, HC.out.1, sum_nil, Int.sub_zero] at HF
        go_wp2_with fail
        refine HF.out.mono ?_
        rintro e w3 ⟨rfl, hb⟩
        have HB3 := Lib.hid (Kt.bthen HB.out hb)
        have HA3 := Lib.hid (Kt.row_on hb HA.out)
        have q3 := fun i => cell_of_row _ _ i _ _ _ HA3.out
        clear hb q HB HA HF
        go_wp2_with fail
        go_ret
        exact ⟨rfl, HB3.out⟩
      · have hpos : (0 : Int) < l2.length := by omega
        have HPOS := Lib.hid hpos
        have HLE : Hid (l2.length ≤ 140737488355328) := Lib.hid (by have := HC.out.2; omega)
        have h00 : 0 < l2.length := by omega
        by_cases hjo : j < ns.length
        · have hf := HOR.out.on HB.out
          obtain ⟨A9, c9, e9, _, hx9⟩ := hf.form
          cases e9
          obtain ⟨ob, oo, rfl, hob, hc9⟩ := hx9 (by omega)
          have hoc : wr.cell? ⟨ob, oo + j, none⟩ = some (.int .i64 (ns[j]'hjo)) := by have := hc9 j (by simpa using hjo); simpa using this
          have ej : (j : Int) < ns.length := by omega
          have ej0 : (0 : Int) ≤ j := by omega
          generalize ns[j]'hjo = v at hoc
          clear hf hx9 hc9 hjo
          by_cases hv0 : 0 < v
          · obtain ⟨vn, rfl⟩ : ∃ vn : Nat, v = vn := ⟨v.toNat, by omega⟩
            have er : ((vn : Int)).tmod (l2.length : Int) = ((vn % l2.length : Nat) : Int) := rfl
            have hkl : vn % l2.length < l2.length := Nat.mod_lt _ h00
            generalize vn % l2.length = k at *
            have ek : (k : Int) < l2.length := by omega
            have ek0 : (0 : Int) ≤ k := by omega
            have hne0 : ¬ (l2.length : Int) = 0 := by omega
            obtain ⟨bb, o, c9, hve, hbb, hcc, _⟩ := Kt.Ar.span (w' := wr) HV.out k hkl
            cases hve
            have HEX : Hid (∃ s ∈ l2, s.1 = (l2[k]'hkl).1) := Lib.hid ⟨_, List.getElem_mem hkl, rfl⟩
            generalize (l2[k]'hkl).1 = a0 at HEX hcc
            go_upto_region 8 with (fail)
            have HAd : Hid (wr.drew.heap[w.heap.size]? = _) := HA
            have hob : ob < wr.drew.heap.size := hob
            have hoc : wr.drew.cell? _ = _ := hoc
            refine Kt.G.start 8 (fun X => Below wr.drew.heap.size wr.drew X) (by kernel_rfl) (Below.refl _ _) (fun hHeld => ?_)
            refine Kt.G.takeP 0 { dst := some 36, op := Op.move (Operand.tmp 1), type := 42, pos := "arena.go:84", after := #[], guard := none } ?_ (fun _ => hHeld) rfl (by kernel_rfl) (fun _ _ _ h => h) (by rfl) ?_ ?_
            rotate_left
            · intro w; go_simp; try with_reducible rfl
            try simp only [Act.put, List.setIfInBounds_toArray, List.set_cons_zero, List.set_cons_succ]
            refine Kt.G.takeP 1 { dst := some 37, op := Op.move (Operand.tmp 5), type := 3, pos := "arena.go:84", after := #[], guard := none } ?_ (fun _ => hHeld) rfl (by kernel_rfl) (fun _ _ _ h => h) (by rfl) ?_ ?_
            rotate_left
            · intro w; go_simp; try with_reducible rfl
            try simp only [Act.put, List.setIfInBounds_toArray, List.set_cons_zero, List.set_cons_succ]
            refine Kt.G.takeP 2 { dst := some 38, op := Op.indexAddr 42 (Operand.tmp 36) (Operand.tmp 37), type := 0, pos := "arena.go:84", after := #[{ on := 0, ground := Ground.data }, { on := 1, ground := Ground.data }], guard := none } ?_ (fun _ => hHeld) rfl (by kernel_rfl) (fun _ _ _ h => h) (by rfl) ?_ ?_
            rotate_left
            · intro w; go_simp; try with_reducible rfl
            try simp only [Act.put, List.setIfInBounds_toArray, List.set_cons_zero, List.set_cons_succ]
            refine Kt.G.take 3 { dst := some 39, op := Op.load 3 (Operand.tmp 38), type := 3, pos := "arena.go:84", after := #[{ on := 2, ground := Ground.data }], guard := none } ?_ hHeld rfl (by kernel_rfl) (fun _ _ _ h => h) (by rfl) ?_ ?_
            rotate_left
            · intro w hSw; have qo := (hSw.cell (p := ⟨ob, oo + j, none⟩) hob).trans hoc; go_simp; try with_reducible rfl
            try simp only [Act.put, List.setIfInBounds_toArray, List.set_cons_zero, List.set_cons_succ]
            refine Kt.G.takeP 4 { dst := some 40, op := Op.fieldAddr 24 (Operand.tmp 2) 1, type := 0, pos := "arena.go:84", after := #[], guard := none } ?_ (fun _ => hHeld) rfl (by kernel_rfl) (fun _ _ _ h => h) (by rfl) ?_ ?_
            rotate_left
            · intro w; go_simp; try with_reducible rfl
            try simp only [Act.put, List.setIfInBounds_toArray, List.set_cons_zero, List.set_cons_succ]
            refine Kt.G.take 5 { dst := some 41, op := Op.load 22 (Operand.tmp 40), type := 22, pos := "arena.go:84", after := #[{ on := 4, ground := Ground.data }], guard := none } ?_ hHeld rfl (by kernel_rfl) (fun _ _ _ h => h) (by rfl) ?_ ?_
            rotate_left
            · intro w hSw; have q := fun i => cell_of_row _ _ i _ _ _ (Kt.row_on hSw HAd.out); go_simp; try with_reducible rfl
            try simp only [Act.put, List.setIfInBounds_toArray, List.set_cons_zero, List.set_cons_succ]
            refine Kt.G.takeP 6 { dst := some 42, op := Op.call { callee := Callee.builtin Builtin.len, args := #[Operand.tmp 41], argTypes := #[22] }, type := 3, pos := "arena.go:84", after := #[{ on := 5, ground := Ground.data }], guard := none } ?_ (fun _ => hHeld) rfl (by kernel_rfl) (fun _ _ _ h => h) (by rfl) ?_ ?_
            rotate_left
            · intro w; go_simp; try with_reducible rfl
            try simp only [Act.put, List.setIfInBounds_toArray, List.set_cons_zero, List.set_cons_succ]
            refine Kt.G.takeP 7 { dst := some 43, op := Op.binOp BinOp.rem 3 (Operand.tmp 39) (Operand.tmp 42) 3, type := 3, pos := "arena.go:84", after := #[{ on := 3, ground := Ground.data }, { on := 6, ground := Ground.data }], guard := none } ?_ (fun _ => hHeld) rfl (by kernel_rfl) (fun _ _ _ h => h) (by rfl) ?_ ?_
            rotate_left
            · intro w; go_simp; try with_reducible rfl
            try simp only [Act.put, List.setIfInBounds_toArray, List.set_cons_zero, List.set_cons_succ]
            refine Kt.G.one 8 { dst := some 6, op := Op.assign (Operand.tmp 43), type := 3, pos := "arena.go:84", after := #[{ on := 7, ground := Ground.data }, { on := 0, ground := Ground.phase }, { on := 1, ground := Ground.phase }, { on := 2, ground := Ground.phase }, { on := 3, ground := Ground.phase }, { on := 4, ground := Ground.phase }, { on := 5, ground := Ground.phase }, { on := 6, ground := Ground.phase }, { on := 7, ground := Ground.phase }], guard := none } rfl (by kernel_rfl) (by rfl) (fun K hK => ?_)
            go_simp
            refine hK.out _ _ (Kt.G.late (by kernel_rfl)) (fun _ => ?_)
            clear hK K
            try simp only [Act.put, List.setIfInBounds_toArray, List.set_cons_zero, List.set_cons_succ]
            refine Kt.G.done (by kernel_rfl) (NoPanic.normal ?_) _
            go_upto_region 9 with (fail)
            have HAW : Hid (wr.drew.drew.heap[w.heap.size]? = _) := HA
            have HVW := Lib.hid (HV.out.on (Below.refl wr.heap.size wr).drew.drew)
            have HBW := Lib.hid HB.out.drew.drew
            have hcc : wr.drew.drew.cell? _ = _ := hcc
            have hbb : bb < wr.drew.drew.heap.size := hbb
            clear HA HV HB q
            refine Kt.G.start 12 (fun X => Below wr.drew.drew.heap.size wr.drew.drew X) (by kernel_rfl) (Below.refl _ _) (fun hHeld => ?_)
            generalize wr.drew.drew = W0 at *
            refine Kt.G.take 0 { dst := some 45, op := Op.load 24 (Operand.tmp 2), type := 24, pos := "arena.go:86", after := #[], guard := none } ?_ hHeld rfl (by kernel_rfl) (fun _ _ _ h => h) (by rfl) ?_ ?_
            rotate_left
            · intro w hSw; have q := fun i => cell_of_row _ _ i _ _ _ (Kt.row_on hSw HAW.out); go_simp; try with_reducible rfl
            try simp only [Act.put, List.setIfInBounds_toArray, List.set_cons_zero, List.set_cons_succ]
            refine Kt.G.takeP 1 { dst := some 46, op := Op.fieldAddr 24 (Operand.tmp 2) 1, type := 0, pos := "arena.go:86", after := #[], guard := none } ?_ (fun _ => hHeld) rfl (by kernel_rfl) (fun _ _ _ h => h) (by rfl) ?_ ?_
            rotate_left
            · intro w; go_simp; try with_reducible rfl
            try simp only [Act.put, List.setIfInBounds_toArray, List.set_cons_zero, List.set_cons_succ]
            refine Kt.G.take 2 { dst := some 47, op := Op.load 22 (Operand.tmp 46), type := 22, pos := "arena.go:86", after := #[{ on := 1, ground := Ground.data }], guard := none } ?_ hHeld rfl (by kernel_rfl) (fun _ _ _ h => h) (by rfl) ?_ ?_
            rotate_left
            · intro w hSw; have q := fun i => cell_of_row _ _ i _ _ _ (Kt.row_on hSw HAW.out); go_simp; try with_reducible rfl
            try simp only [Act.put, List.setIfInBounds_toArray, List.set_cons_zero, List.set_cons_succ]
            refine Kt.G.takeP 3 { dst := some 48, op := Op.move (Operand.tmp 6), type := 3, pos := "arena.go:86", after := #[], guard := none } ?_ (fun _ => hHeld) rfl (by kernel_rfl) (fun _ _ _ h => h) (by rfl) ?_ ?_
            rotate_left
            · intro w; go_simp; try with_reducible rfl
            try simp only [Act.put, List.setIfInBounds_toArray, List.set_cons_zero, List.set_cons_succ]
            refine Kt.G.takeP 4 { dst := some 49, op := Op.indexAddr 22 (Operand.tmp 47) (Operand.tmp 48), type := 0, pos := "arena.go:86", after := #[{ on := 2, ground := Ground.data }, { on := 3, ground := Ground.data }], guard := none } ?_ (fun _ => hHeld) rfl (by kernel_rfl) (fun _ _ _ h => h) (by rfl) ?_ ?_
            rotate_left
            · intro w; go_simp; try with_reducible rfl
            try simp only [Act.put, List.setIfInBounds_toArray, List.set_cons_zero, List.set_cons_succ]
            refine Kt.G.takeP 5 { dst := some 50, op := Op.fieldAddr 30 (Operand.tmp 49) 0, type := 0, pos := "arena.go:86", after := #[{ on := 4, ground := Ground.data }], guard := none } ?_ (fun _ => hHeld) rfl (by kernel_rfl) (fun _ _ _ h => h) (by rfl) ?_ ?_
            rotate_left
            · intro w; go_simp; try with_reducible rfl
            try simp only [Act.put, List.setIfInBounds_toArray, List.set_cons_zero, List.set_cons_succ]
            refine Kt.G.take 6 { dst := some 51, op := Op.load 3 (Operand.tmp 50), type := 3, pos := "arena.go:86", after := #[{ on := 5, ground := Ground.data }], guard := none } ?_ hHeld rfl (by kernel_rfl) (fun _ _ _ h => h) (by rfl) ?_ ?_
            rotate_left
            · intro w hSw; have q6 := (hSw.cell (p := ⟨bb, o + k * 2, none⟩) hbb).trans hcc; go_simp; try with_reducible rfl
            try simp only [Act.put, List.setIfInBounds_toArray, List.set_cons_zero, List.set_cons_succ]
            refine Kt.G.two 7 11 { dst := some 52, op := Op.call { callee := Callee.value (Operand.func 11), args := #[Operand.tmp 45, Operand.tmp 51], argTypes := #[24, 3] }, type := 32, pos := "arena.go:86", after := #[{ on := 0, ground := Ground.data }, { on := 6, ground := Ground.data }], guard := none } { dst := some 7, op := Op.alloc 24, type := 0, pos := "arena.go:86", after := #[], guard := none } rfl rfl (by kernel_rfl) (by rfl) (by rfl) (fun K hK => ?_) (fun K hK => ?_)
            · go_simp
              have hz := hHeld.size
              refine (give_calls size l2 _ a0 _ (HVW.out.on hHeld) HLE.out).mono ?_
              rintro en x1 ⟨hg, hb⟩
              obtain ⟨l3, A2, c2, h3, hc3, rfl, hs⟩ := give_must HC.out.1 HEX.out hg
              refine hK.out _ _ (fun _ => Kt.bthen hHeld hb) (fun hHeld => ?_)
              have hHeld := hHeld rfl
              clear hK K
              try simp only [Act.put, List.setIfInBounds_toArray, List.set_cons_zero, List.set_cons_succ]
              have hs := hs.mono (B' := W0.heap.size) hz
              clear hb hz hg
              refine Kt.G.takeP 8 { dst := some 44, op := Op.move (Operand.tmp 52), type := 32, pos := "arena.go:86", after := #[{ on := 7, ground := Ground.data }], guard := none } ?_ (fun _ => hHeld) rfl (by kernel_rfl) (fun _ _ _ h => h) (by rfl) ?_ ?_
              rotate_left
              · intro w; go_simp; try with_reducible rfl
              try simp only [Act.put, List.setIfInBounds_toArray, List.set_cons_zero, List.set_cons_succ]
              refine Kt.G.takeP 9 { dst := some 53, op := Op.extract (Operand.tmp 44) 0, type := 24, pos := "arena.go:86", after := #[{ on := 8, ground := Ground.data }], guard := none } ?_ (fun _ => hHeld) rfl (by kernel_rfl) (fun _ _ _ h => h) (by rfl) ?_ ?_
              rotate_left
              · intro w; go_simp; try with_reducible rfl
              try simp only [Act.put, List.setIfInBounds_toArray, List.set_cons_zero, List.set_cons_succ]
              refine Kt.G.takeP 10 { dst := some 54, op := Op.extract (Operand.tmp 44) 1, type := 25, pos := "arena.go:86", after := #[{ on := 8, ground := Ground.data }, { on := 12, ground := Ground.gcOnly Departure.lateStores }], guard := none } ?_ (fun _ => hHeld) rfl (by kernel_rfl) (fun _ _ _ h => h) (by rfl) ?_ ?_
              rotate_left
              · intro w; go_simp; try with_reducible rfl
              try simp only [Act.put, List.setIfInBounds_toArray, List.set_cons_zero, List.set_cons_succ]
              refine Kt.G.one 11 { dst := some 7, op := Op.alloc 24, type := 0, pos := "arena.go:86", after := #[], guard := none } rfl (by kernel_rfl) (by rfl) (fun K hK => ?_)
              go_simp
              have hOld := hHeld
              refine hK.out _ _ (fun _ => Kt.balloc hHeld _) (fun hHeld => ?_)
              have hHeld := hHeld rfl
              clear hK K
              try simp only [Act.put, List.setIfInBounds_toArray, List.set_cons_zero, List.set_cons_succ]
              have hne : ∀ j, (Value.slice A2 l3.length c2).ownBlock = some j → j ≠ x1.heap.size := fun j hj => by have := (hs.lt j hj).2; omega
              have hs := hs.alloc (.cells #[.int .i64 0, .slice none 0 0] 24)
              have hKB := heap_alloc_new x1 (.cells #[.int .i64 0, .slice none 0 0] 24)
              have hKg : W0.heap.size ≤ x1.heap.size := hOld.size
              have hKl : x1.heap.size < (x1.alloc (.cells #[.int .i64 0, .slice none 0 0] 24)).heap.size := by rw [World.size_alloc]; omega
              clear hOld
              generalize x1.heap.size = KB at *
              generalize x1.alloc (.cells #[.int .i64 0, .slice none 0 0] 24) = x2 at *
              refine Kt.G.one 12 { dst := none, op := Op.store 24 (Operand.tmp 7) (Operand.tmp 53), type := 0, pos := "arena.go:86", after := #[{ on := 11, ground := Ground.data }, { on := 9, ground := Ground.data }, { on := 7, ground := Ground.chain }, { on := 0, ground := Ground.phase }, { on := 1, ground := Ground.phase }, { on := 2, ground := Ground.phase }, { on := 3, ground := Ground.phase }, { on := 4, ground := Ground.phase }, { on := 5, ground := Ground.phase }, { on := 6, ground := Ground.phase }, { on := 7, ground := Ground.phase }, { on := 8, ground := Ground.phase }, { on := 9, ground := Ground.phase }, { on := 10, ground := Ground.textOnly Departure.lateStores }, { on := 11, ground := Ground.phase }], guard := none } rfl (by kernel_rfl) (by rfl) (fun K hK => ?_)
              have hHeld9 := hHeld
              have hRA := Kt.row_on hHeld9 HAW.out
              have qk := fun i => cell_of_row _ _ i _ _ _ hKB
              have qf := fun i => frozen_of_row _ _ i _ _ hKB
              have qa := fun i => cell_of_row _ _ i _ _ _ hRA
              have qb := fun i => frozen_of_row _ _ i _ _ hRA
              go_simp
              refine hK.out _ _ (Kt.G.late (by kernel_rfl)) (fun _ => ?_)
              clear hK K
              try simp only [Act.put, List.setIfInBounds_toArray, List.set_cons_zero, List.set_cons_succ]
              refine Kt.G.takeP 13 { dst := some 8, op := Op.assign (Operand.tmp 54), type := 25, pos := "arena.go:86", after := #[{ on := 10, ground := Ground.data }, { on := 12, ground := Ground.chain }, { on := 0, ground := Ground.phase }, { on := 1, ground := Ground.phase }, { on := 2, ground := Ground.phase }, { on := 3, ground := Ground.phase }, { on := 4, ground := Ground.phase }, { on := 5, ground := Ground.phase }, { on := 6, ground := Ground.phase }, { on := 7, ground := Ground.phase }, { on := 8, ground := Ground.phase }, { on := 9, ground := Ground.phase }, { on := 10, ground := Ground.phase }, { on := 11, ground := Ground.phase }, { on := 12, ground := Ground.phase }], guard := none } ?_ (Kt.G.late (by kernel_rfl)) rfl (by kernel_rfl) (fun _ _ _ h => h) (by rfl) ?_ ?_
              rotate_left
              · intro w; go_simp; try with_reducible rfl
              try simp only [Act.put, List.setIfInBounds_toArray, List.set_cons_zero, List.set_cons_succ]
              refine Kt.G.done (by kernel_rfl) (NoPanic.normal ?_) _
              have hlw : w.heap.size < W0.heap.size := (Array.getElem?_eq_some_iff.1 HAW.out).1
              have hmm : (l3.length : Int) = (l2.length : Int) - 1 := by omega
              have ewl := less_l HC.out.2
              have hsl := (hs.sets [.int .i64 size, .slice A2 l3.length c2] KB 0 hne).sets [.int .i64 size, .slice A2 l3.length c2] w.heap.size 0 (fun i hi => by have := (hs.lt i hi).1; omega)
              have hbl := Kt.below_setCells [.int .i64 size, .slice A2 l3.length c2] w.heap.size 0 _ _ (Nat.le_refl _) (Kt.below_setCells [.int .i64 size, .slice A2 l3.length c2] KB 0 _ _ (by omega) (HBW.out.trans (hHeld9.mono (Nat.le_of_lt hlw))))
              have hrow := Kt.fill [.int .i64 size, .slice A2 l3.length c2] ((Below.heap_setCell _ ⟨KB, 1, none⟩ (.slice A2 l3.length c2) w.heap.size (by show w.heap.size ≠ KB; omega)).trans ((Below.heap_setCell _ ⟨KB, 0, none⟩ (.int .i64 size) w.heap.size (by show w.heap.size ≠ KB; omega)).trans hRA)) rfl
              have HFIN := Lib.hid (And.intro hsl (And.intro hbl (And.intro hrow (And.intro hc3 (next_le HC.out.2 h3)))))
              have hrA : ((x2.setCell ⟨KB, 0, none⟩ (.int .i64 size)).setCell ⟨KB, 1, none⟩ (.slice A2 l3.length c2)).heap[w.heap.size]? = _ := (Below.heap_setCell _ ⟨KB, 1, none⟩ (.slice A2 l3.length c2) w.heap.size (by show w.heap.size ≠ KB; omega)).trans ((Below.heap_setCell _ ⟨KB, 0, none⟩ (.int .i64 size) w.heap.size (by show w.heap.size ≠ KB; omega)).trans hRA)
              have q9 := fun i => cell_of_row _ _ i _ _ _ hrA
              have f9 := fun i => frozen_of_row _ _ i _ _ hrA
              clear hsl hbl hrow hs hc3 h3 hlw hrA qa qb
              go_wp2_with fail
              exact ⟨⟨j + 1, l3, A2, c2, congrArg _ (next_j HC.out.2), Lib.hid ⟨HFIN.out.2.2.2.1, HFIN.out.2.2.2.2⟩, Lib.hid (Kt.Ar.of_sl HFIN.out.1), Lib.hid HFIN.out.2.1, Lib.hid HFIN.out.2.2.1⟩, less_j HC.out.2 h0⟩
            · go_simp
              have hOld := hHeld
              refine hK.out _ _ (fun _ => Kt.balloc hHeld _) (fun hHeld => ?_)
              have hHeld := hHeld rfl
              clear hK K
              try simp only [Act.put, List.setIfInBounds_toArray, List.set_cons_zero, List.set_cons_succ]
              have hKB := heap_alloc_new W0 (.cells #[.int .i64 0, .slice none 0 0] 24)
              have hKg : W0.heap.size ≤ W0.heap.size := hOld.size
              have hKl : W0.heap.size < (W0.alloc (.cells #[.int .i64 0, .slice none 0 0] 24)).heap.size := by rw [World.size_alloc]; omega
              clear hOld
              generalize W0.alloc (.cells #[.int .i64 0, .slice none 0 0] 24) = x3 at *
              refine Kt.G.one 7 { dst := some 52, op := Op.call { callee := Callee.value (Operand.func 11), args := #[Operand.tmp 45, Operand.tmp 51], argTypes := #[24, 3] }, type := 32, pos := "arena.go:86", after := #[{ on := 0, ground := Ground.data }, { on := 6, ground := Ground.data }], guard := none } rfl (by kernel_rfl) (by rfl) (fun K hK => ?_)
              go_simp
              have hz := hHeld.size
              refine (give_calls size l2 _ a0 _ (HVW.out.on hHeld) HLE.out).mono ?_
              rintro en x4 ⟨hg, hb⟩
              obtain ⟨l3, A2, c2, h3, hc3, rfl, hs⟩ := give_must HC.out.1 HEX.out hg
              refine hK.out _ _ (fun _ => Kt.bthen hHeld hb) (fun hHeld => ?_)
              have hHeld := hHeld rfl
              clear hK K
              try simp only [Act.put, List.setIfInBounds_toArray, List.set_cons_zero, List.set_cons_succ]
              have hne : ∀ j, (Value.slice A2 l3.length c2).ownBlock = some j → j ≠ W0.heap.size := fun j hj => by have := (hs.lt j hj).1; omega
              have hKB := Kt.row_on hb hKB
              have hs := hs.mono (B' := W0.heap.size) hz
              clear hb hz hg
              refine Kt.G.takeP 8 { dst := some 44, op := Op.move (Operand.tmp 52), type := 32, pos := "arena.go:86", after := #[{ on := 7, ground := Ground.data }], guard := none } ?_ (fun _ => hHeld) rfl (by kernel_rfl) (fun _ _ _ h => h) (by rfl) ?_ ?_
              rotate_left
              · intro w; go_simp; try with_reducible rfl
              try simp only [Act.put, List.setIfInBounds_toArray, List.set_cons_zero, List.set_cons_succ]
              refine Kt.G.takeP 9 { dst := some 53, op := Op.extract (Operand.tmp 44) 0, type := 24, pos := "arena.go:86", after := #[{ on := 8, ground := Ground.data }], guard := none } ?_ (fun _ => hHeld) rfl (by kernel_rfl) (fun _ _ _ h => h) (by rfl) ?_ ?_
              rotate_left
              · intro w; go_simp; try with_reducible rfl
              try simp only [Act.put, List.setIfInBounds_toArray, List.set_cons_zero, List.set_cons_succ]
              refine Kt.G.takeP 10 { dst := some 54, op := Op.extract (Operand.tmp 44) 1, type := 25, pos := "arena.go:86", after := #[{ on := 8, ground := Ground.data }, { on := 12, ground := Ground.gcOnly Departure.lateStores }], guard := none } ?_ (fun _ => hHeld) rfl (by kernel_rfl) (fun _ _ _ h => h) (by rfl) ?_ ?_
              rotate_left
              · intro w; go_simp; try with_reducible rfl
              try simp only [Act.put, List.setIfInBounds_toArray, List.set_cons_zero, List.set_cons_succ]
              refine Kt.G.one 12 { dst := none, op := Op.store 24 (Operand.tmp 7) (Operand.tmp 53), type := 0, pos := "arena.go:86", after := #[{ on := 11, ground := Ground.data }, { on := 9, ground := Ground.data }, { on := 7, ground := Ground.chain }, { on := 0, ground := Ground.phase }, { on := 1, ground := Ground.phase }, { on := 2, ground := Ground.phase }, { on := 3, ground := Ground.phase }, { on := 4, ground := Ground.phase }, { on := 5, ground := Ground.phase }, { on := 6, ground := Ground.phase }, { on := 7, ground := Ground.phase }, { on := 8, ground := Ground.phase }, { on := 9, ground := Ground.phase }, { on := 10, ground := Ground.textOnly Departure.lateStores }, { on := 11, ground := Ground.phase }], guard := none } rfl (by kernel_rfl) (by rfl) (fun K hK => ?_)
              have hHeld9 := hHeld
              have hRA := Kt.row_on hHeld9 HAW.out
              have qk := fun i => cell_of_row _ _ i _ _ _ hKB
              have qf := fun i => frozen_of_row _ _ i _ _ hKB
              have qa := fun i => cell_of_row _ _ i _ _ _ hRA
              have qb := fun i => frozen_of_row _ _ i _ _ hRA
              go_simp
              refine hK.out _ _ (Kt.G.late (by kernel_rfl)) (fun _ => ?_)
              clear hK K
              try simp only [Act.put, List.setIfInBounds_toArray, List.set_cons_zero, List.set_cons_succ]
              refine Kt.G.takeP 13 { dst := some 8, op := Op.assign (Operand.tmp 54), type := 25, pos := "arena.go:86", after := #[{ on := 10, ground := Ground.data }, { on := 12, ground := Ground.chain }, { on := 0, ground := Ground.phase }, { on := 1, ground := Ground.phase }, { on := 2, ground := Ground.phase }, { on := 3, ground := Ground.phase }, { on := 4, ground := Ground.phase }, { on := 5, ground := Ground.phase }, { on := 6, ground := Ground.phase }, { on := 7, ground := Ground.phase }, { on := 8, ground := Ground.phase }, { on := 9, ground := Ground.phase }, { on := 10, ground := Ground.phase }, { on := 11, ground := Ground.phase }, { on := 12, ground := Ground.phase }], guard := none } ?_ (Kt.G.late (by kernel_rfl)) rfl (by kernel_rfl) (fun _ _ _ h => h) (by rfl) ?_ ?_
              rotate_left
              · intro w; go_simp; try with_reducible rfl
              try simp only [Act.put, List.setIfInBounds_toArray, List.set_cons_zero, List.set_cons_succ]
              refine Kt.G.done (by kernel_rfl) (NoPanic.normal ?_) _
              have hlw : w.heap.size < W0.heap.size := (Array.getElem?_eq_some_iff.1 HAW.out).1
              have hmm : (l3.length : Int) = (l2.length : Int) - 1 := by omega
              have ewl := less_l HC.out.2
              have hsl := (hs.sets [.int .i64 size, .slice A2 l3.length c2] W0.heap.size 0 hne).sets [.int .i64 size, .slice A2 l3.length c2] w.heap.size 0 (fun i hi => by have := (hs.lt i hi).1; omega)
              have hbl := Kt.below_setCells [.int .i64 size, .slice A2 l3.length c2] w.heap.size 0 _ _ (Nat.le_refl _) (Kt.below_setCells [.int .i64 size, .slice A2 l3.length c2] W0.heap.size 0 _ _ (by omega) (HBW.out.trans (hHeld9.mono (Nat.le_of_lt hlw))))
              have hrow := Kt.fill [.int .i64 size, .slice A2 l3.length c2] ((Below.heap_setCell _ ⟨W0.heap.size, 1, none⟩ (.slice A2 l3.length c2) w.heap.size (by show w.heap.size ≠ W0.heap.size; omega)).trans ((Below.heap_setCell _ ⟨W0.heap.size, 0, none⟩ (.int .i64 size) w.heap.size (by show w.heap.size ≠ W0.heap.size; omega)).trans hRA)) rfl
              have HFIN := Lib.hid (And.intro hsl (And.intro hbl (And.intro hrow (And.intro hc3 (next_le HC.out.2 h3)))))
              have hrA : ((x4.setCell ⟨W0.heap.size, 0, none⟩ (.int .i64 size)).setCell ⟨W0.heap.size, 1, none⟩ (.slice A2 l3.length c2)).heap[w.heap.size]? = _ := (Below.heap_setCell _ ⟨W0.heap.size, 1, none⟩ (.slice A2 l3.length c2) w.heap.size (by show w.heap.size ≠ W0.heap.size; omega)).trans ((Below.heap_setCell _ ⟨W0.heap.size, 0, none⟩ (.int .i64 size) w.heap.size (by show w.heap.size ≠ W0.heap.size; omega)).trans hRA)
              have q9 := fun i => cell_of_row _ _ i _ _ _ hrA
              have f9 := fun i => frozen_of_row _ _ i _ _ hrA
              clear hsl hbl hrow hs hc3 h3 hlw hrA qa qb
              go_wp2_with fail
              exact ⟨⟨j + 1, l3, A2, c2, congrArg _ (next_j HC.out.2), Lib.hid ⟨HFIN.out.2.2.2.1, HFIN.out.2.2.2.2⟩, Lib.hid (Kt.Ar.of_sl HFIN.out.1), Lib.hid HFIN.out.2.1, Lib.hid HFIN.out.2.2.1⟩, less_j HC.out.2 h0⟩
          · have hk0 : True := trivial
            obtain ⟨bb, o, c9, hve, hbb, hcc, _⟩ := Kt.Ar.span (w' := wr) HV.out 0 h00
            cases hve
            have HEX : Hid (∃ s ∈ l2, s.1 = (l2[0]'h00).1) := Lib.hid ⟨_, List.getElem_mem h00, rfl⟩
            generalize (l2[0]'h00).1 = a0 at HEX hcc
            rw [Nat.zero_mul, Nat.add_zero] at hcc
            go_upto_region 9 with (fail)
            have HAW : Hid (wr.drew.heap[w.heap.size]? = _) := HA
            have HVW := Lib.hid (HV.out.on (Below.refl wr.heap.size wr).drew)
            have HBW := Lib.hid HB.out.drew
            have hcc : wr.drew.cell? _ = _ := hcc
            have hbb : bb < wr.drew.heap.size := hbb
            clear HA HV HB q
            refine Kt.G.start 12 (fun X => Below wr.drew.heap.size wr.drew X) (by kernel_rfl) (Below.refl _ _) (fun hHeld => ?_)
            generalize wr.drew = W0 at *
            refine Kt.G.take 0 { dst := some 45, op := Op.load 24 (Operand.tmp 2), type := 24, pos := "arena.go:86", after := #[], guard := none } ?_ hHeld rfl (by kernel_rfl) (fun _ _ _ h => h) (by rfl) ?_ ?_
            rotate_left
            · intro w hSw; have q := fun i => cell_of_row _ _ i _ _ _ (Kt.row_on hSw HAW.out); go_simp; try with_reducible rfl
            try simp only [Act.put, List.setIfInBounds_toArray, List.set_cons_zero, List.set_cons_succ]
            refine Kt.G.takeP 1 { dst := some 46, op := Op.fieldAddr 24 (Operand.tmp 2) 1, type := 0, pos := "arena.go:86", after := #[], guard := none } ?_ (fun _ => hHeld) rfl (by kernel_rfl) (fun _ _ _ h => h) (by rfl) ?_ ?_
            rotate_left
            · intro w; go_simp; try with_reducible rfl
            try simp only [Act.put, List.setIfInBounds_toArray, List.set_cons_zero, List.set_cons_succ]
            refine Kt.G.take 2 { dst := some 47, op := Op.load 22 (Operand.tmp 46), type := 22, pos := "arena.go:86", after := #[{ on := 1, ground := Ground.data }], guard := none } ?_ hHeld rfl (by kernel_rfl) (fun _ _ _ h => h) (by rfl) ?_ ?_
            rotate_left
            · intro w hSw; have q := fun i => cell_of_row _ _ i _ _ _ (Kt.row_on hSw HAW.out); go_simp; try with_reducible rfl
            try simp only [Act.put, List.setIfInBounds_toArray, List.set_cons_zero, List.set_cons_succ]
            refine Kt.G.takeP 3 { dst := some 48, op := Op.move (Operand.tmp 6), type := 3, pos := "arena.go:86", after := #[], guard := none } ?_ (fun _ => hHeld) rfl (by kernel_rfl) (fun _ _ _ h => h) (by rfl) ?_ ?_
            rotate_left
            · intro w; go_simp; try with_reducible rfl
            try simp only [Act.put, List.setIfInBounds_toArray, List.set_cons_zero, List.set_cons_succ]
            refine Kt.G.takeP 4 { dst := some 49, op := Op.indexAddr 22 (Operand.tmp 47) (Operand.tmp 48), type := 0, pos := "arena.go:86", after := #[{ on := 2, ground := Ground.data }, { on := 3, ground := Ground.data }], guard := none } ?_ (fun _ => hHeld) rfl (by kernel_rfl) (fun _ _ _ h => h) (by rfl) ?_ ?_
            rotate_left
            · intro w; go_simp; try with_reducible rfl
            try simp only [Act.put, List.setIfInBounds_toArray, List.set_cons_zero, List.set_cons_succ]
            refine Kt.G.takeP 5 { dst := some 50, op := Op.fieldAddr 30 (Operand.tmp 49) 0, type := 0, pos := "arena.go:86", after := #[{ on := 4, ground := Ground.data }], guard := none } ?_ (fun _ => hHeld) rfl (by kernel_rfl) (fun _ _ _ h => h) (by rfl) ?_ ?_
            rotate_left
            · intro w; go_simp; try with_reducible rfl
            try simp only [Act.put, List.setIfInBounds_toArray, List.set_cons_zero, List.set_cons_succ]
            refine Kt.G.take 6 { dst := some 51, op := Op.load 3 (Operand.tmp 50), type := 3, pos := "arena.go:86", after := #[{ on := 5, ground := Ground.data }], guard := none } ?_ hHeld rfl (by kernel_rfl) (fun _ _ _ h => h) (by rfl) ?_ ?_
            rotate_left
            · intro w hSw; have q6 := (hSw.cell (p := ⟨bb, o, none⟩) hbb).trans hcc; go_simp; try with_reducible rfl
            try simp only [Act.put, List.setIfInBounds_toArray, List.set_cons_zero, List.set_cons_succ]
            refine Kt.G.two 7 11 { dst := some 52, op := Op.call { callee := Callee.value (Operand.func 11), args := #[Operand.tmp 45, Operand.tmp 51], argTypes := #[24, 3] }, type := 32, pos := "arena.go:86", after := #[{ on := 0, ground := Ground.data }, { on := 6, ground := Ground.data }], guard := none } { dst := some 7, op := Op.alloc 24, type := 0, pos := "arena.go:86", after := #[], guard := none } rfl rfl (by kernel_rfl) (by rfl) (by rfl) (fun K hK => ?_) (fun K hK => ?_)
            · go_simp
              have hz := hHeld.size
              refine (give_calls size l2 _ a0 _ (HVW.out.on hHeld) HLE.out).mono ?_
              rintro en x1 ⟨hg, hb⟩
              obtain ⟨l3, A2, c2, h3, hc3, rfl, hs⟩ := give_must HC.out.1 HEX.out hg
              refine hK.out _ _ (fun _ => Kt.bthen hHeld hb) (fun hHeld => ?_)
              have hHeld := hHeld rfl
              clear hK K
              try simp only [Act.put, List.setIfInBounds_toArray, List.set_cons_zero, List.set_cons_succ]
              have hs := hs.mono (B' := W0.heap.size) hz
              clear hb hz hg
              refine Kt.G.takeP 8 { dst := some 44, op := Op.move (Operand.tmp 52), type := 32, pos := "arena.go:86", after := #[{ on := 7, ground := Ground.data }], guard := none } ?_ (fun _ => hHeld) rfl (by kernel_rfl) (fun _ _ _ h => h) (by rfl) ?_ ?_
              rotate_left
              · intro w; go_simp; try with_reducible rfl
              try simp only [Act.put, List.setIfInBounds_toArray, List.set_cons_zero, List.set_cons_succ]
              refine Kt.G.takeP 9 { dst := some 53, op := Op.extract (Operand.tmp 44) 0, type := 24, pos := "arena.go:86", after := #[{ on := 8, ground := Ground.data }], guard := none } ?_ (fun _ => hHeld) rfl (by kernel_rfl) (fun _ _ _ h => h) (by rfl) ?_ ?_
              rotate_left
              · intro w; go_simp; try with_reducible rfl
              try simp only [Act.put, List.setIfInBounds_toArray, List.set_cons_zero, List.set_cons_succ]
              refine Kt.G.takeP 10 { dst := some 54, op := Op.extract (Operand.tmp 44) 1, type := 25, pos := "arena.go:86", after := #[{ on := 8, ground := Ground.data }, { on := 12, ground := Ground.gcOnly Departure.lateStores }], guard := none } ?_ (fun _ => hHeld) rfl (by kernel_rfl) (fun _ _ _ h => h) (by rfl) ?_ ?_
              rotate_left
              · intro w; go_simp; try with_reducible rfl
              try simp only [Act.put, List.setIfInBounds_toArray, List.set_cons_zero, List.set_cons_succ]
              refine Kt.G.one 11 { dst := some 7, op := Op.alloc 24, type := 0, pos := "arena.go:86", after := #[], guard := none } rfl (by kernel_rfl) (by rfl) (fun K hK => ?_)
              go_simp
              have hOld := hHeld
              refine hK.out _ _ (fun _ => Kt.balloc hHeld _) (fun hHeld => ?_)
              have hHeld := hHeld rfl
              clear hK K
              try simp only [Act.put, List.setIfInBounds_toArray, List.set_cons_zero, List.set_cons_succ]
              have hne : ∀ j, (Value.slice A2 l3.length c2).ownBlock = some j → j ≠ x1.heap.size := fun j hj => by have := (hs.lt j hj).2; omega
              have hs := hs.alloc (.cells #[.int .i64 0, .slice none 0 0] 24)
              have hKB := heap_alloc_new x1 (.cells #[.int .i64 0, .slice none 0 0] 24)
              have hKg : W0.heap.size ≤ x1.heap.size := hOld.size
              have hKl : x1.heap.size < (x1.alloc (.cells #[.int .i64 0, .slice none 0 0] 24)).heap.size := by rw [World.size_alloc]; omega
              clear hOld
              generalize x1.heap.size = KB at *
              generalize x1.alloc (.cells #[.int .i64 0, .slice none 0 0] 24) = x2 at *
              refine Kt.G.one 12 { dst := none, op := Op.store 24 (Operand.tmp 7) (Operand.tmp 53), type := 0, pos := "arena.go:86", after := #[{ on := 11, ground := Ground.data }, { on := 9, ground := Ground.data }, { on := 7, ground := Ground.chain }, { on := 0, ground := Ground.phase }, { on := 1, ground := Ground.phase }, { on := 2, ground := Ground.phase }, { on := 3, ground := Ground.phase }, { on := 4, ground := Ground.phase }, { on := 5, ground := Ground.phase }, { on := 6, ground := Ground.phase }, { on := 7, ground := Ground.phase }, { on := 8, ground := Ground.phase }, { on := 9, ground := Ground.phase }, { on := 10, ground := Ground.textOnly Departure.lateStores }, { on := 11, ground := Ground.phase }], guard := none } rfl (by kernel_rfl) (by rfl) (fun K hK => ?_)
              have hHeld9 := hHeld
              have hRA := Kt.row_on hHeld9 HAW.out
              have qk := fun i => cell_of_row _ _ i _ _ _ hKB
              have qf := fun i => frozen_of_row _ _ i _ _ hKB
              have qa := fun i => cell_of_row _ _ i _ _ _ hRA
              have qb := fun i => frozen_of_row _ _ i _ _ hRA
              go_simp
              refine hK.out _ _ (Kt.G.late (by kernel_rfl)) (fun _ => ?_)
              clear hK K
              try simp only [Act.put, List.setIfInBounds_toArray, List.set_cons_zero, List.set_cons_succ]
              refine Kt.G.takeP 13 { dst := some 8, op := Op.assign (Operand.tmp 54), type := 25, pos := "arena.go:86", after := #[{ on := 10, ground := Ground.data }, { on := 12, ground := Ground.chain }, { on := 0, ground := Ground.phase }, { on := 1, ground := Ground.phase }, { on := 2, ground := Ground.phase }, { on := 3, ground := Ground.phase }, { on := 4, ground := Ground.phase }, { on := 5, ground := Ground.phase }, { on := 6, ground := Ground.phase }, { on := 7, ground := Ground.phase }, { on := 8, ground := Ground.phase }, { on := 9, ground := Ground.phase }, { on := 10, ground := Ground.phase }, { on := 11, ground := Ground.phase }, { on := 12, ground := Ground.phase }], guard := none } ?_ (Kt.G.late (by kernel_rfl)) rfl (by kernel_rfl) (fun _ _ _ h => h) (by rfl) ?_ ?_
              rotate_left
              · intro w; go_simp; try with_reducible rfl
              try simp only [Act.put, List.setIfInBounds_toArray, List.set_cons_zero, List.set_cons_succ]
              refine Kt.G.done (by kernel_rfl) (NoPanic.normal ?_) _
              have hlw : w.heap.size < W0.heap.size := (Array.getElem?_eq_some_iff.1 HAW.out).1
              have hmm : (l3.length : Int) = (l2.length : Int) - 1 := by omega
              have ewl := less_l HC.out.2
              have hsl := (hs.sets [.int .i64 size, .slice A2 l3.length c2] KB 0 hne).sets [.int .i64 size, .slice A2 l3.length c2] w.heap.size 0 (fun i hi => by have := (hs.lt i hi).1; omega)
              have hbl := Kt.below_setCells [.int .i64 size, .slice A2 l3.length c2] w.heap.size 0 _ _ (Nat.le_refl _) (Kt.below_setCells [.int .i64 size, .slice A2 l3.length c2] KB 0 _ _ (by omega) (HBW.out.trans (hHeld9.mono (Nat.le_of_lt hlw))))
              have hrow := Kt.fill [.int .i64 size, .slice A2 l3.length c2] ((Below.heap_setCell _ ⟨KB, 1, none⟩ (.slice A2 l3.length c2) w.heap.size (by show w.heap.size ≠ KB; omega)).trans ((Below.heap_setCell _ ⟨KB, 0, none⟩ (.int .i64 size) w.heap.size (by show w.heap.size ≠ KB; omega)).trans hRA)) rfl
              have HFIN := Lib.hid (And.intro hsl (And.intro hbl (And.intro hrow (And.intro hc3 (next_le HC.out.2 h3)))))
              have hrA : ((x2.setCell ⟨KB, 0, none⟩ (.int .i64 size)).setCell ⟨KB, 1, none⟩ (.slice A2 l3.length c2)).heap[w.heap.size]? = _ := (Below.heap_setCell _ ⟨KB, 1, none⟩ (.slice A2 l3.length c2) w.heap.size (by show w.heap.size ≠ KB; omega)).trans ((Below.heap_setCell _ ⟨KB, 0, none⟩ (.int .i64 size) w.heap.size (by show w.heap.size ≠ KB; omega)).trans hRA)
              have q9 := fun i => cell_of_row _ _ i _ _ _ hrA
              have f9 := fun i => frozen_of_row _ _ i _ _ hrA
              clear hsl hbl hrow hs hc3 h3 hlw hrA qa qb
              go_wp2_with fail
              exact ⟨⟨j + 1, l3, A2, c2, congrArg _ (next_j HC.out.2), Lib.hid ⟨HFIN.out.2.2.2.1, HFIN.out.2.2.2.2⟩, Lib.hid (Kt.Ar.of_sl HFIN.out.1), Lib.hid HFIN.out.2.1, Lib.hid HFIN.out.2.2.1⟩, less_j HC.out.2 h0⟩
            · go_simp
              have hOld := hHeld
              refine hK.out _ _ (fun _ => Kt.balloc hHeld _) (fun hHeld => ?_)
              have hHeld := hHeld rfl
              clear hK K
              try simp only [Act.put, List.setIfInBounds_toArray, List.set_cons_zero, List.set_cons_succ]
              have hKB := heap_alloc_new W0 (.cells #[.int .i64 0, .slice none 0 0] 24)
              have hKg : W0.heap.size ≤ W0.heap.size := hOld.size
              have hKl : W0.heap.size < (W0.alloc (.cells #[.int .i64 0, .slice none 0 0] 24)).heap.size := by rw [World.size_alloc]; omega
              clear hOld
              generalize W0.alloc (.cells #[.int .i64 0, .slice none 0 0] 24) = x3 at *
              refine Kt.G.one 7 { dst := some 52, op := Op.call { callee := Callee.value (Operand.func 11), args := #[Operand.tmp 45, Operand.tmp 51], argTypes := #[24, 3] }, type := 32, pos := "arena.go:86", after := #[{ on := 0, ground := Ground.data }, { on := 6, ground := Ground.data }], guard := none } rfl (by kernel_rfl) (by rfl) (fun K hK => ?_)
              go_simp
              have hz := hHeld.size
              refine (give_calls size l2 _ a0 _ (HVW.out.on hHeld) HLE.out).mono ?_
              rintro en x4 ⟨hg, hb⟩
              obtain ⟨l3, A2, c2, h3, hc3, rfl, hs⟩ := give_must HC.out.1 HEX.out hg
              refine hK.out _ _ (fun _ => Kt.bthen hHeld hb) (fun hHeld => ?_)
              have hHeld := hHeld rfl
              clear hK K
              try simp only [Act.put, List.setIfInBounds_toArray, List.set_cons_zero, List.set_cons_succ]
              have hne : ∀ j, (Value.slice A2 l3.length c2).ownBlock = some j → j ≠ W0.heap.size := fun j hj => by have := (hs.lt j hj).1; omega
              have hKB := Kt.row_on hb hKB
              have hs := hs.mono (B' := W0.heap.size) hz
              clear hb hz hg
              refine Kt.G.takeP 8 { dst := some 44, op := Op.move (Operand.tmp 52), type := 32, pos := "arena.go:86", after := #[{ on := 7, ground := Ground.data }], guard := none } ?_ (fun _ => hHeld) rfl (by kernel_rfl) (fun _ _ _ h => h) (by rfl) ?_ ?_
              rotate_left
              · intro w; go_simp; try with_reducible rfl
              try simp only [Act.put, List.setIfInBounds_toArray, List.set_cons_zero, List.set_cons_succ]
              refine Kt.G.takeP 9 { dst := some 53, op := Op.extract (Operand.tmp 44) 0, type := 24, pos := "arena.go:86", after := #[{ on := 8, ground := Ground.data }], guard := none } ?_ (fun _ => hHeld) rfl (by kernel_rfl) (fun _ _ _ h => h) (by rfl) ?_ ?_
              rotate_left
              · intro w; go_simp; try with_reducible rfl
              try simp only [Act.put, List.setIfInBounds_toArray, List.set_cons_zero, List.set_cons_succ]
              refine Kt.G.takeP 10 { dst := some 54, op := Op.extract (Operand.tmp 44) 1, type := 25, pos := "arena.go:86", after := #[{ on := 8, ground := Ground.data }, { on := 12, ground := Ground.gcOnly Departure.lateStores }], guard := none } ?_ (fun _ => hHeld) rfl (by kernel_rfl) (fun _ _ _ h => h) (by rfl) ?_ ?_
              rotate_left
              · intro w; go_simp; try with_reducible rfl
              try simp only [Act.put, List.setIfInBounds_toArray, List.set_cons_zero, List.set_cons_succ]
              refine Kt.G.one 12 { dst := none, op := Op.store 24 (Operand.tmp 7) (Operand.tmp 53), type := 0, pos := "arena.go:86", after := #[{ on := 11, ground := Ground.data }, { on := 9, ground := Ground.data }, { on := 7, ground := Ground.chain }, { on := 0, ground := Ground.phase }, { on := 1, ground := Ground.phase }, { on := 2, ground := Ground.phase }, { on := 3, ground := Ground.phase }, { on := 4, ground := Ground.phase }, { on := 5, ground := Ground.phase }, { on := 6, ground := Ground.phase }, { on := 7, ground := Ground.phase }, { on := 8, ground := Ground.phase }, { on := 9, ground := Ground.phase }, { on := 10, ground := Ground.textOnly Departure.lateStores }, { on := 11, ground := Ground.phase }], guard := none } rfl (by kernel_rfl) (by rfl) (fun K hK => ?_)
              have hHeld9 := hHeld
              have hRA := Kt.row_on hHeld9 HAW.out
              have qk := fun i => cell_of_row _ _ i _ _ _ hKB
              have qf := fun i => frozen_of_row _ _ i _ _ hKB
              have qa := fun i => cell_of_row _ _ i _ _ _ hRA
              have qb := fun i => frozen_of_row _ _ i _ _ hRA
              go_simp
              refine hK.out _ _ (Kt.G.late (by kernel_rfl)) (fun _ => ?_)
              clear hK K
              try simp only [Act.put, List.setIfInBounds_toArray, List.set_cons_zero, List.set_cons_succ]
              refine Kt.G.takeP 13 { dst := some 8, op := Op.assign (Operand.tmp 54), type := 25, pos := "arena.go:86", after := #[{ on := 10, ground := Ground.data }, { on := 12, ground := Ground.chain }, { on := 0, ground := Ground.phase }, { on := 1, ground := Ground.phase }, { on := 2, ground := Ground.phase }, { on := 3, ground := Ground.phase }, { on := 4, ground := Ground.phase }, { on := 5, ground := Ground.phase }, { on := 6, ground := Ground.phase }, { on := 7, ground := Ground.phase }, { on := 8, ground := Ground.phase }, { on := 9, ground := Ground.phase }, { on := 10, ground := Ground.phase }, { on := 11, ground := Ground.phase }, { on := 12, ground := Ground.phase }], guard := none } ?_ (Kt.G.late (by kernel_rfl)) rfl (by kernel_rfl) (fun _ _ _ h => h) (by rfl) ?_ ?_
              rotate_left
              · intro w; go_simp; try with_reducible rfl
              try simp only [Act.put, List.setIfInBounds_toArray, List.set_cons_zero, List.set_cons_succ]
              refine Kt.G.done (by kernel_rfl) (NoPanic.normal ?_) _
              have hlw : w.heap.size < W0.heap.size := (Array.getElem?_eq_some_iff.1 HAW.out).1
              have hmm : (l3.length : Int) = (l2.length : Int) - 1 := by omega
              have ewl := less_l HC.out.2
              have hsl := (hs.sets [.int .i64 size, .slice A2 l3.length c2] W0.heap.size 0 hne).sets [.int .i64 size, .slice A2 l3.length c2] w.heap.size 0 (fun i hi => by have := (hs.lt i hi).1; omega)
              have hbl := Kt.below_setCells [.int .i64 size, .slice A2 l3.length c2] w.heap.size 0 _ _ (Nat.le_refl _) (Kt.below_setCells [.int .i64 size, .slice A2 l3.length c2] W0.heap.size 0 _ _ (by omega) (HBW.out.trans (hHeld9.mono (Nat.le_of_lt hlw))))
              have hrow := Kt.fill [.int .i64 size, .slice A2 l3.length c2] ((Below.heap_setCell _ ⟨W0.heap.size, 1, none⟩ (.slice A2 l3.length c2) w.heap.size (by show w.heap.size ≠ W0.heap.size; omega)).trans ((Below.heap_setCell _ ⟨W0.heap.size, 0, none⟩ (.int .i64 size) w.heap.size (by show w.heap.size ≠ W0.heap.size; omega)).trans hRA)) rfl
              have HFIN := Lib.hid (And.intro hsl (And.intro hbl (And.intro hrow (And.intro hc3 (next_le HC.out.2 h3)))))
              have hrA : ((x4.setCell ⟨W0.heap.size, 0, none⟩ (.int .i64 size)).setCell ⟨W0.heap.size, 1, none⟩ (.slice A2 l3.length c2)).heap[w.heap.size]? = _ := (Below.heap_setCell _ ⟨W0.heap.size, 1, none⟩ (.slice A2 l3.length c2) w.heap.size (by show w.heap.size ≠ W0.heap.size; omega)).trans ((Below.heap_setCell _ ⟨W0.heap.size, 0, none⟩ (.int .i64 size) w.heap.size (by show w.heap.size ≠ W0.heap.size; omega)).trans hRA)
              have q9 := fun i => cell_of_row _ _ i _ _ _ hrA
              have f9 := fun i => frozen_of_row _ _ i _ _ hrA
              clear hsl hbl hrow hs hc3 h3 hlw hrA qa qb
              go_wp2_with fail
              exact ⟨⟨j + 1, l3, A2, c2, congrArg _ (next_j HC.out.2), Lib.hid ⟨HFIN.out.2.2.2.1, HFIN.out.2.2.2.2⟩, Lib.hid (Kt.Ar.of_sl HFIN.out.1), Lib.hid HFIN.out.2.1, Lib.hid HFIN.out.2.2.1⟩, less_j HC.out.2 h0⟩
        · have ej : ¬ (j : Int) < ns.length := by omega
          obtain ⟨bb, o, c9, hve, hbb, hcc, _⟩ := Kt.Ar.span (w' := wr) HV.out 0 h00
          cases hve
          have HEX : Hid (∃ s ∈ l2, s.1 = (l2[0]'h00).1) := Lib.hid ⟨_, List.getElem_mem h00, rfl⟩
          generalize (l2[0]'h00).1 = a0 at HEX hcc
          rw [Nat.zero_mul, Nat.add_zero] at hcc
          go_upto_region 9 with (fail)
          have HAW : Hid (wr.drew.heap[w.heap.size]? = _) := HA
          have HVW := Lib.hid (HV.out.on (Below.refl wr.heap.size wr).drew)
          have HBW := Lib.hid HB.out.drew
          have hcc : wr.drew.cell? _ = _ := hcc
          have hbb : bb < wr.drew.heap.size := hbb
          clear HA HV HB q
          refine Kt.G.start 12 (fun X => Below wr.drew.heap.size wr.drew X) (by kernel_rfl) (Below.refl _ _) (fun hHeld => ?_)
          generalize wr.drew = W0 at *
          refine Kt.G.take 0 { dst := some 45, op := Op.load 24 (Operand.tmp 2), type := 24, pos := "arena.go:86", after := #[], guard := none } ?_ hHeld rfl (by kernel_rfl) (fun _ _ _ h => h) (by rfl) ?_ ?_
          rotate_left
          · intro w hSw; have q := fun i => cell_of_row _ _ i _ _ _ (Kt.row_on hSw HAW.out); go_simp; try with_reducible rfl
          try simp only [Act.put, List.setIfInBounds_toArray, List.set_cons_zero, List.set_cons_succ]
          refine Kt.G.takeP 1 { dst := some 46, op := Op.fieldAddr 24 (Operand.tmp 2) 1, type := 0, pos := "arena.go:86", after := #[], guard := none } ?_ (fun _ => hHeld) rfl (by kernel_rfl) (fun _ _ _ h => h) (by rfl) ?_ ?_
          rotate_left
          · intro w; go_simp; try with_reducible rfl
          try simp only [Act.put, List.setIfInBounds_toArray, List.set_cons_zero, List.set_cons_succ]
          refine Kt.G.take 2 { dst := some 47, op := Op.load 22 (Operand.tmp 46), type := 22, pos := "arena.go:86", after := #[{ on := 1, ground := Ground.data }], guard := none } ?_ hHeld rfl (by kernel_rfl) (fun _ _ _ h => h) (by rfl) ?_ ?_
          rotate_left
          · intro w hSw; have q := fun i => cell_of_row _ _ i _ _ _ (Kt.row_on hSw HAW.out); go_simp; try with_reducible rfl
          try simp only [Act.put, List.setIfInBounds_toArray, List.set_cons_zero, List.set_cons_succ]
          refine Kt.G.takeP 3 { dst := some 48, op := Op.move (Operand.tmp 6), type := 3, pos := "arena.go:86", after := #[], guard := none } ?_ (fun _ => hHeld) rfl (by kernel_rfl) (fun _ _ _ h => h) (by rfl) ?_ ?_
          rotate_left
          · intro w; go_simp; try with_reducible rfl
          try simp only [Act.put, List.setIfInBounds_toArray, List.set_cons_zero, List.set_cons_succ]
          refine Kt.G.takeP 4 { dst := some 49, op := Op.indexAddr 22 (Operand.tmp 47) (Operand.tmp 48), type := 0, pos := "arena.go:86", after := #[{ on := 2, ground := Ground.data }, { on := 3, ground := Ground.data }], guard := none } ?_ (fun _ => hHeld) rfl (by kernel_rfl) (fun _ _ _ h => h) (by rfl) ?_ ?_
          rotate_left
          · intro w; go_simp; try with_reducible rfl
          try simp only [Act.put, List.setIfInBounds_toArray, List.set_cons_zero, List.set_cons_succ]
          refine Kt.G.takeP 5 { dst := some 50, op := Op.fieldAddr 30 (Operand.tmp 49) 0, type := 0, pos := "arena.go:86", after := #[{ on := 4, ground := Ground.data }], guard := none } ?_ (fun _ => hHeld) rfl (by kernel_rfl) (fun _ _ _ h => h) (by rfl) ?_ ?_
          rotate_left
          · intro w; go_simp; try with_reducible rfl
          try simp only [Act.put, List.setIfInBounds_toArray, List.set_cons_zero, List.set_cons_succ]
          refine Kt.G.take 6 { dst := some 51, op := Op.load 3 (Operand.tmp 50), type := 3, pos := "arena.go:86", after := #[{ on := 5, ground := Ground.data }], guard := none } ?_ hHeld rfl (by kernel_rfl) (fun _ _ _ h => h) (by rfl) ?_ ?_
          rotate_left
          · intro w hSw; have q6 := (hSw.cell (p := ⟨bb, o, none⟩) hbb).trans hcc; go_simp; try with_reducible rfl
          try simp only [Act.put, List.setIfInBounds_toArray, List.set_cons_zero, List.set_cons_succ]
          refine Kt.G.two 7 11 { dst := some 52, op := Op.call { callee := Callee.value (Operand.func 11), args := #[Operand.tmp 45, Operand.tmp 51], argTypes := #[24, 3] }, type := 32, pos := "arena.go:86", after := #[{ on := 0, ground := Ground.data }, { on := 6, ground := Ground.data }], guard := none } { dst := some 7, op := Op.alloc 24, type := 0, pos := "arena.go:86", after := #[], guard := none } rfl rfl (by kernel_rfl) (by rfl) (by rfl) (fun K hK => ?_) (fun K hK => ?_)
          · go_simp
            have hz := hHeld.size
            refine (give_calls size l2 _ a0 _ (HVW.out.on hHeld) HLE.out).mono ?_
            rintro en x1 ⟨hg, hb⟩
            obtain ⟨l3, A2, c2, h3, hc3, rfl, hs⟩ := give_must HC.out.1 HEX.out hg
            refine hK.out _ _ (fun _ => Kt.bthen hHeld hb) (fun hHeld => ?_)
            have hHeld := hHeld rfl
            clear hK K
            try simp only [Act.put, List.setIfInBounds_toArray, List.set_cons_zero, List.set_cons_succ]
            have hs := hs.mono (B' := W0.heap.size) hz
            clear hb hz hg
            refine Kt.G.takeP 8 { dst := some 44, op := Op.move (Operand.tmp 52), type := 32, pos := "arena.go:86", after := #[{ on := 7, ground := Ground.data }], guard := none } ?_ (fun _ => hHeld) rfl (by kernel_rfl) (fun _ _ _ h => h) (by rfl) ?_ ?_
            rotate_left
            · intro w; go_simp; try with_reducible rfl
            try simp only [Act.put, List.setIfInBounds_toArray, List.set_cons_zero, List.set_cons_succ]
            refine Kt.G.takeP 9 { dst := some 53, op := Op.extract (Operand.tmp 44) 0, type := 24, pos := "arena.go:86", after := #[{ on := 8, ground := Ground.data }], guard := none } ?_ (fun _ => hHeld) rfl (by kernel_rfl) (fun _ _ _ h => h) (by rfl) ?_ ?_
            rotate_left
            · intro w; go_simp; try with_reducible rfl
            try simp only [Act.put, List.setIfInBounds_toArray, List.set_cons_zero, List.set_cons_succ]
            refine Kt.G.takeP 10 { dst := some 54, op := Op.extract (Operand.tmp 44) 1, type := 25, pos := "arena.go:86", after := #[{ on := 8, ground := Ground.data }, { on := 12, ground := Ground.gcOnly Departure.lateStores }], guard := none } ?_ (fun _ => hHeld) rfl (by kernel_rfl) (fun _ _ _ h => h) (by rfl) ?_ ?_
            rotate_left
            · intro w; go_simp; try with_reducible rfl
            try simp only [Act.put, List.setIfInBounds_toArray, List.set_cons_zero, List.set_cons_succ]
            refine Kt.G.one 11 { dst := some 7, op := Op.alloc 24, type := 0, pos := "arena.go:86", after := #[], guard := none } rfl (by kernel_rfl) (by rfl) (fun K hK => ?_)
            go_simp
            have hOld := hHeld
            refine hK.out _ _ (fun _ => Kt.balloc hHeld _) (fun hHeld => ?_)
            have hHeld := hHeld rfl
            clear hK K
            try simp only [Act.put, List.setIfInBounds_toArray, List.set_cons_zero, List.set_cons_succ]
            have hne : ∀ j, (Value.slice A2 l3.length c2).ownBlock = some j → j ≠ x1.heap.size := fun j hj => by have := (hs.lt j hj).2; omega
            have hs := hs.alloc (.cells #[.int .i64 0, .slice none 0 0] 24)
            have hKB := heap_alloc_new x1 (.cells #[.int .i64 0, .slice none 0 0] 24)
            have hKg : W0.heap.size ≤ x1.heap.size := hOld.size
            have hKl : x1.heap.size < (x1.alloc (.cells #[.int .i64 0, .slice none 0 0] 24)).heap.size := by rw [World.size_alloc]; omega
            clear hOld
            generalize x1.heap.size = KB at *
            generalize x1.alloc (.cells #[.int .i64 0, .slice none 0 0] 24) = x2 at *
            refine Kt.G.one 12 { dst := none, op := Op.store 24 (Operand.tmp 7) (Operand.tmp 53), type := 0, pos := "arena.go:86", after := #[{ on := 11, ground := Ground.data }, { on := 9, ground := Ground.data }, { on := 7, ground := Ground.chain }, { on := 0, ground := Ground.phase }, { on := 1, ground := Ground.phase }, { on := 2, ground := Ground.phase }, { on := 3, ground := Ground.phase }, { on := 4, ground := Ground.phase }, { on := 5, ground := Ground.phase }, { on := 6, ground := Ground.phase }, { on := 7, ground := Ground.phase }, { on := 8, ground := Ground.phase }, { on := 9, ground := Ground.phase }, { on := 10, ground := Ground.textOnly Departure.lateStores }, { on := 11, ground := Ground.phase }], guard := none } rfl (by kernel_rfl) (by rfl) (fun K hK => ?_)
            have hHeld9 := hHeld
            have hRA := Kt.row_on hHeld9 HAW.out
            have qk := fun i => cell_of_row _ _ i _ _ _ hKB
            have qf := fun i => frozen_of_row _ _ i _ _ hKB
            have qa := fun i => cell_of_row _ _ i _ _ _ hRA
            have qb := fun i => frozen_of_row _ _ i _ _ hRA
            go_simp
            refine hK.out _ _ (Kt.G.late (by kernel_rfl)) (fun _ => ?_)
            clear hK K
            try simp only [Act.put, List.setIfInBounds_toArray, List.set_cons_zero, List.set_cons_succ]
            refine Kt.G.takeP 13 { dst := some 8, op := Op.assign (Operand.tmp 54), type := 25, pos := "arena.go:86", after := #[{ on := 10, ground := Ground.data }, { on := 12, ground := Ground.chain }, { on := 0, ground := Ground.phase }, { on := 1, ground := Ground.phase }, { on := 2, ground := Ground.phase }, { on := 3, ground := Ground.phase }, { on := 4, ground := Ground.phase }, { on := 5, ground := Ground.phase }, { on := 6, ground := Ground.phase }, { on := 7, ground := Ground.phase }, { on := 8, ground := Ground.phase }, { on := 9, ground := Ground.phase }, { on := 10, ground := Ground.phase }, { on := 11, ground := Ground.phase }, { on := 12, ground := Ground.phase }], guard := none } ?_ (Kt.G.late (by kernel_rfl)) rfl (by kernel_rfl) (fun _ _ _ h => h) (by rfl) ?_ ?_
            rotate_left
            · intro w; go_simp; try with_reducible rfl
            try simp only [Act.put, List.setIfInBounds_toArray, List.set_cons_zero, List.set_cons_succ]
            refine Kt.G.done (by kernel_rfl) (NoPanic.normal ?_) _
            have hlw : w.heap.size < W0.heap.size := (Array.getElem?_eq_some_iff.1 HAW.out).1
            have hmm : (l3.length : Int) = (l2.length : Int) - 1 := by omega
            have ewl := less_l HC.out.2
            have hsl := (hs.sets [.int .i64 size, .slice A2 l3.length c2] KB 0 hne).sets [.int .i64 size, .slice A2 l3.length c2] w.heap.size 0 (fun i hi => by have := (hs.lt i hi).1; omega)
            have hbl := Kt.below_setCells [.int .i64 size, .slice A2 l3.length c2] w.heap.size 0 _ _ (Nat.le_refl _) (Kt.below_setCells [.int .i64 size, .slice A2 l3.length c2] KB 0 _ _ (by omega) (HBW.out.trans (hHeld9.mono (Nat.le_of_lt hlw))))
            have hrow := Kt.fill [.int .i64 size, .slice A2 l3.length c2] ((Below.heap_setCell _ ⟨KB, 1, none⟩ (.slice A2 l3.length c2) w.heap.size (by show w.heap.size ≠ KB; omega)).trans ((Below.heap_setCell _ ⟨KB, 0, none⟩ (.int .i64 size) w.heap.size (by show w.heap.size ≠ KB; omega)).trans hRA)) rfl
            have HFIN := Lib.hid (And.intro hsl (And.intro hbl (And.intro hrow (And.intro hc3 (next_le HC.out.2 h3)))))
            have hrA : ((x2.setCell ⟨KB, 0, none⟩ (.int .i64 size)).setCell ⟨KB, 1, none⟩ (.slice A2 l3.length c2)).heap[w.heap.size]? = _ := (Below.heap_setCell _ ⟨KB, 1, none⟩ (.slice A2 l3.length c2) w.heap.size (by show w.heap.size ≠ KB; omega)).trans ((Below.heap_setCell _ ⟨KB, 0, none⟩ (.int .i64 size) w.heap.size (by show w.heap.size ≠ KB; omega)).trans hRA)
            have q9 := fun i => cell_of_row _ _ i _ _ _ hrA
            have f9 := fun i => frozen_of_row _ _ i _ _ hrA
            clear hsl hbl hrow hs hc3 h3 hlw hrA qa qb
            go_wp2_with fail
            exact ⟨⟨j + 1, l3, A2, c2, congrArg _ (next_j HC.out.2), Lib.hid ⟨HFIN.out.2.2.2.1, HFIN.out.2.2.2.2⟩, Lib.hid (Kt.Ar.of_sl HFIN.out.1), Lib.hid HFIN.out.2.1, Lib.hid HFIN.out.2.2.1⟩, less_j HC.out.2 h0⟩
          · go_simp
            have hOld := hHeld
            refine hK.out _ _ (fun _ => Kt.balloc hHeld _) (fun hHeld => ?_)
            have hHeld := hHeld rfl
            clear hK K
            try simp only [Act.put, List.setIfInBounds_toArray, List.set_cons_zero, List.set_cons_succ]
            have hKB := heap_alloc_new W0 (.cells #[.int .i64 0, .slice none 0 0] 24)
            have hKg : W0.heap.size ≤ W0.heap.size := hOld.size
            have hKl : W0.heap.size < (W0.alloc (.cells #[.int .i64 0, .slice none 0 0] 24)).heap.size := by rw [World.size_alloc]; omega
            clear hOld
            generalize W0.alloc (.cells #[.int .i64 0, .slice none 0 0] 24) = x3 at *
            refine Kt.G.one 7 { dst := some 52, op := Op.call { callee := Callee.value (Operand.func 11), args := #[Operand.tmp 45, Operand.tmp 51], argTypes := #[24, 3] }, type := 32, pos := "arena.go:86", after := #[{ on := 0, ground := Ground.data }, { on := 6, ground := Ground.data }], guard := none } rfl (by kernel_rfl) (by rfl) (fun K hK => ?_)
            go_simp
            have hz := hHeld.size
            refine (give_calls size l2 _ a0 _ (HVW.out.on hHeld) HLE.out).mono ?_
            rintro en x4 ⟨hg, hb⟩
            obtain ⟨l3, A2, c2, h3, hc3, rfl, hs⟩ := give_must HC.out.1 HEX.out hg
            refine hK.out _ _ (fun _ => Kt.bthen hHeld hb) (fun hHeld => ?_)
            have hHeld := hHeld rfl
            clear hK K
            try simp only [Act.put, List.setIfInBounds_toArray, List.set_cons_zero, List.set_cons_succ]
            have hne : ∀ j, (Value.slice A2 l3.length c2).ownBlock = some j → j ≠ W0.heap.size := fun j hj => by have := (hs.lt j hj).1; omega
            have hKB := Kt.row_on hb hKB
            have hs := hs.mono (B' := W0.heap.size) hz
            clear hb hz hg
            refine Kt.G.takeP 8 { dst := some 44, op := Op.move (Operand.tmp 52), type := 32, pos := "arena.go:86", after := #[{ on := 7, ground := Ground.data }], guard := none } ?_ (fun _ => hHeld) rfl (by kernel_rfl) (fun _ _ _ h => h) (by rfl) ?_ ?_
            rotate_left
            · intro w; go_simp; try with_reducible rfl
            try simp only [Act.put, List.setIfInBounds_toArray, List.set_cons_zero, List.set_cons_succ]
            refine Kt.G.takeP 9 { dst := some 53, op := Op.extract (Operand.tmp 44) 0, type := 24, pos := "arena.go:86", after := #[{ on := 8, ground := Ground.data }], guard := none } ?_ (fun _ => hHeld) rfl (by kernel_rfl) (fun _ _ _ h => h) (by rfl) ?_ ?_
            rotate_left
            · intro w; go_simp; try with_reducible rfl
            try simp only [Act.put, List.setIfInBounds_toArray, List.set_cons_zero, List.set_cons_succ]
            refine Kt.G.takeP 10 { dst := some 54, op := Op.extract (Operand.tmp 44) 1, type := 25, pos := "arena.go:86", after := #[{ on := 8, ground := Ground.data }, { on := 12, ground := Ground.gcOnly Departure.lateStores }], guard := none } ?_ (fun _ => hHeld) rfl (by kernel_rfl) (fun _ _ _ h => h) (by rfl) ?_ ?_
            rotate_left
            · intro w; go_simp; try with_reducible rfl
            try simp only [Act.put, List.setIfInBounds_toArray, List.set_cons_zero, List.set_cons_succ]
            refine Kt.G.one 12 { dst := none, op := Op.store 24 (Operand.tmp 7) (Operand.tmp 53), type := 0, pos := "arena.go:86", after := #[{ on := 11, ground := Ground.data }, { on := 9, ground := Ground.data }, { on := 7, ground := Ground.chain }, { on := 0, ground := Ground.phase }, { on := 1, ground := Ground.phase }, { on := 2, ground := Ground.phase }, { on := 3, ground := Ground.phase }, { on := 4, ground := Ground.phase }, { on := 5, ground := Ground.phase }, { on := 6, ground := Ground.phase }, { on := 7, ground := Ground.phase }, { on := 8, ground := Ground.phase }, { on := 9, ground := Ground.phase }, { on := 10, ground := Ground.textOnly Departure.lateStores }, { on := 11, ground := Ground.phase }], guard := none } rfl (by kernel_rfl) (by rfl) (fun K hK => ?_)
            have hHeld9 := hHeld
            have hRA := Kt.row_on hHeld9 HAW.out
            have qk := fun i => cell_of_row _ _ i _ _ _ hKB
            have qf := fun i => frozen_of_row _ _ i _ _ hKB
            have qa := fun i => cell_of_row _ _ i _ _ _ hRA
            have qb := fun i => frozen_of_row _ _ i _ _ hRA
            go_simp
            refine hK.out _ _ (Kt.G.late (by kernel_rfl)) (fun _ => ?_)
            clear hK K
            try simp only [Act.put, List.setIfInBounds_toArray, List.set_cons_zero, List.set_cons_succ]
            refine Kt.G.takeP 13 { dst := some 8, op := Op.assign (Operand.tmp 54), type := 25, pos := "arena.go:86", after := #[{ on := 10, ground := Ground.data }, { on := 12, ground := Ground.chain }, { on := 0, ground := Ground.phase }, { on := 1, ground := Ground.phase }, { on := 2, ground := Ground.phase }, { on := 3, ground := Ground.phase }, { on := 4, ground := Ground.phase }, { on := 5, ground := Ground.phase }, { on := 6, ground := Ground.phase }, { on := 7, ground := Ground.phase }, { on := 8, ground := Ground.phase }, { on := 9, ground := Ground.phase }, { on := 10, ground := Ground.phase }, { on := 11, ground := Ground.phase }, { on := 12, ground := Ground.phase }], guard := none } ?_ (Kt.G.late (by kernel_rfl)) rfl (by kernel_rfl) (fun _ _ _ h => h) (by rfl) ?_ ?_
            rotate_left
            · intro w; go_simp; try with_reducible rfl
            try simp only [Act.put, List.setIfInBounds_toArray, List.set_cons_zero, List.set_cons_succ]
            refine Kt.G.done (by kernel_rfl) (NoPanic.normal ?_) _
            have hlw : w.heap.size < W0.heap.size := (Array.getElem?_eq_some_iff.1 HAW.out).1
            have hmm : (l3.length : Int) = (l2.length : Int) - 1 := by omega
            have ewl := less_l HC.out.2
            have hsl := (hs.sets [.int .i64 size, .slice A2 l3.length c2] W0.heap.size 0 hne).sets [.int .i64 size, .slice A2 l3.length c2] w.heap.size 0 (fun i hi => by have := (hs.lt i hi).1; omega)
            have hbl := Kt.below_setCells [.int .i64 size, .slice A2 l3.length c2] w.heap.size 0 _ _ (Nat.le_refl _) (Kt.below_setCells [.int .i64 size, .slice A2 l3.length c2] W0.heap.size 0 _ _ (by omega) (HBW.out.trans (hHeld9.mono (Nat.le_of_lt hlw))))
            have hrow := Kt.fill [.int .i64 size, .slice A2 l3.length c2] ((Below.heap_setCell _ ⟨W0.heap.size, 1, none⟩ (.slice A2 l3.length c2) w.heap.size (by show w.heap.size ≠ W0.heap.size; omega)).trans ((Below.heap_setCell _ ⟨W0.heap.size, 0, none⟩ (.int .i64 size) w.heap.size (by show w.heap.size ≠ W0.heap.size; omega)).trans hRA)) rfl
            have HFIN := Lib.hid (And.intro hsl (And.intro hbl (And.intro hrow (And.intro hc3 (next_le HC.out.2 h3)))))
            have hrA : ((x4.setCell ⟨W0.heap.size, 0, none⟩ (.int .i64 size)).setCell ⟨W0.heap.size, 1, none⟩ (.slice A2 l3.length c2)).heap[w.heap.size]? = _ := (Below.heap_setCell _ ⟨W0.heap.size, 1, none⟩ (.slice A2 l3.length c2) w.heap.size (by show w.heap.size ≠ W0.heap.size; omega)).trans ((Below.heap_setCell _ ⟨W0.heap.size, 0, none⟩ (.int .i64 size) w.heap.size (by show w.heap.size ≠ W0.heap.size; omega)).trans hRA)
            have q9 := fun i => cell_of_row _ _ i _ _ _ hrA
            have f9 := fun i => frozen_of_row _ _ i _ _ hrA
            clear hsl hbl hrow hs hc3 h3 hlw hrA qa qb
            go_wp2_with fail
            exact ⟨⟨j + 1, l3, A2, c2, congrArg _ (next_j HC.out.2), Lib.hid ⟨HFIN.out.2.2.2.1, HFIN.out.2.2.2.2⟩, Lib.hid (Kt.Ar.of_sl HFIN.out.1), Lib.hid HFIN.out.2.1, Lib.hid HFIN.out.2.2.1⟩, less_j HC.out.2 h0⟩
  · have b0 : (chk size l != 0) = true := by rw [bne_iff_ne]; exact hc
    generalize hn : chk size l = n at *
    clear hc
    go_enter Try.func7, Try.ntmps7
    go_wp2_with fail
    refine (HL.out _).mono ?_
    rintro e w1 ⟨rfl, hb⟩
    have HB1 := Lib.hid (Kt.bthen HB0.out hb)
    have HA1 := Lib.hid (Kt.row_on hb HA0.out)
    have q := fun i => cell_of_row _ _ i _ _ _ HA1.out
    have HCK := Lib.hid (check_calls size l _ w1 (HV.out.on HB1.out) (Nat.le_trans HLB.out.1 (by decide +kernel)))
    rw [hn] at HCK
    clear hb HB0 HA0 hn
    go_wp2_with fail
    refine HCK.out.mono ?_
    rintro e w2 ⟨rfl, hb⟩
    have HB2 := Lib.hid (Kt.bthen HB1.out hb)
    clear hb HB1 HA1 q HCK
    go_wp2_with fail
    refine (HL.out _).mono ?_
    rintro e w3 ⟨rfl, hb⟩
    have HB3 := Lib.hid (Kt.bthen HB2.out hb)
    clear hb HB2
    go_wp2_with fail
    go_ret
    exact ⟨rfl, HB3.out⟩
end Go.Proofs.Ytdckakjfplhanaa
