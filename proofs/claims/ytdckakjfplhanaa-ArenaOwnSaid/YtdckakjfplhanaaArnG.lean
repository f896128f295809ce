/- arena.Give walked. -/
import Derived.Test.YtdckakjfplhanaaArnD
namespace Go.Proofs.Ytdckakjfplhanaa
open Go.RowKit Go.Shelf Go.Proofs.Ytdckakjfplhanaa.Arn
theorem eg22 : ∀ args w, (callFunc 22 args).run Try.prog w = .ok (.enter 22 args) w := enters_of Try.func22 (by kernel_rfl) rfl
theorem at_calls (a : Int) (s : Int × Int) (b : Nat) (w : World) (hb : w.heap[b]? = some (.cells #[.int .i64 a] 3 (0, 0))) :
    Calls Try.prog 22 #[.agg #[.int .i64 s.1, .int .i64 s.2], .pointer (some ⟨b, 0, none⟩)] w fun e w' => e = .returned (.bool (s.1 == a)) ∧ Below w.heap.size w w' := by
  have HB := Lib.hid (Kt.balloc (Below.refl _ w) (.cells #[.int .i64 s.1, .int .i64 s.2] 30))
  have HN := Lib.hid (heap_alloc_new w (.cells #[.int .i64 s.1, .int .i64 s.2] 30))
  have HBX := Lib.hid (Kt.row_on (Kt.balloc (Below.refl _ w) (.cells #[.int .i64 s.1, .int .i64 s.2] 30)) hb)
  obtain ⟨x, y⟩ := s
  dsimp only at *
  have q1 := fun i => cell_of_row _ _ i _ _ _ HN.out
  have q2 := fun i => cell_of_row _ _ i _ _ _ HBX.out
  clear hb
  go_enter Try.func22, Try.ntmps22
  go_wp2_with fail
  go_ret
  exact ⟨rfl, HB.out⟩
theorem delete_of (B g o c m : Nat) (l : List (Int × Int)) (k : Nat) (w : World) (hB : B ≤ w.heap.size) (hlm : l.length = m + 1) (hs : Kt.Sl w B 30 2 (.slice (some ⟨g, o, none⟩) l.length c) l.length (spv l)) (hl : l.length ≤ 64) (hk : k < l.length) :
    Calls Try.prog 23 #[.slice (some ⟨g, o, none⟩) l.length c, .int .i64 k, .int .i64 ((k : Int) + 1)] w (DelIs B w l m k) := by
  have h := delete_calls B g o c m l k w hB hlm (by rw [hlm] at hs; exact hs) (by omega) (by omega)
  rwa [← hlm] at h
/-- what Give tells -/
def GiveIs (B : Nat) (size : Int) (l : List (Int × Int)) (a : Int) (e : Ending) (w' : World) : Prop :=
  (∃ n, n ≠ 0 ∧ e = .returned (.tuple #[.agg #[.int .i64 0, .slice none 0 0], .int .i64 n]) ∧ (chk size l = n ∨ (chk size l = 0 ∧ n = 12 ∧ ∀ s ∈ l, s.1 ≠ a))) ∨
  (chk size l = 0 ∧ ∃ (k m : Nat) (A : Option Addr) (c : Nat), l.length = m + 1 ∧ (∃ h : k < l.length, l[k].1 = a) ∧ (∀ j (h : j < l.length), j < k → l[j].1 ≠ a) ∧ e = .returned (.tuple #[.agg #[.int .i64 size, .slice A m c], .int .i64 0]) ∧ Kt.Sl w' B 30 2 (.slice A m c) m (spv (rem l k)))
set_option maxRecDepth 100000 in
set_option maxHeartbeats 1600000 in
theorem give_bad (size : Int) (l : List (Int × Int)) (V : Value) (a : Int) (w : World) (hv : Kt.Ar w V 2 l.length (spv l)) (hm : l.length ≤ 140737488355328) (hc : chk size l ≠ 0) :
    Calls Try.prog 11 #[.agg #[.int .i64 size, V], .int .i64 a] w fun e w' => GiveIs w.heap.size size l a e w' ∧ Below w.heap.size w w' := by
  obtain ⟨A0, c0, rfl, _, _⟩ := hv.form
  have hb0 : Below w.heap.size w (((w.alloc (.cells #[.int .i64 size, .slice A0 l.length c0] 24)).alloc (.cells #[.int .i64 a] 3)).alloc (.cells #[.int .i64 0, .slice none 0 0] 24)) := Kt.balloc (Kt.balloc (Kt.balloc (Below.refl _ w) _) _) _
  have HB0 := Lib.hid hb0
  have HCK := Lib.hid (check_calls size l _ _ (hv.on hb0) hm)
  have HR0 : Hid ((((w.alloc (.cells #[.int .i64 size, .slice A0 l.length c0] 24)).alloc (.cells #[.int .i64 a] 3)).alloc (.cells #[.int .i64 0, .slice none 0 0] 24)).heap[w.heap.size + 1 + 1]? = some (.cells #[.int .i64 0, .slice none 0 0] 24 (0, 0))) := Lib.hid (by
    have := heap_alloc_new ((w.alloc (.cells #[.int .i64 size, .slice A0 l.length c0] 24)).alloc (.cells #[.int .i64 a] 3)) (.cells #[.int .i64 0, .slice none 0 0] 24)
    rw [World.size_alloc, World.size_alloc] at this
    exact this)
  have hb : (chk size l != 0) = true := by rw [bne_iff_ne]; exact hc
  have HX : Hid (∀ w', GiveIs w.heap.size size l a (.returned (.tuple #[.agg #[.int .i64 0, .slice none 0 0], .int .i64 (chk size l)])) w') := Lib.hid (fun w' => .inl ⟨chk size l, hc, rfl, .inl rfl⟩)
  generalize chk size l = e0 at *
  clear hv hm hb0 hc
  go_enter Try.func11, Try.ntmps11
  go_wp2_with fail
  refine HCK.out.mono ?_
  rintro e w1 ⟨rfl, hb1⟩
  have HB1 := Lib.hid (Kt.bthen HB0.out hb1)
  have hr := Kt.row_on hb1 HR0.out
  have q := fun i => cell_of_row _ _ i _ _ _ hr
  have qf := fun i => frozen_of_row _ _ i _ _ hr
  clear hb1 HCK HR0 HB0 hr
  go_wp2_with fail
  exact bodyPost_ret (v := .tuple #[.agg #[.int .i64 0, .slice none 0 0], .int .i64 e0]) (by simp [q, qf, results, Try.results11, go_sem]) rfl ⟨HX.out _, (HB1.out.setCell (p := ⟨w.heap.size + 1 + 1, 0, none⟩) (by show w.heap.size ≤ w.heap.size + 1 + 1; omega) _).setCell (p := ⟨w.heap.size + 1 + 1, 1, none⟩) (by show w.heap.size ≤ w.heap.size + 1 + 1; omega) _⟩
set_option maxRecDepth 100000 in
set_option maxHeartbeats 1600000 in
theorem give_good (size : Int) (l : List (Int × Int)) (V : Value) (a : Int) (w : World) (hv : Kt.Ar w V 2 l.length (spv l)) (hc : chk size l = 0) :
    Calls Try.prog 11 #[.agg #[.int .i64 size, V], .int .i64 a] w fun e w' => GiveIs w.heap.size size l a e w' ∧ Below w.heap.size w w' := by
  obtain ⟨_, _, hl, _⟩ := chk_ok hc
  obtain ⟨A0, c0, rfl, _, _⟩ := hv.form
  have hb0 : Below w.heap.size w (((w.alloc (.cells #[.int .i64 size, .slice A0 l.length c0] 24)).alloc (.cells #[.int .i64 a] 3)).alloc (.cells #[.int .i64 0, .slice none 0 0] 24)) := Kt.balloc (Kt.balloc (Kt.balloc (Below.refl _ w) _) _) _
  have HB0 := Lib.hid hb0
  have HCK := Lib.hid (check_calls size l _ _ (hv.on hb0) (by omega))
  have HR0 : Hid ((((w.alloc (.cells #[.int .i64 size, .slice A0 l.length c0] 24)).alloc (.cells #[.int .i64 a] 3)).alloc (.cells #[.int .i64 0, .slice none 0 0] 24)).heap[w.heap.size + 1 + 1]? = some (.cells #[.int .i64 0, .slice none 0 0] 24 (0, 0))) := Lib.hid (by
    have := heap_alloc_new ((w.alloc (.cells #[.int .i64 size, .slice A0 l.length c0] 24)).alloc (.cells #[.int .i64 a] 3)) (.cells #[.int .i64 0, .slice none 0 0] 24)
    rw [World.size_alloc, World.size_alloc] at this
    exact this)
  have HA0 : Hid ((((w.alloc (.cells #[.int .i64 size, .slice A0 l.length c0] 24)).alloc (.cells #[.int .i64 a] 3)).alloc (.cells #[.int .i64 0, .slice none 0 0] 24)).heap[w.heap.size]? = some (.cells #[.int .i64 size, .slice A0 l.length c0] 24 (0, 0))) := Lib.hid
    ((Below.heap_alloc _ _ _ (by simp only [World.size_alloc]; omega)).trans ((Below.heap_alloc _ _ _ (by simp only [World.size_alloc]; omega)).trans (heap_alloc_new w _)))
  have HI0 : Hid ((((w.alloc (.cells #[.int .i64 size, .slice A0 l.length c0] 24)).alloc (.cells #[.int .i64 a] 3)).alloc (.cells #[.int .i64 0, .slice none 0 0] 24)).heap[w.heap.size + 1]? = some (.cells #[.int .i64 a] 3 (0, 0))) := Lib.hid (by
    have := heap_alloc_new (w.alloc (.cells #[.int .i64 size, .slice A0 l.length c0] 24)) (.cells #[.int .i64 a] 3)
    rw [World.size_alloc] at this
    exact (Below.heap_alloc _ _ _ (by simp only [World.size_alloc]; omega)).trans this)
  have HV := Lib.hid hv
  have HL := Lib.hid hl
  have HGB : Hid (∀ w', (∀ s ∈ l, s.1 ≠ a) → GiveIs w.heap.size size l a (.returned (.tuple #[.agg #[.int .i64 0, .slice none 0 0], .int .i64 12])) w') := Lib.hid (fun w' h => .inl ⟨12, by decide, rfl, .inr ⟨hc, rfl, h⟩⟩)
  have HC := Lib.hid hc
  rw [hc] at HCK
  clear hv hb0 hc hl
  go_enter Try.func11, Try.ntmps11
  go_wp2_with fail
  generalize ((w.alloc (.cells #[.int .i64 size, .slice A0 l.length c0] 24)).alloc (.cells #[.int .i64 a] 3)).alloc (.cells #[.int .i64 0, .slice none 0 0] 24) = w0 at *
  refine HCK.out.mono ?_
  rintro e w1 ⟨rfl, hb1⟩
  have HB1 := Lib.hid (Kt.bthen HB0.out hb1)
  have HR1 := Lib.hid (Kt.row_on hb1 HR0.out)
  have HA1 := Lib.hid (Kt.row_on hb1 HA0.out)
  have HI1 := Lib.hid (Kt.row_on hb1 HI0.out)
  have q := fun i => cell_of_row _ _ i _ _ _ HA1.out
  have HIX := Lib.hid (index_calls (fun s => s.1 == a) 22 #[.pointer (some ⟨w.heap.size + 1, 0, none⟩)] l (.slice A0 l.length c0) w1 (HV.out.on HB1.out) (by have := HL.out; omega) eg22 (fun s W hW => at_calls a s _ W (Kt.row_on hW HI1.out)))
  clear hb1 HCK HR0 HB0 HA0 HI0
  go_wp2_with fail
  refine HIX.out.mono ?_
  rintro e w2 ⟨r, rfl, hr, hb2⟩
  have HB2 := Lib.hid (Kt.bthen HB1.out hb2)
  have HZ := Lib.hid (Kt.row_on hb2 HR1.out)
  have HA := Lib.hid (Kt.row_on hb2 HA1.out)
  clear hb2 HIX HR1 HB1 HA1 HI1 q
  rcases hr with ⟨rfl, hall⟩ | ⟨k, rfl, ⟨hk, hp⟩, hlow⟩
  · have HX := Lib.hid (fun w' => HGB.out w' (fun s hs e => by have h2 : (s.1 == a) = false := hall s hs; rw [e] at h2; simp at h2))
    have q := fun i => cell_of_row _ _ i _ _ _ HZ.out
    have qf := fun i => frozen_of_row _ _ i _ _ HZ.out
    clear hall
    go_wp2_with fail
    exact bodyPost_ret (v := .tuple #[.agg #[.int .i64 0, .slice none 0 0], .int .i64 12]) (by simp [q, qf, results, Try.results11, go_sem]) rfl ⟨HX.out _, (HB2.out.setCell (p := ⟨w.heap.size + 1 + 1, 0, none⟩) (by show w.heap.size ≤ w.heap.size + 1 + 1; omega) _).setCell (p := ⟨w.heap.size + 1 + 1, 1, none⟩) (by show w.heap.size ≤ w.heap.size + 1 + 1; omega) _⟩
  · obtain ⟨m, hm⟩ : ∃ m, l.length = m + 1 := ⟨l.length - 1, by omega⟩
    have HLM := Lib.hid hm
    have HK := Lib.hid hk
    have HP : Hid ((∃ h : k < l.length, l[k].1 = a) ∧ ∀ j (h : j < l.length), j < k → l[j].1 ≠ a) := Lib.hid ⟨⟨hk, by simpa using hp⟩, fun j h hj e => by have h2 : (l[j].1 == a) = false := hlow j h hj; rw [e] at h2; simp at h2⟩
    have hk0 : (0 : Int) ≤ (k : Int) := by omega
    have ew : IntKind.i64.wrap ((k : Int) + 1) = (k : Int) + 1 := wrap_succ' k (by have := HL.out; omega)
    clear hm hk hp hlow
    go_upto_region 7 with (fail)
    have HAd : Hid (w2.drew.heap[w.heap.size]? = _) := HA
    have HZd : Hid (w2.drew.heap[w.heap.size + 1 + 1]? = _) := HZ
    have HBd := Lib.hid HB2.out.drew
    refine Kt.G.start 10 (fun X => Below w2.drew.heap.size w2.drew X) (by kernel_rfl) (Below.refl _ _) (fun hHeld => ?_)
    clear HA HZ HB2
    generalize w2.drew = W at *
    have HA := HAd
    have HZ := HZd
    have HB := HBd
    clear HAd HZd HBd
    refine Kt.G.takeP 0 { dst := some 21, op := Op.fieldAddr 24 (Operand.tmp 2) 0, type := 0, pos := "arena.go:76", after := #[], guard := none } ?_ (fun _ => hHeld) rfl (by kernel_rfl) (fun _ _ _ h => h) (by rfl) ?_ ?_
    rotate_left
    · intro w; go_simp; try with_reducible rfl
    try simp only [Act.put, List.setIfInBounds_toArray, List.set_cons_zero, List.set_cons_succ]
    refine Kt.G.take 1 { dst := some 22, op := Op.load 3 (Operand.tmp 21), type := 3, pos := "arena.go:76", after := #[{ on := 0, ground := Ground.data }], guard := none } ?_ hHeld rfl (by kernel_rfl) (fun _ _ _ h => h) (by rfl) ?_ ?_
    rotate_left
    · intro w hSw; have q := fun i => cell_of_row _ _ i _ _ _ (Kt.row_on hSw HA.out); go_simp; try with_reducible rfl
    try simp only [Act.put, List.setIfInBounds_toArray, List.set_cons_zero, List.set_cons_succ]
    refine Kt.G.takeP 2 { dst := some 23, op := Op.fieldAddr 24 (Operand.tmp 2) 1, type := 0, pos := "arena.go:76", after := #[], guard := none } ?_ (fun _ => hHeld) rfl (by kernel_rfl) (fun _ _ _ h => h) (by rfl) ?_ ?_
    rotate_left
    · intro w; go_simp; try with_reducible rfl
    try simp only [Act.put, List.setIfInBounds_toArray, List.set_cons_zero, List.set_cons_succ]
    refine Kt.G.take 3 { dst := some 24, op := Op.load 22 (Operand.tmp 23), type := 22, pos := "arena.go:76", after := #[{ on := 2, ground := Ground.data }], guard := none } ?_ hHeld rfl (by kernel_rfl) (fun _ _ _ h => h) (by rfl) ?_ ?_
    rotate_left
    · intro w hSw; have q := fun i => cell_of_row _ _ i _ _ _ (Kt.row_on hSw HA.out); go_simp; try with_reducible rfl
    try simp only [Act.put, List.setIfInBounds_toArray, List.set_cons_zero, List.set_cons_succ]
    refine Kt.G.takeP 5 { dst := some 26, op := Op.move (Operand.tmp 7), type := 3, pos := "arena.go:76", after := #[], guard := none } ?_ (fun _ => hHeld) rfl (by kernel_rfl) (fun _ _ _ h => h) (by rfl) ?_ ?_
    rotate_left
    · intro w; go_simp; try with_reducible rfl
    try simp only [Act.put, List.setIfInBounds_toArray, List.set_cons_zero, List.set_cons_succ]
    refine Kt.G.takeP 6 { dst := some 27, op := Op.move (Operand.tmp 7), type := 3, pos := "arena.go:76", after := #[], guard := none } ?_ (fun _ => hHeld) rfl (by kernel_rfl) (fun _ _ _ h => h) (by rfl) ?_ ?_
    rotate_left
    · intro w; go_simp; try with_reducible rfl
    try simp only [Act.put, List.setIfInBounds_toArray, List.set_cons_zero, List.set_cons_succ]
    refine Kt.G.takeP 7 { dst := some 28, op := Op.binOp BinOp.add 3 (Operand.tmp 27) (Operand.const (Value.int IntKind.i64 1)) 3, type := 3, pos := "arena.go:76", after := #[{ on := 6, ground := Ground.data }], guard := none } ?_ (fun _ => hHeld) rfl (by kernel_rfl) (fun _ _ _ h => h) (by rfl) ?_ ?_
    rotate_left
    · intro w; go_simp; try with_reducible rfl
    try simp only [Act.put, List.setIfInBounds_toArray, List.set_cons_zero, List.set_cons_succ]
    refine Kt.G.one 4 { dst := some 25, op := Op.call { callee := Callee.value (Operand.func 13), args := #[Operand.tmp 24], argTypes := #[22] }, type := 22, pos := "arena.go:76", after := #[{ on := 3, ground := Ground.data }], guard := none } rfl (by kernel_rfl) (by rfl) (fun K hK => ?_)
    go_simp
    refine (clones_calls _ l.length (spv l) _ (HV.out.on (Kt.bthen HB.out hHeld)) (spv_one l) (Nat.le_trans HL.out (by decide))).mono ?_
    rintro en x1 ⟨A5, c5, rfl, hs, hb⟩
    have hz1 : W.heap.size ≤ x1.heap.size := Nat.le_trans hHeld.size hb.size
    have hs := hs.mono hHeld.size
    refine hK.out _ _ (fun _ => Kt.bthen hHeld hb) (fun hHeld => ?_)
    have hHeld := hHeld rfl
    clear hK K
    try simp only [Act.put, List.setIfInBounds_toArray, List.set_cons_zero, List.set_cons_succ]
    obtain ⟨g5, o5, cap5, hve, _, _, hn5, hm5, _, _⟩ := hs.cells (by rw [HLM.out]; exact Nat.succ_pos m)
    cases hve
    refine Kt.G.one 8 { dst := some 29, op := Op.call { callee := Callee.value (Operand.func 23), args := #[Operand.tmp 25, Operand.tmp 26, Operand.tmp 28], argTypes := #[22, 3, 3] }, type := 22, pos := "arena.go:76", after := #[{ on := 4, ground := Ground.data }, { on := 5, ground := Ground.data }, { on := 7, ground := Ground.data }, { on := 4, ground := Ground.chain }], guard := none } rfl (by kernel_rfl) (by rfl) (fun K hK => ?_)
    go_simp
    refine (delete_of W.heap.size g5 o5 c5 m l k _ hz1 HLM.out hs HL.out HK.out).mono ?_
    rintro en x2 ⟨A6, c6, rfl, hs6, hb6⟩
    refine hK.out _ _ (fun _ => hHeld.trans hb6) (fun hHeld => ?_)
    have hHeld := hHeld rfl
    clear hK K
    try simp only [Act.put, List.setIfInBounds_toArray, List.set_cons_zero, List.set_cons_succ]
    have HR2 := Kt.row_on hHeld HZ.out
    have q9 := fun i => cell_of_row _ _ i _ _ _ HR2
    have qf9 := fun i => frozen_of_row _ _ i _ _ HR2
    refine Kt.G.takeP 9 { dst := some 30, op := Op.build 24 #[(0, Operand.tmp 22), (1, Operand.tmp 29)], type := 24, pos := "arena.go:76", after := #[{ on := 1, ground := Ground.data }, { on := 8, ground := Ground.data }], guard := none } ?_ (fun _ => hHeld) rfl (by kernel_rfl) (fun _ _ _ h => h) (by rfl) ?_ ?_
    rotate_left
    · intro w; go_simp; try with_reducible rfl
    try simp only [Act.put, List.setIfInBounds_toArray, List.set_cons_zero, List.set_cons_succ]
    refine Kt.G.one 10 { dst := none, op := Op.store 24 (Operand.tmp 4) (Operand.tmp 30), type := 0, pos := "arena.go:76", after := #[{ on := 9, ground := Ground.data }, { on := 8, ground := Ground.chain }, { on := 0, ground := Ground.phase }, { on := 1, ground := Ground.phase }, { on := 2, ground := Ground.phase }, { on := 3, ground := Ground.phase }, { on := 4, ground := Ground.phase }, { on := 5, ground := Ground.phase }, { on := 6, ground := Ground.phase }, { on := 7, ground := Ground.phase }, { on := 8, ground := Ground.phase }, { on := 9, ground := Ground.phase }], guard := none } rfl (by kernel_rfl) (by rfl) (fun K hK => ?_)
    go_simp
    refine hK.out _ _ (Kt.G.late (by kernel_rfl)) (fun _ => ?_)
    clear hK K
    try simp only [Act.put, List.setIfInBounds_toArray, List.set_cons_zero, List.set_cons_succ]
    refine Kt.G.takeP 11 { dst := some 5, op := Op.assign (Operand.const (Value.int IntKind.i64 0)), type := 25, pos := "arena.go:76", after := #[{ on := 10, ground := Ground.chain }, { on := 0, ground := Ground.phase }, { on := 1, ground := Ground.phase }, { on := 2, ground := Ground.phase }, { on := 3, ground := Ground.phase }, { on := 4, ground := Ground.phase }, { on := 5, ground := Ground.phase }, { on := 6, ground := Ground.phase }, { on := 7, ground := Ground.phase }, { on := 8, ground := Ground.phase }, { on := 9, ground := Ground.phase }, { on := 10, ground := Ground.phase }], guard := none } ?_ (Kt.G.late (by kernel_rfl)) rfl (by kernel_rfl) (fun _ _ _ h => h) (by rfl) ?_ ?_
    rotate_left
    · intro w; go_simp; try with_reducible rfl
    try simp only [Act.put, List.setIfInBounds_toArray, List.set_cons_zero, List.set_cons_succ]
    refine Kt.G.done (by kernel_rfl) (NoPanic.normal ?_) _
    have hlt : w.heap.size + 1 + 1 < W.heap.size := (Array.getElem?_eq_some_iff.1 HZ.out).1
    have HSF := Lib.hid (((hs6.low (p := ⟨w.heap.size + 1 + 1, 0, none⟩) hlt (.int .i64 size)).low (p := ⟨w.heap.size + 1 + 1, 1, none⟩) hlt (.slice A6 m c6)).mono HB.out.size)
    have HBF := Lib.hid (((Kt.bthen HB.out hHeld).setCell (p := ⟨w.heap.size + 1 + 1, 0, none⟩) (by show w.heap.size ≤ w.heap.size + 1 + 1; omega) (.int .i64 size)).setCell (p := ⟨w.heap.size + 1 + 1, 1, none⟩) (by show w.heap.size ≤ w.heap.size + 1 + 1; omega) (.slice A6 m c6))
    clear hs6 hb6 hHeld HR2 ew hk0
    go_wp2_with fail
    exact bodyPost_ret (v := .tuple #[.agg #[.int .i64 size, .slice A6 m c6], .int .i64 0]) (by simp [q9, qf9, results, Try.results11, go_sem]) rfl ⟨.inr ⟨HC.out, k, m, A6, c6, HLM.out, HP.out.1, HP.out.2, rfl, HSF.out⟩, HBF.out⟩
theorem give_calls (size : Int) (l : List (Int × Int)) (V : Value) (a : Int) (w : World) (hv : Kt.Ar w V 2 l.length (spv l)) (hm : l.length ≤ 140737488355328) :
    Calls Try.prog 11 #[.agg #[.int .i64 size, V], .int .i64 a] w fun e w' => GiveIs w.heap.size size l a e w' ∧ Below w.heap.size w w' := by
  by_cases hc : chk size l = 0
  · exact give_good size l V a w hv hc
  · exact give_bad size l V a w hv hm hc
end Go.Proofs.Ytdckakjfplhanaa
