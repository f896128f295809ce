/- KeysMix walked: two codes of a report change places, then zeros become one of them: the same set. -/
import Derived.Test.YtfcmmeapinppaaaKeyL
import Derived.Test.YtfcmmeapinppaaaKeyN
namespace Go.Proofs.Ytfcmmeapinppaaa
open Go.RowKit
def hdTy : Fr.Ty := .cat 4 (.arr 4 1 (.int .u64)) .nil
theorem fit_hd : Fr.fits Try.prog 12 27 hdTy = true := by kernel_rfl
theorem ok_hd : Fr.eqOk Try.prog 12 27 = true := by kernel_rfl
theorem hd_cl (h : Hd) : Fr.Cl hdTy h.vs.toList := by
  refine ⟨Nat.le_refl _, ⟨rfl, fun i hi => ?_⟩, rfl⟩
  match i, hi with
  | 0, _ => exact ⟨_, rfl⟩
  | 1, _ => exact ⟨_, rfl⟩
  | 2, _ => exact ⟨_, rfl⟩
  | 3, _ => exact ⟨_, rfl⟩
theorem vs_inj {x y : Hd} (h : x.vs = y.vs) : x = y := by
  obtain ⟨a, b, c, d⟩ := x
  obtain ⟨a', b', c', d'⟩ := y
  simp [Hd.vs] at h
  obtain ⟨h1, h2, h3, h4⟩ := h
  have h1 : a = a' := UInt64.toNat_inj.1 (by omega)
  have h2 : b = b' := UInt64.toNat_inj.1 (by omega)
  have h3 : c = c' := UInt64.toNat_inj.1 (by omega)
  have h4 : d = d' := UInt64.toNat_inj.1 (by omega)
  rw [h1, h2, h3, h4]
theorem eq_hd (x y : Hd) (w : World) : (binOp .eql 27 x.v y.v).run Try.prog w = .ok (.bool (decide (x = y))) w := by
  have h := (Fr.eql_agg (P := Try.prog) w 27 hdTy 12 (by omega) fit_hd ok_hd rfl x.vs y.vs (hd_cl x) (hd_cl y) rfl rfl).1
  show (binOp .eql 27 (.agg x.vs) (.agg y.vs)).run Try.prog w = _
  rw [h]
  congr 2
  exact decide_eq_decide.2 ⟨vs_inj, fun e => by rw [e]⟩
theorem neq_hd (x y : Hd) (w : World) : (binOp .neq 27 x.v y.v).run Try.prog w = .ok (.bool (!decide (x = y))) w := by
  have h := (Fr.eql_agg (P := Try.prog) w 27 hdTy 12 (by omega) fit_hd ok_hd rfl x.vs y.vs (hd_cl x) (hd_cl y) rfl rfl).2
  show (binOp .neq 27 (.agg x.vs) (.agg y.vs)).run Try.prog w = _
  rw [h]
  congr 3
  exact decide_eq_decide.2 ⟨vs_inj, fun e => by rw [e]⟩
theorem guard_hd (x y : Operand) (a b : Hd) (w : World) : (eqGuard .eql 27 x y a.v b.v).run Try.prog w = .ok () w := run_eqGuard_agg w .eql 27 x y _ _ (by kernel_rfl)
theorem guard_hd_n (x y : Operand) (a b : Hd) (w : World) : (eqGuard .neq 27 x y a.v b.v).run Try.prog w = .ok () w := run_eqGuard_agg w .neq 27 x y _ _ (by kernel_rfl)
theorem Kt.Byt.on {w w' : World} {g : Nat} {l : List UInt8} (h : Kt.Byt w g l) (hg : g < w.heap.size) (b : Below w.heap.size w w') : Kt.Byt w' g l :=
  ⟨fun j hj => (b.cell (p := ⟨g, j, none⟩) hg).trans (h.1 j hj), fun j hj => ((Kt.bcell b).2 g j hg).trans (h.2 j hj)⟩
theorem Kt.Byt.alloc {w : World} {g : Nat} {l : List UInt8} (h : Kt.Byt w g l) (hg : g < w.heap.size) (o : Obj) : Kt.Byt (w.alloc o) g l := h.on hg (Kt.balloc (Below.refl _ w) o)
set_option maxHeartbeats 1600000 in
theorem mix_bad (s : ByteArray) (i j : Int) (c : (((s.size : Int) != 8) = true) ∨ (((s.size : Int) != 8) = false ∧ i < 2) ∨ (((s.size : Int) != 8) = false ∧ 2 ≤ i ∧ 7 < i) ∨ (((s.size : Int) != 8) = false ∧ 2 ≤ i ∧ i ≤ 7 ∧ j < 2) ∨ (((s.size : Int) != 8) = false ∧ 2 ≤ i ∧ i ≤ 7 ∧ 2 ≤ j ∧ 7 < j)) (w : World) :
    Calls Try.prog 3 #[.string s, .int .i64 i, .int .i64 j] w fun en w' => en = .returned (.bool true) ∧ Below w.heap.size w w' := by
  rcases c with c1 | ⟨c1, c2⟩ | ⟨c1, c2, c3⟩ | ⟨c1, c2, c3, c4⟩ | ⟨c1, c2, c3, c4, c5⟩
  all_goals
    go_enter Try.func3, Try.ntmps3
    go_wp2_with fail
    refine (lives_calls _).mono ?_; rintro en w1 ⟨rfl, hb1⟩
    go_wp2_with fail
    refine (lives_calls _).mono ?_; rintro en w2 ⟨rfl, hb2⟩
    go_wp2
    go_ret
    exact ⟨rfl, Kt.bthen hb1 hb2⟩
set_option maxHeartbeats 1600000 in
theorem mix_good (s : ByteArray) (i j : Nat) (h8 : s.size = 8) (hi : 2 ≤ i) (hi7 : i < 8) (hj : 2 ≤ j) (hj7 : j < 8) (w : World) :
    Calls Try.prog 3 #[.string s, .int .i64 i, .int .i64 j] w fun en w' => en = .returned (.bool true) ∧ Below w.heap.size w w' := by
  have hk := fun wx : World => run_bytes_of_string (P := Try.prog) wx 9 23 5 s Try.underlying9 Try.underlying23 Try.underlying5
  have hne : ((s.size : Int) != 8) = false := by rw [h8]; rfl
  have i1 : (2 : Int) ≤ i := by omega
  have i2 : (i : Int) ≤ 7 := by omega
  have j1 : (2 : Int) ≤ j := by omega
  have j2 : (j : Int) ≤ 7 := by omega
  have HLEN : Hid (s.data.toList.length = 8) := Lib.hid (by simpa using h8)
  go_enter Try.func3, Try.ntmps3
  go_wp2_with fail
  refine (lives_calls _).mono ?_; rintro en w2 ⟨rfl, hb2⟩
  have hby := (Kt.Byt.of_string w2 s (grownCap w2 s.size 0 5) 5).drew
  have hbel := (Kt.balloc hb2 (.cells (bytesRow s (grownCap w2 s.size 0 5)) 5 ((bytesRow s (grownCap w2 s.size 0 5)).size, (bytesRow s (grownCap w2 s.size 0 5)).size + 1))).drew
  have hcap := grownCap_ge w2 s.size 0 5
  have hg : w.heap.size ≤ w2.heap.size := hb2.size
  have hz : w2.heap.size < (w2.alloc (.cells (bytesRow s (grownCap w2 s.size 0 5)) 5 ((bytesRow s (grownCap w2 s.size 0 5)).size, (bytesRow s (grownCap w2 s.size 0 5)).size + 1))).drew.heap.size := by
    show _ < (w2.alloc _).heap.size
    rw [World.size_alloc]; omega
  rw [h8] at hby hbel hcap hz
  have HBY := Lib.hid hby
  have HBEL := Lib.hid hbel
  clear hb2 hby hbel
  go_wp2_with fail
  clear hk hne
  generalize grownCap w2 8 0 5 = cap at *
  generalize w2.heap.size = g at *
  generalize (w2.alloc (.cells (bytesRow s cap) 5 ((bytesRow s cap).size, (bytesRow s cap).size + 1))).drew = w3 at *
  generalize hl : s.data.toList = l at *
  have il : i < l.length := by rw [HLEN.out]; omega
  have jl : j < l.length := by rw [HLEN.out]; omega
  obtain ⟨x, hx⟩ : ∃ x, l[i] = x := ⟨_, rfl⟩
  obtain ⟨y, hy⟩ : ∃ y, l[j] = y := ⟨_, rfl⟩
  have ci : w3.cell? ⟨g, i, none⟩ = some (.int .u8 (x.toNat : Int)) := by rw [← hx]; exact HBY.out.1 i il
  have cj : w3.cell? ⟨g, j, none⟩ = some (.int .u8 (y.toNat : Int)) := by rw [← hy]; exact HBY.out.1 j jl
  have fi : w3.frozen? ⟨g, i, none⟩ = false := HBY.out.2 i il
  have fj : w3.frozen? ⟨g, j, none⟩ = false := HBY.out.2 j jl
  have i3 : (i : Int) < 8 := by omega
  have j3 : (j : Int) < 8 := by omega
  have i4 : (0 : Int) ≤ i := by omega
  have j4 : (0 : Int) ≤ j := by omega
  have HB1 := Lib.hid (HBY.out.set i il y)
  have jl1 : j < (l.set i y).length := by simp; exact jl
  obtain ⟨z, hz1⟩ : ∃ z, (l.set i y)[j] = z := ⟨_, rfl⟩
  have cj1 : (w3.setCell ⟨g, i, none⟩ (.int .u8 (y.toNat : Int))).cell? ⟨g, j, none⟩ = some (.int .u8 (z.toNat : Int)) := by rw [← hz1]; exact HB1.out.1 j jl1
  have fj1 : (w3.setCell ⟨g, i, none⟩ (.int .u8 (y.toNat : Int))).frozen? ⟨g, j, none⟩ = false := HB1.out.2 j jl1
  have HB2 := Lib.hid (HB1.out.set j jl1 x)
  have HBEL2 := Lib.hid ((HBEL.out.setCell (p := ⟨g, i, none⟩) hg (.int .u8 (y.toNat : Int))).setCell (p := ⟨g, j, none⟩) hg (.int .u8 (x.toNat : Int)))
  have HL2 : Hid (((l.set i y).set j x).length = 8) := Lib.hid (by simp; exact HLEN.out)
  have HR2 : Hid (readR ((l.set i y).set j x) = readR l) := Lib.hid (mix_swap l i j x y HLEN.out hi hj (by rw [← hx]; exact List.getElem?_eq_getElem il) (by rw [← hy]; exact List.getElem?_eq_getElem jl))
  have HX2 : Hid (((l.set i y).set j x)[i]? = some y) := Lib.hid (by
    rw [List.getElem?_set]
    split
    · rename_i e
      subst e
      have : x = y := by rw [← hx, ← hy]
      simp [this, il]
    · exact List.getElem?_set_self il)
  clear hz1
  have HF : w3.drew.cell? ⟨g, i, none⟩ = some (.int .u8 (x.toNat : Int)) ∧ w3.drew.cell? ⟨g, j, none⟩ = some (.int .u8 (y.toNat : Int)) := ⟨ci, cj⟩
  have fi2 : w3.drew.frozen? ⟨g, i, none⟩ = false := fi
  have fj2 : w3.drew.frozen? ⟨g, j, none⟩ = false := fj
  refine Kt.G.start 13 (fun W => W.cell? ⟨g, i, none⟩ = some (.int .u8 (x.toNat : Int)) ∧ W.cell? ⟨g, j, none⟩ = some (.int .u8 (y.toNat : Int))) (by kernel_rfl) HF (fun hHeld => ?_)
  refine Kt.G.takeP 0 { dst := some 41, op := Op.move (Operand.tmp 7), type := 23, pos := "keys.go:51", after := #[], guard := none } ?_ (fun _ => hHeld) rfl (by kernel_rfl) (fun _ _ _ h => h) (by rfl) ?_ ?_
  rotate_left
  · intro w; go_simp; try with_reducible rfl
  try simp only [Act.put, List.setIfInBounds_toArray, List.set_cons_zero, List.set_cons_succ]
  refine Kt.G.takeP 1 { dst := some 42, op := Op.move (Operand.tmp 1), type := 3, pos := "keys.go:51", after := #[], guard := none } ?_ (fun _ => hHeld) rfl (by kernel_rfl) (fun _ _ _ h => h) (by rfl) ?_ ?_
  rotate_left
  · intro w; go_simp; try with_reducible rfl
  try simp only [Act.put, List.setIfInBounds_toArray, List.set_cons_zero, List.set_cons_succ]
  refine Kt.G.takeP 2 { dst := some 43, op := Op.move (Operand.tmp 7), type := 23, pos := "keys.go:51", after := #[{ on := 13, ground := Ground.gcOnly Departure.lateStores }], guard := none } ?_ (fun _ => hHeld) rfl (by kernel_rfl) (fun _ _ _ h => h) (by rfl) ?_ ?_
  rotate_left
  · intro w; go_simp; try with_reducible rfl
  try simp only [Act.put, List.setIfInBounds_toArray, List.set_cons_zero, List.set_cons_succ]
  refine Kt.G.takeP 3 { dst := some 44, op := Op.move (Operand.tmp 2), type := 3, pos := "keys.go:51", after := #[{ on := 13, ground := Ground.gcOnly Departure.lateStores }], guard := none } ?_ (fun _ => hHeld) rfl (by kernel_rfl) (fun _ _ _ h => h) (by rfl) ?_ ?_
  rotate_left
  · intro w; go_simp; try with_reducible rfl
  try simp only [Act.put, List.setIfInBounds_toArray, List.set_cons_zero, List.set_cons_succ]
  refine Kt.G.takeP 4 { dst := some 45, op := Op.move (Operand.tmp 7), type := 23, pos := "keys.go:51", after := #[], guard := none } ?_ (fun _ => hHeld) rfl (by kernel_rfl) (fun _ _ _ h => h) (by rfl) ?_ ?_
  rotate_left
  · intro w; go_simp; try with_reducible rfl
  try simp only [Act.put, List.setIfInBounds_toArray, List.set_cons_zero, List.set_cons_succ]
  refine Kt.G.takeP 5 { dst := some 46, op := Op.move (Operand.tmp 2), type := 3, pos := "keys.go:51", after := #[], guard := none } ?_ (fun _ => hHeld) rfl (by kernel_rfl) (fun _ _ _ h => h) (by rfl) ?_ ?_
  rotate_left
  · intro w; go_simp; try with_reducible rfl
  try simp only [Act.put, List.setIfInBounds_toArray, List.set_cons_zero, List.set_cons_succ]
  refine Kt.G.takeP 6 { dst := some 47, op := Op.indexAddr 23 (Operand.tmp 45) (Operand.tmp 46), type := 0, pos := "keys.go:51", after := #[{ on := 4, ground := Ground.data }, { on := 5, ground := Ground.data }], guard := none } ?_ (fun _ => hHeld) rfl (by kernel_rfl) (fun _ _ _ h => h) (by rfl) ?_ ?_
  rotate_left
  · intro w; go_simp; try with_reducible rfl
  try simp only [Act.put, List.setIfInBounds_toArray, List.set_cons_zero, List.set_cons_succ]
  refine Kt.G.take 7 { dst := some 48, op := Op.load 5 (Operand.tmp 47), type := 5, pos := "keys.go:51", after := #[{ on := 6, ground := Ground.data }], guard := none } ?_ hHeld rfl (by kernel_rfl) (fun _ _ _ h => h) (by rfl) ?_ ?_
  rotate_left
  · intro w hSw; (try dsimp only at hSw); go_simp; try with_reducible rfl
  try simp only [Act.put, List.setIfInBounds_toArray, List.set_cons_zero, List.set_cons_succ]
  refine Kt.G.takeP 8 { dst := some 49, op := Op.move (Operand.tmp 7), type := 23, pos := "keys.go:51", after := #[], guard := none } ?_ (fun _ => hHeld) rfl (by kernel_rfl) (fun _ _ _ h => h) (by rfl) ?_ ?_
  rotate_left
  · intro w; go_simp; try with_reducible rfl
  try simp only [Act.put, List.setIfInBounds_toArray, List.set_cons_zero, List.set_cons_succ]
  refine Kt.G.takeP 9 { dst := some 50, op := Op.move (Operand.tmp 1), type := 3, pos := "keys.go:51", after := #[], guard := none } ?_ (fun _ => hHeld) rfl (by kernel_rfl) (fun _ _ _ h => h) (by rfl) ?_ ?_
  rotate_left
  · intro w; go_simp; try with_reducible rfl
  try simp only [Act.put, List.setIfInBounds_toArray, List.set_cons_zero, List.set_cons_succ]
  refine Kt.G.takeP 10 { dst := some 51, op := Op.indexAddr 23 (Operand.tmp 49) (Operand.tmp 50), type := 0, pos := "keys.go:51", after := #[{ on := 8, ground := Ground.data }, { on := 9, ground := Ground.data }], guard := none } ?_ (fun _ => hHeld) rfl (by kernel_rfl) (fun _ _ _ h => h) (by rfl) ?_ ?_
  rotate_left
  · intro w; go_simp; try with_reducible rfl
  try simp only [Act.put, List.setIfInBounds_toArray, List.set_cons_zero, List.set_cons_succ]
  refine Kt.G.take 11 { dst := some 52, op := Op.load 5 (Operand.tmp 51), type := 5, pos := "keys.go:51", after := #[{ on := 10, ground := Ground.data }], guard := none } ?_ hHeld rfl (by kernel_rfl) (fun _ _ _ h => h) (by rfl) ?_ ?_
  rotate_left
  · intro w hSw; (try dsimp only at hSw); go_simp; try with_reducible rfl
  try simp only [Act.put, List.setIfInBounds_toArray, List.set_cons_zero, List.set_cons_succ]
  refine Kt.G.takeP 12 { dst := some 53, op := Op.indexAddr 23 (Operand.tmp 41) (Operand.tmp 42), type := 0, pos := "keys.go:51", after := #[{ on := 0, ground := Ground.data }, { on := 1, ground := Ground.data }, { on := 0, ground := Ground.phase }, { on := 1, ground := Ground.phase }, { on := 2, ground := Ground.textOnly Departure.lateStores }, { on := 3, ground := Ground.textOnly Departure.lateStores }, { on := 4, ground := Ground.phase }, { on := 5, ground := Ground.phase }, { on := 6, ground := Ground.phase }, { on := 7, ground := Ground.phase }, { on := 8, ground := Ground.textOnly Departure.lateStores }, { on := 9, ground := Ground.textOnly Departure.lateStores }, { on := 10, ground := Ground.textOnly Departure.lateStoresUnsure }, { on := 11, ground := Ground.phase }], guard := none } ?_ (fun _ => hHeld) rfl (by kernel_rfl) (fun _ _ _ h => h) (by rfl) ?_ ?_
  rotate_left
  · intro w; go_simp; try with_reducible rfl
  try simp only [Act.put, List.setIfInBounds_toArray, List.set_cons_zero, List.set_cons_succ]
  refine Kt.G.one 13 { dst := none, op := Op.store 5 (Operand.tmp 53) (Operand.tmp 48), type := 0, pos := "keys.go:51", after := #[{ on := 12, ground := Ground.data }, { on := 7, ground := Ground.data }, { on := 0, ground := Ground.phase }, { on := 1, ground := Ground.phase }, { on := 2, ground := Ground.textOnly Departure.lateStores }, { on := 3, ground := Ground.textOnly Departure.lateStores }, { on := 4, ground := Ground.phase }, { on := 5, ground := Ground.phase }, { on := 6, ground := Ground.phase }, { on := 7, ground := Ground.phase }, { on := 8, ground := Ground.textOnly Departure.lateStores }, { on := 9, ground := Ground.textOnly Departure.lateStores }, { on := 10, ground := Ground.textOnly Departure.lateStoresUnsure }, { on := 11, ground := Ground.phase }], guard := none } rfl (by kernel_rfl) (by rfl) (fun K hK => ?_)
  go_simp
  refine hK.out _ _ (Kt.G.late (by kernel_rfl)) (fun _ => ?_)
  clear hK K
  try simp only [Act.put, List.setIfInBounds_toArray, List.set_cons_zero, List.set_cons_succ]
  refine Kt.G.takeP 14 { dst := some 54, op := Op.indexAddr 23 (Operand.tmp 43) (Operand.tmp 44), type := 0, pos := "keys.go:51", after := #[{ on := 2, ground := Ground.data }, { on := 3, ground := Ground.data }, { on := 0, ground := Ground.phase }, { on := 1, ground := Ground.phase }, { on := 2, ground := Ground.phase }, { on := 3, ground := Ground.phase }, { on := 4, ground := Ground.phase }, { on := 5, ground := Ground.phase }, { on := 6, ground := Ground.phase }, { on := 7, ground := Ground.phase }, { on := 8, ground := Ground.phase }, { on := 9, ground := Ground.phase }, { on := 10, ground := Ground.phase }, { on := 11, ground := Ground.phase }, { on := 12, ground := Ground.phase }, { on := 13, ground := Ground.phase }], guard := none } ?_ (Kt.G.late (by kernel_rfl)) rfl (by kernel_rfl) (fun _ _ _ h => h) (by rfl) ?_ ?_
  rotate_left
  · intro w; go_simp; try with_reducible rfl
  try simp only [Act.put, List.setIfInBounds_toArray, List.set_cons_zero, List.set_cons_succ]
  refine Kt.G.one 15 { dst := none, op := Op.store 5 (Operand.tmp 54) (Operand.tmp 52), type := 0, pos := "keys.go:51", after := #[{ on := 14, ground := Ground.data }, { on := 11, ground := Ground.data }, { on := 13, ground := Ground.chain }, { on := 0, ground := Ground.phase }, { on := 1, ground := Ground.phase }, { on := 2, ground := Ground.phase }, { on := 3, ground := Ground.phase }, { on := 4, ground := Ground.phase }, { on := 5, ground := Ground.phase }, { on := 6, ground := Ground.phase }, { on := 7, ground := Ground.phase }, { on := 8, ground := Ground.phase }, { on := 9, ground := Ground.phase }, { on := 10, ground := Ground.phase }, { on := 11, ground := Ground.phase }, { on := 12, ground := Ground.phase }, { on := 13, ground := Ground.phase }], guard := none } rfl (by kernel_rfl) (by rfl) (fun K hK => ?_)
  go_simp
  refine hK.out _ _ (Kt.G.late (by kernel_rfl)) (fun _ => ?_)
  clear hK K
  try simp only [Act.put, List.setIfInBounds_toArray, List.set_cons_zero, List.set_cons_succ]
  refine Kt.G.done (by kernel_rfl) (NoPanic.normal ?_) _
  generalize hw4 : (w3.setCell ⟨g, i, none⟩ (.int .u8 (y.toNat : Int))).setCell ⟨g, j, none⟩ (.int .u8 (x.toNat : Int)) = w4 at *
  generalize (l.set i y).set j x = l2 at *
  have hz4 : g < w4.heap.size := by
    rw [← hw4]
    simpa using hz
  clear fi2 fj2 HF hHeld cj1 fj1 HB1 jl1 ci cj fi fj HBY HBEL hx hy il jl hw4 hz
  have HB4 : Hid (Kt.Byt w4.drew g l2) := HB2
  have HBEL4 : Hid (Below w.heap.size w w4.drew) := Lib.hid HBEL2.out.drew
  have hz5 : g < w4.drew.heap.size := hz4
  generalize w4.drew = w5 at *
  obtain ⟨⟨⟨ra, rb, rc, rd⟩, n⟩, hR⟩ : ∃ r, readR l = r := ⟨_, rfl⟩
  have HRS := Lib.hid (fun W : World => read_calls s W)
  have HRT := Lib.hid (fun W : World => read_calls ⟨l2.toArray⟩ W)
  rw [hl, hR] at HRS
  rw [show (⟨l2.toArray⟩ : ByteArray).data.toList = l2 by simp, HR2.out, hR] at HRT
  have EN := neq_hd ⟨ra, rb, rc, rd⟩ ⟨ra, rb, rc, rd⟩
  have EQ := eq_hd ⟨ra, rb, rc, rd⟩ ⟨ra, rb, rc, rd⟩
  rw [decide_eq_true rfl] at EN EQ
  have GN := fun x y => guard_hd_n x y ⟨ra, rb, rc, rd⟩ ⟨ra, rb, rc, rd⟩
  have GQ := fun x y => guard_hd x y ⟨ra, rb, rc, rd⟩ ⟨ra, rb, rc, rd⟩
  simp only [Hd.v, Hd.vs] at HRS HRT EN EQ GN GQ
  have HRR := Lib.hid hR
  clear hR hl h8
  go_wp2_with fail
  refine (HRS.out _).mono ?_; rintro en w6 ⟨rfl, hb6⟩
  have HBEL6 := Lib.hid (Kt.bthen HBEL4.out hb6)
  have HB6 := Lib.hid (HB4.out.on hz5 hb6)
  have hz6 : g < w6.heap.size := Nat.lt_of_lt_of_le hz5 hb6.size
  clear hb6 HB4 HBEL4 hz5 HBEL2 HB2
  have CV := (HB6.out.alloc hz6 (.cells #[.int .u64 (ra.toNat : Int), .int .u64 (rb.toNat : Int), .int .u64 (rc.toNat : Int), .int .u64 (rd.toNat : Int)] 27)).back (P := Try.prog) 23 9 5 8 cap HL2.out.symm Try.underlying23 Try.underlying5 Try.underlying9
  go_wp2_with fail
  refine (HRT.out _).mono ?_; rintro en w7 ⟨rfl, hb7⟩
  have RA := Lib.hid (Kt.box1 hb7)
  have HBEL7 := Lib.hid (Kt.bthen (Kt.balloc HBEL6.out _) hb7)
  have HB7 := Lib.hid ((HB6.out.alloc hz6 _).on (by rw [World.size_alloc]; omega) hb7)
  have hz7 : g < w7.heap.size := Nat.lt_of_lt_of_le hz6 (Nat.le_trans (by rw [World.size_alloc]; omega) hb7.size)
  have ha7 : w6.heap.size < w7.heap.size := Nat.lt_of_lt_of_le (by rw [World.size_alloc]; omega) hb7.size
  clear hb7 HB6 HBEL6 CV
  have hAg : Hid (w6.heap.size ≠ g) := Lib.hid (by omega)
  clear hz6
  generalize w6.heap.size = A at *
  have q1 := fun i => cell_of_row _ _ i _ _ _ ((Below.heap_alloc w7 (.cells #[.int .u64 (ra.toNat : Int), .int .u64 (rb.toNat : Int), .int .u64 (rc.toNat : Int), .int .u64 (rd.toNat : Int)] 27) A ha7).trans RA.out)
  have q2 := fun i => cell_of_row _ _ i _ _ _ (heap_alloc_new w7 (.cells #[.int .u64 (ra.toNat : Int), .int .u64 (rb.toNat : Int), .int .u64 (rc.toNat : Int), .int .u64 (rd.toNat : Int)] 27))
  go_wp2_with fail
  have RA2 := Lib.hid ((Below.heap_alloc w7 (.cells #[.int .u64 (ra.toNat : Int), .int .u64 (rb.toNat : Int), .int .u64 (rc.toNat : Int), .int .u64 (rd.toNat : Int)] 27) A ha7).trans RA.out)
  have HBEL8 := Lib.hid (Kt.balloc HBEL7.out (.cells #[.int .u64 (ra.toNat : Int), .int .u64 (rb.toNat : Int), .int .u64 (rc.toNat : Int), .int .u64 (rd.toNat : Int)] 27))
  have HB8 := Lib.hid (HB7.out.alloc hz7 (.cells #[.int .u64 (ra.toNat : Int), .int .u64 (rb.toNat : Int), .int .u64 (rc.toNat : Int), .int .u64 (rd.toNat : Int)] 27))
  have hz8 : g < (w7.alloc (.cells #[.int .u64 (ra.toNat : Int), .int .u64 (rb.toNat : Int), .int .u64 (rc.toNat : Int), .int .u64 (rd.toNat : Int)] 27)).heap.size := by rw [World.size_alloc]; omega
  clear q1 q2 RA HBEL7 HB7 hz7 ha7 EN GN
  generalize w7.heap.size = B at *
  generalize (w7.alloc (.cells #[.int .u64 (ra.toNat : Int), .int .u64 (rb.toNat : Int), .int .u64 (rc.toNat : Int), .int .u64 (rd.toNat : Int)] 27)) = w8 at *
  go_loopw [12] (fun i wr => ∃ (k m : Nat), k ≤ 6 ∧ m = k + 2 ∧ i = .int .i64 m ∧ Hid (Kt.Byt wr g (fillZ y l2 k)) ∧ Hid (wr.heap[A]? = some (.cells #[.int .u64 (ra.toNat : Int), .int .u64 (rb.toNat : Int), .int .u64 (rc.toNat : Int), .int .u64 (rd.toNat : Int)] 27 (0, 0))) ∧ g < wr.heap.size ∧ Hid (Below w.heap.size w wr)) (fun i _ => 8 - (intOf i).toNat)
  case atStart => exact ⟨0, 2, Nat.zero_le _, rfl, rfl, HB8, RA2, hz8, HBEL8⟩
  case round =>
    clear HB8 RA2 hz8 HBEL8
    obtain ⟨k, m, hk, hm, rfl, HB8, RA2, hz8, HBEL8⟩ := hrel
    have hlen : (fillZ y l2 k).length = 8 := by rw [fillZ_len]; exact HL2.out
    by_cases hlt : k < 6
    · have kl : m < (fillZ y l2 k).length := by omega
      have il : i < (fillZ y l2 k).length := by omega
      obtain ⟨c, hc⟩ : ∃ c, (fillZ y l2 k)[m] = c := ⟨_, rfl⟩
      have iy : (fillZ y l2 k)[i] = y := by
        have := fillZ_at y l2 i HX2.out k
        rw [List.getElem?_eq_getElem il] at this
        simpa using this
      have ck := HB8.out.1 m kl
      have fk := HB8.out.2 m kl
      have ci := HB8.out.1 i il
      rw [iy] at ci
      rw [hc] at ck
      have k0 : (0 : Int) ≤ (m : Int) := by omega
      have k8 : (m : Int) < 8 := by omega
      by_cases hc0 : c = 0
      · have HF : Hid (fillZ y l2 (k + 1) = (fillZ y l2 k).set m y) := Lib.hid (by
          show (if _ then _ else _) = _
          rw [if_pos (by rw [← hm, List.getElem?_eq_getElem kl, hc, hc0]), hm])
        have ez : ((c.toNat : Int) == 0) = true := by rw [hc0]; rfl
        have HB9 := Lib.hid (HB8.out.set m kl y)
        have RA3 : Hid ((wr.setCell ⟨g, m, none⟩ (.int .u8 (y.toNat : Int))).heap[A]? = _) := Lib.hid ((heap_setCell_other _ _ _ _ hAg.out).trans RA2.out)
        have HBEL9 := Lib.hid (HBEL8.out.setCell (p := ⟨g, m, none⟩) hg (.int .u8 (y.toNat : Int)))
        rw [← HF.out] at HB9
        have HM := Lib.hid (And.intro hm hlt)
        clear hc hc0 iy il kl hlen hm HB8 RA2 HBEL8 hlt
        go_wp2_with fail
        go_roundw
        case rel => exact ⟨k + 1, m + 1, by have := HM.out; omega, by have := HM.out; omega, by go_num, HB9, RA3, by simpa using hz8, HBEL9⟩
        case measure => (have := HM.out; simp [intOf] <;> omega)
      · have HF : Hid (fillZ y l2 (k + 1) = fillZ y l2 k) := Lib.hid (by
          show (if _ then _ else _) = _
          rw [if_neg (by rw [← hm, List.getElem?_eq_getElem kl, hc]; simpa using hc0)])
        have ez : ((c.toNat : Int) == 0) = false := by
          rw [beq_eq_false_iff_ne]; intro h; exact hc0 (UInt8.toNat_inj.1 (by show c.toNat = 0; omega))
        rw [← HF.out] at HB8
        have HM := Lib.hid (And.intro hm hlt)
        clear hc hc0 iy il kl hlen hm hlt
        go_wp2_with fail
        go_roundw
        case rel => exact ⟨k + 1, m + 1, by have := HM.out; omega, by have := HM.out; omega, by go_num, HB8, RA2, hz8, HBEL8⟩
        case measure => (have := HM.out; simp [intOf] <;> omega)
    · obtain rfl : k = 6 := by omega
      subst hm
      have HRU := Lib.hid (fun W : World => read_calls ⟨(fillZ y l2 6).toArray⟩ W)
      rw [show (⟨(fillZ y l2 6).toArray⟩ : ByteArray).data.toList = fillZ y l2 6 by simp, fillZ_read l2 i y HL2.out hi HX2.out 6, HR2.out, HRR.out] at HRU
      simp only [Hd.v, Hd.vs] at HRU
      have CV := HB8.out.back (P := Try.prog) 23 9 5 8 cap hlen.symm Try.underlying23 Try.underlying5 Try.underlying9
      clear HB8 hlen hlt hk
      go_wp2_with fail
      refine (HRU.out _).mono ?_; rintro en w9 ⟨rfl, hb9⟩
      have RA9 := Lib.hid (Kt.row_on hb9 RA2.out)
      have HBEL9 := Lib.hid (Kt.balloc (Kt.bthen HBEL8.out hb9) (.cells #[.int .u64 (ra.toNat : Int), .int .u64 (rb.toNat : Int), .int .u64 (rc.toNat : Int), .int .u64 (rd.toNat : Int)] 27))
      have ha9 := (Array.getElem?_eq_some_iff.1 RA9.out).1
      have q1 := fun i => cell_of_row _ _ i _ _ _ ((Below.heap_alloc w9 (.cells #[.int .u64 (ra.toNat : Int), .int .u64 (rb.toNat : Int), .int .u64 (rc.toNat : Int), .int .u64 (rd.toNat : Int)] 27) A ha9).trans RA9.out)
      have q2 := fun i => cell_of_row _ _ i _ _ _ (heap_alloc_new w9 (.cells #[.int .u64 (ra.toNat : Int), .int .u64 (rb.toNat : Int), .int .u64 (rc.toNat : Int), .int .u64 (rd.toNat : Int)] 27))
      clear hb9 CV RA2 HBEL8 hz8
      go_wp2_with fail
      go_ret
      exact ⟨rfl, HBEL9.out⟩
theorem mix_walk (v0 v1 v2 : Value) (w : World) (r0 : Fr.RdV w reachBytes .string v0) (r1 : Fr.RdV w reachBytes (.int .i64) v1) (r2 : Fr.RdV w reachBytes (.int .i64) v2) :
    Calls Try.prog 3 #[v0, v1, v2] w fun e w' => e = .returned (.bool true) ∧ Below w.heap.size w w' := by
  obtain ⟨s, e0, _⟩ := r0; cases e0
  obtain ⟨i, e1, _⟩ := r1; cases e1
  obtain ⟨j, e2, _⟩ := r2; cases e2
  by_cases h8 : s.size = 8
  · have c1 : ((s.size : Int) != 8) = false := by rw [h8]; rfl
    by_cases c2 : i < 2
    · exact mix_bad s i j (.inr (.inl ⟨c1, c2⟩)) w
    · by_cases c3 : 7 < i
      · exact mix_bad s i j (.inr (.inr (.inl ⟨c1, by omega, c3⟩))) w
      · by_cases c4 : j < 2
        · exact mix_bad s i j (.inr (.inr (.inr (.inl ⟨c1, by omega, by omega, c4⟩)))) w
        · by_cases c5 : 7 < j
          · exact mix_bad s i j (.inr (.inr (.inr (.inr ⟨c1, by omega, by omega, by omega, c5⟩)))) w
          · obtain ⟨i, rfl⟩ := Int.eq_ofNat_of_zero_le (show 0 ≤ i by omega)
            obtain ⟨j, rfl⟩ := Int.eq_ofNat_of_zero_le (show 0 ≤ j by omega)
            exact mix_good s i j h8 (by omega) (by omega) (by omega) (by omega) w
  · exact mix_bad s i j (.inl (by rw [bne_iff_ne]; omega)) w
end Go.Proofs.Ytfcmmeapinppaaa
