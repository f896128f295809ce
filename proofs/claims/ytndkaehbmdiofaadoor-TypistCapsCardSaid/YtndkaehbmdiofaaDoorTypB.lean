/- The law TypistCaps, walked. -/
import Derived.Test.YtndkaehbmdiofaaDoorTypJ
import Derived.Test.YtndkaehbmdiofaaDoorTypX
import Derived.Test.YtndkaehbmdiofaaDoorTypE
import Derived.Test.YtndkaehbmdiofaaDoorTypN
import Derived.Test.YtndkaehbmdiofaaDoorTri
namespace Go.Proofs.YtndkaehbmdiofaaDoor
open Go.RowKit Go.Proofs.YtndkaehbmdiofaaDoor.Typ
theorem fit_hd : Fr.fits Tryd.prog 12 35 hdTy = true := by kernel_rfl
theorem ok_hd : Fr.eqOk Tryd.prog 12 35 = true := by kernel_rfl
theorem cl_hd (h : Hd) : Fr.Cl hdTy h.vs.toList := by
  refine ⟨by simp [Hd.vs], ⟨by simp [Hd.vs], fun i hi => ?_⟩, rfl⟩
  match i, hi with
  | 0, _ => exact ⟨_, rfl⟩
  | 1, _ => exact ⟨_, rfl⟩
  | 2, _ => exact ⟨_, rfl⟩
  | 3, _ => exact ⟨_, rfl⟩
theorem vs_inj (h : Hd) : h.vs = Hd0.vs ↔ h = Hd0 := by
  constructor
  · intro e
    obtain ⟨a, b, c, d⟩ := h
    unfold Hd.vs Hd0 at e
    simp only [Array.mk.injEq, List.cons.injEq, Value.int.injEq, true_and, and_true] at e
    unfold Hd0
    simp only [Hd.mk.injEq]
    refine ⟨?_, ?_, ?_, ?_⟩ <;> (apply UInt64.toNat_inj.1; omega)
  · intro e; rw [e]
def zh : Array Value := #[.int .u64 0, .int .u64 0, .int .u64 0, .int .u64 0]
theorem neq_hd (h : Hd) (b : Bool) (hb : (!decide (h = Hd0)) = b) (w : World) : (binOp .neq 35 (.agg h.vs) (.agg zh)).run Tryd.prog w = .ok (.bool b) w := by
  have q := (Fr.eql_agg (P := Tryd.prog) w 35 hdTy 12 (by omega) fit_hd ok_hd rfl h.vs Hd0.vs (cl_hd h) (cl_hd Hd0) rfl rfl).2
  rw [show zh = Hd0.vs from rfl, q, decide_eq_decide.2 (vs_inj h), hb]
theorem guard_hd0 : Program.eqGuardType Tryd.prog Tryd.prog.depth 35 = false := by kernel_rfl
theorem guard_hd (x y : Operand) (a b : Array Value) (w : World) : (eqGuard .neq 35 x y (.agg a) (.agg b)).run Tryd.prog w = .ok () w := run_eqGuard_agg w .neq 35 x y _ _ guard_hd0
theorem neq_ty (t : St) (w : World) : (binOp .neq 37 (.agg t.cs) (.agg t.cs)).run Tryd.prog w = .ok (.bool false) w := by
  have h := (Fr.eql_agg (P := Tryd.prog) w 37 tyTy 12 (by omega) fit_ty ok_ty rfl t.cs t.cs (cl_ty t) (cl_ty t) rfl rfl).2
  rw [h]; simp
theorem guard_tyn (x y : Operand) (a b : Array Value) (w : World) : (eqGuard .neq 37 x y (.agg a) (.agg b)).run Tryd.prog w = .ok () w := run_eqGuard_agg w .neq 37 x y _ _ guard_ty0
theorem press1_calls (c : Int) (A : Option Addr) (cap : Nat) (w0 : World) (hv : Kt.Ar w0 (.slice A 1 cap) 1 1 [.int .i64 c]) :
    Calls Tryd.prog 11 #[.slice A 1 cap] w0 fun e w' => ∃ A' c', e = .returned (.slice A' 2 c') ∧ Kt.Sl w' w0.heap.size 31 4 (.slice A' 2 c') 2 (sks [⟨1, c, true, 0⟩, ⟨1, c, false, 0⟩]) ∧ Below w0.heap.size w0 w' := press_calls [c] A cap w0 hv (by simp)
theorem press2_calls (c d : Int) (A : Option Addr) (cap : Nat) (w0 : World) (hv : Kt.Ar w0 (.slice A 2 cap) 1 2 [.int .i64 c, .int .i64 d]) :
    Calls Tryd.prog 11 #[.slice A 2 cap] w0 fun e w' => ∃ A' c', e = .returned (.slice A' 4 c') ∧ Kt.Sl w' w0.heap.size 31 4 (.slice A' 4 c') 4 (sks [⟨1, c, true, 0⟩, ⟨1, c, false, 0⟩, ⟨1, d, true, 0⟩, ⟨1, d, false, 0⟩]) ∧ Below w0.heap.size w0 w' := press_calls [c, d] A cap w0 hv (by simp)
set_option maxRecDepth 100000 in
set_option maxHeartbeats 6400000 in
theorem caps_calls (t : St) (c : Int) (w0 : World) (hT : ∀ W, Below w0.heap.size w0 W → Lib.Utf8Tabs 0 1 W) :
    Calls Tryd.prog 4 #[t.v, .int .i64 c] w0 fun e w' => e = .returned (.bool true) ∧ Below w0.heap.size w0 w' := by
  have HT := Lib.hid hT
  have HLV := Lib.hid (fun W hW => tlives_calls W (fun X hX => HT.out X (Kt.bthen hW hX)))
  have HR0 := Lib.hid (heap_alloc_new w0 (.cells t.cs 37))
  have HB0 := Lib.hid (Kt.balloc (Below.refl _ w0) (.cells t.cs 37))
  clear hT
  unfold St.v
  go_enter Tryd.func4, Tryd.ntmps4
  go_upto_region 1 with (fail)
  refine Kt.fold (fun X => Hid (X.heap[w0.heap.size]? = some (.cells t.cs 37 (0, 0)) ∧ Below w0.heap.size w0 X)) (Lib.hid ⟨HR0.out, HB0.out⟩) (fun W1 HW1 => ?_)
  clear HR0 HB0
  go_wp2_with fail
  refine (HLV.out _ HW1.out.2).mono ?_; rintro en w2 ⟨rfl, hb⟩
  have HW2 := Lib.hid (show w2.heap[w0.heap.size]? = some (.cells t.cs 37 (0, 0)) ∧ Below w0.heap.size w0 w2 from ⟨Kt.row_on hb HW1.out.1, Kt.bthen HW1.out.2 hb⟩)
  clear hb HW1
  obtain ⟨E, hE⟩ : ∃ E, chkP t = E := ⟨_, rfl⟩
  have HCK := Lib.hid (fun W => chk_calls t W)
  rw [hE] at HCK
  have HE := Lib.hid hE
  clear hE
  unfold St.v at HCK
  unfold St.cs at HCK
  have hr := HW2.out.1
  unfold St.cs at hr
  have q := fun i => cell_of_row _ _ i _ _ _ hr
  clear hr
  by_cases he : E = 0
  · subst he
    go_wp2_with fail
    refine (HCK.out _).mono ?_; rintro en w3 ⟨rfl, hb⟩
    have HW3 := Lib.hid (show w3.heap[w0.heap.size]? = some (.cells t.cs 37 (0, 0)) ∧ Below w0.heap.size w0 w3 from ⟨Kt.row_on hb HW2.out.1, Kt.bthen HW2.out.2 hb⟩)
    clear hb HW2 HCK q
    have hr := HW3.out.1
    unfold St.cs at hr
    have q := fun i => cell_of_row _ _ i _ _ _ hr
    by_cases hh : t.held = Hd0
    · have EQ := fun W => neq_hd t.held false (by rw [decide_eq_true hh]; rfl) W
      have EG := fun u v W => guard_hd u v t.held.vs zh W
      unfold Hd.vs zh at EQ EG
      obtain ⟨P, hP⟩ : ∃ P, prints c = P := ⟨_, rfl⟩
      have HPC := Lib.hid (fun W => types_calls c W)
      rw [hP] at HPC
      have HH := Lib.hid (And.intro hh hP)
      clear hh hP
      cases P
      · go_wp2_with fail
        refine (HPC.out _).mono ?_; rintro en w4 ⟨rfl, hb⟩
        have HB4 := Lib.hid (Kt.bthen HW3.out.2 hb)
        clear hb HW3 HPC q EQ EG
        go_wp2_with fail
        refine (HLV.out _ HB4.out).mono ?_; rintro en w5 ⟨rfl, hb⟩
        have HB5 := Lib.hid (Kt.bthen HB4.out hb)
        clear hb
        go_wp2_with fail
        go_ret
        exact ⟨rfl, HB5.out⟩
      · go_wp2_with fail
        refine (HPC.out _).mono ?_; rintro en w4 ⟨rfl, hb⟩
        have HW4 := Lib.hid (show w4.heap[w0.heap.size]? = some (.cells t.cs 37 (0, 0)) ∧ Below w0.heap.size w0 w4 from ⟨Kt.row_on hb HW3.out.1, Kt.bthen HW3.out.2 hb⟩)
        clear hb HW3 HPC q EQ EG
        have hr := HW4.out.1
        unfold St.cs at hr
        have q := fun i => cell_of_row _ _ i _ _ _ hr
        by_cases ht : (4000 : Int) < t.text.size
        · go_wp2_with fail
          refine (HLV.out _ HW4.out.2).mono ?_; rintro en w5 ⟨rfl, hb⟩
          have HB5 := Lib.hid (Kt.bthen HW4.out.2 hb)
          clear hb
          go_wp2_with fail
          go_ret
          exact ⟨rfl, HB5.out⟩
        · obtain ⟨B, C, D, hA, hB, hC, hD, h1, h2⟩ := caps_plain HE.out HH.out.1 HH.out.2
          have HAB := Lib.hid (And.intro h1 h2)
          have HTY : Hid (∀ (V : World), Below w0.heap.size w0 V → ∀ (l : List Sk) (R : St), typeP t l = (R, 0) → ∀ W, Below V.heap.size V W → ∀ A cap K, Kt.Sl W K 31 4 (.slice A l.length cap) l.length (sks l) → Calls Tryd.prog 12 #[t.v, .slice A l.length cap] W fun e w' => e = .returned (.tuple #[R.v, .int .i64 0]) ∧ Below W.heap.size W w') := Lib.hid (by
            intro V hV l R hR W hW A cap K hs
            have h := type_calls t l A cap W (Kt.Ar.of_sl hs) (fun X hX => HT.out X (Kt.bthen hV (Kt.bthen hW hX)))
            rw [hR] at h
            exact h)
          have HT3 : Hid (∀ W, Below w4.heap.size w4 W → ∀ A cap K, Kt.Sl W K 31 4 (.slice A 4 cap) 4 (sks [⟨1, 57, true, 0⟩, ⟨1, 57, false, 0⟩, ⟨1, 57, true, 0⟩, ⟨1, 57, false, 0⟩]) → Calls Tryd.prog 12 #[t.v, .slice A 4 cap] W fun e w' => e = .returned (.tuple #[t.v, .int .i64 0]) ∧ Below W.heap.size W w') := Lib.hid (HTY.out w4 HW4.out.2 (pressL [57, 57]) t hA)
          have HRES := Lib.hid (And.intro hB (And.intro hC hD))
          have HRB : Hid (∀ r ∈ [(w0.heap.size, #[.int .u64 (t.held.a.toNat : Int), .int .u64 (t.held.b.toNat : Int), .int .u64 (t.held.c.toNat : Int), .int .u64 (t.held.d.toNat : Int), .bool t.caps, .int .i64 t.dead, .int .i64 t.last, .int .i64 t.wait, .string t.text], 37)], (r : Nat × Array Value × TypeId).1 < w4.heap.size) := Lib.hid (by
            intro r hr
            rw [List.mem_singleton] at hr
            subst hr
            exact lt_of_row0 HW4.out.1)
          unfold St.v at HT3
          unfold St.cs at HT3
          clear hA hB hC hD h1 h2 HE HH
          go_upto_region 3 with (fail)
          clear q ht
          go_cut [5, 6] from 39 to 45 (fun p e wx => ∃ kZ, p = .pointer (some ⟨kZ, 0, none⟩) ∧ e = .int .i64 0 ∧ wx.heap[kZ]? = some (.cells t.cs 37 (0, 0)) ∧ Below w4.heap.size w4 wx)
          case first =>
            -- REGION3
            have HF := (Kt.Fb.nil w4 (Below.refl _ _)).add HW4.out.1
            refine Kt.G.start 8 (Kt.Fb w4 [(w0.heap.size, #[.int .u64 (t.held.a.toNat : Int), .int .u64 (t.held.b.toNat : Int), .int .u64 (t.held.c.toNat : Int), .int .u64 (t.held.d.toNat : Int), .bool t.caps, .int .i64 t.dead, .int .i64 t.last, .int .i64 t.wait, .string t.text], 37)]) (by kernel_rfl) HF.drew (fun hHeld => ?_)
            clear HF
            generalize w4.drew = x0 at *
            refine Kt.G.take 0 { dst := some 40, op := Op.load 37 (Operand.tmp 2), type := 37, pos := "typist.go:67", after := #[], guard := none } ?_ hHeld rfl (by kernel_rfl) (fun _ _ _ h => h) (by rfl) ?_ ?_
            rotate_left
            · intro w hSw; have r0 := hSw.row (w0.heap.size, #[.int .u64 (t.held.a.toNat : Int), .int .u64 (t.held.b.toNat : Int), .int .u64 (t.held.c.toNat : Int), .int .u64 (t.held.d.toNat : Int), .bool t.caps, .int .i64 t.dead, .int .i64 t.last, .int .i64 t.wait, .string t.text], 37) (by simp); have c0 := fun i => cell_of_row _ _ i _ _ _ r0; dsimp only at *; go_simp; try with_reducible rfl
            try simp only [Act.put, List.setIfInBounds_toArray, List.set_cons_zero, List.set_cons_succ]
            refine Kt.G.two 1 7 { dst := some 41, op := Op.buildSlice 22 2 #[(0, Operand.const (Value.int IntKind.i64 57)), (1, Operand.const (Value.int IntKind.i64 57))], type := 22, pos := "typist.go:67", after := #[], guard := none } { dst := some 5, op := Op.alloc 37, type := 0, pos := "typist.go:67", after := #[], guard := none } rfl rfl (by kernel_rfl) (by rfl) (by rfl) (fun K hK => ?g1) (fun K hK => ?g2)
            case' g1 =>
              go_simp
              refine hK.out _ _ (fun _ => hHeld.alloc _) (fun hHeld => ?_)
              have hHeld := hHeld rfl
              clear hK K
              try simp only [Act.put, List.setIfInBounds_toArray, List.set_cons_zero, List.set_cons_succ]
              have HA1 := Lib.hid (Kt.Ar.new x0 #[.int .i64 57, .int .i64 57] 3 2 1 rfl)
              generalize x0.alloc (.cells #[.int .i64 57, .int .i64 57] 3) = y1 at *
              refine Kt.G.two 2 7 { dst := some 42, op := Op.call { callee := Callee.value (Operand.func 11), args := #[Operand.tmp 41], argTypes := #[22] }, type := 26, pos := "typist.go:67", after := #[{ on := 1, ground := Ground.data }], guard := none } { dst := some 5, op := Op.alloc 37, type := 0, pos := "typist.go:67", after := #[], guard := none } rfl rfl (by kernel_rfl) (by rfl) (by rfl) (fun K hK => ?g3) (fun K hK => ?g4)
              case' g3 =>
                try (have hkk := lt_of_row0 rK)
                have hszz := hHeld.bel.size
                go_simp
                refine (press2_calls _ _ _ _ _ HA1.out).mono ?_; rintro en x2 ⟨A2, c2, rfl, hs2, hb2⟩
                refine hK.out _ _ (fun _ => hHeld.on hb2) (fun hHeld => ?_)
                have hHeld := hHeld rfl
                clear hK K
                try simp only [Act.put, List.setIfInBounds_toArray, List.set_cons_zero, List.set_cons_succ]
                have HS2 := Lib.hid (hs2.mono hszz)
                try clear hkk
                clear hs2 hb2 hszz HA1
                refine Kt.G.two 3 7 { dst := some 43, op := Op.call { callee := Callee.value (Operand.func 12), args := #[Operand.tmp 40, Operand.tmp 42], argTypes := #[37, 26] }, type := 39, pos := "typist.go:67", after := #[{ on := 0, ground := Ground.data }, { on := 2, ground := Ground.data }, { on := 2, ground := Ground.chain }], guard := none } { dst := some 5, op := Op.alloc 37, type := 0, pos := "typist.go:67", after := #[], guard := none } rfl rfl (by kernel_rfl) (by rfl) (by rfl) (fun K hK => ?g5) (fun K hK => ?g6)
                case' g5 =>
                  go_simp
                  refine (HT3.out _ hHeld.bel _ _ _ HS2.out).mono ?_; rintro en x3 ⟨rfl, hb3⟩
                  refine hK.out _ _ (fun _ => hHeld.on hb3) (fun hHeld => ?_)
                  have hHeld := hHeld rfl
                  clear hK K
                  try simp only [Act.put, List.setIfInBounds_toArray, List.set_cons_zero, List.set_cons_succ]
                  clear hb3 HS2
                  refine Kt.G.takeP 4 { dst := some 39, op := Op.move (Operand.tmp 43), type := 39, pos := "typist.go:67", after := #[{ on := 3, ground := Ground.data }], guard := none } ?_ (fun _ => hHeld) rfl (by kernel_rfl) (fun _ _ _ h => h) (by rfl) ?_ ?_
                  rotate_left
                  · intro w; go_simp; try with_reducible rfl
                  try simp only [Act.put, List.setIfInBounds_toArray, List.set_cons_zero, List.set_cons_succ]
                  refine Kt.G.takeP 5 { dst := some 44, op := Op.extract (Operand.tmp 39) 0, type := 37, pos := "typist.go:67", after := #[{ on := 4, ground := Ground.data }], guard := none } ?_ (fun _ => hHeld) rfl (by kernel_rfl) (fun _ _ _ h => h) (by rfl) ?_ ?_
                  rotate_left
                  · intro w; go_simp; try with_reducible rfl
                  try simp only [Act.put, List.setIfInBounds_toArray, List.set_cons_zero, List.set_cons_succ]
                  refine Kt.G.takeP 6 { dst := some 45, op := Op.extract (Operand.tmp 39) 1, type := 38, pos := "typist.go:67", after := #[{ on := 4, ground := Ground.data }, { on := 8, ground := Ground.gcOnly Departure.lateStores }], guard := none } ?_ (fun _ => hHeld) rfl (by kernel_rfl) (fun _ _ _ h => h) (by rfl) ?_ ?_
                  rotate_left
                  · intro w; go_simp; try with_reducible rfl
                  try simp only [Act.put, List.setIfInBounds_toArray, List.set_cons_zero, List.set_cons_succ]
                  refine Kt.G.one 7 { dst := some 5, op := Op.alloc 37, type := 0, pos := "typist.go:67", after := #[], guard := none } rfl (by kernel_rfl) (by rfl) (fun K hK => ?_)
                  have hk0 : w4.heap.size ≤ x3.heap.size := hHeld.bel.size
                  go_simp
                  refine hK.out _ _ (fun _ => hHeld.alloc _) (fun hHeld => ?_)
                  have hHeld := hHeld rfl
                  clear hK K
                  try simp only [Act.put, List.setIfInBounds_toArray, List.set_cons_zero, List.set_cons_succ]
                  have rK := heap_alloc_new x3 (.cells #[.int .u64 0, .int .u64 0, .int .u64 0, .int .u64 0, .bool false, .int .i64 0, .int .i64 0, .int .i64 0, .string ⟨#[]⟩] 37)
                  generalize hkZ : x3.heap.size = kZ at *
                  clear hkZ
                  generalize x3.alloc (.cells #[.int .u64 0, .int .u64 0, .int .u64 0, .int .u64 0, .bool false, .int .i64 0, .int .i64 0, .int .i64 0, .string ⟨#[]⟩] 37) = xk at *
                case' g6 =>
                  have hk0 : w4.heap.size ≤ x2.heap.size := hHeld.bel.size
                  replace HS2 := Lib.hid (HS2.out.on (Kt.balloc (Below.refl _ x2) (.cells #[.int .u64 0, .int .u64 0, .int .u64 0, .int .u64 0, .bool false, .int .i64 0, .int .i64 0, .int .i64 0, .string ⟨#[]⟩] 37)))
                  go_simp
                  refine hK.out _ _ (fun _ => hHeld.alloc _) (fun hHeld => ?_)
                  have hHeld := hHeld rfl
                  clear hK K
                  try simp only [Act.put, List.setIfInBounds_toArray, List.set_cons_zero, List.set_cons_succ]
                  have rK := heap_alloc_new x2 (.cells #[.int .u64 0, .int .u64 0, .int .u64 0, .int .u64 0, .bool false, .int .i64 0, .int .i64 0, .int .i64 0, .string ⟨#[]⟩] 37)
                  generalize hkZ : x2.heap.size = kZ at *
                  clear hkZ
                  generalize x2.alloc (.cells #[.int .u64 0, .int .u64 0, .int .u64 0, .int .u64 0, .bool false, .int .i64 0, .int .i64 0, .int .i64 0, .string ⟨#[]⟩] 37) = xk at *
                  refine Kt.G.one 3 { dst := some 43, op := Op.call { callee := Callee.value (Operand.func 12), args := #[Operand.tmp 40, Operand.tmp 42], argTypes := #[37, 26] }, type := 39, pos := "typist.go:67", after := #[{ on := 0, ground := Ground.data }, { on := 2, ground := Ground.data }, { on := 2, ground := Ground.chain }], guard := none } rfl (by kernel_rfl) (by rfl) (fun K hK => ?_)
                  go_simp
                  refine (HT3.out _ hHeld.bel _ _ _ HS2.out).mono ?_; rintro en x3 ⟨rfl, hb3⟩
                  refine hK.out _ _ (fun _ => hHeld.on hb3) (fun hHeld => ?_)
                  have hHeld := hHeld rfl
                  clear hK K
                  try simp only [Act.put, List.setIfInBounds_toArray, List.set_cons_zero, List.set_cons_succ]
                  replace rK := Kt.row_on hb3 rK
                  clear hb3 HS2
                  refine Kt.G.takeP 4 { dst := some 39, op := Op.move (Operand.tmp 43), type := 39, pos := "typist.go:67", after := #[{ on := 3, ground := Ground.data }], guard := none } ?_ (fun _ => hHeld) rfl (by kernel_rfl) (fun _ _ _ h => h) (by rfl) ?_ ?_
                  rotate_left
                  · intro w; go_simp; try with_reducible rfl
                  try simp only [Act.put, List.setIfInBounds_toArray, List.set_cons_zero, List.set_cons_succ]
                  refine Kt.G.takeP 5 { dst := some 44, op := Op.extract (Operand.tmp 39) 0, type := 37, pos := "typist.go:67", after := #[{ on := 4, ground := Ground.data }], guard := none } ?_ (fun _ => hHeld) rfl (by kernel_rfl) (fun _ _ _ h => h) (by rfl) ?_ ?_
                  rotate_left
                  · intro w; go_simp; try with_reducible rfl
                  try simp only [Act.put, List.setIfInBounds_toArray, List.set_cons_zero, List.set_cons_succ]
                  refine Kt.G.takeP 6 { dst := some 45, op := Op.extract (Operand.tmp 39) 1, type := 38, pos := "typist.go:67", after := #[{ on := 4, ground := Ground.data }, { on := 8, ground := Ground.gcOnly Departure.lateStores }], guard := none } ?_ (fun _ => hHeld) rfl (by kernel_rfl) (fun _ _ _ h => h) (by rfl) ?_ ?_
                  rotate_left
                  · intro w; go_simp; try with_reducible rfl
                  try simp only [Act.put, List.setIfInBounds_toArray, List.set_cons_zero, List.set_cons_succ]
              case' g4 =>
                have hk0 : w4.heap.size ≤ y1.heap.size := hHeld.bel.size
                replace HA1 := Lib.hid (HA1.out.on (Kt.balloc (Below.refl _ y1) (.cells #[.int .u64 0, .int .u64 0, .int .u64 0, .int .u64 0, .bool false, .int .i64 0, .int .i64 0, .int .i64 0, .string ⟨#[]⟩] 37)))
                go_simp
                refine hK.out _ _ (fun _ => hHeld.alloc _) (fun hHeld => ?_)
                have hHeld := hHeld rfl
                clear hK K
                try simp only [Act.put, List.setIfInBounds_toArray, List.set_cons_zero, List.set_cons_succ]
                have rK := heap_alloc_new y1 (.cells #[.int .u64 0, .int .u64 0, .int .u64 0, .int .u64 0, .bool false, .int .i64 0, .int .i64 0, .int .i64 0, .string ⟨#[]⟩] 37)
                generalize hkZ : y1.heap.size = kZ at *
                clear hkZ
                generalize y1.alloc (.cells #[.int .u64 0, .int .u64 0, .int .u64 0, .int .u64 0, .bool false, .int .i64 0, .int .i64 0, .int .i64 0, .string ⟨#[]⟩] 37) = xk at *
                refine Kt.G.one 2 { dst := some 42, op := Op.call { callee := Callee.value (Operand.func 11), args := #[Operand.tmp 41], argTypes := #[22] }, type := 26, pos := "typist.go:67", after := #[{ on := 1, ground := Ground.data }], guard := none } rfl (by kernel_rfl) (by rfl) (fun K hK => ?_)
                try (have hkk := lt_of_row0 rK)
                have hszz := hHeld.bel.size
                go_simp
                refine (press2_calls _ _ _ _ _ HA1.out).mono ?_; rintro en x2 ⟨A2, c2, rfl, hs2, hb2⟩
                refine hK.out _ _ (fun _ => hHeld.on hb2) (fun hHeld => ?_)
                have hHeld := hHeld rfl
                clear hK K
                try simp only [Act.put, List.setIfInBounds_toArray, List.set_cons_zero, List.set_cons_succ]
                replace rK := Kt.row_on (hb2) rK
                have HS2 := Lib.hid (hs2.mono hszz)
                try clear hkk
                clear hs2 hb2 hszz HA1
                refine Kt.G.one 3 { dst := some 43, op := Op.call { callee := Callee.value (Operand.func 12), args := #[Operand.tmp 40, Operand.tmp 42], argTypes := #[37, 26] }, type := 39, pos := "typist.go:67", after := #[{ on := 0, ground := Ground.data }, { on := 2, ground := Ground.data }, { on := 2, ground := Ground.chain }], guard := none } rfl (by kernel_rfl) (by rfl) (fun K hK => ?_)
                go_simp
                refine (HT3.out _ hHeld.bel _ _ _ HS2.out).mono ?_; rintro en x3 ⟨rfl, hb3⟩
                refine hK.out _ _ (fun _ => hHeld.on hb3) (fun hHeld => ?_)
                have hHeld := hHeld rfl
                clear hK K
                try simp only [Act.put, List.setIfInBounds_toArray, List.set_cons_zero, List.set_cons_succ]
                replace rK := Kt.row_on hb3 rK
                clear hb3 HS2
                refine Kt.G.takeP 4 { dst := some 39, op := Op.move (Operand.tmp 43), type := 39, pos := "typist.go:67", after := #[{ on := 3, ground := Ground.data }], guard := none } ?_ (fun _ => hHeld) rfl (by kernel_rfl) (fun _ _ _ h => h) (by rfl) ?_ ?_
                rotate_left
                · intro w; go_simp; try with_reducible rfl
                try simp only [Act.put, List.setIfInBounds_toArray, List.set_cons_zero, List.set_cons_succ]
                refine Kt.G.takeP 5 { dst := some 44, op := Op.extract (Operand.tmp 39) 0, type := 37, pos := "typist.go:67", after := #[{ on := 4, ground := Ground.data }], guard := none } ?_ (fun _ => hHeld) rfl (by kernel_rfl) (fun _ _ _ h => h) (by rfl) ?_ ?_
                rotate_left
                · intro w; go_simp; try with_reducible rfl
                try simp only [Act.put, List.setIfInBounds_toArray, List.set_cons_zero, List.set_cons_succ]
                refine Kt.G.takeP 6 { dst := some 45, op := Op.extract (Operand.tmp 39) 1, type := 38, pos := "typist.go:67", after := #[{ on := 4, ground := Ground.data }, { on := 8, ground := Ground.gcOnly Departure.lateStores }], guard := none } ?_ (fun _ => hHeld) rfl (by kernel_rfl) (fun _ _ _ h => h) (by rfl) ?_ ?_
                rotate_left
                · intro w; go_simp; try with_reducible rfl
                try simp only [Act.put, List.setIfInBounds_toArray, List.set_cons_zero, List.set_cons_succ]
            case' g2 =>
              have hk0 : w4.heap.size ≤ x0.heap.size := hHeld.bel.size
              go_simp
              refine hK.out _ _ (fun _ => hHeld.alloc _) (fun hHeld => ?_)
              have hHeld := hHeld rfl
              clear hK K
              try simp only [Act.put, List.setIfInBounds_toArray, List.set_cons_zero, List.set_cons_succ]
              have rK := heap_alloc_new x0 (.cells #[.int .u64 0, .int .u64 0, .int .u64 0, .int .u64 0, .bool false, .int .i64 0, .int .i64 0, .int .i64 0, .string ⟨#[]⟩] 37)
              generalize hkZ : x0.heap.size = kZ at *
              clear hkZ
              generalize x0.alloc (.cells #[.int .u64 0, .int .u64 0, .int .u64 0, .int .u64 0, .bool false, .int .i64 0, .int .i64 0, .int .i64 0, .string ⟨#[]⟩] 37) = xk at *
              refine Kt.G.one 1 { dst := some 41, op := Op.buildSlice 22 2 #[(0, Operand.const (Value.int IntKind.i64 57)), (1, Operand.const (Value.int IntKind.i64 57))], type := 22, pos := "typist.go:67", after := #[], guard := none } rfl (by kernel_rfl) (by rfl) (fun K hK => ?_)
              go_simp
              refine hK.out _ _ (fun _ => hHeld.alloc _) (fun hHeld => ?_)
              have hHeld := hHeld rfl
              clear hK K
              try simp only [Act.put, List.setIfInBounds_toArray, List.set_cons_zero, List.set_cons_succ]
              have HA1 := Lib.hid (Kt.Ar.new xk #[.int .i64 57, .int .i64 57] 3 2 1 rfl)
              replace rK := Kt.row_on (Kt.balloc (Below.refl _ xk) (.cells #[.int .i64 57, .int .i64 57] 3)) rK
              generalize xk.alloc (.cells #[.int .i64 57, .int .i64 57] 3) = y1 at *
              refine Kt.G.one 2 { dst := some 42, op := Op.call { callee := Callee.value (Operand.func 11), args := #[Operand.tmp 41], argTypes := #[22] }, type := 26, pos := "typist.go:67", after := #[{ on := 1, ground := Ground.data }], guard := none } rfl (by kernel_rfl) (by rfl) (fun K hK => ?_)
              try (have hkk := lt_of_row0 rK)
              have hszz := hHeld.bel.size
              go_simp
              refine (press2_calls _ _ _ _ _ HA1.out).mono ?_; rintro en x2 ⟨A2, c2, rfl, hs2, hb2⟩
              refine hK.out _ _ (fun _ => hHeld.on hb2) (fun hHeld => ?_)
              have hHeld := hHeld rfl
              clear hK K
              try simp only [Act.put, List.setIfInBounds_toArray, List.set_cons_zero, List.set_cons_succ]
              replace rK := Kt.row_on (hb2) rK
              have HS2 := Lib.hid (hs2.mono hszz)
              try clear hkk
              clear hs2 hb2 hszz HA1
              refine Kt.G.one 3 { dst := some 43, op := Op.call { callee := Callee.value (Operand.func 12), args := #[Operand.tmp 40, Operand.tmp 42], argTypes := #[37, 26] }, type := 39, pos := "typist.go:67", after := #[{ on := 0, ground := Ground.data }, { on := 2, ground := Ground.data }, { on := 2, ground := Ground.chain }], guard := none } rfl (by kernel_rfl) (by rfl) (fun K hK => ?_)
              go_simp
              refine (HT3.out _ hHeld.bel _ _ _ HS2.out).mono ?_; rintro en x3 ⟨rfl, hb3⟩
              refine hK.out _ _ (fun _ => hHeld.on hb3) (fun hHeld => ?_)
              have hHeld := hHeld rfl
              clear hK K
              try simp only [Act.put, List.setIfInBounds_toArray, List.set_cons_zero, List.set_cons_succ]
              replace rK := Kt.row_on hb3 rK
              clear hb3 HS2
              refine Kt.G.takeP 4 { dst := some 39, op := Op.move (Operand.tmp 43), type := 39, pos := "typist.go:67", after := #[{ on := 3, ground := Ground.data }], guard := none } ?_ (fun _ => hHeld) rfl (by kernel_rfl) (fun _ _ _ h => h) (by rfl) ?_ ?_
              rotate_left
              · intro w; go_simp; try with_reducible rfl
              try simp only [Act.put, List.setIfInBounds_toArray, List.set_cons_zero, List.set_cons_succ]
              refine Kt.G.takeP 5 { dst := some 44, op := Op.extract (Operand.tmp 39) 0, type := 37, pos := "typist.go:67", after := #[{ on := 4, ground := Ground.data }], guard := none } ?_ (fun _ => hHeld) rfl (by kernel_rfl) (fun _ _ _ h => h) (by rfl) ?_ ?_
              rotate_left
              · intro w; go_simp; try with_reducible rfl
              try simp only [Act.put, List.setIfInBounds_toArray, List.set_cons_zero, List.set_cons_succ]
              refine Kt.G.takeP 6 { dst := some 45, op := Op.extract (Operand.tmp 39) 1, type := 38, pos := "typist.go:67", after := #[{ on := 4, ground := Ground.data }, { on := 8, ground := Ground.gcOnly Departure.lateStores }], guard := none } ?_ (fun _ => hHeld) rfl (by kernel_rfl) (fun _ _ _ h => h) (by rfl) ?_ ?_
              rotate_left
              · intro w; go_simp; try with_reducible rfl
              try simp only [Act.put, List.setIfInBounds_toArray, List.set_cons_zero, List.set_cons_succ]
            all_goals
              refine Kt.G.one 8 { dst := none, op := Op.store 37 (Operand.tmp 5) (Operand.tmp 44), type := 0, pos := "typist.go:67", after := #[{ on := 7, ground := Ground.data }, { on := 5, ground := Ground.data }, { on := 3, ground := Ground.chain }, { on := 0, ground := Ground.phase }, { on := 1, ground := Ground.phase }, { on := 2, ground := Ground.phase }, { on := 3, ground := Ground.phase }, { on := 4, ground := Ground.phase }, { on := 5, ground := Ground.phase }, { on := 6, ground := Ground.textOnly Departure.lateStores }, { on := 7, ground := Ground.phase }], guard := none } rfl (by kernel_rfl) (by rfl) (fun K hK => ?_)
              have cK := fun i => cell_of_row _ _ i _ _ _ rK; have fK := fun i => frozen_of_row _ _ i _ _ rK
              go_simp
              refine hK.out _ _ (Kt.G.late (by kernel_rfl)) (fun _ => ?_)
              clear hK K
              try simp only [Act.put, List.setIfInBounds_toArray, List.set_cons_zero, List.set_cons_succ]
              refine Kt.G.takeP 9 { dst := some 6, op := Op.assign (Operand.tmp 45), type := 38, pos := "typist.go:67", after := #[{ on := 6, ground := Ground.data }, { on := 8, ground := Ground.chain }, { on := 0, ground := Ground.phase }, { on := 1, ground := Ground.phase }, { on := 2, ground := Ground.phase }, { on := 3, ground := Ground.phase }, { on := 4, ground := Ground.phase }, { on := 5, ground := Ground.phase }, { on := 6, ground := Ground.phase }, { on := 7, ground := Ground.phase }, { on := 8, ground := Ground.phase }], guard := none } ?_ (Kt.G.late (by kernel_rfl)) rfl (by kernel_rfl) (fun _ _ _ h => h) (by rfl) ?_ ?_
              rotate_left
              · intro w; go_simp; try with_reducible rfl
              try simp only [Act.put, List.setIfInBounds_toArray, List.set_cons_zero, List.set_cons_succ]
              refine Kt.G.done (by kernel_rfl) (NoPanic.normal ?_) _
              go_wp2_with fail
              go_meet
              case rel =>
                exact ⟨kZ, rfl, rfl, Kt.fill [.int .u64 (t.held.a.toNat : Int), .int .u64 (t.held.b.toNat : Int), .int .u64 (t.held.c.toNat : Int), .int .u64 (t.held.d.toNat : Int), .bool t.caps, .int .i64 t.dead, .int .i64 t.last, .int .i64 t.wait, .string t.text] rK rfl, set9 hHeld.bel hk0 [.int .u64 (t.held.a.toNat : Int), .int .u64 (t.held.b.toNat : Int), .int .u64 (t.held.c.toNat : Int), .int .u64 (t.held.d.toNat : Int), .bool t.caps, .int .i64 t.dead, .int .i64 t.last, .int .i64 t.wait, .string t.text]⟩
            -- END3
          case rest =>
            obtain ⟨kA, rfl, rfl, hra, hba⟩ := hcut
            have HW5 := Lib.hid (show wc.heap[w0.heap.size]? = some (.cells t.cs 37 (0, 0)) ∧ wc.heap[kA]? = some (.cells t.cs 37 (0, 0)) ∧ Below w0.heap.size w0 wc from ⟨Kt.row_on hba HW4.out.1, hra, Kt.bthen HW4.out.2 hba⟩)
            clear hra hba HW4 HT3 HRB
            have HT4 : Hid (∀ W, Below wc.heap.size wc W → ∀ A cap K, Kt.Sl W K 31 4 (.slice A 4 cap) 4 (sks [⟨1, 57, true, 0⟩, ⟨1, 57, false, 0⟩, ⟨1, c, true, 0⟩, ⟨1, c, false, 0⟩]) → Calls Tryd.prog 12 #[t.v, .slice A 4 cap] W fun e w' => e = .returned (.tuple #[B.v, .int .i64 0]) ∧ Below W.heap.size W w') := Lib.hid (HTY.out wc HW5.out.2.2 (pressL [57] ++ pressL [c]) B HRES.out.1)
            have HRB : Hid (∀ r ∈ [(w0.heap.size, #[.int .u64 (t.held.a.toNat : Int), .int .u64 (t.held.b.toNat : Int), .int .u64 (t.held.c.toNat : Int), .int .u64 (t.held.d.toNat : Int), .bool t.caps, .int .i64 t.dead, .int .i64 t.last, .int .i64 t.wait, .string t.text], 37)], (r : Nat × Array Value × TypeId).1 < wc.heap.size) := Lib.hid (by
              intro r hr
              rw [List.mem_singleton] at hr
              subst hr
              exact lt_of_row0 HW5.out.1)
            unfold St.v at HT4
            unfold St.cs at HT4
            go_upto_region 4 with (fail)
            go_cut [7, 8] from 46 to 56 (fun p e wx => ∃ kZ, p = .pointer (some ⟨kZ, 0, none⟩) ∧ e = .int .i64 0 ∧ wx.heap[kZ]? = some (.cells B.cs 37 (0, 0)) ∧ Below wc.heap.size wc wx)
            case first =>
              -- REGION4
              have HF := (Kt.Fb.nil wc (Below.refl _ _)).add HW5.out.1
              refine Kt.G.start 12 (Kt.Fb wc [(w0.heap.size, #[.int .u64 (t.held.a.toNat : Int), .int .u64 (t.held.b.toNat : Int), .int .u64 (t.held.c.toNat : Int), .int .u64 (t.held.d.toNat : Int), .bool t.caps, .int .i64 t.dead, .int .i64 t.last, .int .i64 t.wait, .string t.text], 37)]) (by kernel_rfl) HF.drew (fun hHeld => ?_)
              clear HF
              generalize wc.drew = x0 at *
              refine Kt.G.take 0 { dst := some 47, op := Op.load 37 (Operand.tmp 2), type := 37, pos := "typist.go:68", after := #[], guard := none } ?_ hHeld rfl (by kernel_rfl) (fun _ _ _ h => h) (by rfl) ?_ ?_
              rotate_left
              · intro w hSw; have r0 := hSw.row (w0.heap.size, #[.int .u64 (t.held.a.toNat : Int), .int .u64 (t.held.b.toNat : Int), .int .u64 (t.held.c.toNat : Int), .int .u64 (t.held.d.toNat : Int), .bool t.caps, .int .i64 t.dead, .int .i64 t.last, .int .i64 t.wait, .string t.text], 37) (by simp); have c0 := fun i => cell_of_row _ _ i _ _ _ r0; dsimp only at *; go_simp; try with_reducible rfl
              try simp only [Act.put, List.setIfInBounds_toArray, List.set_cons_zero, List.set_cons_succ]
              refine Kt.G.takeP 3 { dst := some 50, op := Op.move (Operand.tmp 1), type := 3, pos := "typist.go:68", after := #[], guard := none } ?_ (fun _ => hHeld) rfl (by kernel_rfl) (fun _ _ _ h => h) (by rfl) ?_ ?_
              rotate_left
              · intro w; go_simp; try with_reducible rfl
              try simp only [Act.put, List.setIfInBounds_toArray, List.set_cons_zero, List.set_cons_succ]
              refine Kt.G.three 1 4 11 { dst := some 48, op := Op.buildSlice 22 1 #[(0, Operand.const (Value.int IntKind.i64 57))], type := 22, pos := "typist.go:68", after := #[], guard := none } { dst := some 51, op := Op.buildSlice 22 1 #[(0, Operand.tmp 50)], type := 22, pos := "typist.go:68", after := #[{ on := 3, ground := Ground.data }], guard := none } { dst := some 7, op := Op.alloc 37, type := 0, pos := "typist.go:68", after := #[], guard := none } rfl rfl rfl (by kernel_rfl) (by rfl) (by rfl) (by rfl) (fun K hK => ?g7) (fun K hK => ?g8) (fun K hK => ?g9)
              case' g7 =>
                go_simp
                refine hK.out _ _ (fun _ => hHeld.alloc _) (fun hHeld => ?_)
                have hHeld := hHeld rfl
                clear hK K
                try simp only [Act.put, List.setIfInBounds_toArray, List.set_cons_zero, List.set_cons_succ]
                have HA1 := Lib.hid (Kt.Ar.new x0 #[.int .i64 57] 3 1 1 rfl)
                generalize x0.alloc (.cells #[.int .i64 57] 3) = y1 at *
                refine Kt.G.three 2 4 11 { dst := some 49, op := Op.call { callee := Callee.value (Operand.func 11), args := #[Operand.tmp 48], argTypes := #[22] }, type := 26, pos := "typist.go:68", after := #[{ on := 1, ground := Ground.data }], guard := none } { dst := some 51, op := Op.buildSlice 22 1 #[(0, Operand.tmp 50)], type := 22, pos := "typist.go:68", after := #[{ on := 3, ground := Ground.data }], guard := none } { dst := some 7, op := Op.alloc 37, type := 0, pos := "typist.go:68", after := #[], guard := none } rfl rfl rfl (by kernel_rfl) (by rfl) (by rfl) (by rfl) (fun K hK => ?g10) (fun K hK => ?g11) (fun K hK => ?g12)
                case' g10 =>
                  try (have hkk := lt_of_row0 rK)
                  have hszz := hHeld.bel.size
                  go_simp
                  refine (press1_calls _ _ _ _ HA1.out).mono ?_; rintro en x2 ⟨A2, c2, rfl, hs2, hb2⟩
                  refine hK.out _ _ (fun _ => hHeld.on hb2) (fun hHeld => ?_)
                  have hHeld := hHeld rfl
                  clear hK K
                  try simp only [Act.put, List.setIfInBounds_toArray, List.set_cons_zero, List.set_cons_succ]
                  have HS2 := Lib.hid (hs2.mono hszz)
                  try clear hkk
                  clear hs2 hb2 hszz HA1
                  refine Kt.G.two 4 11 { dst := some 51, op := Op.buildSlice 22 1 #[(0, Operand.tmp 50)], type := 22, pos := "typist.go:68", after := #[{ on := 3, ground := Ground.data }], guard := none } { dst := some 7, op := Op.alloc 37, type := 0, pos := "typist.go:68", after := #[], guard := none } rfl rfl (by kernel_rfl) (by rfl) (by rfl) (fun K hK => ?g13) (fun K hK => ?g14)
                  case' g13 =>
                    go_simp
                    refine hK.out _ _ (fun _ => hHeld.alloc _) (fun hHeld => ?_)
                    have hHeld := hHeld rfl
                    clear hK K
                    try simp only [Act.put, List.setIfInBounds_toArray, List.set_cons_zero, List.set_cons_succ]
                    have HA4 := Lib.hid (Kt.Ar.new x2 #[.int .i64 c] 3 1 1 rfl)
                    replace HS2 := Lib.hid (HS2.out.on (Kt.balloc (Below.refl _ x2) (.cells #[.int .i64 c] 3)))
                    generalize x2.alloc (.cells #[.int .i64 c] 3) = y4 at *
                    refine Kt.G.two 5 11 { dst := some 52, op := Op.call { callee := Callee.value (Operand.func 11), args := #[Operand.tmp 51], argTypes := #[22] }, type := 26, pos := "typist.go:68", after := #[{ on := 4, ground := Ground.data }, { on := 2, ground := Ground.chain }], guard := none } { dst := some 7, op := Op.alloc 37, type := 0, pos := "typist.go:68", after := #[], guard := none } rfl rfl (by kernel_rfl) (by rfl) (by rfl) (fun K hK => ?g15) (fun K hK => ?g16)
                    case' g15 =>
                      try (have hkk := lt_of_row0 rK)
                      have hszz := hHeld.bel.size
                      go_simp
                      refine (press1_calls _ _ _ _ HA4.out).mono ?_; rintro en x5 ⟨A5, c5, rfl, hs5, hb5⟩
                      refine hK.out _ _ (fun _ => hHeld.on hb5) (fun hHeld => ?_)
                      have hHeld := hHeld rfl
                      clear hK K
                      try simp only [Act.put, List.setIfInBounds_toArray, List.set_cons_zero, List.set_cons_succ]
                      replace HS2 := Lib.hid (HS2.out.on (hb5))
                      have HS5 := Lib.hid (hs5.mono hszz)
                      try clear hkk
                      clear hs5 hb5 hszz HA4
                      refine Kt.G.two 6 11 { dst := some 53, op := Op.call { callee := Callee.builtin Builtin.append, args := #[Operand.tmp 49, Operand.tmp 52], argTypes := #[26, 26] }, type := 26, pos := "typist.go:68", after := #[{ on := 2, ground := Ground.data }, { on := 5, ground := Ground.data }, { on := 5, ground := Ground.chain }], guard := none } { dst := some 7, op := Op.alloc 37, type := 0, pos := "typist.go:68", after := #[], guard := none } rfl rfl (by kernel_rfl) (by rfl) (by rfl) (fun K hK => ?g17) (fun K hK => ?g18)
                      case' g17 =>
                        refine Kt.wp_append_ar (.tmp 49) (.tmp 52) 26 rfl wc.heap.size 31 (.agg #[.int .i64 0, .int .i64 0, .bool false, .int .i64 0]) 4 32 infoK Tryd.underlying26 rfl (by decide) _ _ _ rfl HS2.out _ _ _ rfl (Kt.Ar.of_sl HS5.out) (by first | exact sks_one _ | (intro u hu; simp only [List.mem_cons, List.not_mem_nil, or_false] at hu; rcases hu with rfl | rfl | rfl | rfl | rfl | rfl | rfl | rfl <;> rfl)) (by decide) (by decide) hHeld.bel.size ?_
                        intro A6 c6 x6 hs6 hb6 hz6 hk6 hl6
                        have hF6 := hHeld.onB hb6 (Nat.le_refl _) HRB.out
                        try clear hne
                        have HS6 : Hid (Kt.Sl x6 wc.heap.size 31 4 (.slice A6 4 c6) 4 (sks [⟨1, 57, true, 0⟩, ⟨1, 57, false, 0⟩, ⟨1, c, true, 0⟩, ⟨1, c, false, 0⟩])) := Lib.hid hs6
                        refine hK.out _ _ (fun _ => hF6) (fun hHeld => ?_)
                        have hHeld := hHeld rfl
                        clear hK K
                        try simp only [Act.put, List.setIfInBounds_toArray, List.set_cons_zero, List.set_cons_succ]
                        clear hs6 hb6 hz6 hk6 hl6 hF6
                        clear HS2 HS5
                        refine Kt.G.two 7 11 { dst := some 54, op := Op.call { callee := Callee.value (Operand.func 12), args := #[Operand.tmp 47, Operand.tmp 53], argTypes := #[37, 26] }, type := 39, pos := "typist.go:68", after := #[{ on := 0, ground := Ground.data }, { on := 6, ground := Ground.data }, { on := 6, ground := Ground.chain }], guard := none } { dst := some 7, op := Op.alloc 37, type := 0, pos := "typist.go:68", after := #[], guard := none } rfl rfl (by kernel_rfl) (by rfl) (by rfl) (fun K hK => ?g19) (fun K hK => ?g20)
                        case' g19 =>
                          go_simp
                          refine (HT4.out _ hHeld.bel _ _ _ HS6.out).mono ?_; rintro en x7 ⟨rfl, hb7⟩
                          refine hK.out _ _ (fun _ => hHeld.on hb7) (fun hHeld => ?_)
                          have hHeld := hHeld rfl
                          clear hK K
                          try simp only [Act.put, List.setIfInBounds_toArray, List.set_cons_zero, List.set_cons_succ]
                          clear hb7 HS6
                          refine Kt.G.takeP 8 { dst := some 46, op := Op.move (Operand.tmp 54), type := 39, pos := "typist.go:68", after := #[{ on := 7, ground := Ground.data }], guard := none } ?_ (fun _ => hHeld) rfl (by kernel_rfl) (fun _ _ _ h => h) (by rfl) ?_ ?_
                          rotate_left
                          · intro w; go_simp; try with_reducible rfl
                          try simp only [Act.put, List.setIfInBounds_toArray, List.set_cons_zero, List.set_cons_succ]
                          refine Kt.G.takeP 9 { dst := some 55, op := Op.extract (Operand.tmp 46) 0, type := 37, pos := "typist.go:68", after := #[{ on := 8, ground := Ground.data }], guard := none } ?_ (fun _ => hHeld) rfl (by kernel_rfl) (fun _ _ _ h => h) (by rfl) ?_ ?_
                          rotate_left
                          · intro w; go_simp; try with_reducible rfl
                          try simp only [Act.put, List.setIfInBounds_toArray, List.set_cons_zero, List.set_cons_succ]
                          refine Kt.G.takeP 10 { dst := some 56, op := Op.extract (Operand.tmp 46) 1, type := 38, pos := "typist.go:68", after := #[{ on := 8, ground := Ground.data }, { on := 12, ground := Ground.gcOnly Departure.lateStores }], guard := none } ?_ (fun _ => hHeld) rfl (by kernel_rfl) (fun _ _ _ h => h) (by rfl) ?_ ?_
                          rotate_left
                          · intro w; go_simp; try with_reducible rfl
                          try simp only [Act.put, List.setIfInBounds_toArray, List.set_cons_zero, List.set_cons_succ]
                          refine Kt.G.one 11 { dst := some 7, op := Op.alloc 37, type := 0, pos := "typist.go:68", after := #[], guard := none } rfl (by kernel_rfl) (by rfl) (fun K hK => ?_)
                          have hk0 : wc.heap.size ≤ x7.heap.size := hHeld.bel.size
                          try (have hne : ∀ k, (Value.slice A2 2 c2).ownBlock = some k → k ≠ x7.heap.size := fun k hk => by have := (HS2.out.lt k hk).2; omega)
                          try (have hne : ∀ k, (Value.slice A6 4 c6).ownBlock = some k → k ≠ x7.heap.size := fun k hk => by have := (HS6.out.lt k hk).2; omega)
                          go_simp
                          refine hK.out _ _ (fun _ => hHeld.alloc _) (fun hHeld => ?_)
                          have hHeld := hHeld rfl
                          clear hK K
                          try simp only [Act.put, List.setIfInBounds_toArray, List.set_cons_zero, List.set_cons_succ]
                          have rK := heap_alloc_new x7 (.cells #[.int .u64 0, .int .u64 0, .int .u64 0, .int .u64 0, .bool false, .int .i64 0, .int .i64 0, .int .i64 0, .string ⟨#[]⟩] 37)
                          generalize hkZ : x7.heap.size = kZ at *
                          clear hkZ
                          generalize x7.alloc (.cells #[.int .u64 0, .int .u64 0, .int .u64 0, .int .u64 0, .bool false, .int .i64 0, .int .i64 0, .int .i64 0, .string ⟨#[]⟩] 37) = xk at *
                        case' g20 =>
                          have hk0 : wc.heap.size ≤ x6.heap.size := hHeld.bel.size
                          try (have hne : ∀ k, (Value.slice A2 2 c2).ownBlock = some k → k ≠ x6.heap.size := fun k hk => by have := (HS2.out.lt k hk).2; omega)
                          try (have hne : ∀ k, (Value.slice A6 4 c6).ownBlock = some k → k ≠ x6.heap.size := fun k hk => by have := (HS6.out.lt k hk).2; omega)
                          replace HS6 := Lib.hid (HS6.out.on (Kt.balloc (Below.refl _ x6) (.cells #[.int .u64 0, .int .u64 0, .int .u64 0, .int .u64 0, .bool false, .int .i64 0, .int .i64 0, .int .i64 0, .string ⟨#[]⟩] 37)))
                          go_simp
                          refine hK.out _ _ (fun _ => hHeld.alloc _) (fun hHeld => ?_)
                          have hHeld := hHeld rfl
                          clear hK K
                          try simp only [Act.put, List.setIfInBounds_toArray, List.set_cons_zero, List.set_cons_succ]
                          have rK := heap_alloc_new x6 (.cells #[.int .u64 0, .int .u64 0, .int .u64 0, .int .u64 0, .bool false, .int .i64 0, .int .i64 0, .int .i64 0, .string ⟨#[]⟩] 37)
                          generalize hkZ : x6.heap.size = kZ at *
                          clear hkZ
                          generalize x6.alloc (.cells #[.int .u64 0, .int .u64 0, .int .u64 0, .int .u64 0, .bool false, .int .i64 0, .int .i64 0, .int .i64 0, .string ⟨#[]⟩] 37) = xk at *
                          refine Kt.G.one 7 { dst := some 54, op := Op.call { callee := Callee.value (Operand.func 12), args := #[Operand.tmp 47, Operand.tmp 53], argTypes := #[37, 26] }, type := 39, pos := "typist.go:68", after := #[{ on := 0, ground := Ground.data }, { on := 6, ground := Ground.data }, { on := 6, ground := Ground.chain }], guard := none } rfl (by kernel_rfl) (by rfl) (fun K hK => ?_)
                          go_simp
                          refine (HT4.out _ hHeld.bel _ _ _ HS6.out).mono ?_; rintro en x7 ⟨rfl, hb7⟩
                          refine hK.out _ _ (fun _ => hHeld.on hb7) (fun hHeld => ?_)
                          have hHeld := hHeld rfl
                          clear hK K
                          try simp only [Act.put, List.setIfInBounds_toArray, List.set_cons_zero, List.set_cons_succ]
                          replace rK := Kt.row_on hb7 rK
                          clear hb7 HS6
                          refine Kt.G.takeP 8 { dst := some 46, op := Op.move (Operand.tmp 54), type := 39, pos := "typist.go:68", after := #[{ on := 7, ground := Ground.data }], guard := none } ?_ (fun _ => hHeld) rfl (by kernel_rfl) (fun _ _ _ h => h) (by rfl) ?_ ?_
                          rotate_left
                          · intro w; go_simp; try with_reducible rfl
                          try simp only [Act.put, List.setIfInBounds_toArray, List.set_cons_zero, List.set_cons_succ]
                          refine Kt.G.takeP 9 { dst := some 55, op := Op.extract (Operand.tmp 46) 0, type := 37, pos := "typist.go:68", after := #[{ on := 8, ground := Ground.data }], guard := none } ?_ (fun _ => hHeld) rfl (by kernel_rfl) (fun _ _ _ h => h) (by rfl) ?_ ?_
                          rotate_left
                          · intro w; go_simp; try with_reducible rfl
                          try simp only [Act.put, List.setIfInBounds_toArray, List.set_cons_zero, List.set_cons_succ]
                          refine Kt.G.takeP 10 { dst := some 56, op := Op.extract (Operand.tmp 46) 1, type := 38, pos := "typist.go:68", after := #[{ on := 8, ground := Ground.data }, { on := 12, ground := Ground.gcOnly Departure.lateStores }], guard := none } ?_ (fun _ => hHeld) rfl (by kernel_rfl) (fun _ _ _ h => h) (by rfl) ?_ ?_
                          rotate_left
                          · intro w; go_simp; try with_reducible rfl
                          try simp only [Act.put, List.setIfInBounds_toArray, List.set_cons_zero, List.set_cons_succ]
                      case' g18 =>
                        have hk0 : wc.heap.size ≤ x5.heap.size := hHeld.bel.size
                        try (have hne : ∀ k, (Value.slice A2 2 c2).ownBlock = some k → k ≠ x5.heap.size := fun k hk => by have := (HS2.out.lt k hk).2; omega)
                        try (have hne : ∀ k, (Value.slice A6 4 c6).ownBlock = some k → k ≠ x5.heap.size := fun k hk => by have := (HS6.out.lt k hk).2; omega)
                        replace HS2 := Lib.hid (HS2.out.on (Kt.balloc (Below.refl _ x5) (.cells #[.int .u64 0, .int .u64 0, .int .u64 0, .int .u64 0, .bool false, .int .i64 0, .int .i64 0, .int .i64 0, .string ⟨#[]⟩] 37)))
                        replace HS5 := Lib.hid (HS5.out.on (Kt.balloc (Below.refl _ x5) (.cells #[.int .u64 0, .int .u64 0, .int .u64 0, .int .u64 0, .bool false, .int .i64 0, .int .i64 0, .int .i64 0, .string ⟨#[]⟩] 37)))
                        go_simp
                        refine hK.out _ _ (fun _ => hHeld.alloc _) (fun hHeld => ?_)
                        have hHeld := hHeld rfl
                        clear hK K
                        try simp only [Act.put, List.setIfInBounds_toArray, List.set_cons_zero, List.set_cons_succ]
                        have rK := heap_alloc_new x5 (.cells #[.int .u64 0, .int .u64 0, .int .u64 0, .int .u64 0, .bool false, .int .i64 0, .int .i64 0, .int .i64 0, .string ⟨#[]⟩] 37)
                        generalize hkZ : x5.heap.size = kZ at *
                        clear hkZ
                        generalize x5.alloc (.cells #[.int .u64 0, .int .u64 0, .int .u64 0, .int .u64 0, .bool false, .int .i64 0, .int .i64 0, .int .i64 0, .string ⟨#[]⟩] 37) = xk at *
                        refine Kt.G.one 6 { dst := some 53, op := Op.call { callee := Callee.builtin Builtin.append, args := #[Operand.tmp 49, Operand.tmp 52], argTypes := #[26, 26] }, type := 26, pos := "typist.go:68", after := #[{ on := 2, ground := Ground.data }, { on := 5, ground := Ground.data }, { on := 5, ground := Ground.chain }], guard := none } rfl (by kernel_rfl) (by rfl) (fun K hK => ?_)
                        refine Kt.wp_append_ar (.tmp 49) (.tmp 52) 26 rfl wc.heap.size 31 (.agg #[.int .i64 0, .int .i64 0, .bool false, .int .i64 0]) 4 32 infoK Tryd.underlying26 rfl (by decide) _ _ _ rfl HS2.out _ _ _ rfl (Kt.Ar.of_sl HS5.out) (by first | exact sks_one _ | (intro u hu; simp only [List.mem_cons, List.not_mem_nil, or_false] at hu; rcases hu with rfl | rfl | rfl | rfl | rfl | rfl | rfl | rfl <;> rfl)) (by decide) (by decide) hHeld.bel.size ?_
                        intro A6 c6 x6 hs6 hb6 hz6 hk6 hl6
                        replace rK := (hk6 kZ (lt_of_row0 rK) (fun e => hne _ e rfl)).trans rK
                        have hF6 := hHeld.onB hb6 (Nat.le_refl _) HRB.out
                        try clear hne
                        have HS6 : Hid (Kt.Sl x6 wc.heap.size 31 4 (.slice A6 4 c6) 4 (sks [⟨1, 57, true, 0⟩, ⟨1, 57, false, 0⟩, ⟨1, c, true, 0⟩, ⟨1, c, false, 0⟩])) := Lib.hid hs6
                        refine hK.out _ _ (fun _ => hF6) (fun hHeld => ?_)
                        have hHeld := hHeld rfl
                        clear hK K
                        try simp only [Act.put, List.setIfInBounds_toArray, List.set_cons_zero, List.set_cons_succ]
                        clear hs6 hb6 hz6 hk6 hl6 hF6
                        clear HS2 HS5
                        refine Kt.G.one 7 { dst := some 54, op := Op.call { callee := Callee.value (Operand.func 12), args := #[Operand.tmp 47, Operand.tmp 53], argTypes := #[37, 26] }, type := 39, pos := "typist.go:68", after := #[{ on := 0, ground := Ground.data }, { on := 6, ground := Ground.data }, { on := 6, ground := Ground.chain }], guard := none } rfl (by kernel_rfl) (by rfl) (fun K hK => ?_)
                        go_simp
                        refine (HT4.out _ hHeld.bel _ _ _ HS6.out).mono ?_; rintro en x7 ⟨rfl, hb7⟩
                        refine hK.out _ _ (fun _ => hHeld.on hb7) (fun hHeld => ?_)
                        have hHeld := hHeld rfl
                        clear hK K
                        try simp only [Act.put, List.setIfInBounds_toArray, List.set_cons_zero, List.set_cons_succ]
                        replace rK := Kt.row_on hb7 rK
                        clear hb7 HS6
                        refine Kt.G.takeP 8 { dst := some 46, op := Op.move (Operand.tmp 54), type := 39, pos := "typist.go:68", after := #[{ on := 7, ground := Ground.data }], guard := none } ?_ (fun _ => hHeld) rfl (by kernel_rfl) (fun _ _ _ h => h) (by rfl) ?_ ?_
                        rotate_left
                        · intro w; go_simp; try with_reducible rfl
                        try simp only [Act.put, List.setIfInBounds_toArray, List.set_cons_zero, List.set_cons_succ]
                        refine Kt.G.takeP 9 { dst := some 55, op := Op.extract (Operand.tmp 46) 0, type := 37, pos := "typist.go:68", after := #[{ on := 8, ground := Ground.data }], guard := none } ?_ (fun _ => hHeld) rfl (by kernel_rfl) (fun _ _ _ h => h) (by rfl) ?_ ?_
                        rotate_left
                        · intro w; go_simp; try with_reducible rfl
                        try simp only [Act.put, List.setIfInBounds_toArray, List.set_cons_zero, List.set_cons_succ]
                        refine Kt.G.takeP 10 { dst := some 56, op := Op.extract (Operand.tmp 46) 1, type := 38, pos := "typist.go:68", after := #[{ on := 8, ground := Ground.data }, { on := 12, ground := Ground.gcOnly Departure.lateStores }], guard := none } ?_ (fun _ => hHeld) rfl (by kernel_rfl) (fun _ _ _ h => h) (by rfl) ?_ ?_
                        rotate_left
                        · intro w; go_simp; try with_reducible rfl
                        try simp only [Act.put, List.setIfInBounds_toArray, List.set_cons_zero, List.set_cons_succ]
                    case' g16 =>
                      have hk0 : wc.heap.size ≤ y4.heap.size := hHeld.bel.size
                      try (have hne : ∀ k, (Value.slice A2 2 c2).ownBlock = some k → k ≠ y4.heap.size := fun k hk => by have := (HS2.out.lt k hk).2; omega)
                      try (have hne : ∀ k, (Value.slice A6 4 c6).ownBlock = some k → k ≠ y4.heap.size := fun k hk => by have := (HS6.out.lt k hk).2; omega)
                      replace HS2 := Lib.hid (HS2.out.on (Kt.balloc (Below.refl _ y4) (.cells #[.int .u64 0, .int .u64 0, .int .u64 0, .int .u64 0, .bool false, .int .i64 0, .int .i64 0, .int .i64 0, .string ⟨#[]⟩] 37)))
                      replace HA4 := Lib.hid (HA4.out.on (Kt.balloc (Below.refl _ y4) (.cells #[.int .u64 0, .int .u64 0, .int .u64 0, .int .u64 0, .bool false, .int .i64 0, .int .i64 0, .int .i64 0, .string ⟨#[]⟩] 37)))
                      go_simp
                      refine hK.out _ _ (fun _ => hHeld.alloc _) (fun hHeld => ?_)
                      have hHeld := hHeld rfl
                      clear hK K
                      try simp only [Act.put, List.setIfInBounds_toArray, List.set_cons_zero, List.set_cons_succ]
                      have rK := heap_alloc_new y4 (.cells #[.int .u64 0, .int .u64 0, .int .u64 0, .int .u64 0, .bool false, .int .i64 0, .int .i64 0, .int .i64 0, .string ⟨#[]⟩] 37)
                      generalize hkZ : y4.heap.size = kZ at *
                      clear hkZ
                      generalize y4.alloc (.cells #[.int .u64 0, .int .u64 0, .int .u64 0, .int .u64 0, .bool false, .int .i64 0, .int .i64 0, .int .i64 0, .string ⟨#[]⟩] 37) = xk at *
                      refine Kt.G.one 5 { dst := some 52, op := Op.call { callee := Callee.value (Operand.func 11), args := #[Operand.tmp 51], argTypes := #[22] }, type := 26, pos := "typist.go:68", after := #[{ on := 4, ground := Ground.data }, { on := 2, ground := Ground.chain }], guard := none } rfl (by kernel_rfl) (by rfl) (fun K hK => ?_)
                      try (have hkk := lt_of_row0 rK)
                      have hszz := hHeld.bel.size
                      go_simp
                      refine (press1_calls _ _ _ _ HA4.out).mono ?_; rintro en x5 ⟨A5, c5, rfl, hs5, hb5⟩
                      refine hK.out _ _ (fun _ => hHeld.on hb5) (fun hHeld => ?_)
                      have hHeld := hHeld rfl
                      clear hK K
                      try simp only [Act.put, List.setIfInBounds_toArray, List.set_cons_zero, List.set_cons_succ]
                      replace rK := Kt.row_on (hb5) rK
                      replace HS2 := Lib.hid (HS2.out.on (hb5))
                      have HS5 := Lib.hid (hs5.mono hszz)
                      try clear hkk
                      clear hs5 hb5 hszz HA4
                      refine Kt.G.one 6 { dst := some 53, op := Op.call { callee := Callee.builtin Builtin.append, args := #[Operand.tmp 49, Operand.tmp 52], argTypes := #[26, 26] }, type := 26, pos := "typist.go:68", after := #[{ on := 2, ground := Ground.data }, { on := 5, ground := Ground.data }, { on := 5, ground := Ground.chain }], guard := none } rfl (by kernel_rfl) (by rfl) (fun K hK => ?_)
                      refine Kt.wp_append_ar (.tmp 49) (.tmp 52) 26 rfl wc.heap.size 31 (.agg #[.int .i64 0, .int .i64 0, .bool false, .int .i64 0]) 4 32 infoK Tryd.underlying26 rfl (by decide) _ _ _ rfl HS2.out _ _ _ rfl (Kt.Ar.of_sl HS5.out) (by first | exact sks_one _ | (intro u hu; simp only [List.mem_cons, List.not_mem_nil, or_false] at hu; rcases hu with rfl | rfl | rfl | rfl | rfl | rfl | rfl | rfl <;> rfl)) (by decide) (by decide) hHeld.bel.size ?_
                      intro A6 c6 x6 hs6 hb6 hz6 hk6 hl6
                      replace rK := (hk6 kZ (lt_of_row0 rK) (fun e => hne _ e rfl)).trans rK
                      have hF6 := hHeld.onB hb6 (Nat.le_refl _) HRB.out
                      try clear hne
                      have HS6 : Hid (Kt.Sl x6 wc.heap.size 31 4 (.slice A6 4 c6) 4 (sks [⟨1, 57, true, 0⟩, ⟨1, 57, false, 0⟩, ⟨1, c, true, 0⟩, ⟨1, c, false, 0⟩])) := Lib.hid hs6
                      refine hK.out _ _ (fun _ => hF6) (fun hHeld => ?_)
                      have hHeld := hHeld rfl
                      clear hK K
                      try simp only [Act.put, List.setIfInBounds_toArray, List.set_cons_zero, List.set_cons_succ]
                      clear hs6 hb6 hz6 hk6 hl6 hF6
                      clear HS2 HS5
                      refine Kt.G.one 7 { dst := some 54, op := Op.call { callee := Callee.value (Operand.func 12), args := #[Operand.tmp 47, Operand.tmp 53], argTypes := #[37, 26] }, type := 39, pos := "typist.go:68", after := #[{ on := 0, ground := Ground.data }, { on := 6, ground := Ground.data }, { on := 6, ground := Ground.chain }], guard := none } rfl (by kernel_rfl) (by rfl) (fun K hK => ?_)
                      go_simp
                      refine (HT4.out _ hHeld.bel _ _ _ HS6.out).mono ?_; rintro en x7 ⟨rfl, hb7⟩
                      refine hK.out _ _ (fun _ => hHeld.on hb7) (fun hHeld => ?_)
                      have hHeld := hHeld rfl
                      clear hK K
                      try simp only [Act.put, List.setIfInBounds_toArray, List.set_cons_zero, List.set_cons_succ]
                      replace rK := Kt.row_on hb7 rK
                      clear hb7 HS6
                      refine Kt.G.takeP 8 { dst := some 46, op := Op.move (Operand.tmp 54), type := 39, pos := "typist.go:68", after := #[{ on := 7, ground := Ground.data }], guard := none } ?_ (fun _ => hHeld) rfl (by kernel_rfl) (fun _ _ _ h => h) (by rfl) ?_ ?_
                      rotate_left
                      · intro w; go_simp; try with_reducible rfl
                      try simp only [Act.put, List.setIfInBounds_toArray, List.set_cons_zero, List.set_cons_succ]
                      refine Kt.G.takeP 9 { dst := some 55, op := Op.extract (Operand.tmp 46) 0, type := 37, pos := "typist.go:68", after := #[{ on := 8, ground := Ground.data }], guard := none } ?_ (fun _ => hHeld) rfl (by kernel_rfl) (fun _ _ _ h => h) (by rfl) ?_ ?_
                      rotate_left
                      · intro w; go_simp; try with_reducible rfl
                      try simp only [Act.put, List.setIfInBounds_toArray, List.set_cons_zero, List.set_cons_succ]
                      refine Kt.G.takeP 10 { dst := some 56, op := Op.extract (Operand.tmp 46) 1, type := 38, pos := "typist.go:68", after := #[{ on := 8, ground := Ground.data }, { on := 12, ground := Ground.gcOnly Departure.lateStores }], guard := none } ?_ (fun _ => hHeld) rfl (by kernel_rfl) (fun _ _ _ h => h) (by rfl) ?_ ?_
                      rotate_left
                      · intro w; go_simp; try with_reducible rfl
                      try simp only [Act.put, List.setIfInBounds_toArray, List.set_cons_zero, List.set_cons_succ]
                  case' g14 =>
                    have hk0 : wc.heap.size ≤ x2.heap.size := hHeld.bel.size
                    try (have hne : ∀ k, (Value.slice A2 2 c2).ownBlock = some k → k ≠ x2.heap.size := fun k hk => by have := (HS2.out.lt k hk).2; omega)
                    try (have hne : ∀ k, (Value.slice A6 4 c6).ownBlock = some k → k ≠ x2.heap.size := fun k hk => by have := (HS6.out.lt k hk).2; omega)
                    replace HS2 := Lib.hid (HS2.out.on (Kt.balloc (Below.refl _ x2) (.cells #[.int .u64 0, .int .u64 0, .int .u64 0, .int .u64 0, .bool false, .int .i64 0, .int .i64 0, .int .i64 0, .string ⟨#[]⟩] 37)))
                    go_simp
                    refine hK.out _ _ (fun _ => hHeld.alloc _) (fun hHeld => ?_)
                    have hHeld := hHeld rfl
                    clear hK K
                    try simp only [Act.put, List.setIfInBounds_toArray, List.set_cons_zero, List.set_cons_succ]
                    have rK := heap_alloc_new x2 (.cells #[.int .u64 0, .int .u64 0, .int .u64 0, .int .u64 0, .bool false, .int .i64 0, .int .i64 0, .int .i64 0, .string ⟨#[]⟩] 37)
                    generalize hkZ : x2.heap.size = kZ at *
                    clear hkZ
                    generalize x2.alloc (.cells #[.int .u64 0, .int .u64 0, .int .u64 0, .int .u64 0, .bool false, .int .i64 0, .int .i64 0, .int .i64 0, .string ⟨#[]⟩] 37) = xk at *
                    refine Kt.G.one 4 { dst := some 51, op := Op.buildSlice 22 1 #[(0, Operand.tmp 50)], type := 22, pos := "typist.go:68", after := #[{ on := 3, ground := Ground.data }], guard := none } rfl (by kernel_rfl) (by rfl) (fun K hK => ?_)
                    go_simp
                    refine hK.out _ _ (fun _ => hHeld.alloc _) (fun hHeld => ?_)
                    have hHeld := hHeld rfl
                    clear hK K
                    try simp only [Act.put, List.setIfInBounds_toArray, List.set_cons_zero, List.set_cons_succ]
                    have HA4 := Lib.hid (Kt.Ar.new xk #[.int .i64 c] 3 1 1 rfl)
                    replace rK := Kt.row_on (Kt.balloc (Below.refl _ xk) (.cells #[.int .i64 c] 3)) rK
                    replace HS2 := Lib.hid (HS2.out.on (Kt.balloc (Below.refl _ xk) (.cells #[.int .i64 c] 3)))
                    generalize xk.alloc (.cells #[.int .i64 c] 3) = y4 at *
                    refine Kt.G.one 5 { dst := some 52, op := Op.call { callee := Callee.value (Operand.func 11), args := #[Operand.tmp 51], argTypes := #[22] }, type := 26, pos := "typist.go:68", after := #[{ on := 4, ground := Ground.data }, { on := 2, ground := Ground.chain }], guard := none } rfl (by kernel_rfl) (by rfl) (fun K hK => ?_)
                    try (have hkk := lt_of_row0 rK)
                    have hszz := hHeld.bel.size
                    go_simp
                    refine (press1_calls _ _ _ _ HA4.out).mono ?_; rintro en x5 ⟨A5, c5, rfl, hs5, hb5⟩
                    refine hK.out _ _ (fun _ => hHeld.on hb5) (fun hHeld => ?_)
                    have hHeld := hHeld rfl
                    clear hK K
                    try simp only [Act.put, List.setIfInBounds_toArray, List.set_cons_zero, List.set_cons_succ]
                    replace rK := Kt.row_on (hb5) rK
                    replace HS2 := Lib.hid (HS2.out.on (hb5))
                    have HS5 := Lib.hid (hs5.mono hszz)
                    try clear hkk
                    clear hs5 hb5 hszz HA4
                    refine Kt.G.one 6 { dst := some 53, op := Op.call { callee := Callee.builtin Builtin.append, args := #[Operand.tmp 49, Operand.tmp 52], argTypes := #[26, 26] }, type := 26, pos := "typist.go:68", after := #[{ on := 2, ground := Ground.data }, { on := 5, ground := Ground.data }, { on := 5, ground := Ground.chain }], guard := none } rfl (by kernel_rfl) (by rfl) (fun K hK => ?_)
                    refine Kt.wp_append_ar (.tmp 49) (.tmp 52) 26 rfl wc.heap.size 31 (.agg #[.int .i64 0, .int .i64 0, .bool false, .int .i64 0]) 4 32 infoK Tryd.underlying26 rfl (by decide) _ _ _ rfl HS2.out _ _ _ rfl (Kt.Ar.of_sl HS5.out) (by first | exact sks_one _ | (intro u hu; simp only [List.mem_cons, List.not_mem_nil, or_false] at hu; rcases hu with rfl | rfl | rfl | rfl | rfl | rfl | rfl | rfl <;> rfl)) (by decide) (by decide) hHeld.bel.size ?_
                    intro A6 c6 x6 hs6 hb6 hz6 hk6 hl6
                    replace rK := (hk6 kZ (lt_of_row0 rK) (fun e => hne _ e rfl)).trans rK
                    have hF6 := hHeld.onB hb6 (Nat.le_refl _) HRB.out
                    try clear hne
                    have HS6 : Hid (Kt.Sl x6 wc.heap.size 31 4 (.slice A6 4 c6) 4 (sks [⟨1, 57, true, 0⟩, ⟨1, 57, false, 0⟩, ⟨1, c, true, 0⟩, ⟨1, c, false, 0⟩])) := Lib.hid hs6
                    refine hK.out _ _ (fun _ => hF6) (fun hHeld => ?_)
                    have hHeld := hHeld rfl
                    clear hK K
                    try simp only [Act.put, List.setIfInBounds_toArray, List.set_cons_zero, List.set_cons_succ]
                    clear hs6 hb6 hz6 hk6 hl6 hF6
                    clear HS2 HS5
                    refine Kt.G.one 7 { dst := some 54, op := Op.call { callee := Callee.value (Operand.func 12), args := #[Operand.tmp 47, Operand.tmp 53], argTypes := #[37, 26] }, type := 39, pos := "typist.go:68", after := #[{ on := 0, ground := Ground.data }, { on := 6, ground := Ground.data }, { on := 6, ground := Ground.chain }], guard := none } rfl (by kernel_rfl) (by rfl) (fun K hK => ?_)
                    go_simp
                    refine (HT4.out _ hHeld.bel _ _ _ HS6.out).mono ?_; rintro en x7 ⟨rfl, hb7⟩
                    refine hK.out _ _ (fun _ => hHeld.on hb7) (fun hHeld => ?_)
                    have hHeld := hHeld rfl
                    clear hK K
                    try simp only [Act.put, List.setIfInBounds_toArray, List.set_cons_zero, List.set_cons_succ]
                    replace rK := Kt.row_on hb7 rK
                    clear hb7 HS6
                    refine Kt.G.takeP 8 { dst := some 46, op := Op.move (Operand.tmp 54), type := 39, pos := "typist.go:68", after := #[{ on := 7, ground := Ground.data }], guard := none } ?_ (fun _ => hHeld) rfl (by kernel_rfl) (fun _ _ _ h => h) (by rfl) ?_ ?_
                    rotate_left
                    · intro w; go_simp; try with_reducible rfl
                    try simp only [Act.put, List.setIfInBounds_toArray, List.set_cons_zero, List.set_cons_succ]
                    refine Kt.G.takeP 9 { dst := some 55, op := Op.extract (Operand.tmp 46) 0, type := 37, pos := "typist.go:68", after := #[{ on := 8, ground := Ground.data }], guard := none } ?_ (fun _ => hHeld) rfl (by kernel_rfl) (fun _ _ _ h => h) (by rfl) ?_ ?_
                    rotate_left
                    · intro w; go_simp; try with_reducible rfl
                    try simp only [Act.put, List.setIfInBounds_toArray, List.set_cons_zero, List.set_cons_succ]
                    refine Kt.G.takeP 10 { dst := some 56, op := Op.extract (Operand.tmp 46) 1, type := 38, pos := "typist.go:68", after := #[{ on := 8, ground := Ground.data }, { on := 12, ground := Ground.gcOnly Departure.lateStores }], guard := none } ?_ (fun _ => hHeld) rfl (by kernel_rfl) (fun _ _ _ h => h) (by rfl) ?_ ?_
                    rotate_left
                    · intro w; go_simp; try with_reducible rfl
                    try simp only [Act.put, List.setIfInBounds_toArray, List.set_cons_zero, List.set_cons_succ]
                case' g11 =>
                  go_simp
                  refine hK.out _ _ (fun _ => hHeld.alloc _) (fun hHeld => ?_)
                  have hHeld := hHeld rfl
                  clear hK K
                  try simp only [Act.put, List.setIfInBounds_toArray, List.set_cons_zero, List.set_cons_succ]
                  have HA4 := Lib.hid (Kt.Ar.new y1 #[.int .i64 c] 3 1 1 rfl)
                  replace HA1 := Lib.hid (HA1.out.on (Kt.balloc (Below.refl _ y1) (.cells #[.int .i64 c] 3)))
                  generalize y1.alloc (.cells #[.int .i64 c] 3) = y4 at *
                  refine Kt.G.two 2 11 { dst := some 49, op := Op.call { callee := Callee.value (Operand.func 11), args := #[Operand.tmp 48], argTypes := #[22] }, type := 26, pos := "typist.go:68", after := #[{ on := 1, ground := Ground.data }], guard := none } { dst := some 7, op := Op.alloc 37, type := 0, pos := "typist.go:68", after := #[], guard := none } rfl rfl (by kernel_rfl) (by rfl) (by rfl) (fun K hK => ?g21) (fun K hK => ?g22)
                  case' g21 =>
                    try (have hkk := lt_of_row0 rK)
                    have hszz := hHeld.bel.size
                    go_simp
                    refine (press1_calls _ _ _ _ HA1.out).mono ?_; rintro en x2 ⟨A2, c2, rfl, hs2, hb2⟩
                    refine hK.out _ _ (fun _ => hHeld.on hb2) (fun hHeld => ?_)
                    have hHeld := hHeld rfl
                    clear hK K
                    try simp only [Act.put, List.setIfInBounds_toArray, List.set_cons_zero, List.set_cons_succ]
                    replace HA4 := Lib.hid (HA4.out.on (hb2))
                    have HS2 := Lib.hid (hs2.mono hszz)
                    try clear hkk
                    clear hs2 hb2 hszz HA1
                    refine Kt.G.two 5 11 { dst := some 52, op := Op.call { callee := Callee.value (Operand.func 11), args := #[Operand.tmp 51], argTypes := #[22] }, type := 26, pos := "typist.go:68", after := #[{ on := 4, ground := Ground.data }, { on := 2, ground := Ground.chain }], guard := none } { dst := some 7, op := Op.alloc 37, type := 0, pos := "typist.go:68", after := #[], guard := none } rfl rfl (by kernel_rfl) (by rfl) (by rfl) (fun K hK => ?g23) (fun K hK => ?g24)
                    case' g23 =>
                      try (have hkk := lt_of_row0 rK)
                      have hszz := hHeld.bel.size
                      go_simp
                      refine (press1_calls _ _ _ _ HA4.out).mono ?_; rintro en x5 ⟨A5, c5, rfl, hs5, hb5⟩
                      refine hK.out _ _ (fun _ => hHeld.on hb5) (fun hHeld => ?_)
                      have hHeld := hHeld rfl
                      clear hK K
                      try simp only [Act.put, List.setIfInBounds_toArray, List.set_cons_zero, List.set_cons_succ]
                      replace HS2 := Lib.hid (HS2.out.on (hb5))
                      have HS5 := Lib.hid (hs5.mono hszz)
                      try clear hkk
                      clear hs5 hb5 hszz HA4
                      refine Kt.G.two 6 11 { dst := some 53, op := Op.call { callee := Callee.builtin Builtin.append, args := #[Operand.tmp 49, Operand.tmp 52], argTypes := #[26, 26] }, type := 26, pos := "typist.go:68", after := #[{ on := 2, ground := Ground.data }, { on := 5, ground := Ground.data }, { on := 5, ground := Ground.chain }], guard := none } { dst := some 7, op := Op.alloc 37, type := 0, pos := "typist.go:68", after := #[], guard := none } rfl rfl (by kernel_rfl) (by rfl) (by rfl) (fun K hK => ?g25) (fun K hK => ?g26)
                      case' g25 =>
                        refine Kt.wp_append_ar (.tmp 49) (.tmp 52) 26 rfl wc.heap.size 31 (.agg #[.int .i64 0, .int .i64 0, .bool false, .int .i64 0]) 4 32 infoK Tryd.underlying26 rfl (by decide) _ _ _ rfl HS2.out _ _ _ rfl (Kt.Ar.of_sl HS5.out) (by first | exact sks_one _ | (intro u hu; simp only [List.mem_cons, List.not_mem_nil, or_false] at hu; rcases hu with rfl | rfl | rfl | rfl | rfl | rfl | rfl | rfl <;> rfl)) (by decide) (by decide) hHeld.bel.size ?_
                        intro A6 c6 x6 hs6 hb6 hz6 hk6 hl6
                        have hF6 := hHeld.onB hb6 (Nat.le_refl _) HRB.out
                        try clear hne
                        have HS6 : Hid (Kt.Sl x6 wc.heap.size 31 4 (.slice A6 4 c6) 4 (sks [⟨1, 57, true, 0⟩, ⟨1, 57, false, 0⟩, ⟨1, c, true, 0⟩, ⟨1, c, false, 0⟩])) := Lib.hid hs6
                        refine hK.out _ _ (fun _ => hF6) (fun hHeld => ?_)
                        have hHeld := hHeld rfl
                        clear hK K
                        try simp only [Act.put, List.setIfInBounds_toArray, List.set_cons_zero, List.set_cons_succ]
                        clear hs6 hb6 hz6 hk6 hl6 hF6
                        clear HS2 HS5
                        refine Kt.G.two 7 11 { dst := some 54, op := Op.call { callee := Callee.value (Operand.func 12), args := #[Operand.tmp 47, Operand.tmp 53], argTypes := #[37, 26] }, type := 39, pos := "typist.go:68", after := #[{ on := 0, ground := Ground.data }, { on := 6, ground := Ground.data }, { on := 6, ground := Ground.chain }], guard := none } { dst := some 7, op := Op.alloc 37, type := 0, pos := "typist.go:68", after := #[], guard := none } rfl rfl (by kernel_rfl) (by rfl) (by rfl) (fun K hK => ?g27) (fun K hK => ?g28)
                        case' g27 =>
                          go_simp
                          refine (HT4.out _ hHeld.bel _ _ _ HS6.out).mono ?_; rintro en x7 ⟨rfl, hb7⟩
                          refine hK.out _ _ (fun _ => hHeld.on hb7) (fun hHeld => ?_)
                          have hHeld := hHeld rfl
                          clear hK K
                          try simp only [Act.put, List.setIfInBounds_toArray, List.set_cons_zero, List.set_cons_succ]
                          clear hb7 HS6
                          refine Kt.G.takeP 8 { dst := some 46, op := Op.move (Operand.tmp 54), type := 39, pos := "typist.go:68", after := #[{ on := 7, ground := Ground.data }], guard := none } ?_ (fun _ => hHeld) rfl (by kernel_rfl) (fun _ _ _ h => h) (by rfl) ?_ ?_
                          rotate_left
                          · intro w; go_simp; try with_reducible rfl
                          try simp only [Act.put, List.setIfInBounds_toArray, List.set_cons_zero, List.set_cons_succ]
                          refine Kt.G.takeP 9 { dst := some 55, op := Op.extract (Operand.tmp 46) 0, type := 37, pos := "typist.go:68", after := #[{ on := 8, ground := Ground.data }], guard := none } ?_ (fun _ => hHeld) rfl (by kernel_rfl) (fun _ _ _ h => h) (by rfl) ?_ ?_
                          rotate_left
                          · intro w; go_simp; try with_reducible rfl
                          try simp only [Act.put, List.setIfInBounds_toArray, List.set_cons_zero, List.set_cons_succ]
                          refine Kt.G.takeP 10 { dst := some 56, op := Op.extract (Operand.tmp 46) 1, type := 38, pos := "typist.go:68", after := #[{ on := 8, ground := Ground.data }, { on := 12, ground := Ground.gcOnly Departure.lateStores }], guard := none } ?_ (fun _ => hHeld) rfl (by kernel_rfl) (fun _ _ _ h => h) (by rfl) ?_ ?_
                          rotate_left
                          · intro w; go_simp; try with_reducible rfl
                          try simp only [Act.put, List.setIfInBounds_toArray, List.set_cons_zero, List.set_cons_succ]
                          refine Kt.G.one 11 { dst := some 7, op := Op.alloc 37, type := 0, pos := "typist.go:68", after := #[], guard := none } rfl (by kernel_rfl) (by rfl) (fun K hK => ?_)
                          have hk0 : wc.heap.size ≤ x7.heap.size := hHeld.bel.size
                          try (have hne : ∀ k, (Value.slice A2 2 c2).ownBlock = some k → k ≠ x7.heap.size := fun k hk => by have := (HS2.out.lt k hk).2; omega)
                          try (have hne : ∀ k, (Value.slice A6 4 c6).ownBlock = some k → k ≠ x7.heap.size := fun k hk => by have := (HS6.out.lt k hk).2; omega)
                          go_simp
                          refine hK.out _ _ (fun _ => hHeld.alloc _) (fun hHeld => ?_)
                          have hHeld := hHeld rfl
                          clear hK K
                          try simp only [Act.put, List.setIfInBounds_toArray, List.set_cons_zero, List.set_cons_succ]
                          have rK := heap_alloc_new x7 (.cells #[.int .u64 0, .int .u64 0, .int .u64 0, .int .u64 0, .bool false, .int .i64 0, .int .i64 0, .int .i64 0, .string ⟨#[]⟩] 37)
                          generalize hkZ : x7.heap.size = kZ at *
                          clear hkZ
                          generalize x7.alloc (.cells #[.int .u64 0, .int .u64 0, .int .u64 0, .int .u64 0, .bool false, .int .i64 0, .int .i64 0, .int .i64 0, .string ⟨#[]⟩] 37) = xk at *
                        case' g28 =>
                          have hk0 : wc.heap.size ≤ x6.heap.size := hHeld.bel.size
                          try (have hne : ∀ k, (Value.slice A2 2 c2).ownBlock = some k → k ≠ x6.heap.size := fun k hk => by have := (HS2.out.lt k hk).2; omega)
                          try (have hne : ∀ k, (Value.slice A6 4 c6).ownBlock = some k → k ≠ x6.heap.size := fun k hk => by have := (HS6.out.lt k hk).2; omega)
                          replace HS6 := Lib.hid (HS6.out.on (Kt.balloc (Below.refl _ x6) (.cells #[.int .u64 0, .int .u64 0, .int .u64 0, .int .u64 0, .bool false, .int .i64 0, .int .i64 0, .int .i64 0, .string ⟨#[]⟩] 37)))
                          go_simp
                          refine hK.out _ _ (fun _ => hHeld.alloc _) (fun hHeld => ?_)
                          have hHeld := hHeld rfl
                          clear hK K
                          try simp only [Act.put, List.setIfInBounds_toArray, List.set_cons_zero, List.set_cons_succ]
                          have rK := heap_alloc_new x6 (.cells #[.int .u64 0, .int .u64 0, .int .u64 0, .int .u64 0, .bool false, .int .i64 0, .int .i64 0, .int .i64 0, .string ⟨#[]⟩] 37)
                          generalize hkZ : x6.heap.size = kZ at *
                          clear hkZ
                          generalize x6.alloc (.cells #[.int .u64 0, .int .u64 0, .int .u64 0, .int .u64 0, .bool false, .int .i64 0, .int .i64 0, .int .i64 0, .string ⟨#[]⟩] 37) = xk at *
                          refine Kt.G.one 7 { dst := some 54, op := Op.call { callee := Callee.value (Operand.func 12), args := #[Operand.tmp 47, Operand.tmp 53], argTypes := #[37, 26] }, type := 39, pos := "typist.go:68", after := #[{ on := 0, ground := Ground.data }, { on := 6, ground := Ground.data }, { on := 6, ground := Ground.chain }], guard := none } rfl (by kernel_rfl) (by rfl) (fun K hK => ?_)
                          go_simp
                          refine (HT4.out _ hHeld.bel _ _ _ HS6.out).mono ?_; rintro en x7 ⟨rfl, hb7⟩
                          refine hK.out _ _ (fun _ => hHeld.on hb7) (fun hHeld => ?_)
                          have hHeld := hHeld rfl
                          clear hK K
                          try simp only [Act.put, List.setIfInBounds_toArray, List.set_cons_zero, List.set_cons_succ]
                          replace rK := Kt.row_on hb7 rK
                          clear hb7 HS6
                          refine Kt.G.takeP 8 { dst := some 46, op := Op.move (Operand.tmp 54), type := 39, pos := "typist.go:68", after := #[{ on := 7, ground := Ground.data }], guard := none } ?_ (fun _ => hHeld) rfl (by kernel_rfl) (fun _ _ _ h => h) (by rfl) ?_ ?_
                          rotate_left
                          · intro w; go_simp; try with_reducible rfl
                          try simp only [Act.put, List.setIfInBounds_toArray, List.set_cons_zero, List.set_cons_succ]
                          refine Kt.G.takeP 9 { dst := some 55, op := Op.extract (Operand.tmp 46) 0, type := 37, pos := "typist.go:68", after := #[{ on := 8, ground := Ground.data }], guard := none } ?_ (fun _ => hHeld) rfl (by kernel_rfl) (fun _ _ _ h => h) (by rfl) ?_ ?_
                          rotate_left
                          · intro w; go_simp; try with_reducible rfl
                          try simp only [Act.put, List.setIfInBounds_toArray, List.set_cons_zero, List.set_cons_succ]
                          refine Kt.G.takeP 10 { dst := some 56, op := Op.extract (Operand.tmp 46) 1, type := 38, pos := "typist.go:68", after := #[{ on := 8, ground := Ground.data }, { on := 12, ground := Ground.gcOnly Departure.lateStores }], guard := none } ?_ (fun _ => hHeld) rfl (by kernel_rfl) (fun _ _ _ h => h) (by rfl) ?_ ?_
                          rotate_left
                          · intro w; go_simp; try with_reducible rfl
                          try simp only [Act.put, List.setIfInBounds_toArray, List.set_cons_zero, List.set_cons_succ]
                      case' g26 =>
                        have hk0 : wc.heap.size ≤ x5.heap.size := hHeld.bel.size
                        try (have hne : ∀ k, (Value.slice A2 2 c2).ownBlock = some k → k ≠ x5.heap.size := fun k hk => by have := (HS2.out.lt k hk).2; omega)
                        try (have hne : ∀ k, (Value.slice A6 4 c6).ownBlock = some k → k ≠ x5.heap.size := fun k hk => by have := (HS6.out.lt k hk).2; omega)
                        replace HS2 := Lib.hid (HS2.out.on (Kt.balloc (Below.refl _ x5) (.cells #[.int .u64 0, .int .u64 0, .int .u64 0, .int .u64 0, .bool false, .int .i64 0, .int .i64 0, .int .i64 0, .string ⟨#[]⟩] 37)))
                        replace HS5 := Lib.hid (HS5.out.on (Kt.balloc (Below.refl _ x5) (.cells #[.int .u64 0, .int .u64 0, .int .u64 0, .int .u64 0, .bool false, .int .i64 0, .int .i64 0, .int .i64 0, .string ⟨#[]⟩] 37)))
                        go_simp
                        refine hK.out _ _ (fun _ => hHeld.alloc _) (fun hHeld => ?_)
                        have hHeld := hHeld rfl
                        clear hK K
                        try simp only [Act.put, List.setIfInBounds_toArray, List.set_cons_zero, List.set_cons_succ]
                        have rK := heap_alloc_new x5 (.cells #[.int .u64 0, .int .u64 0, .int .u64 0, .int .u64 0, .bool false, .int .i64 0, .int .i64 0, .int .i64 0, .string ⟨#[]⟩] 37)
                        generalize hkZ : x5.heap.size = kZ at *
                        clear hkZ
                        generalize x5.alloc (.cells #[.int .u64 0, .int .u64 0, .int .u64 0, .int .u64 0, .bool false, .int .i64 0, .int .i64 0, .int .i64 0, .string ⟨#[]⟩] 37) = xk at *
                        refine Kt.G.one 6 { dst := some 53, op := Op.call { callee := Callee.builtin Builtin.append, args := #[Operand.tmp 49, Operand.tmp 52], argTypes := #[26, 26] }, type := 26, pos := "typist.go:68", after := #[{ on := 2, ground := Ground.data }, { on := 5, ground := Ground.data }, { on := 5, ground := Ground.chain }], guard := none } rfl (by kernel_rfl) (by rfl) (fun K hK => ?_)
                        refine Kt.wp_append_ar (.tmp 49) (.tmp 52) 26 rfl wc.heap.size 31 (.agg #[.int .i64 0, .int .i64 0, .bool false, .int .i64 0]) 4 32 infoK Tryd.underlying26 rfl (by decide) _ _ _ rfl HS2.out _ _ _ rfl (Kt.Ar.of_sl HS5.out) (by first | exact sks_one _ | (intro u hu; simp only [List.mem_cons, List.not_mem_nil, or_false] at hu; rcases hu with rfl | rfl | rfl | rfl | rfl | rfl | rfl | rfl <;> rfl)) (by decide) (by decide) hHeld.bel.size ?_
                        intro A6 c6 x6 hs6 hb6 hz6 hk6 hl6
                        replace rK := (hk6 kZ (lt_of_row0 rK) (fun e => hne _ e rfl)).trans rK
                        have hF6 := hHeld.onB hb6 (Nat.le_refl _) HRB.out
                        try clear hne
                        have HS6 : Hid (Kt.Sl x6 wc.heap.size 31 4 (.slice A6 4 c6) 4 (sks [⟨1, 57, true, 0⟩, ⟨1, 57, false, 0⟩, ⟨1, c, true, 0⟩, ⟨1, c, false, 0⟩])) := Lib.hid hs6
                        refine hK.out _ _ (fun _ => hF6) (fun hHeld => ?_)
                        have hHeld := hHeld rfl
                        clear hK K
                        try simp only [Act.put, List.setIfInBounds_toArray, List.set_cons_zero, List.set_cons_succ]
                        clear hs6 hb6 hz6 hk6 hl6 hF6
                        clear HS2 HS5
                        refine Kt.G.one 7 { dst := some 54, op := Op.call { callee := Callee.value (Operand.func 12), args := #[Operand.tmp 47, Operand.tmp 53], argTypes := #[37, 26] }, type := 39, pos := "typist.go:68", after := #[{ on := 0, ground := Ground.data }, { on := 6, ground := Ground.data }, { on := 6, ground := Ground.chain }], guard := none } rfl (by kernel_rfl) (by rfl) (fun K hK => ?_)
                        go_simp
                        refine (HT4.out _ hHeld.bel _ _ _ HS6.out).mono ?_; rintro en x7 ⟨rfl, hb7⟩
                        refine hK.out _ _ (fun _ => hHeld.on hb7) (fun hHeld => ?_)
                        have hHeld := hHeld rfl
                        clear hK K
                        try simp only [Act.put, List.setIfInBounds_toArray, List.set_cons_zero, List.set_cons_succ]
                        replace rK := Kt.row_on hb7 rK
                        clear hb7 HS6
                        refine Kt.G.takeP 8 { dst := some 46, op := Op.move (Operand.tmp 54), type := 39, pos := "typist.go:68", after := #[{ on := 7, ground := Ground.data }], guard := none } ?_ (fun _ => hHeld) rfl (by kernel_rfl) (fun _ _ _ h => h) (by rfl) ?_ ?_
                        rotate_left
                        · intro w; go_simp; try with_reducible rfl
                        try simp only [Act.put, List.setIfInBounds_toArray, List.set_cons_zero, List.set_cons_succ]
                        refine Kt.G.takeP 9 { dst := some 55, op := Op.extract (Operand.tmp 46) 0, type := 37, pos := "typist.go:68", after := #[{ on := 8, ground := Ground.data }], guard := none } ?_ (fun _ => hHeld) rfl (by kernel_rfl) (fun _ _ _ h => h) (by rfl) ?_ ?_
                        rotate_left
                        · intro w; go_simp; try with_reducible rfl
                        try simp only [Act.put, List.setIfInBounds_toArray, List.set_cons_zero, List.set_cons_succ]
                        refine Kt.G.takeP 10 { dst := some 56, op := Op.extract (Operand.tmp 46) 1, type := 38, pos := "typist.go:68", after := #[{ on := 8, ground := Ground.data }, { on := 12, ground := Ground.gcOnly Departure.lateStores }], guard := none } ?_ (fun _ => hHeld) rfl (by kernel_rfl) (fun _ _ _ h => h) (by rfl) ?_ ?_
                        rotate_left
                        · intro w; go_simp; try with_reducible rfl
                        try simp only [Act.put, List.setIfInBounds_toArray, List.set_cons_zero, List.set_cons_succ]
                    case' g24 =>
                      have hk0 : wc.heap.size ≤ x2.heap.size := hHeld.bel.size
                      try (have hne : ∀ k, (Value.slice A2 2 c2).ownBlock = some k → k ≠ x2.heap.size := fun k hk => by have := (HS2.out.lt k hk).2; omega)
                      try (have hne : ∀ k, (Value.slice A6 4 c6).ownBlock = some k → k ≠ x2.heap.size := fun k hk => by have := (HS6.out.lt k hk).2; omega)
                      replace HS2 := Lib.hid (HS2.out.on (Kt.balloc (Below.refl _ x2) (.cells #[.int .u64 0, .int .u64 0, .int .u64 0, .int .u64 0, .bool false, .int .i64 0, .int .i64 0, .int .i64 0, .string ⟨#[]⟩] 37)))
                      replace HA4 := Lib.hid (HA4.out.on (Kt.balloc (Below.refl _ x2) (.cells #[.int .u64 0, .int .u64 0, .int .u64 0, .int .u64 0, .bool false, .int .i64 0, .int .i64 0, .int .i64 0, .string ⟨#[]⟩] 37)))
                      go_simp
                      refine hK.out _ _ (fun _ => hHeld.alloc _) (fun hHeld => ?_)
                      have hHeld := hHeld rfl
                      clear hK K
                      try simp only [Act.put, List.setIfInBounds_toArray, List.set_cons_zero, List.set_cons_succ]
                      have rK := heap_alloc_new x2 (.cells #[.int .u64 0, .int .u64 0, .int .u64 0, .int .u64 0, .bool false, .int .i64 0, .int .i64 0, .int .i64 0, .string ⟨#[]⟩] 37)
                      generalize hkZ : x2.heap.size = kZ at *
                      clear hkZ
                      generalize x2.alloc (.cells #[.int .u64 0, .int .u64 0, .int .u64 0, .int .u64 0, .bool false, .int .i64 0, .int .i64 0, .int .i64 0, .string ⟨#[]⟩] 37) = xk at *
                      refine Kt.G.one 5 { dst := some 52, op := Op.call { callee := Callee.value (Operand.func 11), args := #[Operand.tmp 51], argTypes := #[22] }, type := 26, pos := "typist.go:68", after := #[{ on := 4, ground := Ground.data }, { on := 2, ground := Ground.chain }], guard := none } rfl (by kernel_rfl) (by rfl) (fun K hK => ?_)
                      try (have hkk := lt_of_row0 rK)
                      have hszz := hHeld.bel.size
                      go_simp
                      refine (press1_calls _ _ _ _ HA4.out).mono ?_; rintro en x5 ⟨A5, c5, rfl, hs5, hb5⟩
                      refine hK.out _ _ (fun _ => hHeld.on hb5) (fun hHeld => ?_)
                      have hHeld := hHeld rfl
                      clear hK K
                      try simp only [Act.put, List.setIfInBounds_toArray, List.set_cons_zero, List.set_cons_succ]
                      replace rK := Kt.row_on (hb5) rK
                      replace HS2 := Lib.hid (HS2.out.on (hb5))
                      have HS5 := Lib.hid (hs5.mono hszz)
                      try clear hkk
                      clear hs5 hb5 hszz HA4
                      refine Kt.G.one 6 { dst := some 53, op := Op.call { callee := Callee.builtin Builtin.append, args := #[Operand.tmp 49, Operand.tmp 52], argTypes := #[26, 26] }, type := 26, pos := "typist.go:68", after := #[{ on := 2, ground := Ground.data }, { on := 5, ground := Ground.data }, { on := 5, ground := Ground.chain }], guard := none } rfl (by kernel_rfl) (by rfl) (fun K hK => ?_)
                      refine Kt.wp_append_ar (.tmp 49) (.tmp 52) 26 rfl wc.heap.size 31 (.agg #[.int .i64 0, .int .i64 0, .bool false, .int .i64 0]) 4 32 infoK Tryd.underlying26 rfl (by decide) _ _ _ rfl HS2.out _ _ _ rfl (Kt.Ar.of_sl HS5.out) (by first | exact sks_one _ | (intro u hu; simp only [List.mem_cons, List.not_mem_nil, or_false] at hu; rcases hu with rfl | rfl | rfl | rfl | rfl | rfl | rfl | rfl <;> rfl)) (by decide) (by decide) hHeld.bel.size ?_
                      intro A6 c6 x6 hs6 hb6 hz6 hk6 hl6
                      replace rK := (hk6 kZ (lt_of_row0 rK) (fun e => hne _ e rfl)).trans rK
                      have hF6 := hHeld.onB hb6 (Nat.le_refl _) HRB.out
                      try clear hne
                      have HS6 : Hid (Kt.Sl x6 wc.heap.size 31 4 (.slice A6 4 c6) 4 (sks [⟨1, 57, true, 0⟩, ⟨1, 57, false, 0⟩, ⟨1, c, true, 0⟩, ⟨1, c, false, 0⟩])) := Lib.hid hs6
                      refine hK.out _ _ (fun _ => hF6) (fun hHeld => ?_)
                      have hHeld := hHeld rfl
                      clear hK K
                      try simp only [Act.put, List.setIfInBounds_toArray, List.set_cons_zero, List.set_cons_succ]
                      clear hs6 hb6 hz6 hk6 hl6 hF6
                      clear HS2 HS5
                      refine Kt.G.one 7 { dst := some 54, op := Op.call { callee := Callee.value (Operand.func 12), args := #[Operand.tmp 47, Operand.tmp 53], argTypes := #[37, 26] }, type := 39, pos := "typist.go:68", after := #[{ on := 0, ground := Ground.data }, { on := 6, ground := Ground.data }, { on := 6, ground := Ground.chain }], guard := none } rfl (by kernel_rfl) (by rfl) (fun K hK => ?_)
                      go_simp
                      refine (HT4.out _ hHeld.bel _ _ _ HS6.out).mono ?_; rintro en x7 ⟨rfl, hb7⟩
                      refine hK.out _ _ (fun _ => hHeld.on hb7) (fun hHeld => ?_)
                      have hHeld := hHeld rfl
                      clear hK K
                      try simp only [Act.put, List.setIfInBounds_toArray, List.set_cons_zero, List.set_cons_succ]
                      replace rK := Kt.row_on hb7 rK
                      clear hb7 HS6
                      refine Kt.G.takeP 8 { dst := some 46, op := Op.move (Operand.tmp 54), type := 39, pos := "typist.go:68", after := #[{ on := 7, ground := Ground.data }], guard := none } ?_ (fun _ => hHeld) rfl (by kernel_rfl) (fun _ _ _ h => h) (by rfl) ?_ ?_
                      rotate_left
                      · intro w; go_simp; try with_reducible rfl
                      try simp only [Act.put, List.setIfInBounds_toArray, List.set_cons_zero, List.set_cons_succ]
                      refine Kt.G.takeP 9 { dst := some 55, op := Op.extract (Operand.tmp 46) 0, type := 37, pos := "typist.go:68", after := #[{ on := 8, ground := Ground.data }], guard := none } ?_ (fun _ => hHeld) rfl (by kernel_rfl) (fun _ _ _ h => h) (by rfl) ?_ ?_
                      rotate_left
                      · intro w; go_simp; try with_reducible rfl
                      try simp only [Act.put, List.setIfInBounds_toArray, List.set_cons_zero, List.set_cons_succ]
                      refine Kt.G.takeP 10 { dst := some 56, op := Op.extract (Operand.tmp 46) 1, type := 38, pos := "typist.go:68", after := #[{ on := 8, ground := Ground.data }, { on := 12, ground := Ground.gcOnly Departure.lateStores }], guard := none } ?_ (fun _ => hHeld) rfl (by kernel_rfl) (fun _ _ _ h => h) (by rfl) ?_ ?_
                      rotate_left
                      · intro w; go_simp; try with_reducible rfl
                      try simp only [Act.put, List.setIfInBounds_toArray, List.set_cons_zero, List.set_cons_succ]
                  case' g22 =>
                    have hk0 : wc.heap.size ≤ y4.heap.size := hHeld.bel.size
                    try (have hne : ∀ k, (Value.slice A2 2 c2).ownBlock = some k → k ≠ y4.heap.size := fun k hk => by have := (HS2.out.lt k hk).2; omega)
                    try (have hne : ∀ k, (Value.slice A6 4 c6).ownBlock = some k → k ≠ y4.heap.size := fun k hk => by have := (HS6.out.lt k hk).2; omega)
                    replace HA1 := Lib.hid (HA1.out.on (Kt.balloc (Below.refl _ y4) (.cells #[.int .u64 0, .int .u64 0, .int .u64 0, .int .u64 0, .bool false, .int .i64 0, .int .i64 0, .int .i64 0, .string ⟨#[]⟩] 37)))
                    replace HA4 := Lib.hid (HA4.out.on (Kt.balloc (Below.refl _ y4) (.cells #[.int .u64 0, .int .u64 0, .int .u64 0, .int .u64 0, .bool false, .int .i64 0, .int .i64 0, .int .i64 0, .string ⟨#[]⟩] 37)))
                    go_simp
                    refine hK.out _ _ (fun _ => hHeld.alloc _) (fun hHeld => ?_)
                    have hHeld := hHeld rfl
                    clear hK K
                    try simp only [Act.put, List.setIfInBounds_toArray, List.set_cons_zero, List.set_cons_succ]
                    have rK := heap_alloc_new y4 (.cells #[.int .u64 0, .int .u64 0, .int .u64 0, .int .u64 0, .bool false, .int .i64 0, .int .i64 0, .int .i64 0, .string ⟨#[]⟩] 37)
                    generalize hkZ : y4.heap.size = kZ at *
                    clear hkZ
                    generalize y4.alloc (.cells #[.int .u64 0, .int .u64 0, .int .u64 0, .int .u64 0, .bool false, .int .i64 0, .int .i64 0, .int .i64 0, .string ⟨#[]⟩] 37) = xk at *
                    refine Kt.G.one 2 { dst := some 49, op := Op.call { callee := Callee.value (Operand.func 11), args := #[Operand.tmp 48], argTypes := #[22] }, type := 26, pos := "typist.go:68", after := #[{ on := 1, ground := Ground.data }], guard := none } rfl (by kernel_rfl) (by rfl) (fun K hK => ?_)
                    try (have hkk := lt_of_row0 rK)
                    have hszz := hHeld.bel.size
                    go_simp
                    refine (press1_calls _ _ _ _ HA1.out).mono ?_; rintro en x2 ⟨A2, c2, rfl, hs2, hb2⟩
                    refine hK.out _ _ (fun _ => hHeld.on hb2) (fun hHeld => ?_)
                    have hHeld := hHeld rfl
                    clear hK K
                    try simp only [Act.put, List.setIfInBounds_toArray, List.set_cons_zero, List.set_cons_succ]
                    replace rK := Kt.row_on (hb2) rK
                    replace HA4 := Lib.hid (HA4.out.on (hb2))
                    try (have hne : ∀ k, (Value.slice A2 2 c2).ownBlock = some k → k ≠ kZ := fun k hk => by have := (hs2.lt k hk).1; omega)
                    have HS2 := Lib.hid (hs2.mono hszz)
                    try clear hkk
                    clear hs2 hb2 hszz HA1
                    refine Kt.G.one 5 { dst := some 52, op := Op.call { callee := Callee.value (Operand.func 11), args := #[Operand.tmp 51], argTypes := #[22] }, type := 26, pos := "typist.go:68", after := #[{ on := 4, ground := Ground.data }, { on := 2, ground := Ground.chain }], guard := none } rfl (by kernel_rfl) (by rfl) (fun K hK => ?_)
                    try (have hkk := lt_of_row0 rK)
                    have hszz := hHeld.bel.size
                    go_simp
                    refine (press1_calls _ _ _ _ HA4.out).mono ?_; rintro en x5 ⟨A5, c5, rfl, hs5, hb5⟩
                    refine hK.out _ _ (fun _ => hHeld.on hb5) (fun hHeld => ?_)
                    have hHeld := hHeld rfl
                    clear hK K
                    try simp only [Act.put, List.setIfInBounds_toArray, List.set_cons_zero, List.set_cons_succ]
                    replace rK := Kt.row_on (hb5) rK
                    replace HS2 := Lib.hid (HS2.out.on (hb5))
                    have HS5 := Lib.hid (hs5.mono hszz)
                    try clear hkk
                    clear hs5 hb5 hszz HA4
                    refine Kt.G.one 6 { dst := some 53, op := Op.call { callee := Callee.builtin Builtin.append, args := #[Operand.tmp 49, Operand.tmp 52], argTypes := #[26, 26] }, type := 26, pos := "typist.go:68", after := #[{ on := 2, ground := Ground.data }, { on := 5, ground := Ground.data }, { on := 5, ground := Ground.chain }], guard := none } rfl (by kernel_rfl) (by rfl) (fun K hK => ?_)
                    refine Kt.wp_append_ar (.tmp 49) (.tmp 52) 26 rfl wc.heap.size 31 (.agg #[.int .i64 0, .int .i64 0, .bool false, .int .i64 0]) 4 32 infoK Tryd.underlying26 rfl (by decide) _ _ _ rfl HS2.out _ _ _ rfl (Kt.Ar.of_sl HS5.out) (by first | exact sks_one _ | (intro u hu; simp only [List.mem_cons, List.not_mem_nil, or_false] at hu; rcases hu with rfl | rfl | rfl | rfl | rfl | rfl | rfl | rfl <;> rfl)) (by decide) (by decide) hHeld.bel.size ?_
                    intro A6 c6 x6 hs6 hb6 hz6 hk6 hl6
                    replace rK := (hk6 kZ (lt_of_row0 rK) (fun e => hne _ e rfl)).trans rK
                    have hF6 := hHeld.onB hb6 (Nat.le_refl _) HRB.out
                    try clear hne
                    have HS6 : Hid (Kt.Sl x6 wc.heap.size 31 4 (.slice A6 4 c6) 4 (sks [⟨1, 57, true, 0⟩, ⟨1, 57, false, 0⟩, ⟨1, c, true, 0⟩, ⟨1, c, false, 0⟩])) := Lib.hid hs6
                    refine hK.out _ _ (fun _ => hF6) (fun hHeld => ?_)
                    have hHeld := hHeld rfl
                    clear hK K
                    try simp only [Act.put, List.setIfInBounds_toArray, List.set_cons_zero, List.set_cons_succ]
                    clear hs6 hb6 hz6 hk6 hl6 hF6
                    clear HS2 HS5
                    refine Kt.G.one 7 { dst := some 54, op := Op.call { callee := Callee.value (Operand.func 12), args := #[Operand.tmp 47, Operand.tmp 53], argTypes := #[37, 26] }, type := 39, pos := "typist.go:68", after := #[{ on := 0, ground := Ground.data }, { on := 6, ground := Ground.data }, { on := 6, ground := Ground.chain }], guard := none } rfl (by kernel_rfl) (by rfl) (fun K hK => ?_)
                    go_simp
                    refine (HT4.out _ hHeld.bel _ _ _ HS6.out).mono ?_; rintro en x7 ⟨rfl, hb7⟩
                    refine hK.out _ _ (fun _ => hHeld.on hb7) (fun hHeld => ?_)
                    have hHeld := hHeld rfl
                    clear hK K
                    try simp only [Act.put, List.setIfInBounds_toArray, List.set_cons_zero, List.set_cons_succ]
                    replace rK := Kt.row_on hb7 rK
                    clear hb7 HS6
                    refine Kt.G.takeP 8 { dst := some 46, op := Op.move (Operand.tmp 54), type := 39, pos := "typist.go:68", after := #[{ on := 7, ground := Ground.data }], guard := none } ?_ (fun _ => hHeld) rfl (by kernel_rfl) (fun _ _ _ h => h) (by rfl) ?_ ?_
                    rotate_left
                    · intro w; go_simp; try with_reducible rfl
                    try simp only [Act.put, List.setIfInBounds_toArray, List.set_cons_zero, List.set_cons_succ]
                    refine Kt.G.takeP 9 { dst := some 55, op := Op.extract (Operand.tmp 46) 0, type := 37, pos := "typist.go:68", after := #[{ on := 8, ground := Ground.data }], guard := none } ?_ (fun _ => hHeld) rfl (by kernel_rfl) (fun _ _ _ h => h) (by rfl) ?_ ?_
                    rotate_left
                    · intro w; go_simp; try with_reducible rfl
                    try simp only [Act.put, List.setIfInBounds_toArray, List.set_cons_zero, List.set_cons_succ]
                    refine Kt.G.takeP 10 { dst := some 56, op := Op.extract (Operand.tmp 46) 1, type := 38, pos := "typist.go:68", after := #[{ on := 8, ground := Ground.data }, { on := 12, ground := Ground.gcOnly Departure.lateStores }], guard := none } ?_ (fun _ => hHeld) rfl (by kernel_rfl) (fun _ _ _ h => h) (by rfl) ?_ ?_
                    rotate_left
                    · intro w; go_simp; try with_reducible rfl
                    try simp only [Act.put, List.setIfInBounds_toArray, List.set_cons_zero, List.set_cons_succ]
                case' g12 =>
                  have hk0 : wc.heap.size ≤ y1.heap.size := hHeld.bel.size
                  try (have hne : ∀ k, (Value.slice A2 2 c2).ownBlock = some k → k ≠ y1.heap.size := fun k hk => by have := (HS2.out.lt k hk).2; omega)
                  try (have hne : ∀ k, (Value.slice A6 4 c6).ownBlock = some k → k ≠ y1.heap.size := fun k hk => by have := (HS6.out.lt k hk).2; omega)
                  replace HA1 := Lib.hid (HA1.out.on (Kt.balloc (Below.refl _ y1) (.cells #[.int .u64 0, .int .u64 0, .int .u64 0, .int .u64 0, .bool false, .int .i64 0, .int .i64 0, .int .i64 0, .string ⟨#[]⟩] 37)))
                  go_simp
                  refine hK.out _ _ (fun _ => hHeld.alloc _) (fun hHeld => ?_)
                  have hHeld := hHeld rfl
                  clear hK K
                  try simp only [Act.put, List.setIfInBounds_toArray, List.set_cons_zero, List.set_cons_succ]
                  have rK := heap_alloc_new y1 (.cells #[.int .u64 0, .int .u64 0, .int .u64 0, .int .u64 0, .bool false, .int .i64 0, .int .i64 0, .int .i64 0, .string ⟨#[]⟩] 37)
                  generalize hkZ : y1.heap.size = kZ at *
                  clear hkZ
                  generalize y1.alloc (.cells #[.int .u64 0, .int .u64 0, .int .u64 0, .int .u64 0, .bool false, .int .i64 0, .int .i64 0, .int .i64 0, .string ⟨#[]⟩] 37) = xk at *
                  refine Kt.G.two 2 4 { dst := some 49, op := Op.call { callee := Callee.value (Operand.func 11), args := #[Operand.tmp 48], argTypes := #[22] }, type := 26, pos := "typist.go:68", after := #[{ on := 1, ground := Ground.data }], guard := none } { dst := some 51, op := Op.buildSlice 22 1 #[(0, Operand.tmp 50)], type := 22, pos := "typist.go:68", after := #[{ on := 3, ground := Ground.data }], guard := none } rfl rfl (by kernel_rfl) (by rfl) (by rfl) (fun K hK => ?g29) (fun K hK => ?g30)
                  case' g29 =>
                    try (have hkk := lt_of_row0 rK)
                    have hszz := hHeld.bel.size
                    go_simp
                    refine (press1_calls _ _ _ _ HA1.out).mono ?_; rintro en x2 ⟨A2, c2, rfl, hs2, hb2⟩
                    refine hK.out _ _ (fun _ => hHeld.on hb2) (fun hHeld => ?_)
                    have hHeld := hHeld rfl
                    clear hK K
                    try simp only [Act.put, List.setIfInBounds_toArray, List.set_cons_zero, List.set_cons_succ]
                    replace rK := Kt.row_on (hb2) rK
                    try (have hne : ∀ k, (Value.slice A2 2 c2).ownBlock = some k → k ≠ kZ := fun k hk => by have := (hs2.lt k hk).1; omega)
                    have HS2 := Lib.hid (hs2.mono hszz)
                    try clear hkk
                    clear hs2 hb2 hszz HA1
                    refine Kt.G.one 4 { dst := some 51, op := Op.buildSlice 22 1 #[(0, Operand.tmp 50)], type := 22, pos := "typist.go:68", after := #[{ on := 3, ground := Ground.data }], guard := none } rfl (by kernel_rfl) (by rfl) (fun K hK => ?_)
                    go_simp
                    refine hK.out _ _ (fun _ => hHeld.alloc _) (fun hHeld => ?_)
                    have hHeld := hHeld rfl
                    clear hK K
                    try simp only [Act.put, List.setIfInBounds_toArray, List.set_cons_zero, List.set_cons_succ]
                    have HA4 := Lib.hid (Kt.Ar.new x2 #[.int .i64 c] 3 1 1 rfl)
                    replace rK := Kt.row_on (Kt.balloc (Below.refl _ x2) (.cells #[.int .i64 c] 3)) rK
                    replace HS2 := Lib.hid (HS2.out.on (Kt.balloc (Below.refl _ x2) (.cells #[.int .i64 c] 3)))
                    generalize x2.alloc (.cells #[.int .i64 c] 3) = y4 at *
                    refine Kt.G.one 5 { dst := some 52, op := Op.call { callee := Callee.value (Operand.func 11), args := #[Operand.tmp 51], argTypes := #[22] }, type := 26, pos := "typist.go:68", after := #[{ on := 4, ground := Ground.data }, { on := 2, ground := Ground.chain }], guard := none } rfl (by kernel_rfl) (by rfl) (fun K hK => ?_)
                    try (have hkk := lt_of_row0 rK)
                    have hszz := hHeld.bel.size
                    go_simp
                    refine (press1_calls _ _ _ _ HA4.out).mono ?_; rintro en x5 ⟨A5, c5, rfl, hs5, hb5⟩
                    refine hK.out _ _ (fun _ => hHeld.on hb5) (fun hHeld => ?_)
                    have hHeld := hHeld rfl
                    clear hK K
                    try simp only [Act.put, List.setIfInBounds_toArray, List.set_cons_zero, List.set_cons_succ]
                    replace rK := Kt.row_on (hb5) rK
                    replace HS2 := Lib.hid (HS2.out.on (hb5))
                    have HS5 := Lib.hid (hs5.mono hszz)
                    try clear hkk
                    clear hs5 hb5 hszz HA4
                    refine Kt.G.one 6 { dst := some 53, op := Op.call { callee := Callee.builtin Builtin.append, args := #[Operand.tmp 49, Operand.tmp 52], argTypes := #[26, 26] }, type := 26, pos := "typist.go:68", after := #[{ on := 2, ground := Ground.data }, { on := 5, ground := Ground.data }, { on := 5, ground := Ground.chain }], guard := none } rfl (by kernel_rfl) (by rfl) (fun K hK => ?_)
                    refine Kt.wp_append_ar (.tmp 49) (.tmp 52) 26 rfl wc.heap.size 31 (.agg #[.int .i64 0, .int .i64 0, .bool false, .int .i64 0]) 4 32 infoK Tryd.underlying26 rfl (by decide) _ _ _ rfl HS2.out _ _ _ rfl (Kt.Ar.of_sl HS5.out) (by first | exact sks_one _ | (intro u hu; simp only [List.mem_cons, List.not_mem_nil, or_false] at hu; rcases hu with rfl | rfl | rfl | rfl | rfl | rfl | rfl | rfl <;> rfl)) (by decide) (by decide) hHeld.bel.size ?_
                    intro A6 c6 x6 hs6 hb6 hz6 hk6 hl6
                    replace rK := (hk6 kZ (lt_of_row0 rK) (fun e => hne _ e rfl)).trans rK
                    have hF6 := hHeld.onB hb6 (Nat.le_refl _) HRB.out
                    try clear hne
                    have HS6 : Hid (Kt.Sl x6 wc.heap.size 31 4 (.slice A6 4 c6) 4 (sks [⟨1, 57, true, 0⟩, ⟨1, 57, false, 0⟩, ⟨1, c, true, 0⟩, ⟨1, c, false, 0⟩])) := Lib.hid hs6
                    refine hK.out _ _ (fun _ => hF6) (fun hHeld => ?_)
                    have hHeld := hHeld rfl
                    clear hK K
                    try simp only [Act.put, List.setIfInBounds_toArray, List.set_cons_zero, List.set_cons_succ]
                    clear hs6 hb6 hz6 hk6 hl6 hF6
                    clear HS2 HS5
                    refine Kt.G.one 7 { dst := some 54, op := Op.call { callee := Callee.value (Operand.func 12), args := #[Operand.tmp 47, Operand.tmp 53], argTypes := #[37, 26] }, type := 39, pos := "typist.go:68", after := #[{ on := 0, ground := Ground.data }, { on := 6, ground := Ground.data }, { on := 6, ground := Ground.chain }], guard := none } rfl (by kernel_rfl) (by rfl) (fun K hK => ?_)
                    go_simp
                    refine (HT4.out _ hHeld.bel _ _ _ HS6.out).mono ?_; rintro en x7 ⟨rfl, hb7⟩
                    refine hK.out _ _ (fun _ => hHeld.on hb7) (fun hHeld => ?_)
                    have hHeld := hHeld rfl
                    clear hK K
                    try simp only [Act.put, List.setIfInBounds_toArray, List.set_cons_zero, List.set_cons_succ]
                    replace rK := Kt.row_on hb7 rK
                    clear hb7 HS6
                    refine Kt.G.takeP 8 { dst := some 46, op := Op.move (Operand.tmp 54), type := 39, pos := "typist.go:68", after := #[{ on := 7, ground := Ground.data }], guard := none } ?_ (fun _ => hHeld) rfl (by kernel_rfl) (fun _ _ _ h => h) (by rfl) ?_ ?_
                    rotate_left
                    · intro w; go_simp; try with_reducible rfl
                    try simp only [Act.put, List.setIfInBounds_toArray, List.set_cons_zero, List.set_cons_succ]
                    refine Kt.G.takeP 9 { dst := some 55, op := Op.extract (Operand.tmp 46) 0, type := 37, pos := "typist.go:68", after := #[{ on := 8, ground := Ground.data }], guard := none } ?_ (fun _ => hHeld) rfl (by kernel_rfl) (fun _ _ _ h => h) (by rfl) ?_ ?_
                    rotate_left
                    · intro w; go_simp; try with_reducible rfl
                    try simp only [Act.put, List.setIfInBounds_toArray, List.set_cons_zero, List.set_cons_succ]
                    refine Kt.G.takeP 10 { dst := some 56, op := Op.extract (Operand.tmp 46) 1, type := 38, pos := "typist.go:68", after := #[{ on := 8, ground := Ground.data }, { on := 12, ground := Ground.gcOnly Departure.lateStores }], guard := none } ?_ (fun _ => hHeld) rfl (by kernel_rfl) (fun _ _ _ h => h) (by rfl) ?_ ?_
                    rotate_left
                    · intro w; go_simp; try with_reducible rfl
                    try simp only [Act.put, List.setIfInBounds_toArray, List.set_cons_zero, List.set_cons_succ]
                  case' g30 =>
                    go_simp
                    refine hK.out _ _ (fun _ => hHeld.alloc _) (fun hHeld => ?_)
                    have hHeld := hHeld rfl
                    clear hK K
                    try simp only [Act.put, List.setIfInBounds_toArray, List.set_cons_zero, List.set_cons_succ]
                    have HA4 := Lib.hid (Kt.Ar.new xk #[.int .i64 c] 3 1 1 rfl)
                    replace rK := Kt.row_on (Kt.balloc (Below.refl _ xk) (.cells #[.int .i64 c] 3)) rK
                    replace HA1 := Lib.hid (HA1.out.on (Kt.balloc (Below.refl _ xk) (.cells #[.int .i64 c] 3)))
                    generalize xk.alloc (.cells #[.int .i64 c] 3) = y4 at *
                    refine Kt.G.one 2 { dst := some 49, op := Op.call { callee := Callee.value (Operand.func 11), args := #[Operand.tmp 48], argTypes := #[22] }, type := 26, pos := "typist.go:68", after := #[{ on := 1, ground := Ground.data }], guard := none } rfl (by kernel_rfl) (by rfl) (fun K hK => ?_)
                    try (have hkk := lt_of_row0 rK)
                    have hszz := hHeld.bel.size
                    go_simp
                    refine (press1_calls _ _ _ _ HA1.out).mono ?_; rintro en x2 ⟨A2, c2, rfl, hs2, hb2⟩
                    refine hK.out _ _ (fun _ => hHeld.on hb2) (fun hHeld => ?_)
                    have hHeld := hHeld rfl
                    clear hK K
                    try simp only [Act.put, List.setIfInBounds_toArray, List.set_cons_zero, List.set_cons_succ]
                    replace rK := Kt.row_on (hb2) rK
                    replace HA4 := Lib.hid (HA4.out.on (hb2))
                    try (have hne : ∀ k, (Value.slice A2 2 c2).ownBlock = some k → k ≠ kZ := fun k hk => by have := (hs2.lt k hk).1; omega)
                    have HS2 := Lib.hid (hs2.mono hszz)
                    try clear hkk
                    clear hs2 hb2 hszz HA1
                    refine Kt.G.one 5 { dst := some 52, op := Op.call { callee := Callee.value (Operand.func 11), args := #[Operand.tmp 51], argTypes := #[22] }, type := 26, pos := "typist.go:68", after := #[{ on := 4, ground := Ground.data }, { on := 2, ground := Ground.chain }], guard := none } rfl (by kernel_rfl) (by rfl) (fun K hK => ?_)
                    try (have hkk := lt_of_row0 rK)
                    have hszz := hHeld.bel.size
                    go_simp
                    refine (press1_calls _ _ _ _ HA4.out).mono ?_; rintro en x5 ⟨A5, c5, rfl, hs5, hb5⟩
                    refine hK.out _ _ (fun _ => hHeld.on hb5) (fun hHeld => ?_)
                    have hHeld := hHeld rfl
                    clear hK K
                    try simp only [Act.put, List.setIfInBounds_toArray, List.set_cons_zero, List.set_cons_succ]
                    replace rK := Kt.row_on (hb5) rK
                    replace HS2 := Lib.hid (HS2.out.on (hb5))
                    have HS5 := Lib.hid (hs5.mono hszz)
                    try clear hkk
                    clear hs5 hb5 hszz HA4
                    refine Kt.G.one 6 { dst := some 53, op := Op.call { callee := Callee.builtin Builtin.append, args := #[Operand.tmp 49, Operand.tmp 52], argTypes := #[26, 26] }, type := 26, pos := "typist.go:68", after := #[{ on := 2, ground := Ground.data }, { on := 5, ground := Ground.data }, { on := 5, ground := Ground.chain }], guard := none } rfl (by kernel_rfl) (by rfl) (fun K hK => ?_)
                    refine Kt.wp_append_ar (.tmp 49) (.tmp 52) 26 rfl wc.heap.size 31 (.agg #[.int .i64 0, .int .i64 0, .bool false, .int .i64 0]) 4 32 infoK Tryd.underlying26 rfl (by decide) _ _ _ rfl HS2.out _ _ _ rfl (Kt.Ar.of_sl HS5.out) (by first | exact sks_one _ | (intro u hu; simp only [List.mem_cons, List.not_mem_nil, or_false] at hu; rcases hu with rfl | rfl | rfl | rfl | rfl | rfl | rfl | rfl <;> rfl)) (by decide) (by decide) hHeld.bel.size ?_
                    intro A6 c6 x6 hs6 hb6 hz6 hk6 hl6
                    replace rK := (hk6 kZ (lt_of_row0 rK) (fun e => hne _ e rfl)).trans rK
                    have hF6 := hHeld.onB hb6 (Nat.le_refl _) HRB.out
                    try clear hne
                    have HS6 : Hid (Kt.Sl x6 wc.heap.size 31 4 (.slice A6 4 c6) 4 (sks [⟨1, 57, true, 0⟩, ⟨1, 57, false, 0⟩, ⟨1, c, true, 0⟩, ⟨1, c, false, 0⟩])) := Lib.hid hs6
                    refine hK.out _ _ (fun _ => hF6) (fun hHeld => ?_)
                    have hHeld := hHeld rfl
                    clear hK K
                    try simp only [Act.put, List.setIfInBounds_toArray, List.set_cons_zero, List.set_cons_succ]
                    clear hs6 hb6 hz6 hk6 hl6 hF6
                    clear HS2 HS5
                    refine Kt.G.one 7 { dst := some 54, op := Op.call { callee := Callee.value (Operand.func 12), args := #[Operand.tmp 47, Operand.tmp 53], argTypes := #[37, 26] }, type := 39, pos := "typist.go:68", after := #[{ on := 0, ground := Ground.data }, { on := 6, ground := Ground.data }, { on := 6, ground := Ground.chain }], guard := none } rfl (by kernel_rfl) (by rfl) (fun K hK => ?_)
                    go_simp
                    refine (HT4.out _ hHeld.bel _ _ _ HS6.out).mono ?_; rintro en x7 ⟨rfl, hb7⟩
                    refine hK.out _ _ (fun _ => hHeld.on hb7) (fun hHeld => ?_)
                    have hHeld := hHeld rfl
                    clear hK K
                    try simp only [Act.put, List.setIfInBounds_toArray, List.set_cons_zero, List.set_cons_succ]
                    replace rK := Kt.row_on hb7 rK
                    clear hb7 HS6
                    refine Kt.G.takeP 8 { dst := some 46, op := Op.move (Operand.tmp 54), type := 39, pos := "typist.go:68", after := #[{ on := 7, ground := Ground.data }], guard := none } ?_ (fun _ => hHeld) rfl (by kernel_rfl) (fun _ _ _ h => h) (by rfl) ?_ ?_
                    rotate_left
                    · intro w; go_simp; try with_reducible rfl
                    try simp only [Act.put, List.setIfInBounds_toArray, List.set_cons_zero, List.set_cons_succ]
                    refine Kt.G.takeP 9 { dst := some 55, op := Op.extract (Operand.tmp 46) 0, type := 37, pos := "typist.go:68", after := #[{ on := 8, ground := Ground.data }], guard := none } ?_ (fun _ => hHeld) rfl (by kernel_rfl) (fun _ _ _ h => h) (by rfl) ?_ ?_
                    rotate_left
                    · intro w; go_simp; try with_reducible rfl
                    try simp only [Act.put, List.setIfInBounds_toArray, List.set_cons_zero, List.set_cons_succ]
                    refine Kt.G.takeP 10 { dst := some 56, op := Op.extract (Operand.tmp 46) 1, type := 38, pos := "typist.go:68", after := #[{ on := 8, ground := Ground.data }, { on := 12, ground := Ground.gcOnly Departure.lateStores }], guard := none } ?_ (fun _ => hHeld) rfl (by kernel_rfl) (fun _ _ _ h => h) (by rfl) ?_ ?_
                    rotate_left
                    · intro w; go_simp; try with_reducible rfl
                    try simp only [Act.put, List.setIfInBounds_toArray, List.set_cons_zero, List.set_cons_succ]
              case' g8 =>
                go_simp
                refine hK.out _ _ (fun _ => hHeld.alloc _) (fun hHeld => ?_)
                have hHeld := hHeld rfl
                clear hK K
                try simp only [Act.put, List.setIfInBounds_toArray, List.set_cons_zero, List.set_cons_succ]
                have HA4 := Lib.hid (Kt.Ar.new x0 #[.int .i64 c] 3 1 1 rfl)
                generalize x0.alloc (.cells #[.int .i64 c] 3) = y4 at *
                refine Kt.G.two 1 11 { dst := some 48, op := Op.buildSlice 22 1 #[(0, Operand.const (Value.int IntKind.i64 57))], type := 22, pos := "typist.go:68", after := #[], guard := none } { dst := some 7, op := Op.alloc 37, type := 0, pos := "typist.go:68", after := #[], guard := none } rfl rfl (by kernel_rfl) (by rfl) (by rfl) (fun K hK => ?g31) (fun K hK => ?g32)
                case' g31 =>
                  go_simp
                  refine hK.out _ _ (fun _ => hHeld.alloc _) (fun hHeld => ?_)
                  have hHeld := hHeld rfl
                  clear hK K
                  try simp only [Act.put, List.setIfInBounds_toArray, List.set_cons_zero, List.set_cons_succ]
                  have HA1 := Lib.hid (Kt.Ar.new y4 #[.int .i64 57] 3 1 1 rfl)
                  replace HA4 := Lib.hid (HA4.out.on (Kt.balloc (Below.refl _ y4) (.cells #[.int .i64 57] 3)))
                  generalize y4.alloc (.cells #[.int .i64 57] 3) = y1 at *
                  refine Kt.G.two 2 11 { dst := some 49, op := Op.call { callee := Callee.value (Operand.func 11), args := #[Operand.tmp 48], argTypes := #[22] }, type := 26, pos := "typist.go:68", after := #[{ on := 1, ground := Ground.data }], guard := none } { dst := some 7, op := Op.alloc 37, type := 0, pos := "typist.go:68", after := #[], guard := none } rfl rfl (by kernel_rfl) (by rfl) (by rfl) (fun K hK => ?g33) (fun K hK => ?g34)
                  case' g33 =>
                    try (have hkk := lt_of_row0 rK)
                    have hszz := hHeld.bel.size
                    go_simp
                    refine (press1_calls _ _ _ _ HA1.out).mono ?_; rintro en x2 ⟨A2, c2, rfl, hs2, hb2⟩
                    refine hK.out _ _ (fun _ => hHeld.on hb2) (fun hHeld => ?_)
                    have hHeld := hHeld rfl
                    clear hK K
                    try simp only [Act.put, List.setIfInBounds_toArray, List.set_cons_zero, List.set_cons_succ]
                    replace HA4 := Lib.hid (HA4.out.on (hb2))
                    have HS2 := Lib.hid (hs2.mono hszz)
                    try clear hkk
                    clear hs2 hb2 hszz HA1
                    refine Kt.G.two 5 11 { dst := some 52, op := Op.call { callee := Callee.value (Operand.func 11), args := #[Operand.tmp 51], argTypes := #[22] }, type := 26, pos := "typist.go:68", after := #[{ on := 4, ground := Ground.data }, { on := 2, ground := Ground.chain }], guard := none } { dst := some 7, op := Op.alloc 37, type := 0, pos := "typist.go:68", after := #[], guard := none } rfl rfl (by kernel_rfl) (by rfl) (by rfl) (fun K hK => ?g35) (fun K hK => ?g36)
                    case' g35 =>
                      try (have hkk := lt_of_row0 rK)
                      have hszz := hHeld.bel.size
                      go_simp
                      refine (press1_calls _ _ _ _ HA4.out).mono ?_; rintro en x5 ⟨A5, c5, rfl, hs5, hb5⟩
                      refine hK.out _ _ (fun _ => hHeld.on hb5) (fun hHeld => ?_)
                      have hHeld := hHeld rfl
                      clear hK K
                      try simp only [Act.put, List.setIfInBounds_toArray, List.set_cons_zero, List.set_cons_succ]
                      replace HS2 := Lib.hid (HS2.out.on (hb5))
                      have HS5 := Lib.hid (hs5.mono hszz)
                      try clear hkk
                      clear hs5 hb5 hszz HA4
                      refine Kt.G.two 6 11 { dst := some 53, op := Op.call { callee := Callee.builtin Builtin.append, args := #[Operand.tmp 49, Operand.tmp 52], argTypes := #[26, 26] }, type := 26, pos := "typist.go:68", after := #[{ on := 2, ground := Ground.data }, { on := 5, ground := Ground.data }, { on := 5, ground := Ground.chain }], guard := none } { dst := some 7, op := Op.alloc 37, type := 0, pos := "typist.go:68", after := #[], guard := none } rfl rfl (by kernel_rfl) (by rfl) (by rfl) (fun K hK => ?g37) (fun K hK => ?g38)
                      case' g37 =>
                        refine Kt.wp_append_ar (.tmp 49) (.tmp 52) 26 rfl wc.heap.size 31 (.agg #[.int .i64 0, .int .i64 0, .bool false, .int .i64 0]) 4 32 infoK Tryd.underlying26 rfl (by decide) _ _ _ rfl HS2.out _ _ _ rfl (Kt.Ar.of_sl HS5.out) (by first | exact sks_one _ | (intro u hu; simp only [List.mem_cons, List.not_mem_nil, or_false] at hu; rcases hu with rfl | rfl | rfl | rfl | rfl | rfl | rfl | rfl <;> rfl)) (by decide) (by decide) hHeld.bel.size ?_
                        intro A6 c6 x6 hs6 hb6 hz6 hk6 hl6
                        have hF6 := hHeld.onB hb6 (Nat.le_refl _) HRB.out
                        try clear hne
                        have HS6 : Hid (Kt.Sl x6 wc.heap.size 31 4 (.slice A6 4 c6) 4 (sks [⟨1, 57, true, 0⟩, ⟨1, 57, false, 0⟩, ⟨1, c, true, 0⟩, ⟨1, c, false, 0⟩])) := Lib.hid hs6
                        refine hK.out _ _ (fun _ => hF6) (fun hHeld => ?_)
                        have hHeld := hHeld rfl
                        clear hK K
                        try simp only [Act.put, List.setIfInBounds_toArray, List.set_cons_zero, List.set_cons_succ]
                        clear hs6 hb6 hz6 hk6 hl6 hF6
                        clear HS2 HS5
                        refine Kt.G.two 7 11 { dst := some 54, op := Op.call { callee := Callee.value (Operand.func 12), args := #[Operand.tmp 47, Operand.tmp 53], argTypes := #[37, 26] }, type := 39, pos := "typist.go:68", after := #[{ on := 0, ground := Ground.data }, { on := 6, ground := Ground.data }, { on := 6, ground := Ground.chain }], guard := none } { dst := some 7, op := Op.alloc 37, type := 0, pos := "typist.go:68", after := #[], guard := none } rfl rfl (by kernel_rfl) (by rfl) (by rfl) (fun K hK => ?g39) (fun K hK => ?g40)
                        case' g39 =>
                          go_simp
                          refine (HT4.out _ hHeld.bel _ _ _ HS6.out).mono ?_; rintro en x7 ⟨rfl, hb7⟩
                          refine hK.out _ _ (fun _ => hHeld.on hb7) (fun hHeld => ?_)
                          have hHeld := hHeld rfl
                          clear hK K
                          try simp only [Act.put, List.setIfInBounds_toArray, List.set_cons_zero, List.set_cons_succ]
                          clear hb7 HS6
                          refine Kt.G.takeP 8 { dst := some 46, op := Op.move (Operand.tmp 54), type := 39, pos := "typist.go:68", after := #[{ on := 7, ground := Ground.data }], guard := none } ?_ (fun _ => hHeld) rfl (by kernel_rfl) (fun _ _ _ h => h) (by rfl) ?_ ?_
                          rotate_left
                          · intro w; go_simp; try with_reducible rfl
                          try simp only [Act.put, List.setIfInBounds_toArray, List.set_cons_zero, List.set_cons_succ]
                          refine Kt.G.takeP 9 { dst := some 55, op := Op.extract (Operand.tmp 46) 0, type := 37, pos := "typist.go:68", after := #[{ on := 8, ground := Ground.data }], guard := none } ?_ (fun _ => hHeld) rfl (by kernel_rfl) (fun _ _ _ h => h) (by rfl) ?_ ?_
                          rotate_left
                          · intro w; go_simp; try with_reducible rfl
                          try simp only [Act.put, List.setIfInBounds_toArray, List.set_cons_zero, List.set_cons_succ]
                          refine Kt.G.takeP 10 { dst := some 56, op := Op.extract (Operand.tmp 46) 1, type := 38, pos := "typist.go:68", after := #[{ on := 8, ground := Ground.data }, { on := 12, ground := Ground.gcOnly Departure.lateStores }], guard := none } ?_ (fun _ => hHeld) rfl (by kernel_rfl) (fun _ _ _ h => h) (by rfl) ?_ ?_
                          rotate_left
                          · intro w; go_simp; try with_reducible rfl
                          try simp only [Act.put, List.setIfInBounds_toArray, List.set_cons_zero, List.set_cons_succ]
                          refine Kt.G.one 11 { dst := some 7, op := Op.alloc 37, type := 0, pos := "typist.go:68", after := #[], guard := none } rfl (by kernel_rfl) (by rfl) (fun K hK => ?_)
                          have hk0 : wc.heap.size ≤ x7.heap.size := hHeld.bel.size
                          try (have hne : ∀ k, (Value.slice A2 2 c2).ownBlock = some k → k ≠ x7.heap.size := fun k hk => by have := (HS2.out.lt k hk).2; omega)
                          try (have hne : ∀ k, (Value.slice A6 4 c6).ownBlock = some k → k ≠ x7.heap.size := fun k hk => by have := (HS6.out.lt k hk).2; omega)
                          go_simp
                          refine hK.out _ _ (fun _ => hHeld.alloc _) (fun hHeld => ?_)
                          have hHeld := hHeld rfl
                          clear hK K
                          try simp only [Act.put, List.setIfInBounds_toArray, List.set_cons_zero, List.set_cons_succ]
                          have rK := heap_alloc_new x7 (.cells #[.int .u64 0, .int .u64 0, .int .u64 0, .int .u64 0, .bool false, .int .i64 0, .int .i64 0, .int .i64 0, .string ⟨#[]⟩] 37)
                          generalize hkZ : x7.heap.size = kZ at *
                          clear hkZ
                          generalize x7.alloc (.cells #[.int .u64 0, .int .u64 0, .int .u64 0, .int .u64 0, .bool false, .int .i64 0, .int .i64 0, .int .i64 0, .string ⟨#[]⟩] 37) = xk at *
                        case' g40 =>
                          have hk0 : wc.heap.size ≤ x6.heap.size := hHeld.bel.size
                          try (have hne : ∀ k, (Value.slice A2 2 c2).ownBlock = some k → k ≠ x6.heap.size := fun k hk => by have := (HS2.out.lt k hk).2; omega)
                          try (have hne : ∀ k, (Value.slice A6 4 c6).ownBlock = some k → k ≠ x6.heap.size := fun k hk => by have := (HS6.out.lt k hk).2; omega)
                          replace HS6 := Lib.hid (HS6.out.on (Kt.balloc (Below.refl _ x6) (.cells #[.int .u64 0, .int .u64 0, .int .u64 0, .int .u64 0, .bool false, .int .i64 0, .int .i64 0, .int .i64 0, .string ⟨#[]⟩] 37)))
                          go_simp
                          refine hK.out _ _ (fun _ => hHeld.alloc _) (fun hHeld => ?_)
                          have hHeld := hHeld rfl
                          clear hK K
                          try simp only [Act.put, List.setIfInBounds_toArray, List.set_cons_zero, List.set_cons_succ]
                          have rK := heap_alloc_new x6 (.cells #[.int .u64 0, .int .u64 0, .int .u64 0, .int .u64 0, .bool false, .int .i64 0, .int .i64 0, .int .i64 0, .string ⟨#[]⟩] 37)
                          generalize hkZ : x6.heap.size = kZ at *
                          clear hkZ
                          generalize x6.alloc (.cells #[.int .u64 0, .int .u64 0, .int .u64 0, .int .u64 0, .bool false, .int .i64 0, .int .i64 0, .int .i64 0, .string ⟨#[]⟩] 37) = xk at *
                          refine Kt.G.one 7 { dst := some 54, op := Op.call { callee := Callee.value (Operand.func 12), args := #[Operand.tmp 47, Operand.tmp 53], argTypes := #[37, 26] }, type := 39, pos := "typist.go:68", after := #[{ on := 0, ground := Ground.data }, { on := 6, ground := Ground.data }, { on := 6, ground := Ground.chain }], guard := none } rfl (by kernel_rfl) (by rfl) (fun K hK => ?_)
                          go_simp
                          refine (HT4.out _ hHeld.bel _ _ _ HS6.out).mono ?_; rintro en x7 ⟨rfl, hb7⟩
                          refine hK.out _ _ (fun _ => hHeld.on hb7) (fun hHeld => ?_)
                          have hHeld := hHeld rfl
                          clear hK K
                          try simp only [Act.put, List.setIfInBounds_toArray, List.set_cons_zero, List.set_cons_succ]
                          replace rK := Kt.row_on hb7 rK
                          clear hb7 HS6
                          refine Kt.G.takeP 8 { dst := some 46, op := Op.move (Operand.tmp 54), type := 39, pos := "typist.go:68", after := #[{ on := 7, ground := Ground.data }], guard := none } ?_ (fun _ => hHeld) rfl (by kernel_rfl) (fun _ _ _ h => h) (by rfl) ?_ ?_
                          rotate_left
                          · intro w; go_simp; try with_reducible rfl
                          try simp only [Act.put, List.setIfInBounds_toArray, List.set_cons_zero, List.set_cons_succ]
                          refine Kt.G.takeP 9 { dst := some 55, op := Op.extract (Operand.tmp 46) 0, type := 37, pos := "typist.go:68", after := #[{ on := 8, ground := Ground.data }], guard := none } ?_ (fun _ => hHeld) rfl (by kernel_rfl) (fun _ _ _ h => h) (by rfl) ?_ ?_
                          rotate_left
                          · intro w; go_simp; try with_reducible rfl
                          try simp only [Act.put, List.setIfInBounds_toArray, List.set_cons_zero, List.set_cons_succ]
                          refine Kt.G.takeP 10 { dst := some 56, op := Op.extract (Operand.tmp 46) 1, type := 38, pos := "typist.go:68", after := #[{ on := 8, ground := Ground.data }, { on := 12, ground := Ground.gcOnly Departure.lateStores }], guard := none } ?_ (fun _ => hHeld) rfl (by kernel_rfl) (fun _ _ _ h => h) (by rfl) ?_ ?_
                          rotate_left
                          · intro w; go_simp; try with_reducible rfl
                          try simp only [Act.put, List.setIfInBounds_toArray, List.set_cons_zero, List.set_cons_succ]
                      case' g38 =>
                        have hk0 : wc.heap.size ≤ x5.heap.size := hHeld.bel.size
                        try (have hne : ∀ k, (Value.slice A2 2 c2).ownBlock = some k → k ≠ x5.heap.size := fun k hk => by have := (HS2.out.lt k hk).2; omega)
                        try (have hne : ∀ k, (Value.slice A6 4 c6).ownBlock = some k → k ≠ x5.heap.size := fun k hk => by have := (HS6.out.lt k hk).2; omega)
                        replace HS2 := Lib.hid (HS2.out.on (Kt.balloc (Below.refl _ x5) (.cells #[.int .u64 0, .int .u64 0, .int .u64 0, .int .u64 0, .bool false, .int .i64 0, .int .i64 0, .int .i64 0, .string ⟨#[]⟩] 37)))
                        replace HS5 := Lib.hid (HS5.out.on (Kt.balloc (Below.refl _ x5) (.cells #[.int .u64 0, .int .u64 0, .int .u64 0, .int .u64 0, .bool false, .int .i64 0, .int .i64 0, .int .i64 0, .string ⟨#[]⟩] 37)))
                        go_simp
                        refine hK.out _ _ (fun _ => hHeld.alloc _) (fun hHeld => ?_)
                        have hHeld := hHeld rfl
                        clear hK K
                        try simp only [Act.put, List.setIfInBounds_toArray, List.set_cons_zero, List.set_cons_succ]
                        have rK := heap_alloc_new x5 (.cells #[.int .u64 0, .int .u64 0, .int .u64 0, .int .u64 0, .bool false, .int .i64 0, .int .i64 0, .int .i64 0, .string ⟨#[]⟩] 37)
                        generalize hkZ : x5.heap.size = kZ at *
                        clear hkZ
                        generalize x5.alloc (.cells #[.int .u64 0, .int .u64 0, .int .u64 0, .int .u64 0, .bool false, .int .i64 0, .int .i64 0, .int .i64 0, .string ⟨#[]⟩] 37) = xk at *
                        refine Kt.G.one 6 { dst := some 53, op := Op.call { callee := Callee.builtin Builtin.append, args := #[Operand.tmp 49, Operand.tmp 52], argTypes := #[26, 26] }, type := 26, pos := "typist.go:68", after := #[{ on := 2, ground := Ground.data }, { on := 5, ground := Ground.data }, { on := 5, ground := Ground.chain }], guard := none } rfl (by kernel_rfl) (by rfl) (fun K hK => ?_)
                        refine Kt.wp_append_ar (.tmp 49) (.tmp 52) 26 rfl wc.heap.size 31 (.agg #[.int .i64 0, .int .i64 0, .bool false, .int .i64 0]) 4 32 infoK Tryd.underlying26 rfl (by decide) _ _ _ rfl HS2.out _ _ _ rfl (Kt.Ar.of_sl HS5.out) (by first | exact sks_one _ | (intro u hu; simp only [List.mem_cons, List.not_mem_nil, or_false] at hu; rcases hu with rfl | rfl | rfl | rfl | rfl | rfl | rfl | rfl <;> rfl)) (by decide) (by decide) hHeld.bel.size ?_
                        intro A6 c6 x6 hs6 hb6 hz6 hk6 hl6
                        replace rK := (hk6 kZ (lt_of_row0 rK) (fun e => hne _ e rfl)).trans rK
                        have hF6 := hHeld.onB hb6 (Nat.le_refl _) HRB.out
                        try clear hne
                        have HS6 : Hid (Kt.Sl x6 wc.heap.size 31 4 (.slice A6 4 c6) 4 (sks [⟨1, 57, true, 0⟩, ⟨1, 57, false, 0⟩, ⟨1, c, true, 0⟩, ⟨1, c, false, 0⟩])) := Lib.hid hs6
                        refine hK.out _ _ (fun _ => hF6) (fun hHeld => ?_)
                        have hHeld := hHeld rfl
                        clear hK K
                        try simp only [Act.put, List.setIfInBounds_toArray, List.set_cons_zero, List.set_cons_succ]
                        clear hs6 hb6 hz6 hk6 hl6 hF6
                        clear HS2 HS5
                        refine Kt.G.one 7 { dst := some 54, op := Op.call { callee := Callee.value (Operand.func 12), args := #[Operand.tmp 47, Operand.tmp 53], argTypes := #[37, 26] }, type := 39, pos := "typist.go:68", after := #[{ on := 0, ground := Ground.data }, { on := 6, ground := Ground.data }, { on := 6, ground := Ground.chain }], guard := none } rfl (by kernel_rfl) (by rfl) (fun K hK => ?_)
                        go_simp
                        refine (HT4.out _ hHeld.bel _ _ _ HS6.out).mono ?_; rintro en x7 ⟨rfl, hb7⟩
                        refine hK.out _ _ (fun _ => hHeld.on hb7) (fun hHeld => ?_)
                        have hHeld := hHeld rfl
                        clear hK K
                        try simp only [Act.put, List.setIfInBounds_toArray, List.set_cons_zero, List.set_cons_succ]
                        replace rK := Kt.row_on hb7 rK
                        clear hb7 HS6
                        refine Kt.G.takeP 8 { dst := some 46, op := Op.move (Operand.tmp 54), type := 39, pos := "typist.go:68", after := #[{ on := 7, ground := Ground.data }], guard := none } ?_ (fun _ => hHeld) rfl (by kernel_rfl) (fun _ _ _ h => h) (by rfl) ?_ ?_
                        rotate_left
                        · intro w; go_simp; try with_reducible rfl
                        try simp only [Act.put, List.setIfInBounds_toArray, List.set_cons_zero, List.set_cons_succ]
                        refine Kt.G.takeP 9 { dst := some 55, op := Op.extract (Operand.tmp 46) 0, type := 37, pos := "typist.go:68", after := #[{ on := 8, ground := Ground.data }], guard := none } ?_ (fun _ => hHeld) rfl (by kernel_rfl) (fun _ _ _ h => h) (by rfl) ?_ ?_
                        rotate_left
                        · intro w; go_simp; try with_reducible rfl
                        try simp only [Act.put, List.setIfInBounds_toArray, List.set_cons_zero, List.set_cons_succ]
                        refine Kt.G.takeP 10 { dst := some 56, op := Op.extract (Operand.tmp 46) 1, type := 38, pos := "typist.go:68", after := #[{ on := 8, ground := Ground.data }, { on := 12, ground := Ground.gcOnly Departure.lateStores }], guard := none } ?_ (fun _ => hHeld) rfl (by kernel_rfl) (fun _ _ _ h => h) (by rfl) ?_ ?_
                        rotate_left
                        · intro w; go_simp; try with_reducible rfl
                        try simp only [Act.put, List.setIfInBounds_toArray, List.set_cons_zero, List.set_cons_succ]
                    case' g36 =>
                      have hk0 : wc.heap.size ≤ x2.heap.size := hHeld.bel.size
                      try (have hne : ∀ k, (Value.slice A2 2 c2).ownBlock = some k → k ≠ x2.heap.size := fun k hk => by have := (HS2.out.lt k hk).2; omega)
                      try (have hne : ∀ k, (Value.slice A6 4 c6).ownBlock = some k → k ≠ x2.heap.size := fun k hk => by have := (HS6.out.lt k hk).2; omega)
                      replace HS2 := Lib.hid (HS2.out.on (Kt.balloc (Below.refl _ x2) (.cells #[.int .u64 0, .int .u64 0, .int .u64 0, .int .u64 0, .bool false, .int .i64 0, .int .i64 0, .int .i64 0, .string ⟨#[]⟩] 37)))
                      replace HA4 := Lib.hid (HA4.out.on (Kt.balloc (Below.refl _ x2) (.cells #[.int .u64 0, .int .u64 0, .int .u64 0, .int .u64 0, .bool false, .int .i64 0, .int .i64 0, .int .i64 0, .string ⟨#[]⟩] 37)))
                      go_simp
                      refine hK.out _ _ (fun _ => hHeld.alloc _) (fun hHeld => ?_)
                      have hHeld := hHeld rfl
                      clear hK K
                      try simp only [Act.put, List.setIfInBounds_toArray, List.set_cons_zero, List.set_cons_succ]
                      have rK := heap_alloc_new x2 (.cells #[.int .u64 0, .int .u64 0, .int .u64 0, .int .u64 0, .bool false, .int .i64 0, .int .i64 0, .int .i64 0, .string ⟨#[]⟩] 37)
                      generalize hkZ : x2.heap.size = kZ at *
                      clear hkZ
                      generalize x2.alloc (.cells #[.int .u64 0, .int .u64 0, .int .u64 0, .int .u64 0, .bool false, .int .i64 0, .int .i64 0, .int .i64 0, .string ⟨#[]⟩] 37) = xk at *
                      refine Kt.G.one 5 { dst := some 52, op := Op.call { callee := Callee.value (Operand.func 11), args := #[Operand.tmp 51], argTypes := #[22] }, type := 26, pos := "typist.go:68", after := #[{ on := 4, ground := Ground.data }, { on := 2, ground := Ground.chain }], guard := none } rfl (by kernel_rfl) (by rfl) (fun K hK => ?_)
                      try (have hkk := lt_of_row0 rK)
                      have hszz := hHeld.bel.size
                      go_simp
                      refine (press1_calls _ _ _ _ HA4.out).mono ?_; rintro en x5 ⟨A5, c5, rfl, hs5, hb5⟩
                      refine hK.out _ _ (fun _ => hHeld.on hb5) (fun hHeld => ?_)
                      have hHeld := hHeld rfl
                      clear hK K
                      try simp only [Act.put, List.setIfInBounds_toArray, List.set_cons_zero, List.set_cons_succ]
                      replace rK := Kt.row_on (hb5) rK
                      replace HS2 := Lib.hid (HS2.out.on (hb5))
                      have HS5 := Lib.hid (hs5.mono hszz)
                      try clear hkk
                      clear hs5 hb5 hszz HA4
                      refine Kt.G.one 6 { dst := some 53, op := Op.call { callee := Callee.builtin Builtin.append, args := #[Operand.tmp 49, Operand.tmp 52], argTypes := #[26, 26] }, type := 26, pos := "typist.go:68", after := #[{ on := 2, ground := Ground.data }, { on := 5, ground := Ground.data }, { on := 5, ground := Ground.chain }], guard := none } rfl (by kernel_rfl) (by rfl) (fun K hK => ?_)
                      refine Kt.wp_append_ar (.tmp 49) (.tmp 52) 26 rfl wc.heap.size 31 (.agg #[.int .i64 0, .int .i64 0, .bool false, .int .i64 0]) 4 32 infoK Tryd.underlying26 rfl (by decide) _ _ _ rfl HS2.out _ _ _ rfl (Kt.Ar.of_sl HS5.out) (by first | exact sks_one _ | (intro u hu; simp only [List.mem_cons, List.not_mem_nil, or_false] at hu; rcases hu with rfl | rfl | rfl | rfl | rfl | rfl | rfl | rfl <;> rfl)) (by decide) (by decide) hHeld.bel.size ?_
                      intro A6 c6 x6 hs6 hb6 hz6 hk6 hl6
                      replace rK := (hk6 kZ (lt_of_row0 rK) (fun e => hne _ e rfl)).trans rK
                      have hF6 := hHeld.onB hb6 (Nat.le_refl _) HRB.out
                      try clear hne
                      have HS6 : Hid (Kt.Sl x6 wc.heap.size 31 4 (.slice A6 4 c6) 4 (sks [⟨1, 57, true, 0⟩, ⟨1, 57, false, 0⟩, ⟨1, c, true, 0⟩, ⟨1, c, false, 0⟩])) := Lib.hid hs6
                      refine hK.out _ _ (fun _ => hF6) (fun hHeld => ?_)
                      have hHeld := hHeld rfl
                      clear hK K
                      try simp only [Act.put, List.setIfInBounds_toArray, List.set_cons_zero, List.set_cons_succ]
                      clear hs6 hb6 hz6 hk6 hl6 hF6
                      clear HS2 HS5
                      refine Kt.G.one 7 { dst := some 54, op := Op.call { callee := Callee.value (Operand.func 12), args := #[Operand.tmp 47, Operand.tmp 53], argTypes := #[37, 26] }, type := 39, pos := "typist.go:68", after := #[{ on := 0, ground := Ground.data }, { on := 6, ground := Ground.data }, { on := 6, ground := Ground.chain }], guard := none } rfl (by kernel_rfl) (by rfl) (fun K hK => ?_)
                      go_simp
                      refine (HT4.out _ hHeld.bel _ _ _ HS6.out).mono ?_; rintro en x7 ⟨rfl, hb7⟩
                      refine hK.out _ _ (fun _ => hHeld.on hb7) (fun hHeld => ?_)
                      have hHeld := hHeld rfl
                      clear hK K
                      try simp only [Act.put, List.setIfInBounds_toArray, List.set_cons_zero, List.set_cons_succ]
                      replace rK := Kt.row_on hb7 rK
                      clear hb7 HS6
                      refine Kt.G.takeP 8 { dst := some 46, op := Op.move (Operand.tmp 54), type := 39, pos := "typist.go:68", after := #[{ on := 7, ground := Ground.data }], guard := none } ?_ (fun _ => hHeld) rfl (by kernel_rfl) (fun _ _ _ h => h) (by rfl) ?_ ?_
                      rotate_left
                      · intro w; go_simp; try with_reducible rfl
                      try simp only [Act.put, List.setIfInBounds_toArray, List.set_cons_zero, List.set_cons_succ]
                      refine Kt.G.takeP 9 { dst := some 55, op := Op.extract (Operand.tmp 46) 0, type := 37, pos := "typist.go:68", after := #[{ on := 8, ground := Ground.data }], guard := none } ?_ (fun _ => hHeld) rfl (by kernel_rfl) (fun _ _ _ h => h) (by rfl) ?_ ?_
                      rotate_left
                      · intro w; go_simp; try with_reducible rfl
                      try simp only [Act.put, List.setIfInBounds_toArray, List.set_cons_zero, List.set_cons_succ]
                      refine Kt.G.takeP 10 { dst := some 56, op := Op.extract (Operand.tmp 46) 1, type := 38, pos := "typist.go:68", after := #[{ on := 8, ground := Ground.data }, { on := 12, ground := Ground.gcOnly Departure.lateStores }], guard := none } ?_ (fun _ => hHeld) rfl (by kernel_rfl) (fun _ _ _ h => h) (by rfl) ?_ ?_
                      rotate_left
                      · intro w; go_simp; try with_reducible rfl
                      try simp only [Act.put, List.setIfInBounds_toArray, List.set_cons_zero, List.set_cons_succ]
                  case' g34 =>
                    have hk0 : wc.heap.size ≤ y1.heap.size := hHeld.bel.size
                    try (have hne : ∀ k, (Value.slice A2 2 c2).ownBlock = some k → k ≠ y1.heap.size := fun k hk => by have := (HS2.out.lt k hk).2; omega)
                    try (have hne : ∀ k, (Value.slice A6 4 c6).ownBlock = some k → k ≠ y1.heap.size := fun k hk => by have := (HS6.out.lt k hk).2; omega)
                    replace HA1 := Lib.hid (HA1.out.on (Kt.balloc (Below.refl _ y1) (.cells #[.int .u64 0, .int .u64 0, .int .u64 0, .int .u64 0, .bool false, .int .i64 0, .int .i64 0, .int .i64 0, .string ⟨#[]⟩] 37)))
                    replace HA4 := Lib.hid (HA4.out.on (Kt.balloc (Below.refl _ y1) (.cells #[.int .u64 0, .int .u64 0, .int .u64 0, .int .u64 0, .bool false, .int .i64 0, .int .i64 0, .int .i64 0, .string ⟨#[]⟩] 37)))
                    go_simp
                    refine hK.out _ _ (fun _ => hHeld.alloc _) (fun hHeld => ?_)
                    have hHeld := hHeld rfl
                    clear hK K
                    try simp only [Act.put, List.setIfInBounds_toArray, List.set_cons_zero, List.set_cons_succ]
                    have rK := heap_alloc_new y1 (.cells #[.int .u64 0, .int .u64 0, .int .u64 0, .int .u64 0, .bool false, .int .i64 0, .int .i64 0, .int .i64 0, .string ⟨#[]⟩] 37)
                    generalize hkZ : y1.heap.size = kZ at *
                    clear hkZ
                    generalize y1.alloc (.cells #[.int .u64 0, .int .u64 0, .int .u64 0, .int .u64 0, .bool false, .int .i64 0, .int .i64 0, .int .i64 0, .string ⟨#[]⟩] 37) = xk at *
                    refine Kt.G.one 2 { dst := some 49, op := Op.call { callee := Callee.value (Operand.func 11), args := #[Operand.tmp 48], argTypes := #[22] }, type := 26, pos := "typist.go:68", after := #[{ on := 1, ground := Ground.data }], guard := none } rfl (by kernel_rfl) (by rfl) (fun K hK => ?_)
                    try (have hkk := lt_of_row0 rK)
                    have hszz := hHeld.bel.size
                    go_simp
                    refine (press1_calls _ _ _ _ HA1.out).mono ?_; rintro en x2 ⟨A2, c2, rfl, hs2, hb2⟩
                    refine hK.out _ _ (fun _ => hHeld.on hb2) (fun hHeld => ?_)
                    have hHeld := hHeld rfl
                    clear hK K
                    try simp only [Act.put, List.setIfInBounds_toArray, List.set_cons_zero, List.set_cons_succ]
                    replace rK := Kt.row_on (hb2) rK
                    replace HA4 := Lib.hid (HA4.out.on (hb2))
                    try (have hne : ∀ k, (Value.slice A2 2 c2).ownBlock = some k → k ≠ kZ := fun k hk => by have := (hs2.lt k hk).1; omega)
                    have HS2 := Lib.hid (hs2.mono hszz)
                    try clear hkk
                    clear hs2 hb2 hszz HA1
                    refine Kt.G.one 5 { dst := some 52, op := Op.call { callee := Callee.value (Operand.func 11), args := #[Operand.tmp 51], argTypes := #[22] }, type := 26, pos := "typist.go:68", after := #[{ on := 4, ground := Ground.data }, { on := 2, ground := Ground.chain }], guard := none } rfl (by kernel_rfl) (by rfl) (fun K hK => ?_)
                    try (have hkk := lt_of_row0 rK)
                    have hszz := hHeld.bel.size
                    go_simp
                    refine (press1_calls _ _ _ _ HA4.out).mono ?_; rintro en x5 ⟨A5, c5, rfl, hs5, hb5⟩
                    refine hK.out _ _ (fun _ => hHeld.on hb5) (fun hHeld => ?_)
                    have hHeld := hHeld rfl
                    clear hK K
                    try simp only [Act.put, List.setIfInBounds_toArray, List.set_cons_zero, List.set_cons_succ]
                    replace rK := Kt.row_on (hb5) rK
                    replace HS2 := Lib.hid (HS2.out.on (hb5))
                    have HS5 := Lib.hid (hs5.mono hszz)
                    try clear hkk
                    clear hs5 hb5 hszz HA4
                    refine Kt.G.one 6 { dst := some 53, op := Op.call { callee := Callee.builtin Builtin.append, args := #[Operand.tmp 49, Operand.tmp 52], argTypes := #[26, 26] }, type := 26, pos := "typist.go:68", after := #[{ on := 2, ground := Ground.data }, { on := 5, ground := Ground.data }, { on := 5, ground := Ground.chain }], guard := none } rfl (by kernel_rfl) (by rfl) (fun K hK => ?_)
                    refine Kt.wp_append_ar (.tmp 49) (.tmp 52) 26 rfl wc.heap.size 31 (.agg #[.int .i64 0, .int .i64 0, .bool false, .int .i64 0]) 4 32 infoK Tryd.underlying26 rfl (by decide) _ _ _ rfl HS2.out _ _ _ rfl (Kt.Ar.of_sl HS5.out) (by first | exact sks_one _ | (intro u hu; simp only [List.mem_cons, List.not_mem_nil, or_false] at hu; rcases hu with rfl | rfl | rfl | rfl | rfl | rfl | rfl | rfl <;> rfl)) (by decide) (by decide) hHeld.bel.size ?_
                    intro A6 c6 x6 hs6 hb6 hz6 hk6 hl6
                    replace rK := (hk6 kZ (lt_of_row0 rK) (fun e => hne _ e rfl)).trans rK
                    have hF6 := hHeld.onB hb6 (Nat.le_refl _) HRB.out
                    try clear hne
                    have HS6 : Hid (Kt.Sl x6 wc.heap.size 31 4 (.slice A6 4 c6) 4 (sks [⟨1, 57, true, 0⟩, ⟨1, 57, false, 0⟩, ⟨1, c, true, 0⟩, ⟨1, c, false, 0⟩])) := Lib.hid hs6
                    refine hK.out _ _ (fun _ => hF6) (fun hHeld => ?_)
                    have hHeld := hHeld rfl
                    clear hK K
                    try simp only [Act.put, List.setIfInBounds_toArray, List.set_cons_zero, List.set_cons_succ]
                    clear hs6 hb6 hz6 hk6 hl6 hF6
                    clear HS2 HS5
                    refine Kt.G.one 7 { dst := some 54, op := Op.call { callee := Callee.value (Operand.func 12), args := #[Operand.tmp 47, Operand.tmp 53], argTypes := #[37, 26] }, type := 39, pos := "typist.go:68", after := #[{ on := 0, ground := Ground.data }, { on := 6, ground := Ground.data }, { on := 6, ground := Ground.chain }], guard := none } rfl (by kernel_rfl) (by rfl) (fun K hK => ?_)
                    go_simp
                    refine (HT4.out _ hHeld.bel _ _ _ HS6.out).mono ?_; rintro en x7 ⟨rfl, hb7⟩
                    refine hK.out _ _ (fun _ => hHeld.on hb7) (fun hHeld => ?_)
                    have hHeld := hHeld rfl
                    clear hK K
                    try simp only [Act.put, List.setIfInBounds_toArray, List.set_cons_zero, List.set_cons_succ]
                    replace rK := Kt.row_on hb7 rK
                    clear hb7 HS6
                    refine Kt.G.takeP 8 { dst := some 46, op := Op.move (Operand.tmp 54), type := 39, pos := "typist.go:68", after := #[{ on := 7, ground := Ground.data }], guard := none } ?_ (fun _ => hHeld) rfl (by kernel_rfl) (fun _ _ _ h => h) (by rfl) ?_ ?_
                    rotate_left
                    · intro w; go_simp; try with_reducible rfl
                    try simp only [Act.put, List.setIfInBounds_toArray, List.set_cons_zero, List.set_cons_succ]
                    refine Kt.G.takeP 9 { dst := some 55, op := Op.extract (Operand.tmp 46) 0, type := 37, pos := "typist.go:68", after := #[{ on := 8, ground := Ground.data }], guard := none } ?_ (fun _ => hHeld) rfl (by kernel_rfl) (fun _ _ _ h => h) (by rfl) ?_ ?_
                    rotate_left
                    · intro w; go_simp; try with_reducible rfl
                    try simp only [Act.put, List.setIfInBounds_toArray, List.set_cons_zero, List.set_cons_succ]
                    refine Kt.G.takeP 10 { dst := some 56, op := Op.extract (Operand.tmp 46) 1, type := 38, pos := "typist.go:68", after := #[{ on := 8, ground := Ground.data }, { on := 12, ground := Ground.gcOnly Departure.lateStores }], guard := none } ?_ (fun _ => hHeld) rfl (by kernel_rfl) (fun _ _ _ h => h) (by rfl) ?_ ?_
                    rotate_left
                    · intro w; go_simp; try with_reducible rfl
                    try simp only [Act.put, List.setIfInBounds_toArray, List.set_cons_zero, List.set_cons_succ]
                case' g32 =>
                  have hk0 : wc.heap.size ≤ y4.heap.size := hHeld.bel.size
                  try (have hne : ∀ k, (Value.slice A2 2 c2).ownBlock = some k → k ≠ y4.heap.size := fun k hk => by have := (HS2.out.lt k hk).2; omega)
                  try (have hne : ∀ k, (Value.slice A6 4 c6).ownBlock = some k → k ≠ y4.heap.size := fun k hk => by have := (HS6.out.lt k hk).2; omega)
                  replace HA4 := Lib.hid (HA4.out.on (Kt.balloc (Below.refl _ y4) (.cells #[.int .u64 0, .int .u64 0, .int .u64 0, .int .u64 0, .bool false, .int .i64 0, .int .i64 0, .int .i64 0, .string ⟨#[]⟩] 37)))
                  go_simp
                  refine hK.out _ _ (fun _ => hHeld.alloc _) (fun hHeld => ?_)
                  have hHeld := hHeld rfl
                  clear hK K
                  try simp only [Act.put, List.setIfInBounds_toArray, List.set_cons_zero, List.set_cons_succ]
                  have rK := heap_alloc_new y4 (.cells #[.int .u64 0, .int .u64 0, .int .u64 0, .int .u64 0, .bool false, .int .i64 0, .int .i64 0, .int .i64 0, .string ⟨#[]⟩] 37)
                  generalize hkZ : y4.heap.size = kZ at *
                  clear hkZ
                  generalize y4.alloc (.cells #[.int .u64 0, .int .u64 0, .int .u64 0, .int .u64 0, .bool false, .int .i64 0, .int .i64 0, .int .i64 0, .string ⟨#[]⟩] 37) = xk at *
                  refine Kt.G.one 1 { dst := some 48, op := Op.buildSlice 22 1 #[(0, Operand.const (Value.int IntKind.i64 57))], type := 22, pos := "typist.go:68", after := #[], guard := none } rfl (by kernel_rfl) (by rfl) (fun K hK => ?_)
                  go_simp
                  refine hK.out _ _ (fun _ => hHeld.alloc _) (fun hHeld => ?_)
                  have hHeld := hHeld rfl
                  clear hK K
                  try simp only [Act.put, List.setIfInBounds_toArray, List.set_cons_zero, List.set_cons_succ]
                  have HA1 := Lib.hid (Kt.Ar.new xk #[.int .i64 57] 3 1 1 rfl)
                  replace rK := Kt.row_on (Kt.balloc (Below.refl _ xk) (.cells #[.int .i64 57] 3)) rK
                  replace HA4 := Lib.hid (HA4.out.on (Kt.balloc (Below.refl _ xk) (.cells #[.int .i64 57] 3)))
                  generalize xk.alloc (.cells #[.int .i64 57] 3) = y1 at *
                  refine Kt.G.one 2 { dst := some 49, op := Op.call { callee := Callee.value (Operand.func 11), args := #[Operand.tmp 48], argTypes := #[22] }, type := 26, pos := "typist.go:68", after := #[{ on := 1, ground := Ground.data }], guard := none } rfl (by kernel_rfl) (by rfl) (fun K hK => ?_)
                  try (have hkk := lt_of_row0 rK)
                  have hszz := hHeld.bel.size
                  go_simp
                  refine (press1_calls _ _ _ _ HA1.out).mono ?_; rintro en x2 ⟨A2, c2, rfl, hs2, hb2⟩
                  refine hK.out _ _ (fun _ => hHeld.on hb2) (fun hHeld => ?_)
                  have hHeld := hHeld rfl
                  clear hK K
                  try simp only [Act.put, List.setIfInBounds_toArray, List.set_cons_zero, List.set_cons_succ]
                  replace rK := Kt.row_on (hb2) rK
                  replace HA4 := Lib.hid (HA4.out.on (hb2))
                  try (have hne : ∀ k, (Value.slice A2 2 c2).ownBlock = some k → k ≠ kZ := fun k hk => by have := (hs2.lt k hk).1; omega)
                  have HS2 := Lib.hid (hs2.mono hszz)
                  try clear hkk
                  clear hs2 hb2 hszz HA1
                  refine Kt.G.one 5 { dst := some 52, op := Op.call { callee := Callee.value (Operand.func 11), args := #[Operand.tmp 51], argTypes := #[22] }, type := 26, pos := "typist.go:68", after := #[{ on := 4, ground := Ground.data }, { on := 2, ground := Ground.chain }], guard := none } rfl (by kernel_rfl) (by rfl) (fun K hK => ?_)
                  try (have hkk := lt_of_row0 rK)
                  have hszz := hHeld.bel.size
                  go_simp
                  refine (press1_calls _ _ _ _ HA4.out).mono ?_; rintro en x5 ⟨A5, c5, rfl, hs5, hb5⟩
                  refine hK.out _ _ (fun _ => hHeld.on hb5) (fun hHeld => ?_)
                  have hHeld := hHeld rfl
                  clear hK K
                  try simp only [Act.put, List.setIfInBounds_toArray, List.set_cons_zero, List.set_cons_succ]
                  replace rK := Kt.row_on (hb5) rK
                  replace HS2 := Lib.hid (HS2.out.on (hb5))
                  have HS5 := Lib.hid (hs5.mono hszz)
                  try clear hkk
                  clear hs5 hb5 hszz HA4
                  refine Kt.G.one 6 { dst := some 53, op := Op.call { callee := Callee.builtin Builtin.append, args := #[Operand.tmp 49, Operand.tmp 52], argTypes := #[26, 26] }, type := 26, pos := "typist.go:68", after := #[{ on := 2, ground := Ground.data }, { on := 5, ground := Ground.data }, { on := 5, ground := Ground.chain }], guard := none } rfl (by kernel_rfl) (by rfl) (fun K hK => ?_)
                  refine Kt.wp_append_ar (.tmp 49) (.tmp 52) 26 rfl wc.heap.size 31 (.agg #[.int .i64 0, .int .i64 0, .bool false, .int .i64 0]) 4 32 infoK Tryd.underlying26 rfl (by decide) _ _ _ rfl HS2.out _ _ _ rfl (Kt.Ar.of_sl HS5.out) (by first | exact sks_one _ | (intro u hu; simp only [List.mem_cons, List.not_mem_nil, or_false] at hu; rcases hu with rfl | rfl | rfl | rfl | rfl | rfl | rfl | rfl <;> rfl)) (by decide) (by decide) hHeld.bel.size ?_
                  intro A6 c6 x6 hs6 hb6 hz6 hk6 hl6
                  replace rK := (hk6 kZ (lt_of_row0 rK) (fun e => hne _ e rfl)).trans rK
                  have hF6 := hHeld.onB hb6 (Nat.le_refl _) HRB.out
                  try clear hne
                  have HS6 : Hid (Kt.Sl x6 wc.heap.size 31 4 (.slice A6 4 c6) 4 (sks [⟨1, 57, true, 0⟩, ⟨1, 57, false, 0⟩, ⟨1, c, true, 0⟩, ⟨1, c, false, 0⟩])) := Lib.hid hs6
                  refine hK.out _ _ (fun _ => hF6) (fun hHeld => ?_)
                  have hHeld := hHeld rfl
                  clear hK K
                  try simp only [Act.put, List.setIfInBounds_toArray, List.set_cons_zero, List.set_cons_succ]
                  clear hs6 hb6 hz6 hk6 hl6 hF6
                  clear HS2 HS5
                  refine Kt.G.one 7 { dst := some 54, op := Op.call { callee := Callee.value (Operand.func 12), args := #[Operand.tmp 47, Operand.tmp 53], argTypes := #[37, 26] }, type := 39, pos := "typist.go:68", after := #[{ on := 0, ground := Ground.data }, { on := 6, ground := Ground.data }, { on := 6, ground := Ground.chain }], guard := none } rfl (by kernel_rfl) (by rfl) (fun K hK => ?_)
                  go_simp
                  refine (HT4.out _ hHeld.bel _ _ _ HS6.out).mono ?_; rintro en x7 ⟨rfl, hb7⟩
                  refine hK.out _ _ (fun _ => hHeld.on hb7) (fun hHeld => ?_)
                  have hHeld := hHeld rfl
                  clear hK K
                  try simp only [Act.put, List.setIfInBounds_toArray, List.set_cons_zero, List.set_cons_succ]
                  replace rK := Kt.row_on hb7 rK
                  clear hb7 HS6
                  refine Kt.G.takeP 8 { dst := some 46, op := Op.move (Operand.tmp 54), type := 39, pos := "typist.go:68", after := #[{ on := 7, ground := Ground.data }], guard := none } ?_ (fun _ => hHeld) rfl (by kernel_rfl) (fun _ _ _ h => h) (by rfl) ?_ ?_
                  rotate_left
                  · intro w; go_simp; try with_reducible rfl
                  try simp only [Act.put, List.setIfInBounds_toArray, List.set_cons_zero, List.set_cons_succ]
                  refine Kt.G.takeP 9 { dst := some 55, op := Op.extract (Operand.tmp 46) 0, type := 37, pos := "typist.go:68", after := #[{ on := 8, ground := Ground.data }], guard := none } ?_ (fun _ => hHeld) rfl (by kernel_rfl) (fun _ _ _ h => h) (by rfl) ?_ ?_
                  rotate_left
                  · intro w; go_simp; try with_reducible rfl
                  try simp only [Act.put, List.setIfInBounds_toArray, List.set_cons_zero, List.set_cons_succ]
                  refine Kt.G.takeP 10 { dst := some 56, op := Op.extract (Operand.tmp 46) 1, type := 38, pos := "typist.go:68", after := #[{ on := 8, ground := Ground.data }, { on := 12, ground := Ground.gcOnly Departure.lateStores }], guard := none } ?_ (fun _ => hHeld) rfl (by kernel_rfl) (fun _ _ _ h => h) (by rfl) ?_ ?_
                  rotate_left
                  · intro w; go_simp; try with_reducible rfl
                  try simp only [Act.put, List.setIfInBounds_toArray, List.set_cons_zero, List.set_cons_succ]
              case' g9 =>
                have hk0 : wc.heap.size ≤ x0.heap.size := hHeld.bel.size
                try (have hne : ∀ k, (Value.slice A2 2 c2).ownBlock = some k → k ≠ x0.heap.size := fun k hk => by have := (HS2.out.lt k hk).2; omega)
                try (have hne : ∀ k, (Value.slice A6 4 c6).ownBlock = some k → k ≠ x0.heap.size := fun k hk => by have := (HS6.out.lt k hk).2; omega)
                go_simp
                refine hK.out _ _ (fun _ => hHeld.alloc _) (fun hHeld => ?_)
                have hHeld := hHeld rfl
                clear hK K
                try simp only [Act.put, List.setIfInBounds_toArray, List.set_cons_zero, List.set_cons_succ]
                have rK := heap_alloc_new x0 (.cells #[.int .u64 0, .int .u64 0, .int .u64 0, .int .u64 0, .bool false, .int .i64 0, .int .i64 0, .int .i64 0, .string ⟨#[]⟩] 37)
                generalize hkZ : x0.heap.size = kZ at *
                clear hkZ
                generalize x0.alloc (.cells #[.int .u64 0, .int .u64 0, .int .u64 0, .int .u64 0, .bool false, .int .i64 0, .int .i64 0, .int .i64 0, .string ⟨#[]⟩] 37) = xk at *
                refine Kt.G.two 1 4 { dst := some 48, op := Op.buildSlice 22 1 #[(0, Operand.const (Value.int IntKind.i64 57))], type := 22, pos := "typist.go:68", after := #[], guard := none } { dst := some 51, op := Op.buildSlice 22 1 #[(0, Operand.tmp 50)], type := 22, pos := "typist.go:68", after := #[{ on := 3, ground := Ground.data }], guard := none } rfl rfl (by kernel_rfl) (by rfl) (by rfl) (fun K hK => ?g41) (fun K hK => ?g42)
                case' g41 =>
                  go_simp
                  refine hK.out _ _ (fun _ => hHeld.alloc _) (fun hHeld => ?_)
                  have hHeld := hHeld rfl
                  clear hK K
                  try simp only [Act.put, List.setIfInBounds_toArray, List.set_cons_zero, List.set_cons_succ]
                  have HA1 := Lib.hid (Kt.Ar.new xk #[.int .i64 57] 3 1 1 rfl)
                  replace rK := Kt.row_on (Kt.balloc (Below.refl _ xk) (.cells #[.int .i64 57] 3)) rK
                  generalize xk.alloc (.cells #[.int .i64 57] 3) = y1 at *
                  refine Kt.G.two 2 4 { dst := some 49, op := Op.call { callee := Callee.value (Operand.func 11), args := #[Operand.tmp 48], argTypes := #[22] }, type := 26, pos := "typist.go:68", after := #[{ on := 1, ground := Ground.data }], guard := none } { dst := some 51, op := Op.buildSlice 22 1 #[(0, Operand.tmp 50)], type := 22, pos := "typist.go:68", after := #[{ on := 3, ground := Ground.data }], guard := none } rfl rfl (by kernel_rfl) (by rfl) (by rfl) (fun K hK => ?g43) (fun K hK => ?g44)
                  case' g43 =>
                    try (have hkk := lt_of_row0 rK)
                    have hszz := hHeld.bel.size
                    go_simp
                    refine (press1_calls _ _ _ _ HA1.out).mono ?_; rintro en x2 ⟨A2, c2, rfl, hs2, hb2⟩
                    refine hK.out _ _ (fun _ => hHeld.on hb2) (fun hHeld => ?_)
                    have hHeld := hHeld rfl
                    clear hK K
                    try simp only [Act.put, List.setIfInBounds_toArray, List.set_cons_zero, List.set_cons_succ]
                    replace rK := Kt.row_on (hb2) rK
                    try (have hne : ∀ k, (Value.slice A2 2 c2).ownBlock = some k → k ≠ kZ := fun k hk => by have := (hs2.lt k hk).1; omega)
                    have HS2 := Lib.hid (hs2.mono hszz)
                    try clear hkk
                    clear hs2 hb2 hszz HA1
                    refine Kt.G.one 4 { dst := some 51, op := Op.buildSlice 22 1 #[(0, Operand.tmp 50)], type := 22, pos := "typist.go:68", after := #[{ on := 3, ground := Ground.data }], guard := none } rfl (by kernel_rfl) (by rfl) (fun K hK => ?_)
                    go_simp
                    refine hK.out _ _ (fun _ => hHeld.alloc _) (fun hHeld => ?_)
                    have hHeld := hHeld rfl
                    clear hK K
                    try simp only [Act.put, List.setIfInBounds_toArray, List.set_cons_zero, List.set_cons_succ]
                    have HA4 := Lib.hid (Kt.Ar.new x2 #[.int .i64 c] 3 1 1 rfl)
                    replace rK := Kt.row_on (Kt.balloc (Below.refl _ x2) (.cells #[.int .i64 c] 3)) rK
                    replace HS2 := Lib.hid (HS2.out.on (Kt.balloc (Below.refl _ x2) (.cells #[.int .i64 c] 3)))
                    generalize x2.alloc (.cells #[.int .i64 c] 3) = y4 at *
                    refine Kt.G.one 5 { dst := some 52, op := Op.call { callee := Callee.value (Operand.func 11), args := #[Operand.tmp 51], argTypes := #[22] }, type := 26, pos := "typist.go:68", after := #[{ on := 4, ground := Ground.data }, { on := 2, ground := Ground.chain }], guard := none } rfl (by kernel_rfl) (by rfl) (fun K hK => ?_)
                    try (have hkk := lt_of_row0 rK)
                    have hszz := hHeld.bel.size
                    go_simp
                    refine (press1_calls _ _ _ _ HA4.out).mono ?_; rintro en x5 ⟨A5, c5, rfl, hs5, hb5⟩
                    refine hK.out _ _ (fun _ => hHeld.on hb5) (fun hHeld => ?_)
                    have hHeld := hHeld rfl
                    clear hK K
                    try simp only [Act.put, List.setIfInBounds_toArray, List.set_cons_zero, List.set_cons_succ]
                    replace rK := Kt.row_on (hb5) rK
                    replace HS2 := Lib.hid (HS2.out.on (hb5))
                    have HS5 := Lib.hid (hs5.mono hszz)
                    try clear hkk
                    clear hs5 hb5 hszz HA4
                    refine Kt.G.one 6 { dst := some 53, op := Op.call { callee := Callee.builtin Builtin.append, args := #[Operand.tmp 49, Operand.tmp 52], argTypes := #[26, 26] }, type := 26, pos := "typist.go:68", after := #[{ on := 2, ground := Ground.data }, { on := 5, ground := Ground.data }, { on := 5, ground := Ground.chain }], guard := none } rfl (by kernel_rfl) (by rfl) (fun K hK => ?_)
                    refine Kt.wp_append_ar (.tmp 49) (.tmp 52) 26 rfl wc.heap.size 31 (.agg #[.int .i64 0, .int .i64 0, .bool false, .int .i64 0]) 4 32 infoK Tryd.underlying26 rfl (by decide) _ _ _ rfl HS2.out _ _ _ rfl (Kt.Ar.of_sl HS5.out) (by first | exact sks_one _ | (intro u hu; simp only [List.mem_cons, List.not_mem_nil, or_false] at hu; rcases hu with rfl | rfl | rfl | rfl | rfl | rfl | rfl | rfl <;> rfl)) (by decide) (by decide) hHeld.bel.size ?_
                    intro A6 c6 x6 hs6 hb6 hz6 hk6 hl6
                    replace rK := (hk6 kZ (lt_of_row0 rK) (fun e => hne _ e rfl)).trans rK
                    have hF6 := hHeld.onB hb6 (Nat.le_refl _) HRB.out
                    try clear hne
                    have HS6 : Hid (Kt.Sl x6 wc.heap.size 31 4 (.slice A6 4 c6) 4 (sks [⟨1, 57, true, 0⟩, ⟨1, 57, false, 0⟩, ⟨1, c, true, 0⟩, ⟨1, c, false, 0⟩])) := Lib.hid hs6
                    refine hK.out _ _ (fun _ => hF6) (fun hHeld => ?_)
                    have hHeld := hHeld rfl
                    clear hK K
                    try simp only [Act.put, List.setIfInBounds_toArray, List.set_cons_zero, List.set_cons_succ]
                    clear hs6 hb6 hz6 hk6 hl6 hF6
                    clear HS2 HS5
                    refine Kt.G.one 7 { dst := some 54, op := Op.call { callee := Callee.value (Operand.func 12), args := #[Operand.tmp 47, Operand.tmp 53], argTypes := #[37, 26] }, type := 39, pos := "typist.go:68", after := #[{ on := 0, ground := Ground.data }, { on := 6, ground := Ground.data }, { on := 6, ground := Ground.chain }], guard := none } rfl (by kernel_rfl) (by rfl) (fun K hK => ?_)
                    go_simp
                    refine (HT4.out _ hHeld.bel _ _ _ HS6.out).mono ?_; rintro en x7 ⟨rfl, hb7⟩
                    refine hK.out _ _ (fun _ => hHeld.on hb7) (fun hHeld => ?_)
                    have hHeld := hHeld rfl
                    clear hK K
                    try simp only [Act.put, List.setIfInBounds_toArray, List.set_cons_zero, List.set_cons_succ]
                    replace rK := Kt.row_on hb7 rK
                    clear hb7 HS6
                    refine Kt.G.takeP 8 { dst := some 46, op := Op.move (Operand.tmp 54), type := 39, pos := "typist.go:68", after := #[{ on := 7, ground := Ground.data }], guard := none } ?_ (fun _ => hHeld) rfl (by kernel_rfl) (fun _ _ _ h => h) (by rfl) ?_ ?_
                    rotate_left
                    · intro w; go_simp; try with_reducible rfl
                    try simp only [Act.put, List.setIfInBounds_toArray, List.set_cons_zero, List.set_cons_succ]
                    refine Kt.G.takeP 9 { dst := some 55, op := Op.extract (Operand.tmp 46) 0, type := 37, pos := "typist.go:68", after := #[{ on := 8, ground := Ground.data }], guard := none } ?_ (fun _ => hHeld) rfl (by kernel_rfl) (fun _ _ _ h => h) (by rfl) ?_ ?_
                    rotate_left
                    · intro w; go_simp; try with_reducible rfl
                    try simp only [Act.put, List.setIfInBounds_toArray, List.set_cons_zero, List.set_cons_succ]
                    refine Kt.G.takeP 10 { dst := some 56, op := Op.extract (Operand.tmp 46) 1, type := 38, pos := "typist.go:68", after := #[{ on := 8, ground := Ground.data }, { on := 12, ground := Ground.gcOnly Departure.lateStores }], guard := none } ?_ (fun _ => hHeld) rfl (by kernel_rfl) (fun _ _ _ h => h) (by rfl) ?_ ?_
                    rotate_left
                    · intro w; go_simp; try with_reducible rfl
                    try simp only [Act.put, List.setIfInBounds_toArray, List.set_cons_zero, List.set_cons_succ]
                  case' g44 =>
                    go_simp
                    refine hK.out _ _ (fun _ => hHeld.alloc _) (fun hHeld => ?_)
                    have hHeld := hHeld rfl
                    clear hK K
                    try simp only [Act.put, List.setIfInBounds_toArray, List.set_cons_zero, List.set_cons_succ]
                    have HA4 := Lib.hid (Kt.Ar.new y1 #[.int .i64 c] 3 1 1 rfl)
                    replace rK := Kt.row_on (Kt.balloc (Below.refl _ y1) (.cells #[.int .i64 c] 3)) rK
                    replace HA1 := Lib.hid (HA1.out.on (Kt.balloc (Below.refl _ y1) (.cells #[.int .i64 c] 3)))
                    generalize y1.alloc (.cells #[.int .i64 c] 3) = y4 at *
                    refine Kt.G.one 2 { dst := some 49, op := Op.call { callee := Callee.value (Operand.func 11), args := #[Operand.tmp 48], argTypes := #[22] }, type := 26, pos := "typist.go:68", after := #[{ on := 1, ground := Ground.data }], guard := none } rfl (by kernel_rfl) (by rfl) (fun K hK => ?_)
                    try (have hkk := lt_of_row0 rK)
                    have hszz := hHeld.bel.size
                    go_simp
                    refine (press1_calls _ _ _ _ HA1.out).mono ?_; rintro en x2 ⟨A2, c2, rfl, hs2, hb2⟩
                    refine hK.out _ _ (fun _ => hHeld.on hb2) (fun hHeld => ?_)
                    have hHeld := hHeld rfl
                    clear hK K
                    try simp only [Act.put, List.setIfInBounds_toArray, List.set_cons_zero, List.set_cons_succ]
                    replace rK := Kt.row_on (hb2) rK
                    replace HA4 := Lib.hid (HA4.out.on (hb2))
                    try (have hne : ∀ k, (Value.slice A2 2 c2).ownBlock = some k → k ≠ kZ := fun k hk => by have := (hs2.lt k hk).1; omega)
                    have HS2 := Lib.hid (hs2.mono hszz)
                    try clear hkk
                    clear hs2 hb2 hszz HA1
                    refine Kt.G.one 5 { dst := some 52, op := Op.call { callee := Callee.value (Operand.func 11), args := #[Operand.tmp 51], argTypes := #[22] }, type := 26, pos := "typist.go:68", after := #[{ on := 4, ground := Ground.data }, { on := 2, ground := Ground.chain }], guard := none } rfl (by kernel_rfl) (by rfl) (fun K hK => ?_)
                    try (have hkk := lt_of_row0 rK)
                    have hszz := hHeld.bel.size
                    go_simp
                    refine (press1_calls _ _ _ _ HA4.out).mono ?_; rintro en x5 ⟨A5, c5, rfl, hs5, hb5⟩
                    refine hK.out _ _ (fun _ => hHeld.on hb5) (fun hHeld => ?_)
                    have hHeld := hHeld rfl
                    clear hK K
                    try simp only [Act.put, List.setIfInBounds_toArray, List.set_cons_zero, List.set_cons_succ]
                    replace rK := Kt.row_on (hb5) rK
                    replace HS2 := Lib.hid (HS2.out.on (hb5))
                    have HS5 := Lib.hid (hs5.mono hszz)
                    try clear hkk
                    clear hs5 hb5 hszz HA4
                    refine Kt.G.one 6 { dst := some 53, op := Op.call { callee := Callee.builtin Builtin.append, args := #[Operand.tmp 49, Operand.tmp 52], argTypes := #[26, 26] }, type := 26, pos := "typist.go:68", after := #[{ on := 2, ground := Ground.data }, { on := 5, ground := Ground.data }, { on := 5, ground := Ground.chain }], guard := none } rfl (by kernel_rfl) (by rfl) (fun K hK => ?_)
                    refine Kt.wp_append_ar (.tmp 49) (.tmp 52) 26 rfl wc.heap.size 31 (.agg #[.int .i64 0, .int .i64 0, .bool false, .int .i64 0]) 4 32 infoK Tryd.underlying26 rfl (by decide) _ _ _ rfl HS2.out _ _ _ rfl (Kt.Ar.of_sl HS5.out) (by first | exact sks_one _ | (intro u hu; simp only [List.mem_cons, List.not_mem_nil, or_false] at hu; rcases hu with rfl | rfl | rfl | rfl | rfl | rfl | rfl | rfl <;> rfl)) (by decide) (by decide) hHeld.bel.size ?_
                    intro A6 c6 x6 hs6 hb6 hz6 hk6 hl6
                    replace rK := (hk6 kZ (lt_of_row0 rK) (fun e => hne _ e rfl)).trans rK
                    have hF6 := hHeld.onB hb6 (Nat.le_refl _) HRB.out
                    try clear hne
                    have HS6 : Hid (Kt.Sl x6 wc.heap.size 31 4 (.slice A6 4 c6) 4 (sks [⟨1, 57, true, 0⟩, ⟨1, 57, false, 0⟩, ⟨1, c, true, 0⟩, ⟨1, c, false, 0⟩])) := Lib.hid hs6
                    refine hK.out _ _ (fun _ => hF6) (fun hHeld => ?_)
                    have hHeld := hHeld rfl
                    clear hK K
                    try simp only [Act.put, List.setIfInBounds_toArray, List.set_cons_zero, List.set_cons_succ]
                    clear hs6 hb6 hz6 hk6 hl6 hF6
                    clear HS2 HS5
                    refine Kt.G.one 7 { dst := some 54, op := Op.call { callee := Callee.value (Operand.func 12), args := #[Operand.tmp 47, Operand.tmp 53], argTypes := #[37, 26] }, type := 39, pos := "typist.go:68", after := #[{ on := 0, ground := Ground.data }, { on := 6, ground := Ground.data }, { on := 6, ground := Ground.chain }], guard := none } rfl (by kernel_rfl) (by rfl) (fun K hK => ?_)
                    go_simp
                    refine (HT4.out _ hHeld.bel _ _ _ HS6.out).mono ?_; rintro en x7 ⟨rfl, hb7⟩
                    refine hK.out _ _ (fun _ => hHeld.on hb7) (fun hHeld => ?_)
                    have hHeld := hHeld rfl
                    clear hK K
                    try simp only [Act.put, List.setIfInBounds_toArray, List.set_cons_zero, List.set_cons_succ]
                    replace rK := Kt.row_on hb7 rK
                    clear hb7 HS6
                    refine Kt.G.takeP 8 { dst := some 46, op := Op.move (Operand.tmp 54), type := 39, pos := "typist.go:68", after := #[{ on := 7, ground := Ground.data }], guard := none } ?_ (fun _ => hHeld) rfl (by kernel_rfl) (fun _ _ _ h => h) (by rfl) ?_ ?_
                    rotate_left
                    · intro w; go_simp; try with_reducible rfl
                    try simp only [Act.put, List.setIfInBounds_toArray, List.set_cons_zero, List.set_cons_succ]
                    refine Kt.G.takeP 9 { dst := some 55, op := Op.extract (Operand.tmp 46) 0, type := 37, pos := "typist.go:68", after := #[{ on := 8, ground := Ground.data }], guard := none } ?_ (fun _ => hHeld) rfl (by kernel_rfl) (fun _ _ _ h => h) (by rfl) ?_ ?_
                    rotate_left
                    · intro w; go_simp; try with_reducible rfl
                    try simp only [Act.put, List.setIfInBounds_toArray, List.set_cons_zero, List.set_cons_succ]
                    refine Kt.G.takeP 10 { dst := some 56, op := Op.extract (Operand.tmp 46) 1, type := 38, pos := "typist.go:68", after := #[{ on := 8, ground := Ground.data }, { on := 12, ground := Ground.gcOnly Departure.lateStores }], guard := none } ?_ (fun _ => hHeld) rfl (by kernel_rfl) (fun _ _ _ h => h) (by rfl) ?_ ?_
                    rotate_left
                    · intro w; go_simp; try with_reducible rfl
                    try simp only [Act.put, List.setIfInBounds_toArray, List.set_cons_zero, List.set_cons_succ]
                case' g42 =>
                  go_simp
                  refine hK.out _ _ (fun _ => hHeld.alloc _) (fun hHeld => ?_)
                  have hHeld := hHeld rfl
                  clear hK K
                  try simp only [Act.put, List.setIfInBounds_toArray, List.set_cons_zero, List.set_cons_succ]
                  have HA4 := Lib.hid (Kt.Ar.new xk #[.int .i64 c] 3 1 1 rfl)
                  replace rK := Kt.row_on (Kt.balloc (Below.refl _ xk) (.cells #[.int .i64 c] 3)) rK
                  generalize xk.alloc (.cells #[.int .i64 c] 3) = y4 at *
                  refine Kt.G.one 1 { dst := some 48, op := Op.buildSlice 22 1 #[(0, Operand.const (Value.int IntKind.i64 57))], type := 22, pos := "typist.go:68", after := #[], guard := none } rfl (by kernel_rfl) (by rfl) (fun K hK => ?_)
                  go_simp
                  refine hK.out _ _ (fun _ => hHeld.alloc _) (fun hHeld => ?_)
                  have hHeld := hHeld rfl
                  clear hK K
                  try simp only [Act.put, List.setIfInBounds_toArray, List.set_cons_zero, List.set_cons_succ]
                  have HA1 := Lib.hid (Kt.Ar.new y4 #[.int .i64 57] 3 1 1 rfl)
                  replace rK := Kt.row_on (Kt.balloc (Below.refl _ y4) (.cells #[.int .i64 57] 3)) rK
                  replace HA4 := Lib.hid (HA4.out.on (Kt.balloc (Below.refl _ y4) (.cells #[.int .i64 57] 3)))
                  generalize y4.alloc (.cells #[.int .i64 57] 3) = y1 at *
                  refine Kt.G.one 2 { dst := some 49, op := Op.call { callee := Callee.value (Operand.func 11), args := #[Operand.tmp 48], argTypes := #[22] }, type := 26, pos := "typist.go:68", after := #[{ on := 1, ground := Ground.data }], guard := none } rfl (by kernel_rfl) (by rfl) (fun K hK => ?_)
                  try (have hkk := lt_of_row0 rK)
                  have hszz := hHeld.bel.size
                  go_simp
                  refine (press1_calls _ _ _ _ HA1.out).mono ?_; rintro en x2 ⟨A2, c2, rfl, hs2, hb2⟩
                  refine hK.out _ _ (fun _ => hHeld.on hb2) (fun hHeld => ?_)
                  have hHeld := hHeld rfl
                  clear hK K
                  try simp only [Act.put, List.setIfInBounds_toArray, List.set_cons_zero, List.set_cons_succ]
                  replace rK := Kt.row_on (hb2) rK
                  replace HA4 := Lib.hid (HA4.out.on (hb2))
                  try (have hne : ∀ k, (Value.slice A2 2 c2).ownBlock = some k → k ≠ kZ := fun k hk => by have := (hs2.lt k hk).1; omega)
                  have HS2 := Lib.hid (hs2.mono hszz)
                  try clear hkk
                  clear hs2 hb2 hszz HA1
                  refine Kt.G.one 5 { dst := some 52, op := Op.call { callee := Callee.value (Operand.func 11), args := #[Operand.tmp 51], argTypes := #[22] }, type := 26, pos := "typist.go:68", after := #[{ on := 4, ground := Ground.data }, { on := 2, ground := Ground.chain }], guard := none } rfl (by kernel_rfl) (by rfl) (fun K hK => ?_)
                  try (have hkk := lt_of_row0 rK)
                  have hszz := hHeld.bel.size
                  go_simp
                  refine (press1_calls _ _ _ _ HA4.out).mono ?_; rintro en x5 ⟨A5, c5, rfl, hs5, hb5⟩
                  refine hK.out _ _ (fun _ => hHeld.on hb5) (fun hHeld => ?_)
                  have hHeld := hHeld rfl
                  clear hK K
                  try simp only [Act.put, List.setIfInBounds_toArray, List.set_cons_zero, List.set_cons_succ]
                  replace rK := Kt.row_on (hb5) rK
                  replace HS2 := Lib.hid (HS2.out.on (hb5))
                  have HS5 := Lib.hid (hs5.mono hszz)
                  try clear hkk
                  clear hs5 hb5 hszz HA4
                  refine Kt.G.one 6 { dst := some 53, op := Op.call { callee := Callee.builtin Builtin.append, args := #[Operand.tmp 49, Operand.tmp 52], argTypes := #[26, 26] }, type := 26, pos := "typist.go:68", after := #[{ on := 2, ground := Ground.data }, { on := 5, ground := Ground.data }, { on := 5, ground := Ground.chain }], guard := none } rfl (by kernel_rfl) (by rfl) (fun K hK => ?_)
                  refine Kt.wp_append_ar (.tmp 49) (.tmp 52) 26 rfl wc.heap.size 31 (.agg #[.int .i64 0, .int .i64 0, .bool false, .int .i64 0]) 4 32 infoK Tryd.underlying26 rfl (by decide) _ _ _ rfl HS2.out _ _ _ rfl (Kt.Ar.of_sl HS5.out) (by first | exact sks_one _ | (intro u hu; simp only [List.mem_cons, List.not_mem_nil, or_false] at hu; rcases hu with rfl | rfl | rfl | rfl | rfl | rfl | rfl | rfl <;> rfl)) (by decide) (by decide) hHeld.bel.size ?_
                  intro A6 c6 x6 hs6 hb6 hz6 hk6 hl6
                  replace rK := (hk6 kZ (lt_of_row0 rK) (fun e => hne _ e rfl)).trans rK
                  have hF6 := hHeld.onB hb6 (Nat.le_refl _) HRB.out
                  try clear hne
                  have HS6 : Hid (Kt.Sl x6 wc.heap.size 31 4 (.slice A6 4 c6) 4 (sks [⟨1, 57, true, 0⟩, ⟨1, 57, false, 0⟩, ⟨1, c, true, 0⟩, ⟨1, c, false, 0⟩])) := Lib.hid hs6
                  refine hK.out _ _ (fun _ => hF6) (fun hHeld => ?_)
                  have hHeld := hHeld rfl
                  clear hK K
                  try simp only [Act.put, List.setIfInBounds_toArray, List.set_cons_zero, List.set_cons_succ]
                  clear hs6 hb6 hz6 hk6 hl6 hF6
                  clear HS2 HS5
                  refine Kt.G.one 7 { dst := some 54, op := Op.call { callee := Callee.value (Operand.func 12), args := #[Operand.tmp 47, Operand.tmp 53], argTypes := #[37, 26] }, type := 39, pos := "typist.go:68", after := #[{ on := 0, ground := Ground.data }, { on := 6, ground := Ground.data }, { on := 6, ground := Ground.chain }], guard := none } rfl (by kernel_rfl) (by rfl) (fun K hK => ?_)
                  go_simp
                  refine (HT4.out _ hHeld.bel _ _ _ HS6.out).mono ?_; rintro en x7 ⟨rfl, hb7⟩
                  refine hK.out _ _ (fun _ => hHeld.on hb7) (fun hHeld => ?_)
                  have hHeld := hHeld rfl
                  clear hK K
                  try simp only [Act.put, List.setIfInBounds_toArray, List.set_cons_zero, List.set_cons_succ]
                  replace rK := Kt.row_on hb7 rK
                  clear hb7 HS6
                  refine Kt.G.takeP 8 { dst := some 46, op := Op.move (Operand.tmp 54), type := 39, pos := "typist.go:68", after := #[{ on := 7, ground := Ground.data }], guard := none } ?_ (fun _ => hHeld) rfl (by kernel_rfl) (fun _ _ _ h => h) (by rfl) ?_ ?_
                  rotate_left
                  · intro w; go_simp; try with_reducible rfl
                  try simp only [Act.put, List.setIfInBounds_toArray, List.set_cons_zero, List.set_cons_succ]
                  refine Kt.G.takeP 9 { dst := some 55, op := Op.extract (Operand.tmp 46) 0, type := 37, pos := "typist.go:68", after := #[{ on := 8, ground := Ground.data }], guard := none } ?_ (fun _ => hHeld) rfl (by kernel_rfl) (fun _ _ _ h => h) (by rfl) ?_ ?_
                  rotate_left
                  · intro w; go_simp; try with_reducible rfl
                  try simp only [Act.put, List.setIfInBounds_toArray, List.set_cons_zero, List.set_cons_succ]
                  refine Kt.G.takeP 10 { dst := some 56, op := Op.extract (Operand.tmp 46) 1, type := 38, pos := "typist.go:68", after := #[{ on := 8, ground := Ground.data }, { on := 12, ground := Ground.gcOnly Departure.lateStores }], guard := none } ?_ (fun _ => hHeld) rfl (by kernel_rfl) (fun _ _ _ h => h) (by rfl) ?_ ?_
                  rotate_left
                  · intro w; go_simp; try with_reducible rfl
                  try simp only [Act.put, List.setIfInBounds_toArray, List.set_cons_zero, List.set_cons_succ]
              all_goals
                refine Kt.G.one 12 { dst := none, op := Op.store 37 (Operand.tmp 7) (Operand.tmp 55), type := 0, pos := "typist.go:68", after := #[{ on := 11, ground := Ground.data }, { on := 9, ground := Ground.data }, { on := 7, ground := Ground.chain }, { on := 0, ground := Ground.phase }, { on := 1, ground := Ground.phase }, { on := 2, ground := Ground.phase }, { on := 3, ground := Ground.phase }, { on := 4, ground := Ground.phase }, { on := 5, ground := Ground.phase }, { on := 6, ground := Ground.phase }, { on := 7, ground := Ground.phase }, { on := 8, ground := Ground.phase }, { on := 9, ground := Ground.phase }, { on := 10, ground := Ground.textOnly Departure.lateStores }, { on := 11, ground := Ground.phase }], guard := none } rfl (by kernel_rfl) (by rfl) (fun K hK => ?_)
                have cK := fun i => cell_of_row _ _ i _ _ _ rK; have fK := fun i => frozen_of_row _ _ i _ _ rK
                go_simp
                refine hK.out _ _ (Kt.G.late (by kernel_rfl)) (fun _ => ?_)
                clear hK K
                try simp only [Act.put, List.setIfInBounds_toArray, List.set_cons_zero, List.set_cons_succ]
                refine Kt.G.takeP 13 { dst := some 8, op := Op.assign (Operand.tmp 56), type := 38, pos := "typist.go:68", after := #[{ on := 10, ground := Ground.data }, { on := 12, ground := Ground.chain }, { on := 0, ground := Ground.phase }, { on := 1, ground := Ground.phase }, { on := 2, ground := Ground.phase }, { on := 3, ground := Ground.phase }, { on := 4, ground := Ground.phase }, { on := 5, ground := Ground.phase }, { on := 6, ground := Ground.phase }, { on := 7, ground := Ground.phase }, { on := 8, ground := Ground.phase }, { on := 9, ground := Ground.phase }, { on := 10, ground := Ground.phase }, { on := 11, ground := Ground.phase }, { on := 12, ground := Ground.phase }], guard := none } ?_ (Kt.G.late (by kernel_rfl)) rfl (by kernel_rfl) (fun _ _ _ h => h) (by rfl) ?_ ?_
                rotate_left
                · intro w; go_simp; try with_reducible rfl
                try simp only [Act.put, List.setIfInBounds_toArray, List.set_cons_zero, List.set_cons_succ]
                refine Kt.G.done (by kernel_rfl) (NoPanic.normal ?_) _
                go_wp2_with fail
                go_meet
                case rel =>
                  exact ⟨kZ, rfl, rfl, Kt.fill [.int .u64 (B.held.a.toNat : Int), .int .u64 (B.held.b.toNat : Int), .int .u64 (B.held.c.toNat : Int), .int .u64 (B.held.d.toNat : Int), .bool B.caps, .int .i64 B.dead, .int .i64 B.last, .int .i64 B.wait, .string B.text] rK rfl, set9 hHeld.bel hk0 [.int .u64 (B.held.a.toNat : Int), .int .u64 (B.held.b.toNat : Int), .int .u64 (B.held.c.toNat : Int), .int .u64 (B.held.d.toNat : Int), .bool B.caps, .int .i64 B.dead, .int .i64 B.last, .int .i64 B.wait, .string B.text]⟩
              -- END4
            case rest =>
              obtain ⟨kB, rfl, rfl, hrb, hbb⟩ := hcut
              have HW6 := Lib.hid (show wc.heap[w0.heap.size]? = some (.cells t.cs 37 (0, 0)) ∧ wc.heap[kA]? = some (.cells t.cs 37 (0, 0)) ∧ wc.heap[kB]? = some (.cells B.cs 37 (0, 0)) ∧ Below w0.heap.size w0 wc from ⟨Kt.row_on hbb HW5.out.1, Kt.row_on hbb HW5.out.2.1, hrb, Kt.bthen HW5.out.2.2 hbb⟩)
              clear hrb hbb HW5 HT4 HRB
              have HT6 : Hid (∀ W, Below wc.heap.size wc W → ∀ A cap K, Kt.Sl W K 31 4 (.slice A 3 cap) 3 (sks [⟨1, 225, true, 0⟩, ⟨1, c, true, 0⟩, ⟨1, c, false, 0⟩]) → Calls Tryd.prog 12 #[t.v, .slice A 3 cap] W fun e w' => e = .returned (.tuple #[C.v, .int .i64 0]) ∧ Below W.heap.size W w') := Lib.hid (HTY.out wc HW6.out.2.2.2 ([(⟨1, 225, true, 0⟩ : Sk)] ++ pressL [c]) C HRES.out.2.1)
              have HRB : Hid (∀ r ∈ [(w0.heap.size, #[.int .u64 (t.held.a.toNat : Int), .int .u64 (t.held.b.toNat : Int), .int .u64 (t.held.c.toNat : Int), .int .u64 (t.held.d.toNat : Int), .bool t.caps, .int .i64 t.dead, .int .i64 t.last, .int .i64 t.wait, .string t.text], 37)], (r : Nat × Array Value × TypeId).1 < wc.heap.size) := Lib.hid (by
                intro r hr
                rw [List.mem_singleton] at hr
                subst hr
                exact lt_of_row0 HW6.out.1)
              unfold St.v at HT6
              unfold St.cs at HT6
              have HS9 := Lib.hid (Kt.Sl.fresh wc #[.int .i64 1, .int .i64 225, .bool true, .int .i64 0] 31 1 4 rfl (by decide))
              have HB9 := Lib.hid (Kt.balloc (Below.refl _ wc) (.cells #[.int .i64 1, .int .i64 225, .bool true, .int .i64 0] 31))
              have HR9 := Lib.hid (Kt.row_on HB9.out HW6.out.1)
              go_upto_region 6 with (fail)
              refine Kt.fold (fun X => Hid (Below wc.heap.size wc X ∧ X.heap[w0.heap.size]? = some (.cells t.cs 37 (0, 0)) ∧ Kt.Sl X wc.heap.size 31 4 (.slice (some ⟨wc.heap.size, 0, none⟩) 1 1) 1 (sks [⟨1, 225, true, 0⟩]))) (Lib.hid ⟨HB9.out, HR9.out, HS9.out⟩) (fun w7 H7 => ?_)
              clear HS9 HB9 HR9
              have HB9 := Lib.hid H7.out.1
              have HR9 := Lib.hid H7.out.2.1
              have HS9 := Lib.hid H7.out.2.2
              clear H7
              go_cut [10, 11] from 60 to 69 (fun p e wx => ∃ kZ, p = .pointer (some ⟨kZ, 0, none⟩) ∧ e = .int .i64 0 ∧ wx.heap[kZ]? = some (.cells C.cs 37 (0, 0)) ∧ Below wc.heap.size wc wx)
              case first =>
                -- REGION6
                have HF := (Kt.Fb.nil wc (HB9.out)).add HR9.out
                refine Kt.G.start 11 (Kt.Fb wc [(w0.heap.size, #[.int .u64 (t.held.a.toNat : Int), .int .u64 (t.held.b.toNat : Int), .int .u64 (t.held.c.toNat : Int), .int .u64 (t.held.d.toNat : Int), .bool t.caps, .int .i64 t.dead, .int .i64 t.last, .int .i64 t.wait, .string t.text], 37)]) (by kernel_rfl) HF.drew (fun hHeld => ?_)
                clear HF
                replace HS9 := Lib.hid (HS9.out.on ((Below.refl _ w7).drew))
                generalize w7.drew = x0 at *
                refine Kt.G.take 0 { dst := some 61, op := Op.load 37 (Operand.tmp 2), type := 37, pos := "typist.go:70", after := #[], guard := none } ?_ hHeld rfl (by kernel_rfl) (fun _ _ _ h => h) (by rfl) ?_ ?_
                rotate_left
                · intro w hSw; have r0 := hSw.row (w0.heap.size, #[.int .u64 (t.held.a.toNat : Int), .int .u64 (t.held.b.toNat : Int), .int .u64 (t.held.c.toNat : Int), .int .u64 (t.held.d.toNat : Int), .bool t.caps, .int .i64 t.dead, .int .i64 t.last, .int .i64 t.wait, .string t.text], 37) (by simp); have c0 := fun i => cell_of_row _ _ i _ _ _ r0; dsimp only at *; go_simp; try with_reducible rfl
                try simp only [Act.put, List.setIfInBounds_toArray, List.set_cons_zero, List.set_cons_succ]
                refine Kt.G.takeP 1 { dst := some 62, op := Op.move (Operand.tmp 9), type := 26, pos := "typist.go:70", after := #[], guard := none } ?_ (fun _ => hHeld) rfl (by kernel_rfl) (fun _ _ _ h => h) (by rfl) ?_ ?_
                rotate_left
                · intro w; go_simp; try with_reducible rfl
                try simp only [Act.put, List.setIfInBounds_toArray, List.set_cons_zero, List.set_cons_succ]
                refine Kt.G.takeP 2 { dst := some 63, op := Op.move (Operand.tmp 1), type := 3, pos := "typist.go:70", after := #[], guard := none } ?_ (fun _ => hHeld) rfl (by kernel_rfl) (fun _ _ _ h => h) (by rfl) ?_ ?_
                rotate_left
                · intro w; go_simp; try with_reducible rfl
                try simp only [Act.put, List.setIfInBounds_toArray, List.set_cons_zero, List.set_cons_succ]
                refine Kt.G.two 3 10 { dst := some 64, op := Op.buildSlice 22 1 #[(0, Operand.tmp 63)], type := 22, pos := "typist.go:70", after := #[{ on := 2, ground := Ground.data }], guard := none } { dst := some 10, op := Op.alloc 37, type := 0, pos := "typist.go:70", after := #[], guard := none } rfl rfl (by kernel_rfl) (by rfl) (by rfl) (fun K hK => ?g45) (fun K hK => ?g46)
                case' g45 =>
                  go_simp
                  refine hK.out _ _ (fun _ => hHeld.alloc _) (fun hHeld => ?_)
                  have hHeld := hHeld rfl
                  clear hK K
                  try simp only [Act.put, List.setIfInBounds_toArray, List.set_cons_zero, List.set_cons_succ]
                  have HA3 := Lib.hid (Kt.Ar.new x0 #[.int .i64 c] 3 1 1 rfl)
                  replace HS9 := Lib.hid (HS9.out.on (Kt.balloc (Below.refl _ x0) (.cells #[.int .i64 c] 3)))
                  generalize x0.alloc (.cells #[.int .i64 c] 3) = y3 at *
                  refine Kt.G.two 4 10 { dst := some 65, op := Op.call { callee := Callee.value (Operand.func 11), args := #[Operand.tmp 64], argTypes := #[22] }, type := 26, pos := "typist.go:70", after := #[{ on := 3, ground := Ground.data }], guard := none } { dst := some 10, op := Op.alloc 37, type := 0, pos := "typist.go:70", after := #[], guard := none } rfl rfl (by kernel_rfl) (by rfl) (by rfl) (fun K hK => ?g47) (fun K hK => ?g48)
                  case' g47 =>
                    try (have hkk := lt_of_row0 rK)
                    have hszz := hHeld.bel.size
                    go_simp
                    refine (press1_calls _ _ _ _ HA3.out).mono ?_; rintro en x4 ⟨A4, c4, rfl, hs4, hb4⟩
                    refine hK.out _ _ (fun _ => hHeld.on hb4) (fun hHeld => ?_)
                    have hHeld := hHeld rfl
                    clear hK K
                    try simp only [Act.put, List.setIfInBounds_toArray, List.set_cons_zero, List.set_cons_succ]
                    replace HS9 := Lib.hid (HS9.out.on (hb4))
                    have HS4 := Lib.hid (hs4.mono hszz)
                    try clear hkk
                    clear hs4 hb4 hszz HA3
                    refine Kt.G.two 5 10 { dst := some 66, op := Op.call { callee := Callee.builtin Builtin.append, args := #[Operand.tmp 62, Operand.tmp 65], argTypes := #[26, 26] }, type := 26, pos := "typist.go:70", after := #[{ on := 1, ground := Ground.data }, { on := 4, ground := Ground.data }, { on := 4, ground := Ground.chain }], guard := none } { dst := some 10, op := Op.alloc 37, type := 0, pos := "typist.go:70", after := #[], guard := none } rfl rfl (by kernel_rfl) (by rfl) (by rfl) (fun K hK => ?g49) (fun K hK => ?g50)
                    case' g49 =>
                      refine Kt.wp_append_ar (.tmp 62) (.tmp 65) 26 rfl wc.heap.size 31 (.agg #[.int .i64 0, .int .i64 0, .bool false, .int .i64 0]) 4 32 infoK Tryd.underlying26 rfl (by decide) _ _ _ rfl HS9.out _ _ _ rfl (Kt.Ar.of_sl HS4.out) (by first | exact sks_one _ | (intro u hu; simp only [List.mem_cons, List.not_mem_nil, or_false] at hu; rcases hu with rfl | rfl | rfl | rfl | rfl | rfl | rfl | rfl <;> rfl)) (by decide) (by decide) hHeld.bel.size ?_
                      intro A5 c5 x5 hs5 hb5 hz5 hk5 hl5
                      have hF5 := hHeld.onB hb5 (Nat.le_refl _) HRB.out
                      try clear hne
                      have HS5 : Hid (Kt.Sl x5 wc.heap.size 31 4 (.slice A5 3 c5) 3 (sks [⟨1, 225, true, 0⟩, ⟨1, c, true, 0⟩, ⟨1, c, false, 0⟩])) := Lib.hid hs5
                      refine hK.out _ _ (fun _ => hF5) (fun hHeld => ?_)
                      have hHeld := hHeld rfl
                      clear hK K
                      try simp only [Act.put, List.setIfInBounds_toArray, List.set_cons_zero, List.set_cons_succ]
                      clear hs5 hb5 hz5 hk5 hl5 hF5
                      clear HS9 HS4
                      refine Kt.G.two 6 10 { dst := some 67, op := Op.call { callee := Callee.value (Operand.func 12), args := #[Operand.tmp 61, Operand.tmp 66], argTypes := #[37, 26] }, type := 39, pos := "typist.go:70", after := #[{ on := 0, ground := Ground.data }, { on := 5, ground := Ground.data }, { on := 5, ground := Ground.chain }], guard := none } { dst := some 10, op := Op.alloc 37, type := 0, pos := "typist.go:70", after := #[], guard := none } rfl rfl (by kernel_rfl) (by rfl) (by rfl) (fun K hK => ?g51) (fun K hK => ?g52)
                      case' g51 =>
                        go_simp
                        refine (HT6.out _ hHeld.bel _ _ _ HS5.out).mono ?_; rintro en x6 ⟨rfl, hb6⟩
                        refine hK.out _ _ (fun _ => hHeld.on hb6) (fun hHeld => ?_)
                        have hHeld := hHeld rfl
                        clear hK K
                        try simp only [Act.put, List.setIfInBounds_toArray, List.set_cons_zero, List.set_cons_succ]
                        clear hb6 HS5
                        refine Kt.G.takeP 7 { dst := some 60, op := Op.move (Operand.tmp 67), type := 39, pos := "typist.go:70", after := #[{ on := 6, ground := Ground.data }], guard := none } ?_ (fun _ => hHeld) rfl (by kernel_rfl) (fun _ _ _ h => h) (by rfl) ?_ ?_
                        rotate_left
                        · intro w; go_simp; try with_reducible rfl
                        try simp only [Act.put, List.setIfInBounds_toArray, List.set_cons_zero, List.set_cons_succ]
                        refine Kt.G.takeP 8 { dst := some 68, op := Op.extract (Operand.tmp 60) 0, type := 37, pos := "typist.go:70", after := #[{ on := 7, ground := Ground.data }], guard := none } ?_ (fun _ => hHeld) rfl (by kernel_rfl) (fun _ _ _ h => h) (by rfl) ?_ ?_
                        rotate_left
                        · intro w; go_simp; try with_reducible rfl
                        try simp only [Act.put, List.setIfInBounds_toArray, List.set_cons_zero, List.set_cons_succ]
                        refine Kt.G.takeP 9 { dst := some 69, op := Op.extract (Operand.tmp 60) 1, type := 38, pos := "typist.go:70", after := #[{ on := 7, ground := Ground.data }, { on := 11, ground := Ground.gcOnly Departure.lateStores }], guard := none } ?_ (fun _ => hHeld) rfl (by kernel_rfl) (fun _ _ _ h => h) (by rfl) ?_ ?_
                        rotate_left
                        · intro w; go_simp; try with_reducible rfl
                        try simp only [Act.put, List.setIfInBounds_toArray, List.set_cons_zero, List.set_cons_succ]
                        refine Kt.G.one 10 { dst := some 10, op := Op.alloc 37, type := 0, pos := "typist.go:70", after := #[], guard := none } rfl (by kernel_rfl) (by rfl) (fun K hK => ?_)
                        have hk0 : wc.heap.size ≤ x6.heap.size := hHeld.bel.size
                        try (have hne : ∀ k, (Value.slice A5 3 c5).ownBlock = some k → k ≠ x6.heap.size := fun k hk => by have := (HS5.out.lt k hk).2; omega)
                        try (have hne : ∀ k, (Value.slice (some ⟨wc.heap.size, 0, none⟩) 1 1).ownBlock = some k → k ≠ x6.heap.size := fun k hk => by have := (HS9.out.lt k hk).2; omega)
                        go_simp
                        refine hK.out _ _ (fun _ => hHeld.alloc _) (fun hHeld => ?_)
                        have hHeld := hHeld rfl
                        clear hK K
                        try simp only [Act.put, List.setIfInBounds_toArray, List.set_cons_zero, List.set_cons_succ]
                        have rK := heap_alloc_new x6 (.cells #[.int .u64 0, .int .u64 0, .int .u64 0, .int .u64 0, .bool false, .int .i64 0, .int .i64 0, .int .i64 0, .string ⟨#[]⟩] 37)
                        generalize hkZ : x6.heap.size = kZ at *
                        clear hkZ
                        generalize x6.alloc (.cells #[.int .u64 0, .int .u64 0, .int .u64 0, .int .u64 0, .bool false, .int .i64 0, .int .i64 0, .int .i64 0, .string ⟨#[]⟩] 37) = xk at *
                      case' g52 =>
                        have hk0 : wc.heap.size ≤ x5.heap.size := hHeld.bel.size
                        try (have hne : ∀ k, (Value.slice A5 3 c5).ownBlock = some k → k ≠ x5.heap.size := fun k hk => by have := (HS5.out.lt k hk).2; omega)
                        try (have hne : ∀ k, (Value.slice (some ⟨wc.heap.size, 0, none⟩) 1 1).ownBlock = some k → k ≠ x5.heap.size := fun k hk => by have := (HS9.out.lt k hk).2; omega)
                        replace HS5 := Lib.hid (HS5.out.on (Kt.balloc (Below.refl _ x5) (.cells #[.int .u64 0, .int .u64 0, .int .u64 0, .int .u64 0, .bool false, .int .i64 0, .int .i64 0, .int .i64 0, .string ⟨#[]⟩] 37)))
                        go_simp
                        refine hK.out _ _ (fun _ => hHeld.alloc _) (fun hHeld => ?_)
                        have hHeld := hHeld rfl
                        clear hK K
                        try simp only [Act.put, List.setIfInBounds_toArray, List.set_cons_zero, List.set_cons_succ]
                        have rK := heap_alloc_new x5 (.cells #[.int .u64 0, .int .u64 0, .int .u64 0, .int .u64 0, .bool false, .int .i64 0, .int .i64 0, .int .i64 0, .string ⟨#[]⟩] 37)
                        generalize hkZ : x5.heap.size = kZ at *
                        clear hkZ
                        generalize x5.alloc (.cells #[.int .u64 0, .int .u64 0, .int .u64 0, .int .u64 0, .bool false, .int .i64 0, .int .i64 0, .int .i64 0, .string ⟨#[]⟩] 37) = xk at *
                        refine Kt.G.one 6 { dst := some 67, op := Op.call { callee := Callee.value (Operand.func 12), args := #[Operand.tmp 61, Operand.tmp 66], argTypes := #[37, 26] }, type := 39, pos := "typist.go:70", after := #[{ on := 0, ground := Ground.data }, { on := 5, ground := Ground.data }, { on := 5, ground := Ground.chain }], guard := none } rfl (by kernel_rfl) (by rfl) (fun K hK => ?_)
                        go_simp
                        refine (HT6.out _ hHeld.bel _ _ _ HS5.out).mono ?_; rintro en x6 ⟨rfl, hb6⟩
                        refine hK.out _ _ (fun _ => hHeld.on hb6) (fun hHeld => ?_)
                        have hHeld := hHeld rfl
                        clear hK K
                        try simp only [Act.put, List.setIfInBounds_toArray, List.set_cons_zero, List.set_cons_succ]
                        replace rK := Kt.row_on hb6 rK
                        clear hb6 HS5
                        refine Kt.G.takeP 7 { dst := some 60, op := Op.move (Operand.tmp 67), type := 39, pos := "typist.go:70", after := #[{ on := 6, ground := Ground.data }], guard := none } ?_ (fun _ => hHeld) rfl (by kernel_rfl) (fun _ _ _ h => h) (by rfl) ?_ ?_
                        rotate_left
                        · intro w; go_simp; try with_reducible rfl
                        try simp only [Act.put, List.setIfInBounds_toArray, List.set_cons_zero, List.set_cons_succ]
                        refine Kt.G.takeP 8 { dst := some 68, op := Op.extract (Operand.tmp 60) 0, type := 37, pos := "typist.go:70", after := #[{ on := 7, ground := Ground.data }], guard := none } ?_ (fun _ => hHeld) rfl (by kernel_rfl) (fun _ _ _ h => h) (by rfl) ?_ ?_
                        rotate_left
                        · intro w; go_simp; try with_reducible rfl
                        try simp only [Act.put, List.setIfInBounds_toArray, List.set_cons_zero, List.set_cons_succ]
                        refine Kt.G.takeP 9 { dst := some 69, op := Op.extract (Operand.tmp 60) 1, type := 38, pos := "typist.go:70", after := #[{ on := 7, ground := Ground.data }, { on := 11, ground := Ground.gcOnly Departure.lateStores }], guard := none } ?_ (fun _ => hHeld) rfl (by kernel_rfl) (fun _ _ _ h => h) (by rfl) ?_ ?_
                        rotate_left
                        · intro w; go_simp; try with_reducible rfl
                        try simp only [Act.put, List.setIfInBounds_toArray, List.set_cons_zero, List.set_cons_succ]
                    case' g50 =>
                      have hk0 : wc.heap.size ≤ x4.heap.size := hHeld.bel.size
                      try (have hne : ∀ k, (Value.slice A5 3 c5).ownBlock = some k → k ≠ x4.heap.size := fun k hk => by have := (HS5.out.lt k hk).2; omega)
                      try (have hne : ∀ k, (Value.slice (some ⟨wc.heap.size, 0, none⟩) 1 1).ownBlock = some k → k ≠ x4.heap.size := fun k hk => by have := (HS9.out.lt k hk).2; omega)
                      replace HS4 := Lib.hid (HS4.out.on (Kt.balloc (Below.refl _ x4) (.cells #[.int .u64 0, .int .u64 0, .int .u64 0, .int .u64 0, .bool false, .int .i64 0, .int .i64 0, .int .i64 0, .string ⟨#[]⟩] 37)))
                      replace HS9 := Lib.hid (HS9.out.on (Kt.balloc (Below.refl _ x4) (.cells #[.int .u64 0, .int .u64 0, .int .u64 0, .int .u64 0, .bool false, .int .i64 0, .int .i64 0, .int .i64 0, .string ⟨#[]⟩] 37)))
                      go_simp
                      refine hK.out _ _ (fun _ => hHeld.alloc _) (fun hHeld => ?_)
                      have hHeld := hHeld rfl
                      clear hK K
                      try simp only [Act.put, List.setIfInBounds_toArray, List.set_cons_zero, List.set_cons_succ]
                      have rK := heap_alloc_new x4 (.cells #[.int .u64 0, .int .u64 0, .int .u64 0, .int .u64 0, .bool false, .int .i64 0, .int .i64 0, .int .i64 0, .string ⟨#[]⟩] 37)
                      generalize hkZ : x4.heap.size = kZ at *
                      clear hkZ
                      generalize x4.alloc (.cells #[.int .u64 0, .int .u64 0, .int .u64 0, .int .u64 0, .bool false, .int .i64 0, .int .i64 0, .int .i64 0, .string ⟨#[]⟩] 37) = xk at *
                      refine Kt.G.one 5 { dst := some 66, op := Op.call { callee := Callee.builtin Builtin.append, args := #[Operand.tmp 62, Operand.tmp 65], argTypes := #[26, 26] }, type := 26, pos := "typist.go:70", after := #[{ on := 1, ground := Ground.data }, { on := 4, ground := Ground.data }, { on := 4, ground := Ground.chain }], guard := none } rfl (by kernel_rfl) (by rfl) (fun K hK => ?_)
                      refine Kt.wp_append_ar (.tmp 62) (.tmp 65) 26 rfl wc.heap.size 31 (.agg #[.int .i64 0, .int .i64 0, .bool false, .int .i64 0]) 4 32 infoK Tryd.underlying26 rfl (by decide) _ _ _ rfl HS9.out _ _ _ rfl (Kt.Ar.of_sl HS4.out) (by first | exact sks_one _ | (intro u hu; simp only [List.mem_cons, List.not_mem_nil, or_false] at hu; rcases hu with rfl | rfl | rfl | rfl | rfl | rfl | rfl | rfl <;> rfl)) (by decide) (by decide) hHeld.bel.size ?_
                      intro A5 c5 x5 hs5 hb5 hz5 hk5 hl5
                      replace rK := (hk5 kZ (lt_of_row0 rK) (fun e => hne _ e rfl)).trans rK
                      have hF5 := hHeld.onB hb5 (Nat.le_refl _) HRB.out
                      try clear hne
                      have HS5 : Hid (Kt.Sl x5 wc.heap.size 31 4 (.slice A5 3 c5) 3 (sks [⟨1, 225, true, 0⟩, ⟨1, c, true, 0⟩, ⟨1, c, false, 0⟩])) := Lib.hid hs5
                      refine hK.out _ _ (fun _ => hF5) (fun hHeld => ?_)
                      have hHeld := hHeld rfl
                      clear hK K
                      try simp only [Act.put, List.setIfInBounds_toArray, List.set_cons_zero, List.set_cons_succ]
                      clear hs5 hb5 hz5 hk5 hl5 hF5
                      clear HS9 HS4
                      refine Kt.G.one 6 { dst := some 67, op := Op.call { callee := Callee.value (Operand.func 12), args := #[Operand.tmp 61, Operand.tmp 66], argTypes := #[37, 26] }, type := 39, pos := "typist.go:70", after := #[{ on := 0, ground := Ground.data }, { on := 5, ground := Ground.data }, { on := 5, ground := Ground.chain }], guard := none } rfl (by kernel_rfl) (by rfl) (fun K hK => ?_)
                      go_simp
                      refine (HT6.out _ hHeld.bel _ _ _ HS5.out).mono ?_; rintro en x6 ⟨rfl, hb6⟩
                      refine hK.out _ _ (fun _ => hHeld.on hb6) (fun hHeld => ?_)
                      have hHeld := hHeld rfl
                      clear hK K
                      try simp only [Act.put, List.setIfInBounds_toArray, List.set_cons_zero, List.set_cons_succ]
                      replace rK := Kt.row_on hb6 rK
                      clear hb6 HS5
                      refine Kt.G.takeP 7 { dst := some 60, op := Op.move (Operand.tmp 67), type := 39, pos := "typist.go:70", after := #[{ on := 6, ground := Ground.data }], guard := none } ?_ (fun _ => hHeld) rfl (by kernel_rfl) (fun _ _ _ h => h) (by rfl) ?_ ?_
                      rotate_left
                      · intro w; go_simp; try with_reducible rfl
                      try simp only [Act.put, List.setIfInBounds_toArray, List.set_cons_zero, List.set_cons_succ]
                      refine Kt.G.takeP 8 { dst := some 68, op := Op.extract (Operand.tmp 60) 0, type := 37, pos := "typist.go:70", after := #[{ on := 7, ground := Ground.data }], guard := none } ?_ (fun _ => hHeld) rfl (by kernel_rfl) (fun _ _ _ h => h) (by rfl) ?_ ?_
                      rotate_left
                      · intro w; go_simp; try with_reducible rfl
                      try simp only [Act.put, List.setIfInBounds_toArray, List.set_cons_zero, List.set_cons_succ]
                      refine Kt.G.takeP 9 { dst := some 69, op := Op.extract (Operand.tmp 60) 1, type := 38, pos := "typist.go:70", after := #[{ on := 7, ground := Ground.data }, { on := 11, ground := Ground.gcOnly Departure.lateStores }], guard := none } ?_ (fun _ => hHeld) rfl (by kernel_rfl) (fun _ _ _ h => h) (by rfl) ?_ ?_
                      rotate_left
                      · intro w; go_simp; try with_reducible rfl
                      try simp only [Act.put, List.setIfInBounds_toArray, List.set_cons_zero, List.set_cons_succ]
                  case' g48 =>
                    have hk0 : wc.heap.size ≤ y3.heap.size := hHeld.bel.size
                    try (have hne : ∀ k, (Value.slice A5 3 c5).ownBlock = some k → k ≠ y3.heap.size := fun k hk => by have := (HS5.out.lt k hk).2; omega)
                    try (have hne : ∀ k, (Value.slice (some ⟨wc.heap.size, 0, none⟩) 1 1).ownBlock = some k → k ≠ y3.heap.size := fun k hk => by have := (HS9.out.lt k hk).2; omega)
                    replace HA3 := Lib.hid (HA3.out.on (Kt.balloc (Below.refl _ y3) (.cells #[.int .u64 0, .int .u64 0, .int .u64 0, .int .u64 0, .bool false, .int .i64 0, .int .i64 0, .int .i64 0, .string ⟨#[]⟩] 37)))
                    replace HS9 := Lib.hid (HS9.out.on (Kt.balloc (Below.refl _ y3) (.cells #[.int .u64 0, .int .u64 0, .int .u64 0, .int .u64 0, .bool false, .int .i64 0, .int .i64 0, .int .i64 0, .string ⟨#[]⟩] 37)))
                    go_simp
                    refine hK.out _ _ (fun _ => hHeld.alloc _) (fun hHeld => ?_)
                    have hHeld := hHeld rfl
                    clear hK K
                    try simp only [Act.put, List.setIfInBounds_toArray, List.set_cons_zero, List.set_cons_succ]
                    have rK := heap_alloc_new y3 (.cells #[.int .u64 0, .int .u64 0, .int .u64 0, .int .u64 0, .bool false, .int .i64 0, .int .i64 0, .int .i64 0, .string ⟨#[]⟩] 37)
                    generalize hkZ : y3.heap.size = kZ at *
                    clear hkZ
                    generalize y3.alloc (.cells #[.int .u64 0, .int .u64 0, .int .u64 0, .int .u64 0, .bool false, .int .i64 0, .int .i64 0, .int .i64 0, .string ⟨#[]⟩] 37) = xk at *
                    refine Kt.G.one 4 { dst := some 65, op := Op.call { callee := Callee.value (Operand.func 11), args := #[Operand.tmp 64], argTypes := #[22] }, type := 26, pos := "typist.go:70", after := #[{ on := 3, ground := Ground.data }], guard := none } rfl (by kernel_rfl) (by rfl) (fun K hK => ?_)
                    try (have hkk := lt_of_row0 rK)
                    have hszz := hHeld.bel.size
                    go_simp
                    refine (press1_calls _ _ _ _ HA3.out).mono ?_; rintro en x4 ⟨A4, c4, rfl, hs4, hb4⟩
                    refine hK.out _ _ (fun _ => hHeld.on hb4) (fun hHeld => ?_)
                    have hHeld := hHeld rfl
                    clear hK K
                    try simp only [Act.put, List.setIfInBounds_toArray, List.set_cons_zero, List.set_cons_succ]
                    replace rK := Kt.row_on (hb4) rK
                    replace HS9 := Lib.hid (HS9.out.on (hb4))
                    have HS4 := Lib.hid (hs4.mono hszz)
                    try clear hkk
                    clear hs4 hb4 hszz HA3
                    refine Kt.G.one 5 { dst := some 66, op := Op.call { callee := Callee.builtin Builtin.append, args := #[Operand.tmp 62, Operand.tmp 65], argTypes := #[26, 26] }, type := 26, pos := "typist.go:70", after := #[{ on := 1, ground := Ground.data }, { on := 4, ground := Ground.data }, { on := 4, ground := Ground.chain }], guard := none } rfl (by kernel_rfl) (by rfl) (fun K hK => ?_)
                    refine Kt.wp_append_ar (.tmp 62) (.tmp 65) 26 rfl wc.heap.size 31 (.agg #[.int .i64 0, .int .i64 0, .bool false, .int .i64 0]) 4 32 infoK Tryd.underlying26 rfl (by decide) _ _ _ rfl HS9.out _ _ _ rfl (Kt.Ar.of_sl HS4.out) (by first | exact sks_one _ | (intro u hu; simp only [List.mem_cons, List.not_mem_nil, or_false] at hu; rcases hu with rfl | rfl | rfl | rfl | rfl | rfl | rfl | rfl <;> rfl)) (by decide) (by decide) hHeld.bel.size ?_
                    intro A5 c5 x5 hs5 hb5 hz5 hk5 hl5
                    replace rK := (hk5 kZ (lt_of_row0 rK) (fun e => hne _ e rfl)).trans rK
                    have hF5 := hHeld.onB hb5 (Nat.le_refl _) HRB.out
                    try clear hne
                    have HS5 : Hid (Kt.Sl x5 wc.heap.size 31 4 (.slice A5 3 c5) 3 (sks [⟨1, 225, true, 0⟩, ⟨1, c, true, 0⟩, ⟨1, c, false, 0⟩])) := Lib.hid hs5
                    refine hK.out _ _ (fun _ => hF5) (fun hHeld => ?_)
                    have hHeld := hHeld rfl
                    clear hK K
                    try simp only [Act.put, List.setIfInBounds_toArray, List.set_cons_zero, List.set_cons_succ]
                    clear hs5 hb5 hz5 hk5 hl5 hF5
                    clear HS9 HS4
                    refine Kt.G.one 6 { dst := some 67, op := Op.call { callee := Callee.value (Operand.func 12), args := #[Operand.tmp 61, Operand.tmp 66], argTypes := #[37, 26] }, type := 39, pos := "typist.go:70", after := #[{ on := 0, ground := Ground.data }, { on := 5, ground := Ground.data }, { on := 5, ground := Ground.chain }], guard := none } rfl (by kernel_rfl) (by rfl) (fun K hK => ?_)
                    go_simp
                    refine (HT6.out _ hHeld.bel _ _ _ HS5.out).mono ?_; rintro en x6 ⟨rfl, hb6⟩
                    refine hK.out _ _ (fun _ => hHeld.on hb6) (fun hHeld => ?_)
                    have hHeld := hHeld rfl
                    clear hK K
                    try simp only [Act.put, List.setIfInBounds_toArray, List.set_cons_zero, List.set_cons_succ]
                    replace rK := Kt.row_on hb6 rK
                    clear hb6 HS5
                    refine Kt.G.takeP 7 { dst := some 60, op := Op.move (Operand.tmp 67), type := 39, pos := "typist.go:70", after := #[{ on := 6, ground := Ground.data }], guard := none } ?_ (fun _ => hHeld) rfl (by kernel_rfl) (fun _ _ _ h => h) (by rfl) ?_ ?_
                    rotate_left
                    · intro w; go_simp; try with_reducible rfl
                    try simp only [Act.put, List.setIfInBounds_toArray, List.set_cons_zero, List.set_cons_succ]
                    refine Kt.G.takeP 8 { dst := some 68, op := Op.extract (Operand.tmp 60) 0, type := 37, pos := "typist.go:70", after := #[{ on := 7, ground := Ground.data }], guard := none } ?_ (fun _ => hHeld) rfl (by kernel_rfl) (fun _ _ _ h => h) (by rfl) ?_ ?_
                    rotate_left
                    · intro w; go_simp; try with_reducible rfl
                    try simp only [Act.put, List.setIfInBounds_toArray, List.set_cons_zero, List.set_cons_succ]
                    refine Kt.G.takeP 9 { dst := some 69, op := Op.extract (Operand.tmp 60) 1, type := 38, pos := "typist.go:70", after := #[{ on := 7, ground := Ground.data }, { on := 11, ground := Ground.gcOnly Departure.lateStores }], guard := none } ?_ (fun _ => hHeld) rfl (by kernel_rfl) (fun _ _ _ h => h) (by rfl) ?_ ?_
                    rotate_left
                    · intro w; go_simp; try with_reducible rfl
                    try simp only [Act.put, List.setIfInBounds_toArray, List.set_cons_zero, List.set_cons_succ]
                case' g46 =>
                  have hk0 : wc.heap.size ≤ x0.heap.size := hHeld.bel.size
                  try (have hne : ∀ k, (Value.slice A5 3 c5).ownBlock = some k → k ≠ x0.heap.size := fun k hk => by have := (HS5.out.lt k hk).2; omega)
                  try (have hne : ∀ k, (Value.slice (some ⟨wc.heap.size, 0, none⟩) 1 1).ownBlock = some k → k ≠ x0.heap.size := fun k hk => by have := (HS9.out.lt k hk).2; omega)
                  replace HS9 := Lib.hid (HS9.out.on (Kt.balloc (Below.refl _ x0) (.cells #[.int .u64 0, .int .u64 0, .int .u64 0, .int .u64 0, .bool false, .int .i64 0, .int .i64 0, .int .i64 0, .string ⟨#[]⟩] 37)))
                  go_simp
                  refine hK.out _ _ (fun _ => hHeld.alloc _) (fun hHeld => ?_)
                  have hHeld := hHeld rfl
                  clear hK K
                  try simp only [Act.put, List.setIfInBounds_toArray, List.set_cons_zero, List.set_cons_succ]
                  have rK := heap_alloc_new x0 (.cells #[.int .u64 0, .int .u64 0, .int .u64 0, .int .u64 0, .bool false, .int .i64 0, .int .i64 0, .int .i64 0, .string ⟨#[]⟩] 37)
                  generalize hkZ : x0.heap.size = kZ at *
                  clear hkZ
                  generalize x0.alloc (.cells #[.int .u64 0, .int .u64 0, .int .u64 0, .int .u64 0, .bool false, .int .i64 0, .int .i64 0, .int .i64 0, .string ⟨#[]⟩] 37) = xk at *
                  refine Kt.G.one 3 { dst := some 64, op := Op.buildSlice 22 1 #[(0, Operand.tmp 63)], type := 22, pos := "typist.go:70", after := #[{ on := 2, ground := Ground.data }], guard := none } rfl (by kernel_rfl) (by rfl) (fun K hK => ?_)
                  go_simp
                  refine hK.out _ _ (fun _ => hHeld.alloc _) (fun hHeld => ?_)
                  have hHeld := hHeld rfl
                  clear hK K
                  try simp only [Act.put, List.setIfInBounds_toArray, List.set_cons_zero, List.set_cons_succ]
                  have HA3 := Lib.hid (Kt.Ar.new xk #[.int .i64 c] 3 1 1 rfl)
                  replace rK := Kt.row_on (Kt.balloc (Below.refl _ xk) (.cells #[.int .i64 c] 3)) rK
                  replace HS9 := Lib.hid (HS9.out.on (Kt.balloc (Below.refl _ xk) (.cells #[.int .i64 c] 3)))
                  generalize xk.alloc (.cells #[.int .i64 c] 3) = y3 at *
                  refine Kt.G.one 4 { dst := some 65, op := Op.call { callee := Callee.value (Operand.func 11), args := #[Operand.tmp 64], argTypes := #[22] }, type := 26, pos := "typist.go:70", after := #[{ on := 3, ground := Ground.data }], guard := none } rfl (by kernel_rfl) (by rfl) (fun K hK => ?_)
                  try (have hkk := lt_of_row0 rK)
                  have hszz := hHeld.bel.size
                  go_simp
                  refine (press1_calls _ _ _ _ HA3.out).mono ?_; rintro en x4 ⟨A4, c4, rfl, hs4, hb4⟩
                  refine hK.out _ _ (fun _ => hHeld.on hb4) (fun hHeld => ?_)
                  have hHeld := hHeld rfl
                  clear hK K
                  try simp only [Act.put, List.setIfInBounds_toArray, List.set_cons_zero, List.set_cons_succ]
                  replace rK := Kt.row_on (hb4) rK
                  replace HS9 := Lib.hid (HS9.out.on (hb4))
                  have HS4 := Lib.hid (hs4.mono hszz)
                  try clear hkk
                  clear hs4 hb4 hszz HA3
                  refine Kt.G.one 5 { dst := some 66, op := Op.call { callee := Callee.builtin Builtin.append, args := #[Operand.tmp 62, Operand.tmp 65], argTypes := #[26, 26] }, type := 26, pos := "typist.go:70", after := #[{ on := 1, ground := Ground.data }, { on := 4, ground := Ground.data }, { on := 4, ground := Ground.chain }], guard := none } rfl (by kernel_rfl) (by rfl) (fun K hK => ?_)
                  refine Kt.wp_append_ar (.tmp 62) (.tmp 65) 26 rfl wc.heap.size 31 (.agg #[.int .i64 0, .int .i64 0, .bool false, .int .i64 0]) 4 32 infoK Tryd.underlying26 rfl (by decide) _ _ _ rfl HS9.out _ _ _ rfl (Kt.Ar.of_sl HS4.out) (by first | exact sks_one _ | (intro u hu; simp only [List.mem_cons, List.not_mem_nil, or_false] at hu; rcases hu with rfl | rfl | rfl | rfl | rfl | rfl | rfl | rfl <;> rfl)) (by decide) (by decide) hHeld.bel.size ?_
                  intro A5 c5 x5 hs5 hb5 hz5 hk5 hl5
                  replace rK := (hk5 kZ (lt_of_row0 rK) (fun e => hne _ e rfl)).trans rK
                  have hF5 := hHeld.onB hb5 (Nat.le_refl _) HRB.out
                  try clear hne
                  have HS5 : Hid (Kt.Sl x5 wc.heap.size 31 4 (.slice A5 3 c5) 3 (sks [⟨1, 225, true, 0⟩, ⟨1, c, true, 0⟩, ⟨1, c, false, 0⟩])) := Lib.hid hs5
                  refine hK.out _ _ (fun _ => hF5) (fun hHeld => ?_)
                  have hHeld := hHeld rfl
                  clear hK K
                  try simp only [Act.put, List.setIfInBounds_toArray, List.set_cons_zero, List.set_cons_succ]
                  clear hs5 hb5 hz5 hk5 hl5 hF5
                  clear HS9 HS4
                  refine Kt.G.one 6 { dst := some 67, op := Op.call { callee := Callee.value (Operand.func 12), args := #[Operand.tmp 61, Operand.tmp 66], argTypes := #[37, 26] }, type := 39, pos := "typist.go:70", after := #[{ on := 0, ground := Ground.data }, { on := 5, ground := Ground.data }, { on := 5, ground := Ground.chain }], guard := none } rfl (by kernel_rfl) (by rfl) (fun K hK => ?_)
                  go_simp
                  refine (HT6.out _ hHeld.bel _ _ _ HS5.out).mono ?_; rintro en x6 ⟨rfl, hb6⟩
                  refine hK.out _ _ (fun _ => hHeld.on hb6) (fun hHeld => ?_)
                  have hHeld := hHeld rfl
                  clear hK K
                  try simp only [Act.put, List.setIfInBounds_toArray, List.set_cons_zero, List.set_cons_succ]
                  replace rK := Kt.row_on hb6 rK
                  clear hb6 HS5
                  refine Kt.G.takeP 7 { dst := some 60, op := Op.move (Operand.tmp 67), type := 39, pos := "typist.go:70", after := #[{ on := 6, ground := Ground.data }], guard := none } ?_ (fun _ => hHeld) rfl (by kernel_rfl) (fun _ _ _ h => h) (by rfl) ?_ ?_
                  rotate_left
                  · intro w; go_simp; try with_reducible rfl
                  try simp only [Act.put, List.setIfInBounds_toArray, List.set_cons_zero, List.set_cons_succ]
                  refine Kt.G.takeP 8 { dst := some 68, op := Op.extract (Operand.tmp 60) 0, type := 37, pos := "typist.go:70", after := #[{ on := 7, ground := Ground.data }], guard := none } ?_ (fun _ => hHeld) rfl (by kernel_rfl) (fun _ _ _ h => h) (by rfl) ?_ ?_
                  rotate_left
                  · intro w; go_simp; try with_reducible rfl
                  try simp only [Act.put, List.setIfInBounds_toArray, List.set_cons_zero, List.set_cons_succ]
                  refine Kt.G.takeP 9 { dst := some 69, op := Op.extract (Operand.tmp 60) 1, type := 38, pos := "typist.go:70", after := #[{ on := 7, ground := Ground.data }, { on := 11, ground := Ground.gcOnly Departure.lateStores }], guard := none } ?_ (fun _ => hHeld) rfl (by kernel_rfl) (fun _ _ _ h => h) (by rfl) ?_ ?_
                  rotate_left
                  · intro w; go_simp; try with_reducible rfl
                  try simp only [Act.put, List.setIfInBounds_toArray, List.set_cons_zero, List.set_cons_succ]
                all_goals
                  refine Kt.G.one 11 { dst := none, op := Op.store 37 (Operand.tmp 10) (Operand.tmp 68), type := 0, pos := "typist.go:70", after := #[{ on := 10, ground := Ground.data }, { on := 8, ground := Ground.data }, { on := 6, ground := Ground.chain }, { on := 0, ground := Ground.phase }, { on := 1, ground := Ground.phase }, { on := 2, ground := Ground.phase }, { on := 3, ground := Ground.phase }, { on := 4, ground := Ground.phase }, { on := 5, ground := Ground.phase }, { on := 6, ground := Ground.phase }, { on := 7, ground := Ground.phase }, { on := 8, ground := Ground.phase }, { on := 9, ground := Ground.textOnly Departure.lateStores }, { on := 10, ground := Ground.phase }], guard := none } rfl (by kernel_rfl) (by rfl) (fun K hK => ?_)
                  have cK := fun i => cell_of_row _ _ i _ _ _ rK; have fK := fun i => frozen_of_row _ _ i _ _ rK
                  go_simp
                  refine hK.out _ _ (Kt.G.late (by kernel_rfl)) (fun _ => ?_)
                  clear hK K
                  try simp only [Act.put, List.setIfInBounds_toArray, List.set_cons_zero, List.set_cons_succ]
                  refine Kt.G.takeP 12 { dst := some 11, op := Op.assign (Operand.tmp 69), type := 38, pos := "typist.go:70", after := #[{ on := 9, ground := Ground.data }, { on := 11, ground := Ground.chain }, { on := 0, ground := Ground.phase }, { on := 1, ground := Ground.phase }, { on := 2, ground := Ground.phase }, { on := 3, ground := Ground.phase }, { on := 4, ground := Ground.phase }, { on := 5, ground := Ground.phase }, { on := 6, ground := Ground.phase }, { on := 7, ground := Ground.phase }, { on := 8, ground := Ground.phase }, { on := 9, ground := Ground.phase }, { on := 10, ground := Ground.phase }, { on := 11, ground := Ground.phase }], guard := none } ?_ (Kt.G.late (by kernel_rfl)) rfl (by kernel_rfl) (fun _ _ _ h => h) (by rfl) ?_ ?_
                  rotate_left
                  · intro w; go_simp; try with_reducible rfl
                  try simp only [Act.put, List.setIfInBounds_toArray, List.set_cons_zero, List.set_cons_succ]
                  refine Kt.G.done (by kernel_rfl) (NoPanic.normal ?_) _
                  go_wp2_with fail
                  go_meet
                  case rel =>
                    exact ⟨kZ, rfl, rfl, Kt.fill [.int .u64 (C.held.a.toNat : Int), .int .u64 (C.held.b.toNat : Int), .int .u64 (C.held.c.toNat : Int), .int .u64 (C.held.d.toNat : Int), .bool C.caps, .int .i64 C.dead, .int .i64 C.last, .int .i64 C.wait, .string C.text] rK rfl, set9 hHeld.bel hk0 [.int .u64 (C.held.a.toNat : Int), .int .u64 (C.held.b.toNat : Int), .int .u64 (C.held.c.toNat : Int), .int .u64 (C.held.d.toNat : Int), .bool C.caps, .int .i64 C.dead, .int .i64 C.last, .int .i64 C.wait, .string C.text]⟩
                -- END6
              case rest =>
                obtain ⟨kC, rfl, rfl, hrc, hbc⟩ := hcut
                have HW8 := Lib.hid (show wc.heap[w0.heap.size]? = some (.cells t.cs 37 (0, 0)) ∧ wc.heap[kA]? = some (.cells t.cs 37 (0, 0)) ∧ wc.heap[kB]? = some (.cells B.cs 37 (0, 0)) ∧ wc.heap[kC]? = some (.cells C.cs 37 (0, 0)) ∧ Below w0.heap.size w0 wc from ⟨Kt.row_on hbc HW6.out.1, Kt.row_on hbc HW6.out.2.1, Kt.row_on hbc HW6.out.2.2.1, hrc, Kt.bthen HW6.out.2.2.2 hbc⟩)
                clear hrc hbc HW6 HT6 HRB HS9 HB9 HR9
                have EQ := fun W => neq_ty t W
                have EG := fun u v W => guard_tyn u v t.cs t.cs W
                have r1 := HW8.out.1
                have r2 := HW8.out.2.1
                unfold St.cs at r1 r2 EQ EG
                have q1 := fun i => cell_of_row _ _ i _ _ _ r1
                have q2 := fun i => cell_of_row _ _ i _ _ _ r2
                clear r1 r2
                by_cases h29 : c ≤ 29
                · obtain ⟨e1, e2⟩ := HAB.out.1 h29
                  have r3 := HW8.out.2.2.1
                  have r4 := HW8.out.2.2.2.1
                  unfold St.cs at r3 r4
                  rw [e1, e2] at r3
                  have q3 := fun i => cell_of_row _ _ i _ _ _ r3
                  have q4 := fun i => cell_of_row _ _ i _ _ _ r4
                  have hn : ((!t.caps) != t.caps) = true := by cases t.caps <;> rfl
                  clear e1 e2 r3 r4 HAB HRES HTY HLV HT
                  go_wp2_with fail
                  go_ret
                  exact ⟨rfl, HW8.out.2.2.2.2⟩
                · have HT11 : Hid (∀ W, Below wc.heap.size wc W → ∀ A cap K, Kt.Sl W K 31 4 (.slice A 2 cap) 2 (sks [⟨1, c, true, 0⟩, ⟨1, c, false, 0⟩]) → Calls Tryd.prog 12 #[t.v, .slice A 2 cap] W fun e w' => e = .returned (.tuple #[D.v, .int .i64 0]) ∧ Below W.heap.size W w') := Lib.hid (HTY.out wc HW8.out.2.2.2.2 (pressL [c]) D HRES.out.2.2)
                  unfold St.v at HT11
                  unfold St.cs at HT11
                  go_upto_region 11 with (fail)
                  clear q1 q2 EQ EG
                  go_cut [12, 13] from 99 to 106 (fun p e wx => ∃ kZ, p = .pointer (some ⟨kZ, 0, none⟩) ∧ e = .int .i64 0 ∧ wx.heap[kZ]? = some (.cells D.cs 37 (0, 0)) ∧ Below wc.heap.size wc wx)
                  case first =>
                    -- REGION11
                    have HF := (Kt.Fb.nil wc (Below.refl _ _)).add HW8.out.1
                    refine Kt.G.start 9 (Kt.Fb wc [(w0.heap.size, #[.int .u64 (t.held.a.toNat : Int), .int .u64 (t.held.b.toNat : Int), .int .u64 (t.held.c.toNat : Int), .int .u64 (t.held.d.toNat : Int), .bool t.caps, .int .i64 t.dead, .int .i64 t.last, .int .i64 t.wait, .string t.text], 37)]) (by kernel_rfl) HF.drew (fun hHeld => ?_)
                    clear HF
                    generalize wc.drew = x0 at *
                    refine Kt.G.take 0 { dst := some 100, op := Op.load 37 (Operand.tmp 2), type := 37, pos := "typist.go:77", after := #[], guard := none } ?_ hHeld rfl (by kernel_rfl) (fun _ _ _ h => h) (by rfl) ?_ ?_
                    rotate_left
                    · intro w hSw; have r0 := hSw.row (w0.heap.size, #[.int .u64 (t.held.a.toNat : Int), .int .u64 (t.held.b.toNat : Int), .int .u64 (t.held.c.toNat : Int), .int .u64 (t.held.d.toNat : Int), .bool t.caps, .int .i64 t.dead, .int .i64 t.last, .int .i64 t.wait, .string t.text], 37) (by simp); have c0 := fun i => cell_of_row _ _ i _ _ _ r0; dsimp only at *; go_simp; try with_reducible rfl
                    try simp only [Act.put, List.setIfInBounds_toArray, List.set_cons_zero, List.set_cons_succ]
                    refine Kt.G.takeP 1 { dst := some 101, op := Op.move (Operand.tmp 1), type := 3, pos := "typist.go:77", after := #[], guard := none } ?_ (fun _ => hHeld) rfl (by kernel_rfl) (fun _ _ _ h => h) (by rfl) ?_ ?_
                    rotate_left
                    · intro w; go_simp; try with_reducible rfl
                    try simp only [Act.put, List.setIfInBounds_toArray, List.set_cons_zero, List.set_cons_succ]
                    refine Kt.G.two 2 8 { dst := some 102, op := Op.buildSlice 22 1 #[(0, Operand.tmp 101)], type := 22, pos := "typist.go:77", after := #[{ on := 1, ground := Ground.data }], guard := none } { dst := some 12, op := Op.alloc 37, type := 0, pos := "typist.go:77", after := #[], guard := none } rfl rfl (by kernel_rfl) (by rfl) (by rfl) (fun K hK => ?g53) (fun K hK => ?g54)
                    case' g53 =>
                      go_simp
                      refine hK.out _ _ (fun _ => hHeld.alloc _) (fun hHeld => ?_)
                      have hHeld := hHeld rfl
                      clear hK K
                      try simp only [Act.put, List.setIfInBounds_toArray, List.set_cons_zero, List.set_cons_succ]
                      have HA2 := Lib.hid (Kt.Ar.new x0 #[.int .i64 c] 3 1 1 rfl)
                      generalize x0.alloc (.cells #[.int .i64 c] 3) = y2 at *
                      refine Kt.G.two 3 8 { dst := some 103, op := Op.call { callee := Callee.value (Operand.func 11), args := #[Operand.tmp 102], argTypes := #[22] }, type := 26, pos := "typist.go:77", after := #[{ on := 2, ground := Ground.data }], guard := none } { dst := some 12, op := Op.alloc 37, type := 0, pos := "typist.go:77", after := #[], guard := none } rfl rfl (by kernel_rfl) (by rfl) (by rfl) (fun K hK => ?g55) (fun K hK => ?g56)
                      case' g55 =>
                        try (have hkk := lt_of_row0 rK)
                        have hszz := hHeld.bel.size
                        go_simp
                        refine (press1_calls _ _ _ _ HA2.out).mono ?_; rintro en x3 ⟨A3, c3, rfl, hs3, hb3⟩
                        refine hK.out _ _ (fun _ => hHeld.on hb3) (fun hHeld => ?_)
                        have hHeld := hHeld rfl
                        clear hK K
                        try simp only [Act.put, List.setIfInBounds_toArray, List.set_cons_zero, List.set_cons_succ]
                        have HS3 := Lib.hid (hs3.mono hszz)
                        try clear hkk
                        clear hs3 hb3 hszz HA2
                        refine Kt.G.two 4 8 { dst := some 104, op := Op.call { callee := Callee.value (Operand.func 12), args := #[Operand.tmp 100, Operand.tmp 103], argTypes := #[37, 26] }, type := 39, pos := "typist.go:77", after := #[{ on := 0, ground := Ground.data }, { on := 3, ground := Ground.data }, { on := 3, ground := Ground.chain }], guard := none } { dst := some 12, op := Op.alloc 37, type := 0, pos := "typist.go:77", after := #[], guard := none } rfl rfl (by kernel_rfl) (by rfl) (by rfl) (fun K hK => ?g57) (fun K hK => ?g58)
                        case' g57 =>
                          go_simp
                          refine (HT11.out _ hHeld.bel _ _ _ HS3.out).mono ?_; rintro en x4 ⟨rfl, hb4⟩
                          refine hK.out _ _ (fun _ => hHeld.on hb4) (fun hHeld => ?_)
                          have hHeld := hHeld rfl
                          clear hK K
                          try simp only [Act.put, List.setIfInBounds_toArray, List.set_cons_zero, List.set_cons_succ]
                          clear hb4 HS3
                          refine Kt.G.takeP 5 { dst := some 99, op := Op.move (Operand.tmp 104), type := 39, pos := "typist.go:77", after := #[{ on := 4, ground := Ground.data }], guard := none } ?_ (fun _ => hHeld) rfl (by kernel_rfl) (fun _ _ _ h => h) (by rfl) ?_ ?_
                          rotate_left
                          · intro w; go_simp; try with_reducible rfl
                          try simp only [Act.put, List.setIfInBounds_toArray, List.set_cons_zero, List.set_cons_succ]
                          refine Kt.G.takeP 6 { dst := some 105, op := Op.extract (Operand.tmp 99) 0, type := 37, pos := "typist.go:77", after := #[{ on := 5, ground := Ground.data }], guard := none } ?_ (fun _ => hHeld) rfl (by kernel_rfl) (fun _ _ _ h => h) (by rfl) ?_ ?_
                          rotate_left
                          · intro w; go_simp; try with_reducible rfl
                          try simp only [Act.put, List.setIfInBounds_toArray, List.set_cons_zero, List.set_cons_succ]
                          refine Kt.G.takeP 7 { dst := some 106, op := Op.extract (Operand.tmp 99) 1, type := 38, pos := "typist.go:77", after := #[{ on := 5, ground := Ground.data }, { on := 9, ground := Ground.gcOnly Departure.lateStores }], guard := none } ?_ (fun _ => hHeld) rfl (by kernel_rfl) (fun _ _ _ h => h) (by rfl) ?_ ?_
                          rotate_left
                          · intro w; go_simp; try with_reducible rfl
                          try simp only [Act.put, List.setIfInBounds_toArray, List.set_cons_zero, List.set_cons_succ]
                          refine Kt.G.one 8 { dst := some 12, op := Op.alloc 37, type := 0, pos := "typist.go:77", after := #[], guard := none } rfl (by kernel_rfl) (by rfl) (fun K hK => ?_)
                          have hk0 : wc.heap.size ≤ x4.heap.size := hHeld.bel.size
                          go_simp
                          refine hK.out _ _ (fun _ => hHeld.alloc _) (fun hHeld => ?_)
                          have hHeld := hHeld rfl
                          clear hK K
                          try simp only [Act.put, List.setIfInBounds_toArray, List.set_cons_zero, List.set_cons_succ]
                          have rK := heap_alloc_new x4 (.cells #[.int .u64 0, .int .u64 0, .int .u64 0, .int .u64 0, .bool false, .int .i64 0, .int .i64 0, .int .i64 0, .string ⟨#[]⟩] 37)
                          generalize hkZ : x4.heap.size = kZ at *
                          clear hkZ
                          generalize x4.alloc (.cells #[.int .u64 0, .int .u64 0, .int .u64 0, .int .u64 0, .bool false, .int .i64 0, .int .i64 0, .int .i64 0, .string ⟨#[]⟩] 37) = xk at *
                        case' g58 =>
                          have hk0 : wc.heap.size ≤ x3.heap.size := hHeld.bel.size
                          replace HS3 := Lib.hid (HS3.out.on (Kt.balloc (Below.refl _ x3) (.cells #[.int .u64 0, .int .u64 0, .int .u64 0, .int .u64 0, .bool false, .int .i64 0, .int .i64 0, .int .i64 0, .string ⟨#[]⟩] 37)))
                          go_simp
                          refine hK.out _ _ (fun _ => hHeld.alloc _) (fun hHeld => ?_)
                          have hHeld := hHeld rfl
                          clear hK K
                          try simp only [Act.put, List.setIfInBounds_toArray, List.set_cons_zero, List.set_cons_succ]
                          have rK := heap_alloc_new x3 (.cells #[.int .u64 0, .int .u64 0, .int .u64 0, .int .u64 0, .bool false, .int .i64 0, .int .i64 0, .int .i64 0, .string ⟨#[]⟩] 37)
                          generalize hkZ : x3.heap.size = kZ at *
                          clear hkZ
                          generalize x3.alloc (.cells #[.int .u64 0, .int .u64 0, .int .u64 0, .int .u64 0, .bool false, .int .i64 0, .int .i64 0, .int .i64 0, .string ⟨#[]⟩] 37) = xk at *
                          refine Kt.G.one 4 { dst := some 104, op := Op.call { callee := Callee.value (Operand.func 12), args := #[Operand.tmp 100, Operand.tmp 103], argTypes := #[37, 26] }, type := 39, pos := "typist.go:77", after := #[{ on := 0, ground := Ground.data }, { on := 3, ground := Ground.data }, { on := 3, ground := Ground.chain }], guard := none } rfl (by kernel_rfl) (by rfl) (fun K hK => ?_)
                          go_simp
                          refine (HT11.out _ hHeld.bel _ _ _ HS3.out).mono ?_; rintro en x4 ⟨rfl, hb4⟩
                          refine hK.out _ _ (fun _ => hHeld.on hb4) (fun hHeld => ?_)
                          have hHeld := hHeld rfl
                          clear hK K
                          try simp only [Act.put, List.setIfInBounds_toArray, List.set_cons_zero, List.set_cons_succ]
                          replace rK := Kt.row_on hb4 rK
                          clear hb4 HS3
                          refine Kt.G.takeP 5 { dst := some 99, op := Op.move (Operand.tmp 104), type := 39, pos := "typist.go:77", after := #[{ on := 4, ground := Ground.data }], guard := none } ?_ (fun _ => hHeld) rfl (by kernel_rfl) (fun _ _ _ h => h) (by rfl) ?_ ?_
                          rotate_left
                          · intro w; go_simp; try with_reducible rfl
                          try simp only [Act.put, List.setIfInBounds_toArray, List.set_cons_zero, List.set_cons_succ]
                          refine Kt.G.takeP 6 { dst := some 105, op := Op.extract (Operand.tmp 99) 0, type := 37, pos := "typist.go:77", after := #[{ on := 5, ground := Ground.data }], guard := none } ?_ (fun _ => hHeld) rfl (by kernel_rfl) (fun _ _ _ h => h) (by rfl) ?_ ?_
                          rotate_left
                          · intro w; go_simp; try with_reducible rfl
                          try simp only [Act.put, List.setIfInBounds_toArray, List.set_cons_zero, List.set_cons_succ]
                          refine Kt.G.takeP 7 { dst := some 106, op := Op.extract (Operand.tmp 99) 1, type := 38, pos := "typist.go:77", after := #[{ on := 5, ground := Ground.data }, { on := 9, ground := Ground.gcOnly Departure.lateStores }], guard := none } ?_ (fun _ => hHeld) rfl (by kernel_rfl) (fun _ _ _ h => h) (by rfl) ?_ ?_
                          rotate_left
                          · intro w; go_simp; try with_reducible rfl
                          try simp only [Act.put, List.setIfInBounds_toArray, List.set_cons_zero, List.set_cons_succ]
                      case' g56 =>
                        have hk0 : wc.heap.size ≤ y2.heap.size := hHeld.bel.size
                        replace HA2 := Lib.hid (HA2.out.on (Kt.balloc (Below.refl _ y2) (.cells #[.int .u64 0, .int .u64 0, .int .u64 0, .int .u64 0, .bool false, .int .i64 0, .int .i64 0, .int .i64 0, .string ⟨#[]⟩] 37)))
                        go_simp
                        refine hK.out _ _ (fun _ => hHeld.alloc _) (fun hHeld => ?_)
                        have hHeld := hHeld rfl
                        clear hK K
                        try simp only [Act.put, List.setIfInBounds_toArray, List.set_cons_zero, List.set_cons_succ]
                        have rK := heap_alloc_new y2 (.cells #[.int .u64 0, .int .u64 0, .int .u64 0, .int .u64 0, .bool false, .int .i64 0, .int .i64 0, .int .i64 0, .string ⟨#[]⟩] 37)
                        generalize hkZ : y2.heap.size = kZ at *
                        clear hkZ
                        generalize y2.alloc (.cells #[.int .u64 0, .int .u64 0, .int .u64 0, .int .u64 0, .bool false, .int .i64 0, .int .i64 0, .int .i64 0, .string ⟨#[]⟩] 37) = xk at *
                        refine Kt.G.one 3 { dst := some 103, op := Op.call { callee := Callee.value (Operand.func 11), args := #[Operand.tmp 102], argTypes := #[22] }, type := 26, pos := "typist.go:77", after := #[{ on := 2, ground := Ground.data }], guard := none } rfl (by kernel_rfl) (by rfl) (fun K hK => ?_)
                        try (have hkk := lt_of_row0 rK)
                        have hszz := hHeld.bel.size
                        go_simp
                        refine (press1_calls _ _ _ _ HA2.out).mono ?_; rintro en x3 ⟨A3, c3, rfl, hs3, hb3⟩
                        refine hK.out _ _ (fun _ => hHeld.on hb3) (fun hHeld => ?_)
                        have hHeld := hHeld rfl
                        clear hK K
                        try simp only [Act.put, List.setIfInBounds_toArray, List.set_cons_zero, List.set_cons_succ]
                        replace rK := Kt.row_on (hb3) rK
                        have HS3 := Lib.hid (hs3.mono hszz)
                        try clear hkk
                        clear hs3 hb3 hszz HA2
                        refine Kt.G.one 4 { dst := some 104, op := Op.call { callee := Callee.value (Operand.func 12), args := #[Operand.tmp 100, Operand.tmp 103], argTypes := #[37, 26] }, type := 39, pos := "typist.go:77", after := #[{ on := 0, ground := Ground.data }, { on := 3, ground := Ground.data }, { on := 3, ground := Ground.chain }], guard := none } rfl (by kernel_rfl) (by rfl) (fun K hK => ?_)
                        go_simp
                        refine (HT11.out _ hHeld.bel _ _ _ HS3.out).mono ?_; rintro en x4 ⟨rfl, hb4⟩
                        refine hK.out _ _ (fun _ => hHeld.on hb4) (fun hHeld => ?_)
                        have hHeld := hHeld rfl
                        clear hK K
                        try simp only [Act.put, List.setIfInBounds_toArray, List.set_cons_zero, List.set_cons_succ]
                        replace rK := Kt.row_on hb4 rK
                        clear hb4 HS3
                        refine Kt.G.takeP 5 { dst := some 99, op := Op.move (Operand.tmp 104), type := 39, pos := "typist.go:77", after := #[{ on := 4, ground := Ground.data }], guard := none } ?_ (fun _ => hHeld) rfl (by kernel_rfl) (fun _ _ _ h => h) (by rfl) ?_ ?_
                        rotate_left
                        · intro w; go_simp; try with_reducible rfl
                        try simp only [Act.put, List.setIfInBounds_toArray, List.set_cons_zero, List.set_cons_succ]
                        refine Kt.G.takeP 6 { dst := some 105, op := Op.extract (Operand.tmp 99) 0, type := 37, pos := "typist.go:77", after := #[{ on := 5, ground := Ground.data }], guard := none } ?_ (fun _ => hHeld) rfl (by kernel_rfl) (fun _ _ _ h => h) (by rfl) ?_ ?_
                        rotate_left
                        · intro w; go_simp; try with_reducible rfl
                        try simp only [Act.put, List.setIfInBounds_toArray, List.set_cons_zero, List.set_cons_succ]
                        refine Kt.G.takeP 7 { dst := some 106, op := Op.extract (Operand.tmp 99) 1, type := 38, pos := "typist.go:77", after := #[{ on := 5, ground := Ground.data }, { on := 9, ground := Ground.gcOnly Departure.lateStores }], guard := none } ?_ (fun _ => hHeld) rfl (by kernel_rfl) (fun _ _ _ h => h) (by rfl) ?_ ?_
                        rotate_left
                        · intro w; go_simp; try with_reducible rfl
                        try simp only [Act.put, List.setIfInBounds_toArray, List.set_cons_zero, List.set_cons_succ]
                    case' g54 =>
                      have hk0 : wc.heap.size ≤ x0.heap.size := hHeld.bel.size
                      go_simp
                      refine hK.out _ _ (fun _ => hHeld.alloc _) (fun hHeld => ?_)
                      have hHeld := hHeld rfl
                      clear hK K
                      try simp only [Act.put, List.setIfInBounds_toArray, List.set_cons_zero, List.set_cons_succ]
                      have rK := heap_alloc_new x0 (.cells #[.int .u64 0, .int .u64 0, .int .u64 0, .int .u64 0, .bool false, .int .i64 0, .int .i64 0, .int .i64 0, .string ⟨#[]⟩] 37)
                      generalize hkZ : x0.heap.size = kZ at *
                      clear hkZ
                      generalize x0.alloc (.cells #[.int .u64 0, .int .u64 0, .int .u64 0, .int .u64 0, .bool false, .int .i64 0, .int .i64 0, .int .i64 0, .string ⟨#[]⟩] 37) = xk at *
                      refine Kt.G.one 2 { dst := some 102, op := Op.buildSlice 22 1 #[(0, Operand.tmp 101)], type := 22, pos := "typist.go:77", after := #[{ on := 1, ground := Ground.data }], guard := none } rfl (by kernel_rfl) (by rfl) (fun K hK => ?_)
                      go_simp
                      refine hK.out _ _ (fun _ => hHeld.alloc _) (fun hHeld => ?_)
                      have hHeld := hHeld rfl
                      clear hK K
                      try simp only [Act.put, List.setIfInBounds_toArray, List.set_cons_zero, List.set_cons_succ]
                      have HA2 := Lib.hid (Kt.Ar.new xk #[.int .i64 c] 3 1 1 rfl)
                      replace rK := Kt.row_on (Kt.balloc (Below.refl _ xk) (.cells #[.int .i64 c] 3)) rK
                      generalize xk.alloc (.cells #[.int .i64 c] 3) = y2 at *
                      refine Kt.G.one 3 { dst := some 103, op := Op.call { callee := Callee.value (Operand.func 11), args := #[Operand.tmp 102], argTypes := #[22] }, type := 26, pos := "typist.go:77", after := #[{ on := 2, ground := Ground.data }], guard := none } rfl (by kernel_rfl) (by rfl) (fun K hK => ?_)
                      try (have hkk := lt_of_row0 rK)
                      have hszz := hHeld.bel.size
                      go_simp
                      refine (press1_calls _ _ _ _ HA2.out).mono ?_; rintro en x3 ⟨A3, c3, rfl, hs3, hb3⟩
                      refine hK.out _ _ (fun _ => hHeld.on hb3) (fun hHeld => ?_)
                      have hHeld := hHeld rfl
                      clear hK K
                      try simp only [Act.put, List.setIfInBounds_toArray, List.set_cons_zero, List.set_cons_succ]
                      replace rK := Kt.row_on (hb3) rK
                      have HS3 := Lib.hid (hs3.mono hszz)
                      try clear hkk
                      clear hs3 hb3 hszz HA2
                      refine Kt.G.one 4 { dst := some 104, op := Op.call { callee := Callee.value (Operand.func 12), args := #[Operand.tmp 100, Operand.tmp 103], argTypes := #[37, 26] }, type := 39, pos := "typist.go:77", after := #[{ on := 0, ground := Ground.data }, { on := 3, ground := Ground.data }, { on := 3, ground := Ground.chain }], guard := none } rfl (by kernel_rfl) (by rfl) (fun K hK => ?_)
                      go_simp
                      refine (HT11.out _ hHeld.bel _ _ _ HS3.out).mono ?_; rintro en x4 ⟨rfl, hb4⟩
                      refine hK.out _ _ (fun _ => hHeld.on hb4) (fun hHeld => ?_)
                      have hHeld := hHeld rfl
                      clear hK K
                      try simp only [Act.put, List.setIfInBounds_toArray, List.set_cons_zero, List.set_cons_succ]
                      replace rK := Kt.row_on hb4 rK
                      clear hb4 HS3
                      refine Kt.G.takeP 5 { dst := some 99, op := Op.move (Operand.tmp 104), type := 39, pos := "typist.go:77", after := #[{ on := 4, ground := Ground.data }], guard := none } ?_ (fun _ => hHeld) rfl (by kernel_rfl) (fun _ _ _ h => h) (by rfl) ?_ ?_
                      rotate_left
                      · intro w; go_simp; try with_reducible rfl
                      try simp only [Act.put, List.setIfInBounds_toArray, List.set_cons_zero, List.set_cons_succ]
                      refine Kt.G.takeP 6 { dst := some 105, op := Op.extract (Operand.tmp 99) 0, type := 37, pos := "typist.go:77", after := #[{ on := 5, ground := Ground.data }], guard := none } ?_ (fun _ => hHeld) rfl (by kernel_rfl) (fun _ _ _ h => h) (by rfl) ?_ ?_
                      rotate_left
                      · intro w; go_simp; try with_reducible rfl
                      try simp only [Act.put, List.setIfInBounds_toArray, List.set_cons_zero, List.set_cons_succ]
                      refine Kt.G.takeP 7 { dst := some 106, op := Op.extract (Operand.tmp 99) 1, type := 38, pos := "typist.go:77", after := #[{ on := 5, ground := Ground.data }, { on := 9, ground := Ground.gcOnly Departure.lateStores }], guard := none } ?_ (fun _ => hHeld) rfl (by kernel_rfl) (fun _ _ _ h => h) (by rfl) ?_ ?_
                      rotate_left
                      · intro w; go_simp; try with_reducible rfl
                      try simp only [Act.put, List.setIfInBounds_toArray, List.set_cons_zero, List.set_cons_succ]
                    all_goals
                      refine Kt.G.one 9 { dst := none, op := Op.store 37 (Operand.tmp 12) (Operand.tmp 105), type := 0, pos := "typist.go:77", after := #[{ on := 8, ground := Ground.data }, { on := 6, ground := Ground.data }, { on := 4, ground := Ground.chain }, { on := 0, ground := Ground.phase }, { on := 1, ground := Ground.phase }, { on := 2, ground := Ground.phase }, { on := 3, ground := Ground.phase }, { on := 4, ground := Ground.phase }, { on := 5, ground := Ground.phase }, { on := 6, ground := Ground.phase }, { on := 7, ground := Ground.textOnly Departure.lateStores }, { on := 8, ground := Ground.phase }], guard := none } rfl (by kernel_rfl) (by rfl) (fun K hK => ?_)
                      have cK := fun i => cell_of_row _ _ i _ _ _ rK; have fK := fun i => frozen_of_row _ _ i _ _ rK
                      go_simp
                      refine hK.out _ _ (Kt.G.late (by kernel_rfl)) (fun _ => ?_)
                      clear hK K
                      try simp only [Act.put, List.setIfInBounds_toArray, List.set_cons_zero, List.set_cons_succ]
                      refine Kt.G.takeP 10 { dst := some 13, op := Op.assign (Operand.tmp 106), type := 38, pos := "typist.go:77", after := #[{ on := 7, ground := Ground.data }, { on := 9, ground := Ground.chain }, { on := 0, ground := Ground.phase }, { on := 1, ground := Ground.phase }, { on := 2, ground := Ground.phase }, { on := 3, ground := Ground.phase }, { on := 4, ground := Ground.phase }, { on := 5, ground := Ground.phase }, { on := 6, ground := Ground.phase }, { on := 7, ground := Ground.phase }, { on := 8, ground := Ground.phase }, { on := 9, ground := Ground.phase }], guard := none } ?_ (Kt.G.late (by kernel_rfl)) rfl (by kernel_rfl) (fun _ _ _ h => h) (by rfl) ?_ ?_
                      rotate_left
                      · intro w; go_simp; try with_reducible rfl
                      try simp only [Act.put, List.setIfInBounds_toArray, List.set_cons_zero, List.set_cons_succ]
                      refine Kt.G.done (by kernel_rfl) (NoPanic.normal ?_) _
                      go_wp2_with fail
                      go_meet
                      case rel =>
                        exact ⟨kZ, rfl, rfl, Kt.fill [.int .u64 (D.held.a.toNat : Int), .int .u64 (D.held.b.toNat : Int), .int .u64 (D.held.c.toNat : Int), .int .u64 (D.held.d.toNat : Int), .bool D.caps, .int .i64 D.dead, .int .i64 D.last, .int .i64 D.wait, .string D.text] rK rfl, set9 hHeld.bel hk0 [.int .u64 (D.held.a.toNat : Int), .int .u64 (D.held.b.toNat : Int), .int .u64 (D.held.c.toNat : Int), .int .u64 (D.held.d.toNat : Int), .bool D.caps, .int .i64 D.dead, .int .i64 D.last, .int .i64 D.wait, .string D.text]⟩
                    -- END11
                  case rest =>
                    obtain ⟨kD, rfl, rfl, hrd, hbd⟩ := hcut
                    have r3 := Kt.row_on hbd HW8.out.2.2.1
                    have HB12 := Lib.hid (Kt.bthen HW8.out.2.2.2.2 hbd)
                    have e1 := HAB.out.2 (by omega)
                    unfold St.cs at r3 hrd
                    rw [e1] at r3
                    have q3 := fun i => cell_of_row _ _ i _ _ _ r3
                    have q4 := fun i => cell_of_row _ _ i _ _ _ hrd
                    clear r3 hrd hbd e1 h29
                    go_wp2_with fail
                    go_ret
                    exact ⟨rfl, HB12.out⟩
    · have EQ := fun W => neq_hd t.held true (by rw [decide_eq_false hh]; rfl) W
      have EG := fun u v W => guard_hd u v t.held.vs zh W
      unfold Hd.vs zh at EQ EG
      clear hh
      go_wp2_with fail
      refine (HLV.out _ HW3.out.2).mono ?_; rintro en w4 ⟨rfl, hb⟩
      have HB4 := Lib.hid (Kt.bthen HW3.out.2 hb)
      clear hb
      go_wp2_with fail
      go_ret
      exact ⟨rfl, HB4.out⟩
  · have he' : (E != 0) = true := by rw [bne_iff_ne]; exact he
    clear he
    go_wp2_with fail
    refine (HCK.out _).mono ?_; rintro en w3 ⟨rfl, hb⟩
    have HB3 := Lib.hid (Kt.bthen HW2.out.2 hb)
    clear hb HW2 HCK q
    go_wp2_with fail
    refine (HLV.out _ HB3.out).mono ?_; rintro en w4 ⟨rfl, hb⟩
    have HB4 := Lib.hid (Kt.bthen HB3.out hb)
    clear hb
    go_wp2_with fail
    go_ret
    exact ⟨rfl, HB4.out⟩
theorem caps_walk (v0 v1 : Value) (w : World) (hT : Lib.Utf8Tabs 0 1 w) (r0 : Fr.RdV w reachBytes (.cat 4 (.cat 4 (.arr 4 1 (.int .u64)) .nil) (.cat 1 .bool (.cat 1 (.int .i64) (.cat 1 (.int .i64) (.cat 1 (.int .i64) (.cat 1 .string .nil)))))) v0) (r1 : Fr.RdV w reachBytes (.int .i64) v1) :
    Calls Tryd.prog 4 #[v0, v1] w fun e w' => e = .returned (.bool true) ∧ Below w.heap.size w w' := by
  obtain ⟨t, rfl⟩ := st_of r0
  obtain ⟨c, e1, _⟩ := r1; cases e1
  exact caps_calls t c w (fun W hW => Utf8Tabs_below hT hW)
end Go.Proofs.YtndkaehbmdiofaaDoor
