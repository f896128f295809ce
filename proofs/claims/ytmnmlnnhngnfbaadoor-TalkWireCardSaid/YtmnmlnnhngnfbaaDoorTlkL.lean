/- talkLives; the law TalkRefines. -/
import Derived.Test.YtmnmlnnhngnfbaaDoorTlkT
import Derived.Test.YtmnmlnnhngnfbaaDoorEq
import Derived.Shelf.Vars
namespace Go.Proofs.YtmnmlnnhngnfbaaDoor
open Go.RowKit Go.Proofs.YtmnmlnnhngnfbaaDoor.PktP Go.Proofs.YtmnmlnnhngnfbaaDoor.Phy Go.Proofs.YtmnmlnnhngnfbaaDoor.Lan
theorem tmax_len {w : World} (h : w.ShapedOpen Tryd.prog) : ∃ m, w.cell? ⟨0, 0, none⟩ = some (.int .i64 m) :=
  cell_of_shapedOpen_int (t := 3) (zero := #[.int .i64 0]) h (by decide +kernel) (by kernel_rfl) rfl (by kernel_rfl) (by kernel_rfl) Tryd.underlying3
theorem tkept_cell {w w' : World} {a : Addr} {u : Value} (hb : Below w.heap.size w w') (h : w.cell? a = some u) : w'.cell? a = some u := by
  have hlt : a.block < w.heap.size := by
    unfold World.cell? at h
    cases hq : w.heap[a.block]? with
    | none => rw [hq] at h; cases h
    | some o => exact (Array.getElem?_eq_some_iff.1 hq).1
  have := hb.block a.block hlt
  unfold World.cell? at h ⊢
  rw [this]; exact h
/-- all that is known of a transfer that went -/
structure Went (t : ByteArray) (s : Nat) (fs : List Int) (l : List ByteArray) (R : Int × St × Nat) (us : List Int) : Prop where
  hl : l = chop s t
  hR : R = carF (p0 l) 0 0 fs
  hu : us = fs.take R.2.2
  run : R.2.1 = runF (p0 l) us
  left : LeftF (p0 l) us
  sz : ∀ x ∈ l, x.size ≤ 64
  len : us.length ≤ 1000
  fate : ∀ f ∈ us, f ∈ fs
theorem went {t : ByteArray} {s : Nat} {fs : List Int} (h : OkArgs t s fs) : Went t s fs (chop s t) (carF (p0 (chop s t)) 0 0 fs) (fs.take (carF (p0 (chop s t)) 0 0 fs).2.2) := by
  have hs1 := h.s1
  have hs2 := h.s2
  have hss : 1 ≤ s ∧ s ≤ 64 := by omega
  have hrun := carF_run fs (p0 (chop s t)) 0 0 (start_ne hss.1 t)
  rw [Nat.sub_zero, Nat.zero_add] at hrun
  exact ⟨rfl, rfl, rfl, hrun.2.2.1, hrun.2.2.2, fun x hx => Nat.le_trans (chop_le hss.1 t x hx) hss.2, by rw [List.length_take]; have := h.f; omega, fun f hf => List.mem_of_mem_take hf⟩
theorem lives_R : carF (p0 (chop 8 ⟨#[]⟩)) 0 0 [1] = (0, ⟨1, 1, [], [⟨#[]⟩]⟩, 1) := rfl
theorem lives_wire : Lib.count (tWire 1 1 (chop 8 ⟨#[]⟩) [1]) endL = 3 := by decide +kernel
theorem lives_size : (tWire 1 1 (chop 8 ⟨#[]⟩) [1]).length ≤ 4000 := by decide +kernel
theorem lives_ok : OkArgs ⟨#[]⟩ (8 : Nat) [1] := ⟨by decide, by decide, by decide, by decide +kernel, by decide, fun k h => by
  have : k = 0 := by simpa using h
  subst this
  exact ⟨by simp, by simp⟩⟩
set_option maxRecDepth 100000 in
theorem tlives_calls (w : World) (m : Int) (hm : w.cell? ⟨0, 0, none⟩ = some (.int .i64 m)) : Calls Tryd.prog 6 #[] w fun e w' => e = .returned (.bool true) ∧ Below w.heap.size w w' := by
  have HT := Lib.hid (talk_good ⟨#[]⟩ 1 1 8 [1] (.slice (some ⟨w.heap.size, 0, none⟩) 1 1) (w.alloc (.cells #[.int .i64 1] 3)) (Kt.Ar.new w #[.int .i64 1] 3 1 1 rfl) (by decide) (by decide) lives_ok _ rfl _ rfl)
  rw [lives_R] at HT
  dsimp only at HT
  rw [show ([1] : List Int).take 1 = [1] from rfl] at HT
  have hsz : (bt (tWire 1 1 (chop 8 ⟨#[]⟩) [1])).size ≤ 4000 := by rw [bt_size]; exact lives_size
  have hct : Lib.countB (bt (tWire 1 1 (chop 8 ⟨#[]⟩) [1])) ⟨#[48, 48, 74]⟩ = 3 := by unfold Lib.countB; rw [bt_list]; exact lives_wire
  have HC := Lib.hid (fun W (hW : W.cell? ⟨0, 0, none⟩ = some (.int .i64 m)) => Tryd.strings_Count (bt (tWire 1 1 (chop 8 ⟨#[]⟩) [1])) ⟨#[48, 48, 74]⟩ m W (by omega) hW (by decide))
  rw [hct] at HC
  have HM := Lib.hid hm
  generalize bt (tWire 1 1 (chop 8 ⟨#[]⟩) [1]) = TW at *
  clear hsz hct hm
  dsimp only [tkV] at HT
  obtain ⟨d, hd⟩ : ∃ x, doneOf (chop 8 ⟨#[]⟩) ⟨1, 1, [], [⟨#[]⟩]⟩ = x := ⟨_, rfl⟩
  obtain ⟨g, hg⟩ : ∃ x : ByteArray, (⟨(cat [⟨#[]⟩]).toArray⟩ : ByteArray) = x := ⟨_, rfl⟩
  rw [hd, hg] at HT
  clear hd hg
  go_enter Tryd.func6, Tryd.ntmps6
  go_wp2_with fail
  refine HT.out.mono ?_; rintro en w1 ⟨rfl, hb1⟩
  have HB1 := Lib.hid (Kt.bthen (Kt.balloc (Below.refl w.heap.size w) (.cells #[.int .i64 1] 3)) hb1)
  clear hb1 HT
  go_wp2_with fail
  refine (HC.out _ (tkept_cell (Kt.balloc HB1.out _) HM.out)).mono ?_; rintro en w2 ⟨rfl, rfl⟩
  go_wp2_with fail
  go_ret
  exact ⟨rfl, Kt.balloc HB1.out _⟩
def crTy : Fr.Ty := .cat 1 (.int .i64) (.cat 1 .string (.cat 1 (.int .i64) (.cat 1 (.int .i64) .nil)))
theorem fit_cr : Fr.fits Tryd.prog 12 26 crTy = true := by kernel_rfl
theorem ok_cr : Fr.eqOk Tryd.prog 12 26 = true := by kernel_rfl
theorem eq_cr_same (c : Int) (g : ByteArray) (d u : Int) (w : World) : (binOp .eql 26 (.agg #[.int .i64 c, .string g, .int .i64 d, .int .i64 u]) (.agg #[.int .i64 c, .string g, .int .i64 d, .int .i64 u])).run Tryd.prog w = .ok (.bool true) w := by
  have h1 : Fr.Cl crTy [.int .i64 c, .string g, .int .i64 d, .int .i64 u] := ⟨by simp, ⟨_, rfl⟩, by simp, ⟨_, rfl⟩, by simp, ⟨_, rfl⟩, by simp, ⟨_, rfl⟩, rfl⟩
  have h := (Fr.eql_agg (P := Tryd.prog) w 26 crTy 12 (by omega) fit_cr ok_cr rfl #[.int .i64 c, .string g, .int .i64 d, .int .i64 u] #[.int .i64 c, .string g, .int .i64 d, .int .i64 u] h1 h1 rfl rfl).1
  rw [h]
  simp
theorem guard_crT : Program.eqGuardType Tryd.prog Tryd.prog.depth 26 = false := by kernel_rfl
theorem guard_cr (p q : Operand) (a b : Array Value) (w : World) : (eqGuard .eql 26 p q (.agg a) (.agg b)).run Tryd.prog w = .ok () w := run_eqGuard_agg w .eql 26 p q a b guard_crT
set_option maxRecDepth 100000 in
theorem refines_bad (t : ByteArray) (a e s : Int) (n : Nat) (xs : List Value) (U : Value) (w : World) (m : Int) (hm : w.cell? ⟨0, 0, none⟩ = some (.int .i64 m)) (hU : Kt.Ar w U 1 n xs) (h : a < 1 ∨ 127 < a ∨ e < 1 ∨ 15 < e ∨ 300 < n) :
    Calls Tryd.prog 3 #[.string t, .int .i64 a, .int .i64 e, .int .i64 s, U] w fun en w' => en = .returned (.bool true) ∧ Below w.heap.size w w' := by
  have h : a < 1 ∨ (¬ a < 1 ∧ 127 < a) ∨ (¬ a < 1 ∧ ¬ 127 < a ∧ e < 1) ∨ (¬ a < 1 ∧ ¬ 127 < a ∧ ¬ e < 1 ∧ 15 < e) ∨ (¬ a < 1 ∧ ¬ 127 < a ∧ ¬ e < 1 ∧ ¬ 15 < e ∧ (300 : Int) < n) := by omega
  have HV := Lib.hid (fun W (hW : Below w.heap.size w W) => tlives_calls W m (tkept_cell hW hm))
  obtain ⟨UA, uc, rfl, _, _⟩ := hU.form
  clear hU hm
  rcases h with h1 | ⟨h1, h2⟩ | ⟨h1, h2, h3⟩ | ⟨h1, h2, h3, h4⟩ | ⟨h1, h2, h3, h4, h5⟩
  all_goals (
    go_enter Tryd.func3, Tryd.ntmps3
    go_wp2_with fail
    refine (HV.out _ (Below.refl _ _)).mono ?_; rintro en w1 ⟨rfl, hb1⟩
    have HB1 := Lib.hid hb1
    clear hb1
    go_wp2_with fail
    refine (HV.out _ HB1.out).mono ?_; rintro en w2 ⟨rfl, hb2⟩
    have HB2 := Lib.hid (Kt.bthen HB1.out hb2)
    clear hb2
    go_wp2_with fail
    go_ret
    exact ⟨rfl, HB2.out⟩)
set_option maxRecDepth 100000 in
set_option maxHeartbeats 1600000 in
theorem refines_good (t : ByteArray) (a e : Int) (s : Int) (fs : List Int) (U : Value) (w : World) (m : Int) (hm : w.cell? ⟨0, 0, none⟩ = some (.int .i64 m)) (hU : Kt.Ar w U 1 fs.length (ics fs)) (ha : 1 ≤ a ∧ a ≤ 127) (he : 1 ≤ e ∧ e ≤ 15) (hf : fs.length ≤ 300) :
    Calls Tryd.prog 3 #[.string t, .int .i64 a, .int .i64 e, .int .i64 s, U] w fun en w' => en = .returned (.bool true) ∧ Below w.heap.size w w' := by
  have HV := Lib.hid (tlives_calls w m hm)
  have i1 : ¬ a < 1 := by omega
  have i2 : ¬ 127 < a := by omega
  have i3 : ¬ e < 1 := by omega
  have i4 : ¬ 15 < e := by omega
  have i5 : ¬ (300 : Int) < fs.length := by omega
  have HC := Lib.hid (fun W (hW : Below w.heap.size w W) => carry_calls t s fs U W (hU.on hW))
  have EQ := fun c g d u w => eq_cr_same c g d u w
  have EG := fun p q a b w => guard_cr p q a b w
  by_cases hok : OkArgs t s fs
  · obtain ⟨n, rfl⟩ : ∃ n : Nat, s = n := ⟨s.toNat, by have := hok.s1; omega⟩
    have HT := Lib.hid (fun W (hW : Below w.heap.size w W) => talk_good t a e n fs U W (hU.on hW) ha he hok _ rfl _ rfl)
    have HOK := Lib.hid hok
    obtain ⟨UA, uc, rfl, _, _⟩ := hU.form
    clear hU hm ha he hf hok
    dsimp only [tkV] at HT
    go_enter Tryd.func3, Tryd.ntmps3
    go_wp2_with fail
    refine HV.out.mono ?_; rintro en w1 ⟨rfl, hb1⟩
    have HB1 := Lib.hid hb1
    clear hb1
    go_wp2_with fail
    refine (HT.out _ HB1.out).mono ?_; rintro en w2 ⟨rfl, hb2⟩
    have HB2 := Lib.hid (Kt.bthen HB1.out hb2)
    clear hb2 HT HB1
    generalize bt (tWire a e (chop n t) (fs.take (carF (p0 (chop n t)) 0 0 fs).2.2)) = TW at *
    go_wp2_with fail
    refine (HC.out _ (Kt.balloc HB2.out _)).mono ?_
    rintro en w3 (⟨_, rfl, hb3⟩ | ⟨hno, _⟩)
    · rw [Int.toNat_natCast]
      dsimp only [carOf, carV]
      have q3 := Kt.box1 hb3
      have c3 := fun i => cell_of_row _ _ i _ _ _ q3
      have z3 := (Array.getElem?_eq_some_iff.1 q3).1
      have HB3 := Lib.hid (Kt.bthen (Kt.balloc HB2.out _) hb3)
      clear hb3 q3 HC HB2
      go_wp2_with fail
      go_ret
      exact ⟨rfl, Kt.balloc HB3.out _⟩
    · exact absurd HOK.out hno
  · have HT := Lib.hid (fun W (hW : Below w.heap.size w W) => talk_err t a e s fs U W (hU.on hW) ha he hok)
    have HOK := Lib.hid hok
    obtain ⟨UA, uc, rfl, _, _⟩ := hU.form
    clear hU hm ha he hf hok
    dsimp only [tkV] at HT
    go_enter Tryd.func3, Tryd.ntmps3
    go_wp2_with fail
    refine HV.out.mono ?_; rintro en w1 ⟨rfl, hb1⟩
    have HB1 := Lib.hid hb1
    clear hb1
    go_wp2_with fail
    refine (HT.out _ HB1.out).mono ?_; rintro en w2 ⟨rfl, _, hb2⟩
    have HB2 := Lib.hid (Kt.bthen HB1.out hb2)
    clear hb2 HT HB1
    go_wp2_with fail
    refine (HC.out _ (Kt.balloc HB2.out _)).mono ?_
    rintro en w3 (⟨hok, _⟩ | ⟨_, n, ⟨_, hn⟩, rfl, hb3⟩)
    · exact absurd hok HOK.out
    · subst hn
      dsimp only [carV]
      have q3 := Kt.box1 hb3
      have c3 := fun i => cell_of_row _ _ i _ _ _ q3
      have z3 := (Array.getElem?_eq_some_iff.1 q3).1
      have HB3 := Lib.hid (Kt.bthen (Kt.balloc HB2.out _) hb3)
      generalize errC t s fs = E at *
      clear hb3 q3 HC HB2
      go_wp2_with fail
      go_ret
      exact ⟨rfl, Kt.balloc HB3.out _⟩
theorem refines_walk (v0 v1 v2 v3 v4 : Value) (w : World) (hsh : w.ShapedOpen Tryd.prog) (r0 : Fr.RdV w reachBytes .string v0) (r1 : Fr.RdV w reachBytes (.int .i64) v1) (r2 : Fr.RdV w reachBytes (.int .i64) v2) (r3 : Fr.RdV w reachBytes (.int .i64) v3) (r4 : Fr.RdV w reachBytes (.slice 1 (.int .i64)) v4) :
    Calls Tryd.prog 3 #[v0, v1, v2, v3, v4] w fun en w' => en = .returned (.bool true) ∧ Below w.heap.size w w' := by
  obtain ⟨m, hm⟩ := tmax_len hsh
  obtain ⟨t, h0, _⟩ := r0
  obtain ⟨a, h1, _⟩ := r1
  obtain ⟨e, h2, _⟩ := r2
  obtain ⟨s, h3, _⟩ := r3
  injection h0 with h0 _
  injection h1 with h1 _
  injection h2 with h2 _
  injection h3 with h3 _
  subst h0 h1 h2 h3
  obtain ⟨fs, _, _, hU⟩ := Kt.ar_ints r4
  by_cases h : a < 1 ∨ 127 < a ∨ e < 1 ∨ 15 < e ∨ 300 < fs.length
  · exact refines_bad t a e s _ _ v4 w m hm hU h
  · exact refines_good t a e s fs v4 w m hm hU (by omega) (by omega) (by omega)
end Go.Proofs.YtmnmlnnhngnfbaaDoor
