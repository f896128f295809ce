/- The law HostOnce, walked. -/
import Derived.Test.YtidcbboonjenhaaHstY
import Derived.Test.YtidcbboonjenhaaHs1
import Derived.Shelf.Abstract
namespace Go.Proofs.Ytidcbboonjenhaa
open Go.RowKit Go.Shelf Classical Go.Proofs.Ytidcbboonjenhaa.Slt
theorem fit_event : Fr.fits Try.prog 12 56 (.cat 1 (.int .i64) (.cat 1 (.int .i64) (.cat 1 (.int .i64) .nil))) = true := by kernel_rfl
theorem ok_event : Fr.eqOk Try.prog 12 56 = true := by kernel_rfl
theorem eq_event (x y : List Int) (hx : x.length = 3) (hy : y.length = 3) : (x = y → ∀ w, (binOp .eql 56 (.agg (Kt.ia .i64 x)) (.agg (Kt.ia .i64 y))).run Try.prog w = .ok (.bool true) w ∧ (binOp .neq 56 (.agg (Kt.ia .i64 x)) (.agg (Kt.ia .i64 y))).run Try.prog w = .ok (.bool false) w) ∧
      (x ≠ y → ∀ w, (binOp .eql 56 (.agg (Kt.ia .i64 x)) (.agg (Kt.ia .i64 y))).run Try.prog w = .ok (.bool false) w ∧ (binOp .neq 56 (.agg (Kt.ia .i64 x)) (.agg (Kt.ia .i64 y))).run Try.prog w = .ok (.bool true) w) :=
  Kt.eq_ia (P := Try.prog) .i64 56 (.cat 1 (.int .i64) (.cat 1 (.int .i64) (.cat 1 (.int .i64) .nil))) 12 (by omega) fit_event ok_event rfl rfl rfl (fun _ => rfl) x y (by rw [hx]; rfl) (by rw [hy]; rfl)
theorem guard_eventT : Program.eqGuardType Try.prog Try.prog.depth 56 = false := by kernel_rfl
theorem guard_event (op : BinOp) (x y : Operand) (a b : Array Value) (w : World) : (eqGuard op 56 x y (.agg a) (.agg b)).run Try.prog w = .ok () w := run_eqGuard_agg w op 56 x y _ _ guard_eventT
theorem neq_event (k s e : Int) (w : World) : (binOp .neq 56 (.agg #[.int .i64 k, .int .i64 s, .int .i64 e]) (.agg #[.int .i64 k, .int .i64 s, .int .i64 e])).run Try.prog w = .ok (.bool false) w := ((eq_event [k, s, e] [k, s, e] rfl rfl).1 rfl w).2
theorem eg_once : ∀ args w, (callFunc 18 args).run Try.prog w = .ok (.enter 18 args) w := enters_of Try.func18 (by kernel_rfl) rfl
theorem once1_calls (d : Dd) (w : World) : Calls Try.prog 18 #[.agg #[.int .i64 d.kd, .int .i64 d.k, .int .i64 d.s, .int .i64 d.e, .int .i64 d.a, .int .i64 d.n, .int .i64 d.sl, .int .i64 d.en]] w fun e w' => e = .returned (.bool (d.kd == 4)) ∧ Below w.heap.size w w' := by
  have HB := Lib.hid (Kt.balloc (Below.refl _ w) (.cells #[.int .i64 d.kd, .int .i64 d.k, .int .i64 d.s, .int .i64 d.e, .int .i64 d.a, .int .i64 d.n, .int .i64 d.sl, .int .i64 d.en] 66))
  go_enter Try.func18, Try.ntmps18
  go_wp2_with fail
  go_ret
  exact ⟨rfl, HB.out⟩
/-- the board's box, laid above the world W7 -/
structure OB (W7 : World) (lb : List Int) (X : World) : Prop where
  b : Bx 43 W7.heap.size lb X
  bel : Below W7.heap.size W7 X
theorem OB.on {W7 X Y : World} {lb : List Int} (h : OB W7 lb X) (hb : Below X.heap.size X Y) : OB W7 lb Y := ⟨h.b.on hb, Kt.bthen h.bel hb⟩
theorem OB.al {W7 X : World} {lb : List Int} (h : OB W7 lb X) (o : Obj) : OB W7 lb (X.alloc o) := h.on (Kt.balloc (Below.refl _ X) o)
theorem tmod_nat (i p : Nat) : Int.tmod (i : Int) (p : Int) = ((i % p : Nat) : Int) := Int.ofNat_tmod i p
structure OnceH (p : Nat) (ins evs : List Int) (ds : List Dd) (got : List E3) : Prop where
  hi : ins = ds.map wd
  fine : ∀ d ∈ ds, inC d.k d.s d.e d.a = true
  hg : got = (evs.take got.length).map dec3
  le : got.length ≤ evs.length
  w : ∀ k (h : k < evs.length), ∃ c n : Int, (0 ≤ c ∧ c ≤ 19) ∧ (0 ≤ n ∧ n ≤ 8) ∧ evs[k] = ev c n ((k % p : Nat) : Int)
  brd : ∃ l, Brd p ins evs l
theorem OnceH.at' {p : Nat} {ins evs : List Int} {ds : List Dd} {got : List E3} (h : OnceH p ins evs ds got) {i : Nat} (hi : i < got.length) {lb : List Int} (hb : Brd p ins (evs.take i) lb) :
    ∃ (hj : i < ds.length) (l' : List Int) (c n : Int), Did lb ds[i].k ds[i].s ds[i].e ds[i].a l' c n ∧ got[i] = (c, n, ((i % p : Nat) : Int)) ∧ Brd p ins (evs.take (i + 1)) l' := by
  have hie : i < evs.length := Nat.lt_of_lt_of_le hi h.le
  obtain ⟨l, hB⟩ := h.brd
  obtain ⟨lb2, l', x, c, n, q1, q2, q3, q4, q5⟩ := hB.at' i hie
  have e0 := hb.fun' q1
  subst e0
  obtain ⟨hj0, hj1⟩ := List.getElem?_eq_some_iff.1 q2
  have hj : i < ds.length := by have := h.hi ▸ hj0; simpa using this
  have hx : wd ds[i] = (x : Int) := by rw [← hj1]; simp [h.hi]
  obtain ⟨y, y1, y2, y3, y4, y5, y6⟩ := un_pk (h.fine _ (List.getElem_mem hj))
  obtain rfl : y = x := by unfold wd at hx; omega
  rw [y3, y4, y5, y6] at q3
  obtain ⟨c2, n2, hc, hn, he⟩ := h.w i hie
  have hd := Go.Proofs.Ytidcbboonjenhaa.Did.bd q3
  refine ⟨hj, l', c, n, q3, ?_, q5⟩
  have e1 : got[i] = dec3 evs[i] := by
    have : got[i]? = ((evs.take got.length).map dec3)[i]? := by rw [← h.hg]
    rw [List.getElem?_eq_getElem hi, List.getElem?_map, List.getElem?_take, if_pos hi, List.getElem?_eq_getElem hie] at this
    simpa using this
  rw [e1, q4, dec_ev hd.1 hd.2]
theorem Did.len' {l l' : List Int} {k s e a c n : Int} (hl : l.length = 594) (h : Did l k s e a l' c n) : l'.length = 594 := by
  by_cases ho : Ok l
  · exact (Did.ok hl ho h).1
  · cases h with
    | bad _ => exact hl
    | _ => exact absurd ‹Ok l› ho
set_option maxRecDepth 100000 in
set_option maxHeartbeats 6400000 in
theorem once_walk (v0 v1 v2 : Value) (w : World) (r0 : Fr.RdV w reachBytes (.int .i64) v0) (r1 : Fr.RdV w reachBytes (.int .i64) v1) (r2 : Fr.RdV w reachBytes (.slice 8 ddTy) v2) :
    Calls Try.prog 6 #[v0, v1, v2] w fun e w' => e = .returned (.bool true) ∧ Below w.heap.size w w' := by
  obtain ⟨a, h, _⟩ := r0
  simp only [List.cons.injEq, and_true] at h
  subst h
  obtain ⟨b, h, _⟩ := r1
  simp only [List.cons.injEq, and_true] at h
  subst h
  obtain ⟨ds, _, hU⟩ := ar_deeds r2
  clear r2
  have HU := Lib.hid hU
  obtain ⟨UA, Uc, rfl, _, _⟩ := hU.form
  clear hU
  have Z0 := zero_machine
  have HPL := Lib.hid (play_calls a b _ ds w HU.out)
  go_enter Try.func6, Try.ntmps6
  go_wp2_with fail
  refine HPL.out.mono ?_
  rintro _ W1 ⟨hb, ⟨hbad, n, hn, rfl⟩ | ⟨hok, M, V1, l1, V2, l2, hrun, rfl, hmo, ha1, ha2⟩⟩
  · have HB1 := Lib.hid hb
    clear hb hbad HPL
    go_upto_region 2 with (refine store_mb rfl (.tmp 7) (.tmp 23) rfl W1.heap.size rfl zM rfl zM_ok zM (heap_alloc_new W1 _) zM_ok ?_
                           intro W3 hW3 hU3)
    have HB3 := Lib.hid (HB1.out.trans (((Kt.balloc (Below.refl _ W1) (.cells (mA zM) 45)).trans hU3.below).mono HB1.out.size))
    clear hW3 hU3 HB1
    go_wp2_with fail
    refine (hostLives_calls _).mono ?_
    rintro _ W4 ⟨rfl, hb⟩
    have HB4 := Lib.hid (Kt.bthen HB3.out hb)
    clear hb HB3
    go_wp2_with fail
    refine (hostLives_calls _).mono ?_
    rintro _ W5 ⟨rfl, hb⟩
    have HB5 := Lib.hid (Kt.bthen HB4.out hb)
    clear hb HB4
    go_wp2_with fail
    go_ret
    exact ⟨rfl, HB5.out⟩
  · obtain ⟨p, hp⟩ : ∃ p : Nat, a = ((p + 1 : Nat) : Int) := ⟨a.toNat - 1, by omega⟩
    obtain ⟨q, hq⟩ : ∃ q : Nat, b = ((q + 1 : Nat) : Int) := ⟨b.toNat - 1, by omega⟩
    subst hp hq
    simp only [Int.toNat_natCast] at hrun
    have HP := Lib.hid (show 2 ≤ p ∧ p ≤ 63 from ⟨by omega, by omega⟩)
    have hds : ds.length ≤ 200 := hok.2.2.2.2
    obtain ⟨evs0, hri⟩ := run_is (by omega) (by omega) (by omega) (by omega) hrun
    have hle : l1.length ≤ (tk ds l2).length := by have h1 := hri.st.e.gp; have h2 := hri.st.c.gp; rw [List.length_map] at h2; omega
    have HRI := Lib.hid hri
    have hl1 : l1.length ≤ 200 := Nat.le_trans hrun.len.1 hds
    have hk := hmo.k
    have HMO := Lib.hid hmo
    have HA1 := Lib.hid ha1
    have HA2 := Lib.hid ha2
    have HB1 := Lib.hid hb
    obtain ⟨A1, c1, rfl, _, _⟩ := ha1.form
    obtain ⟨A2, c2, rfl, _, _⟩ := ha2.form
    clear hrun hri hmo ha1 ha2 hb hok HPL
    go_upto_region 2 with (refine store_mb rfl (.tmp 7) (.tmp 23) rfl W1.heap.size rfl M rfl hk zM (heap_alloc_new W1 _) zM_ok ?_
                           intro W3 hW3 hU3)
    have hb3 := (Kt.balloc (Below.refl _ W1) (.cells (mA zM) 45)).trans hU3.below
    have HB3 := Lib.hid (Kt.bthen HB1.out hb3)
    replace HA1 := Lib.hid (HA1.out.on hb3)
    replace HA2 := Lib.hid (HA2.out.on hb3)
    have HU3 := Lib.hid (HU.out.on HB3.out)
    clear hb3 hW3 hU3 HMO HB1 HU
    go_wp2_with fail
    refine (hostLives_calls _).mono ?_
    rintro _ W4 ⟨rfl, hb⟩
    replace HA1 := Lib.hid (HA1.out.on hb)
    replace HA2 := Lib.hid (HA2.out.on hb)
    replace HU3 := Lib.hid (HU3.out.on hb)
    have HB4 := Lib.hid (Kt.bthen HB3.out hb)
    clear hb HB3
    go_wp2_with fail
    refine (containsFD (fun d => d.kd == 4) _ #[] ds UA Uc W4 HU3.out (Nat.le_trans hds (by decide)) eg_once (fun d _ W _ => once1_calls d W)).mono ?_
    rintro _ W5 ⟨rfl, hb⟩
    replace HA1 := Lib.hid (HA1.out.on hb)
    replace HA2 := Lib.hid (HA2.out.on hb)
    replace HU3 := Lib.hid (HU3.out.on hb)
    have HB5 := Lib.hid (Kt.bthen HB4.out hb)
    clear hb HB4
    cases hany : (ds.any fun d => d.kd == 4) with
    | true =>
      clear hany
      go_wp2_with fail
      refine (hostLives_calls _).mono ?_
      rintro _ W6 ⟨rfl, hb⟩
      have HB6 := Lib.hid (Kt.bthen HB5.out hb)
      clear hb HB5
      go_wp2_with fail
      go_ret
      exact ⟨rfl, HB6.out⟩
    | false =>
      have hno : ∀ d ∈ ds, d.kd ≠ 4 := by
        intro d hd h4
        have := List.any_eq_false.1 hany d hd
        simp [h4] at this
      have HOH : Hid (OnceH p ((tk ds l2).map wd) evs0 (tk ds l2) l1) := Lib.hid ⟨rfl, HRI.out.fine, HRI.out.got, HRI.out.st.e.gp, HRI.out.st.w, _, HRI.out.brd hno⟩
      clear hany hno
      go_wp2_with fail
      refine (taken_calls _ _ ds l2 _ HU3.out HA2.out HRI.out.len hds).mono ?_
      rintro _ W7 ⟨A3, c3, rfl, hcm, hb⟩
      have HCM := Lib.hid hcm
      replace HA1 := Lib.hid (HA1.out.on hb)
      have HB7 := Lib.hid (Kt.bthen HB5.out hb)
      obtain ⟨cs, hcs⟩ : ∃ cs, cs = tk ds l2 := ⟨_, rfl⟩
      have hL2 : cs.length ≤ 200 := by rw [hcs]; exact Nat.le_trans (tk_len _ _) hds
      obtain ⟨ins, hins⟩ : ∃ ins, ins = (tk ds l2).map wd := ⟨_, rfl⟩
      rw [← hins, ← hcs] at HOH
      rw [← hcs] at HCM hle ⊢
      clear hb hcm HA2 HU3 hcs hins HRI HB5
      have Zb := zero_board
      have hle2 : ¬ ((cs.length : Int) < (l1.length : Int)) := by omega
      have hle3 : ¬ cs.length < l1.length := by omega
      have HO0 : Hid (OB W7 zb (W7.alloc (.cells (Kt.ia .i64 zb) 43))) := Lib.hid ⟨heap_alloc_new W7 _, Kt.balloc (Below.refl _ W7) _⟩
      go_upto_region 9 with (fail)
      go_loopw [64] (fun i wr => ∃ (k : Nat) (lb : List Int), k ≤ l1.length ∧ i = .int .i64 (k : Int) ∧ lb.length = 594 ∧ Brd p ins (evs0.take k) lb ∧ OB W7 lb wr) (fun i _ => l1.length - (intOf i).toNat)
      case atStart => exact ⟨0, zb, Nat.zero_le _, rfl, zb_len, by simpa using Brd.nil, HO0.out⟩
      case round =>
        clear HO0
        obtain ⟨k, lb, hk0, rfl, hlb, hbrd, ho⟩ := hrel
        have HO := Lib.hid ho
        by_cases hlt : k < l1.length
        · obtain ⟨hj, l', c, n, hd, hg, hb2⟩ := HOH.out.at' hlt hbrd
          have HD := Lib.hid hd
          have HB2 := Lib.hid hb2
          have hki : (k : Int) < (l1.length : Int) := by omega
          have hji : (k : Int) < (cs.length : Int) := by omega
          obtain ⟨A, c4, hAc, _, hcells⟩ := HA1.out.form
          injection hAc with h1 h2 h3
          subst h1 h3
          obtain ⟨ge, oe, rfl, hge, hce⟩ := hcells (by omega)
          have q : ∀ j (hj : j < 3), wr.cell? ⟨ge, oe + (k * 3 + j), none⟩ = (evc (c, n, ((k % p : Nat) : Int)))[j]? := fun j hj => by
            rw [ho.bel.cell (p := ⟨ge, oe + (k * 3 + j), none⟩) hge, hce (k * 3 + j) (by rw [evs_len]; omega), ← List.getElem?_eq_getElem, evs_get _ _ _ hj, List.getElem?_eq_getElem hlt, hg]; rfl
          obtain ⟨z, hz⟩ : ∃ z : Int, z = ((k % p : Nat) : Int) := ⟨_, rfl⟩
          rw [← hz] at q
          have g0 : wr.cell? ⟨ge, oe + k * 3, none⟩ = some (.int .i64 c) := q 0 (by omega)
          have g1 : wr.cell? ⟨ge, oe + k * 3 + 1, none⟩ = some (.int .i64 n) := q 1 (by omega)
          have g2 : wr.cell? ⟨ge, oe + k * 3 + 2, none⟩ = some (.int .i64 z) := q 2 (by omega)
          have hE : (wr.alloc (.cells #[.int .i64 c, .int .i64 n, .int .i64 z] 56)).heap[wr.heap.size]? = some (.cells #[.int .i64 c, .int .i64 n, .int .i64 z] 56 (0, 0)) := heap_alloc_new wr _
          have HZ := Lib.hid hz
          have HHD := Lib.hid h2
          clear hcells hce q hg hd hb2 h2 hz
          go_upto_region 12 with (fail)
          have HO5 := Lib.hid (HO.out.al (.cells #[.int .i64 c, .int .i64 n, .int .i64 z] 56))
          obtain ⟨gE, hgE0⟩ : ∃ gE, gE = wr.heap.size := ⟨_, rfl⟩
          have hgE : W7.heap.size < gE := by rw [hgE0]; exact HO.out.b.lt
          rw [← hgE0] at hE ⊢
          generalize wr.alloc (.cells #[.int .i64 c, .int .i64 n, .int .i64 z] 56) = W8 at *
          obtain ⟨AC, c5, hAC, _, hcells⟩ := HCM.out.form
          injection hAC with h1 h2 h3
          subst h1 h3
          obtain ⟨gc, oc, rfl, hgc, hcc⟩ := hcells (by omega)
          obtain ⟨d, hd⟩ : ∃ d, cs[k] = d := ⟨_, rfl⟩
          rw [hd] at HD
          have HQ : Hid (∀ X, Below W7.heap.size W7 X → X.cell? ⟨gc, oc + k * 4, none⟩ = some (.int .i64 d.k) ∧ X.cell? ⟨gc, oc + k * 4 + 1, none⟩ = some (.int .i64 d.s) ∧ X.cell? ⟨gc, oc + k * 4 + 2, none⟩ = some (.int .i64 d.e) ∧ X.cell? ⟨gc, oc + k * 4 + 3, none⟩ = some (.int .i64 d.a)) := Lib.hid (fun X hX => by
            have q : ∀ j (hj : j < 4), X.cell? ⟨gc, oc + (k * 4 + j), none⟩ = (cmd4 d)[j]? := fun j hj => by
              rw [hX.cell (p := ⟨gc, oc + (k * 4 + j), none⟩) hgc, hcc (k * 4 + j) (by rw [cmv_len]; omega), ← List.getElem?_eq_getElem, cmv_get _ _ _ hj, List.getElem?_eq_getElem (by assumption), hd]; rfl
            exact ⟨q 0 (by omega), q 1 (by omega), q 2 (by omega), q 3 (by omega)⟩)
          have hll : l'.length = 594 := Did.len' hlb HD.out
          have hsz : (Try.prog.info? 43).map (·.size) = some lb.length := by rw [hlb]; exact size_board
          have hsz' : (Try.prog.info? 43).map (·.size) = some l'.length := by rw [hll]; exact size_board
          have HDO := Lib.hid (fun W => do_calls lb hlb d.k d.s d.e d.a W)
          clear hcells hcc hd h2 ho HO hgE0
          refine Kt.G.start 10 (fun X => OB W7 lb X ∧ X.heap[gE]? = some (.cells #[.int .i64 c, .int .i64 n, .int .i64 z] 56 (0, 0))) (by kernel_rfl) ⟨HO5.out.on (bdrewN (Below.refl _ W8) 1), hE⟩ (fun hHeld => ?_)
          refine Kt.G.load_row 0 { dst := some 70, op := Op.load 43 (Operand.tmp 13), type := 43, pos := "host.go:66", after := #[], guard := none } 43 (Operand.tmp 13) W7.heap.size 43 (Kt.ia .i64 lb) _ hHeld rfl (by kernel_rfl) (fun _ _ _ h => h) (by rfl) rfl rfl (fun _ h => h.1.b) Try.underlying43 rfl (by rw [Kt.ia_size]; exact hsz) ?_
          try simp only [Act.put, List.setIfInBounds_toArray, List.set_cons_zero, List.set_cons_succ]
          refine Kt.G.takeP 1 { dst := some 71, op := Op.move (Operand.tmp 11), type := 50, pos := "host.go:66", after := #[], guard := none } ?_ (fun _ => hHeld) rfl (by kernel_rfl) (fun _ _ _ h => h) (by rfl) ?_ ?_
          rotate_left
          · intro w; go_simp; try with_reducible rfl
          try simp only [Act.put, List.setIfInBounds_toArray, List.set_cons_zero, List.set_cons_succ]
          refine Kt.G.takeP 2 { dst := some 72, op := Op.move (Operand.tmp 14), type := 3, pos := "host.go:66", after := #[], guard := none } ?_ (fun _ => hHeld) rfl (by kernel_rfl) (fun _ _ _ h => h) (by rfl) ?_ ?_
          rotate_left
          · intro w; go_simp; try with_reducible rfl
          try simp only [Act.put, List.setIfInBounds_toArray, List.set_cons_zero, List.set_cons_succ]
          refine Kt.G.takeP 3 { dst := some 73, op := Op.indexAddr 50 (Operand.tmp 71) (Operand.tmp 72), type := 0, pos := "host.go:66", after := #[{ on := 1, ground := Ground.data }, { on := 2, ground := Ground.data }], guard := none } ?_ (fun _ => hHeld) rfl (by kernel_rfl) (fun _ _ _ h => h) (by rfl) ?_ ?_
          rotate_left
          · intro w; go_simp; try with_reducible rfl
          try simp only [Act.put, List.setIfInBounds_toArray, List.set_cons_zero, List.set_cons_succ]
          refine Kt.G.take 4 { dst := some 74, op := Op.load 23 (Operand.tmp 73), type := 23, pos := "host.go:66", after := #[{ on := 3, ground := Ground.data }], guard := none } ?_ hHeld rfl (by kernel_rfl) (fun _ _ _ h => h) (by rfl) ?_ ?_
          rotate_left
          · intro w hSw; obtain ⟨m0, m1, m2, m3⟩ := HQ.out _ hSw.1.bel; go_simp; try with_reducible rfl
          try simp only [Act.put, List.setIfInBounds_toArray, List.set_cons_zero, List.set_cons_succ]
          refine Kt.G.one 5 { dst := some 75, op := Op.call { callee := Callee.value (Operand.func 19), args := #[Operand.tmp 70, Operand.tmp 74], argTypes := #[43, 23] }, type := 68, pos := "host.go:66", after := #[{ on := 0, ground := Ground.data }, { on := 4, ground := Ground.data }], guard := none } rfl (by kernel_rfl) (by rfl) (fun K hK => ?_)
          go_simp
          refine (HDO.out _).mono ?_; rintro en x5 ⟨l2', c', n', hd', rfl, hb5⟩
          obtain ⟨e1, e2, e3⟩ := HD.out.fun' hd'
          subst e1 e2 e3
          refine hK.out _ _ (fun _ => ⟨hHeld.1.on hb5, Kt.row_on hb5 hHeld.2⟩) (fun hHeld => ?_)
          have hHeld := hHeld rfl
          clear hK K
          try simp only [Act.put, List.setIfInBounds_toArray, List.set_cons_zero, List.set_cons_succ]
          clear hb5 hd'
          refine Kt.G.takeP 6 { dst := some 69, op := Op.move (Operand.tmp 75), type := 68, pos := "host.go:66", after := #[{ on := 5, ground := Ground.data }], guard := none } ?_ (fun _ => hHeld) rfl (by kernel_rfl) (fun _ _ _ h => h) (by rfl) ?_ ?_
          rotate_left
          · intro w; go_simp; try with_reducible rfl
          try simp only [Act.put, List.setIfInBounds_toArray, List.set_cons_zero, List.set_cons_succ]
          refine Kt.G.takeP 7 { dst := some 76, op := Op.extract (Operand.tmp 69) 0, type := 43, pos := "host.go:66", after := #[{ on := 6, ground := Ground.data }], guard := none } ?_ (fun _ => hHeld) rfl (by kernel_rfl) (fun _ _ _ h => h) (by rfl) ?_ ?_
          rotate_left
          · intro w; go_simp; try with_reducible rfl
          try simp only [Act.put, List.setIfInBounds_toArray, List.set_cons_zero, List.set_cons_succ]
          refine Kt.G.takeP 8 { dst := some 77, op := Op.extract (Operand.tmp 69) 1, type := 3, pos := "host.go:66", after := #[{ on := 6, ground := Ground.data }, { on := 10, ground := Ground.gcOnly Departure.lateStores }], guard := none } ?_ (fun _ => hHeld) rfl (by kernel_rfl) (fun _ _ _ h => h) (by rfl) ?_ ?_
          rotate_left
          · intro w; go_simp; try with_reducible rfl
          try simp only [Act.put, List.setIfInBounds_toArray, List.set_cons_zero, List.set_cons_succ]
          refine Kt.G.takeP 9 { dst := some 78, op := Op.extract (Operand.tmp 69) 2, type := 3, pos := "host.go:66", after := #[{ on := 6, ground := Ground.data }, { on := 11, ground := Ground.gcOnly Departure.lateStores }], guard := none } ?_ (fun _ => hHeld) rfl (by kernel_rfl) (fun _ _ _ h => h) (by rfl) ?_ ?_
          rotate_left
          · intro w; go_simp; try with_reducible rfl
          try simp only [Act.put, List.setIfInBounds_toArray, List.set_cons_zero, List.set_cons_succ]
          refine Kt.G.one 10 { dst := none, op := Op.store 43 (Operand.tmp 13) (Operand.tmp 76), type := 0, pos := "host.go:66", after := #[{ on := 7, ground := Ground.data }, { on := 5, ground := Ground.chain }, { on := 0, ground := Ground.phase }, { on := 1, ground := Ground.phase }, { on := 2, ground := Ground.phase }, { on := 3, ground := Ground.phase }, { on := 4, ground := Ground.phase }, { on := 5, ground := Ground.phase }, { on := 6, ground := Ground.phase }, { on := 7, ground := Ground.phase }, { on := 8, ground := Ground.textOnly Departure.lateStores }, { on := 9, ground := Ground.textOnly Departure.lateStores }], guard := none } rfl (by kernel_rfl) (by rfl) (fun K hK => ?_)
          have hU := Upd.row (x5) W7.heap.size (Kt.ia .i64 l')
          have hN : Bx 43 W7.heap.size l' ((x5).setRow W7.heap.size (Kt.ia .i64 l')) := setRow_heap _ _ _ _ _ _ hHeld.1.b
          have hOB : OB W7 l' ((x5).setRow W7.heap.size (Kt.ia .i64 l')) := ⟨hN, hHeld.1.bel.trans hU.below⟩
          have hEV := hU.row' hHeld.2 (Nat.ne_of_gt hgE)
          refine wp_store_row 43 (.tmp 13) (.tmp 76) rfl W7.heap.size (Kt.ia .i64 l') rfl rfl 43 (Kt.ia .i64 lb) hHeld.1.b (by rw [Kt.ia_size]; exact hsz') (by rw [Kt.ia_size, Kt.ia_size, hlb, hll]) (Kt.ia_one _ _) ?_
          refine hK.out _ _ (Kt.G.late (by kernel_rfl)) (fun _ => ?_)
          clear hK K
          try simp only [Act.put]
          clear hU hN
          generalize (x5).setRow W7.heap.size (Kt.ia .i64 l') = X1 at *
          refine Kt.G.takeP 11 { dst := some 16, op := Op.assign (Operand.tmp 77), type := 3, pos := "host.go:66", after := #[{ on := 8, ground := Ground.data }, { on := 10, ground := Ground.chain }, { on := 0, ground := Ground.phase }, { on := 1, ground := Ground.phase }, { on := 2, ground := Ground.phase }, { on := 3, ground := Ground.phase }, { on := 4, ground := Ground.phase }, { on := 5, ground := Ground.phase }, { on := 6, ground := Ground.phase }, { on := 7, ground := Ground.phase }, { on := 8, ground := Ground.phase }, { on := 9, ground := Ground.textOnly Departure.lateStores }, { on := 10, ground := Ground.phase }], guard := none } ?_ (Kt.G.late (by kernel_rfl)) rfl (by kernel_rfl) (fun _ _ _ h => h) (by rfl) ?_ ?_
          rotate_left
          · intro w; go_simp; try with_reducible rfl
          try simp only [Act.put, List.setIfInBounds_toArray, List.set_cons_zero, List.set_cons_succ]
          refine Kt.G.takeP 12 { dst := some 17, op := Op.assign (Operand.tmp 78), type := 3, pos := "host.go:66", after := #[{ on := 9, ground := Ground.data }, { on := 11, ground := Ground.chain }, { on := 0, ground := Ground.phase }, { on := 1, ground := Ground.phase }, { on := 2, ground := Ground.phase }, { on := 3, ground := Ground.phase }, { on := 4, ground := Ground.phase }, { on := 5, ground := Ground.phase }, { on := 6, ground := Ground.phase }, { on := 7, ground := Ground.phase }, { on := 8, ground := Ground.phase }, { on := 9, ground := Ground.phase }, { on := 10, ground := Ground.phase }, { on := 11, ground := Ground.phase }], guard := none } ?_ (Kt.G.late (by kernel_rfl)) rfl (by kernel_rfl) (fun _ _ _ h => h) (by rfl) ?_ ?_
          rotate_left
          · intro w; go_simp; try with_reducible rfl
          try simp only [Act.put, List.setIfInBounds_toArray, List.set_cons_zero, List.set_cons_succ]
          refine Kt.G.done (by kernel_rfl) (NoPanic.normal ?_) _
          have hev := fun i => cell_of_row _ _ i _ _ _ hEV
          have NQ := neq_event c n z
          have GQ := guard_event
          have hrem : Int.tmod (k : Int) (p : Int) = z := by rw [tmod_nat, HZ.out]
          have hp0 : ¬ (p : Int) = 0 := by have := HP.out.1; omega
          have hp0' : ¬ p = 0 := by have := HP.out.1; omega
          have hp63 := HP.out.2
          clear g0 g1 g2 hHeld
          go_upto_region 13 with (fail)
          go_quiet (fail)
          clear hrem hp0 hp0'
          go_wp2_with fail
          go_roundw
          case rel => exact ⟨k + 1, l', by omega, by go_num, hll, HB2.out, hOB.on (bdrewN (Below.refl _ _) _)⟩
          case measure => simp [intOf]; omega
        · have hki : ¬ ((k : Int) < (l1.length : Int)) := by omega
          have HB := Lib.hid (Kt.bthen HB7.out ho.bel)
          clear ho
          go_wp2_with fail
          go_ret
          exact ⟨rfl, HB.out⟩
end Go.Proofs.Ytidcbboonjenhaa
