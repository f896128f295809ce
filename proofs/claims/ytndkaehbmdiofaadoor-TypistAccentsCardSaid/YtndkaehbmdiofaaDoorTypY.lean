/- typist: Type walked. -/
import Derived.Test.YtndkaehbmdiofaaDoorTypS
namespace Go.Proofs.YtndkaehbmdiofaaDoor
open Go.RowKit Go.Proofs.YtndkaehbmdiofaaDoor.Typ
def sks (l : List Sk) : List Value := l.flatMap Sk.cs
theorem sks_len (l : List Sk) : (sks l).length = l.length * 4 := by
  induction l with
  | nil => rfl
  | cons x l ih => simp only [sks, List.flatMap_cons, List.length_append, List.length_cons] at ih ⊢; simp only [Sk.cs, List.length_cons, List.length_nil]; omega
theorem sks_at (l : List Sk) (k : Nat) (h : k < l.length) : (sks l)[k * 4]? = some (.int .i64 l[k].kind) ∧ (sks l)[k * 4 + 1]? = some (.int .i64 l[k].code) ∧ (sks l)[k * 4 + 2]? = some (.bool l[k].down) ∧ (sks l)[k * 4 + 3]? = some (.int .i64 l[k].n) := by
  induction l generalizing k with
  | nil => simp at h
  | cons x l ih =>
    cases k with
    | zero => exact ⟨rfl, rfl, rfl, rfl⟩
    | succ k =>
      have := ih k (by simpa using h)
      rw [show (k + 1) * 4 = k * 4 + 4 by omega]
      exact this
theorem chk_tk {t : St} (h : chkP t = 0) : TkT t := by
  unfold chkP at h
  split at h
  · cases h
  next hf =>
  split at h
  · cases h
  next hs =>
  have hf' : formB t = true := by simpa using hf
  unfold formB at hf'
  simp only [Bool.and_eq_true, decide_eq_true_iff] at hf'
  obtain ⟨⟨⟨_, h1⟩, h2⟩, h3⟩ := hf'
  refine ⟨by omega, by omega, ?_⟩
  unfold lastB at h3
  simp only [Bool.or_eq_true, Bool.and_eq_true, beq_iff_eq, decide_eq_true_iff] at h3
  rcases h3 with ⟨h, _⟩ | ⟨⟨⟨hp, _⟩, q1⟩, q2⟩
  · exact .inl h
  · exact .inr ⟨hp, q1, q2⟩
theorem TkT.with {t : St} (h : TkT t) (R : Hd) : TkT { t with held := R } := ⟨h.sz, h.dd, h.lw⟩
theorem TkT.down {t : St} (h : TkT t) (c : Int) : TkT (downP t c) := by
  unfold downP
  split
  next hp => exact ⟨typed_text _ _ h.sz, .inl (typed_dead _ _), .inr ⟨hp, by show (1 : Int) ≤ 20; decide, by show (20 : Int) ≤ 20; decide⟩⟩
  split
  · exact ⟨h.sz, h.dd, h.lw⟩
  split
  · refine ⟨put_text _ _ h.sz, ?_, .inl rfl⟩
    dsimp only
    split
    · exact .inr (.inr rfl)
    · exact .inr (.inl rfl)
  · exact h
theorem TkT.tick : ∀ (n : Nat) {t : St}, TkT t → TkT (tickP n t)
  | 0, _, h => h
  | n + 1, t, h => by
    by_cases hl : t.last = 0
    · rw [tick_zero _ _ hl]; exact h
    · by_cases hw : t.wait = 1
      · rw [tick_typed _ _ hl hw]; exact TkT.tick n (h.typed hl)
      · rw [tick_less _ _ hl hw]; exact TkT.tick n (h.less hl hw)
theorem TkT.stroke {t : St} (h : TkT t) (s : Sk) : TkT (strokeP t s).1 := by
  unfold strokeP
  split
  · split
    · exact h
    · split
      · exact (h.with _).down _
      · split
        · exact ⟨h.sz, h.dd, .inl rfl⟩
        · exact h.with _
  · split
    · exact h
    · exact TkT.tick _ h
def zl : List Value := [.int .u64 0, .int .u64 0, .int .u64 0, .int .u64 0, .bool false, .int .i64 0, .int .i64 0, .int .i64 0, .string ⟨#[]⟩]
def zcs : Array Value := #[.int .u64 0, .int .u64 0, .int .u64 0, .int .u64 0, .bool false, .int .i64 0, .int .i64 0, .int .i64 0, .string ⟨#[]⟩]
theorem zero_cs : St.zero.cs = zcs := rfl
theorem ld_ty {W : World} {g : Nat} {cs : Array Value} (hs : cs.size = 9) (h : W.heap[g]? = some (.cells cs 37 (0, 0))) : (loadVar 37 ⟨g, 0, none⟩).run Tryd.prog W = .ok (.agg cs) W :=
  run_loadVar_row W g 37 37 cs (0, 0) _ h Tryd.underlying37 rfl (by rw [hs]; kernel_rfl)
theorem nx4 {k N : Nat} (hk : k < N) (hN : N ≤ 400) : wrap64 ((k : Int) + 1) = ((k + 1 : Nat) : Int) := by unfold wrap64; omega
/-- the argument's box, the result's -/
structure TyW (w0 : World) (t : St) (W : World) : Prop where
  r0 : W.heap[w0.heap.size]? = some (.cells t.cs 37 (0, 0))
  r1 : W.heap[w0.heap.size + 1]? = some (.cells zcs 37 (0, 0))
  bel : Below w0.heap.size w0 W
theorem TyW.on {w0 : World} {t : St} {W W' : World} (h : TyW w0 t W) (hb : Below W.heap.size W W') : TyW w0 t W' := ⟨Kt.row_on hb h.r0, Kt.row_on hb h.r1, Kt.bthen h.bel hb⟩
theorem TyW.start (w0 : World) (t : St) : TyW w0 t ((w0.alloc (.cells t.cs 37)).alloc (.cells zcs 37)) := by
  refine ⟨(Below.heap_alloc _ _ _ (by simp)).trans (heap_alloc_new w0 _), ?_, Kt.balloc (Kt.balloc (Below.refl _ _) _) _⟩
  have := heap_alloc_new (w0.alloc (.cells t.cs 37)) (.cells zcs 37)
  rwa [World.size_alloc] at this
/-- the machine's box and the result's, in the loop -/
structure LpW (w0 : World) (g : Nat) (u : St) (X : World) : Prop where
  mx : Mx g u X
  r1 : X.heap[w0.heap.size + 1]? = some (.cells zcs 37 (0, 0))
  bel : Below w0.heap.size w0 X
theorem LpW.on {w0 : World} {g : Nat} {u : St} {X Y : World} (h : LpW w0 g u X) (hb : Below X.heap.size X Y) : LpW w0 g u Y := ⟨h.mx.on hb, Kt.row_on hb h.r1, Kt.bthen h.bel hb⟩
theorem LpW.upd {w0 : World} {g : Nat} {u v : St} {X Y : World} (h : LpW w0 g u X) (hg : w0.heap.size + 1 < g) (hm : Mx g v Y) (hu : Upd g X Y) : LpW w0 g v Y := ⟨hm, hu.row h.r1 (by omega), hu.to h.bel (by omega)⟩
theorem runP_cons (t : St) (s : Sk) (l : List Sk) : runP t (s :: l) = if (strokeP t s).2 ≠ 0 then (St.zero, (strokeP t s).2) else runP (strokeP t s).1 l := rfl
theorem set9 {w wr : World} {n B : Nat} (h : Below n w wr) (hB : n ≤ B) (news : List Value) : Below n w (wr.setCells B 0 news) := Kt.below_setCells _ _ _ _ _ hB h
set_option maxRecDepth 100000 in
set_option maxHeartbeats 3200000 in
theorem type_calls (t : St) (l : List Sk) (A : Option Addr) (cap : Nat) (w0 : World) (hv : Kt.Ar w0 (.slice A l.length cap) 4 l.length (sks l)) (hT : ∀ W, Below w0.heap.size w0 W → Lib.Utf8Tabs 0 1 W) :
    Calls Tryd.prog 12 #[t.v, .slice A l.length cap] w0 fun e w' => e = .returned (.tuple #[(typeP t l).1.v, .int .i64 (typeP t l).2]) ∧ Below w0.heap.size w0 w' := by
  obtain ⟨T, E, hTE⟩ : ∃ T E, typeP t l = (T, E) := ⟨_, _, rfl⟩
  rw [hTE]
  have HTE := Lib.hid hTE
  have HV := Lib.hid hv
  have HT := Lib.hid hT
  obtain ⟨C, hC⟩ : ∃ C, chkP t = C := ⟨_, rfl⟩
  have HC := Lib.hid hC
  have HCK := Lib.hid (fun W => chk_calls t W)
  rw [hC] at HCK
  clear hv hT hTE hC
  unfold St.v at *
  go_enter Tryd.func12, Tryd.ntmps12
  go_upto_region 1 with (fail)
  refine Kt.fold (fun X => Hid (TyW w0 t X)) (Lib.hid (TyW.start w0 t)) (fun W1 H1 => ?_)
  have hr := H1.out.r0
  unfold St.cs at hr HCK
  have q := fun i => cell_of_row _ _ i _ _ _ hr
  clear hr
  go_wp2_with fail
  refine (HCK.out _).mono ?_; rintro en w2 ⟨rfl, hb⟩
  have H2 := Lib.hid (H1.out.on hb)
  clear hb q H1 HCK
  by_cases hc : C = 0
  · subst hc
    have HK := Lib.hid (chk_tk HC.out)
    by_cases hl : 400 < l.length
    · have hl' : (400 : Int) < l.length := by omega
      have hp := HTE.out
      unfold typeP at hp
      rw [if_neg (by rw [HC.out]; decide), if_pos hl] at hp
      cases hp
      have hr1 := H2.out.r1
      unfold zcs at hr1
      have q1 := fun i => cell_of_row _ _ i _ _ _ hr1
      have f1 := fun i => frozen_of_row _ _ i _ _ hr1
      clear hr1 hl HK HTE
      go_wp2_with fail
      change bodyPost _ _ _ _ _ (w2.setCells (w0.heap.size + 1) 0 zl)
      have hrow := Kt.fill zl H2.out.r1 rfl
      have hrow2 : (w2.setCells (w0.heap.size + 1) 0 zl).heap[w0.heap.size + 1]? = some (.cells #[.int .u64 0, .int .u64 0, .int .u64 0, .int .u64 0, .bool false, .int .i64 0, .int .i64 0, .int .i64 0, .string ⟨#[]⟩] 37 (0, 0)) := hrow
      have hbel := set9 H2.out.bel (Nat.le_succ _) zl
      generalize w2.setCells (w0.heap.size + 1) 0 zl = W' at *
      have hq := fun i => cell_of_row _ _ i _ _ _ hrow2
      exact bodyPost_ret (v := .tuple #[.agg #[.int .u64 0, .int .u64 0, .int .u64 0, .int .u64 0, .bool false, .int .i64 0, .int .i64 0, .int .i64 0, .string ⟨#[]⟩], .int .i64 2]) (by simp [results, Tryd.results12, go_sem, hq]) rfl ⟨rfl, hbel⟩
    · have hl' : ¬ (400 : Int) < l.length := by omega
      have hp := HTE.out
      unfold typeP at hp
      rw [if_neg (by rw [HC.out]; decide), if_neg hl] at hp
      have HTE := Lib.hid hp
      have HL := Lib.hid hl
      clear hp hl
      have hr := H2.out.r0
      unfold St.cs at hr
      have q := fun i => cell_of_row _ _ i _ _ _ hr
      clear hr
      go_upto_region 7 with (fail)
      have hgl := lt_of_row0 H2.out.r1
      refine Kt.fold (fun X => Hid (LpW w0 w2.heap.size t X)) (Lib.hid ⟨heap_alloc_new w2 _, Kt.row_on (Kt.balloc (Below.refl _ w2) _) H2.out.r1, Kt.balloc H2.out.bel _⟩) (fun W3 H3 => ?_)
      obtain ⟨g, hg⟩ : ∃ g, w2.heap.size = g := ⟨_, rfl⟩
      rw [hg] at H3 hgl ⊢
      have HG := Lib.hid hgl
      clear hg hgl q H2 HC
      go_wp2_with fail
      go_loopw [26] (fun ii wr => ∃ (k : Nat) (u : St), ii = .int .i64 k ∧ Hid (k ≤ l.length) ∧ Hid (TkT u ∧ runP u (l.drop k) = (T, E)) ∧ Hid (LpW w0 g u wr)) (fun ii _ => l.length - (intOf ii).toNat)
      case atStart => exact ⟨0, t, rfl, Lib.hid (Nat.zero_le _), Lib.hid ⟨HK.out, HTE.out⟩, H3⟩
      case round =>
        obtain ⟨k, u, rfl, HKN, HKU, HWR⟩ := hrel
        clear HK HTE H3
        by_cases hk : k < l.length
        · have hk' : (k : Int) < l.length := by omega
          have hw1 := nx4 hk (by have := HL.out; omega)
          obtain ⟨i0, i1, i2, i3⟩ := sks_at l k hk
          obtain ⟨A0, c0, e0, _, hcl⟩ := HV.out.form
          cases e0
          obtain ⟨b, o, rfl, hb0, hc1⟩ := hcl (by omega)
          have hcx : ∀ j v, (sks l)[j]? = some v → wr.cell? ⟨b, o + j, none⟩ = some v := fun j v hj => by
            obtain ⟨hj1, rfl⟩ := List.getElem?_eq_some_iff.1 hj
            exact (HWR.out.bel.cell (p := ⟨b, o + j, none⟩) hb0).trans (hc1 j hj1)
          have x0 := hcx _ _ i0
          have x1 := hcx _ _ i1
          have x2 := hcx _ _ i2
          have x3 := hcx _ _ i3
          rw [← Nat.add_assoc] at x1 x2 x3
          have HRN : Hid ((if (strokeP u l[k]).2 ≠ 0 then (St.zero, (strokeP u l[k]).2) else runP (strokeP u l[k]).1 (l.drop (k + 1))) = (T, E)) := Lib.hid (by rw [← HKU.out.2, List.drop_eq_getElem_cons hk, runP_cons])
          have HSU := Lib.hid (HKU.out.1.stroke l[k])
          have HST := Lib.hid (fun W (hW : LpW w0 g u W) => stroke_calls u l[k] g W hW.mx HKU.out.1 (fun X hX => HT.out X (hW.bel.trans (hX.mono (by have := HG.out; omega)))))
          have HNX := Lib.hid (And.intro hk hw1)
          generalize l[k] = s at *
          clear hc1 hcx i0 i1 i2 i3 HKU hk hw1 hcl
          go_wp2_with fail
          have hal := Kt.balloc (Below.refl _ wr) (.cells #[.int .i64 s.kind, .int .i64 s.code, .bool s.down, .int .i64 s.n] 31)
          refine (HST.out _ (HWR.out.on hal)).mono ?_
          rintro en w4 ⟨rfl, hm, hu⟩
          obtain ⟨v, E2, hs2⟩ : ∃ v e, strokeP u s = (v, e) := ⟨_, _, rfl⟩
          rw [hs2] at HRN HSU hm ⊢
          have HW4 : Hid (LpW w0 g v w4) := Lib.hid ((HWR.out.on hal).upd HG.out hm hu)
          have hw1 := HNX.out.2
          clear hm hu hal hs2 HST HWR x0 x1 x2 x3
          by_cases hz : E2 = 0
          · subst hz
            have HRN2 : Hid (runP v (l.drop (k + 1)) = (T, E)) := Lib.hid (by have := HRN.out; rw [if_neg (fun h => h rfl)] at this; exact this)
            clear HRN
            go_wp2_with fail
            exact ⟨⟨k + 1, v, rfl, Lib.hid HNX.out.1, Lib.hid ⟨HSU.out, HRN2.out⟩, HW4⟩, nxm HNX.out.1⟩
          · have hz' : (E2 != 0) = true := by rw [bne_iff_ne]; exact hz
            have hp := HRN.out
            rw [if_pos hz] at hp
            cases hp
            have hr1 := HW4.out.r1
            unfold zcs at hr1
            have q1 := fun i => cell_of_row _ _ i _ _ _ hr1
            have f1 := fun i => frozen_of_row _ _ i _ _ hr1
            clear hr1 hz HRN HSU
            go_wp2_with fail
            change bodyPost _ _ _ _ _ (w4.setCells (w0.heap.size + 1) 0 zl)
            have hrow := Kt.fill zl HW4.out.r1 rfl
            have hrow2 : (w4.setCells (w0.heap.size + 1) 0 zl).heap[w0.heap.size + 1]? = some (.cells #[.int .u64 0, .int .u64 0, .int .u64 0, .int .u64 0, .bool false, .int .i64 0, .int .i64 0, .int .i64 0, .string ⟨#[]⟩] 37 (0, 0)) := hrow
            have hbel := set9 HW4.out.bel (Nat.le_succ _) zl
            generalize w4.setCells (w0.heap.size + 1) 0 zl = W' at *
            have hq := fun i => cell_of_row _ _ i _ _ _ hrow2
            exact bodyPost_ret (v := .tuple #[.agg #[.int .u64 0, .int .u64 0, .int .u64 0, .int .u64 0, .bool false, .int .i64 0, .int .i64 0, .int .i64 0, .string ⟨#[]⟩], .int .i64 E2]) (by simp [results, Tryd.results12, go_sem, hq]) rfl ⟨rfl, hbel⟩
        · have hk' : ¬ (k : Int) < l.length := by omega
          have hp : (u, (0 : Int)) = (T, E) := by have := HKU.out.2; rw [List.drop_of_length_le (by omega)] at this; exact this
          cases hp
          have hr1 := HWR.out.r1
          unfold zcs at hr1
          have q1 := fun i => cell_of_row _ _ i _ _ _ hr1
          have f1 := fun i => frozen_of_row _ _ i _ _ hr1
          have hrm := HWR.out.mx
          unfold Mx St.cs at hrm
          have qm := fun i => cell_of_row _ _ i _ _ _ hrm
          clear hr1 hrm hk HKU
          go_wp2_with fail
          change bodyPost _ _ _ _ _ (wr.setCells (w0.heap.size + 1) 0 [.int .u64 (T.held.a.toNat : Int), .int .u64 (T.held.b.toNat : Int), .int .u64 (T.held.c.toNat : Int), .int .u64 (T.held.d.toNat : Int), .bool T.caps, .int .i64 T.dead, .int .i64 T.last, .int .i64 T.wait, .string T.text])
          have hrow := Kt.fill [.int .u64 (T.held.a.toNat : Int), .int .u64 (T.held.b.toNat : Int), .int .u64 (T.held.c.toNat : Int), .int .u64 (T.held.d.toNat : Int), .bool T.caps, .int .i64 T.dead, .int .i64 T.last, .int .i64 T.wait, .string T.text] HWR.out.r1 rfl
          have hrow2 : (wr.setCells (w0.heap.size + 1) 0 [.int .u64 (T.held.a.toNat : Int), .int .u64 (T.held.b.toNat : Int), .int .u64 (T.held.c.toNat : Int), .int .u64 (T.held.d.toNat : Int), .bool T.caps, .int .i64 T.dead, .int .i64 T.last, .int .i64 T.wait, .string T.text]).heap[w0.heap.size + 1]? = some (.cells #[.int .u64 (T.held.a.toNat : Int), .int .u64 (T.held.b.toNat : Int), .int .u64 (T.held.c.toNat : Int), .int .u64 (T.held.d.toNat : Int), .bool T.caps, .int .i64 T.dead, .int .i64 T.last, .int .i64 T.wait, .string T.text] 37 (0, 0)) := hrow
          have hbel := set9 HWR.out.bel (Nat.le_succ _) [.int .u64 (T.held.a.toNat : Int), .int .u64 (T.held.b.toNat : Int), .int .u64 (T.held.c.toNat : Int), .int .u64 (T.held.d.toNat : Int), .bool T.caps, .int .i64 T.dead, .int .i64 T.last, .int .i64 T.wait, .string T.text]
          generalize wr.setCells (w0.heap.size + 1) 0 [.int .u64 (T.held.a.toNat : Int), .int .u64 (T.held.b.toNat : Int), .int .u64 (T.held.c.toNat : Int), .int .u64 (T.held.d.toNat : Int), .bool T.caps, .int .i64 T.dead, .int .i64 T.last, .int .i64 T.wait, .string T.text] = W' at *
          have hq := fun i => cell_of_row _ _ i _ _ _ hrow2
          exact bodyPost_ret (v := .tuple #[.agg #[.int .u64 (T.held.a.toNat : Int), .int .u64 (T.held.b.toNat : Int), .int .u64 (T.held.c.toNat : Int), .int .u64 (T.held.d.toNat : Int), .bool T.caps, .int .i64 T.dead, .int .i64 T.last, .int .i64 T.wait, .string T.text], .int .i64 0]) (by simp [results, Tryd.results12, go_sem, hq]) rfl ⟨rfl, hbel⟩
  · have hc' : (C != 0) = true := by rw [bne_iff_ne]; exact hc
    have hp := HTE.out
    unfold typeP at hp
    rw [HC.out, if_pos hc] at hp
    cases hp
    have hr1 := H2.out.r1
    unfold zcs at hr1
    have q1 := fun i => cell_of_row _ _ i _ _ _ hr1
    have f1 := fun i => frozen_of_row _ _ i _ _ hr1
    clear hr1 hc HTE
    go_wp2_with fail
    change bodyPost _ _ _ _ _ (w2.setCells (w0.heap.size + 1) 0 zl)
    have hrow := Kt.fill zl H2.out.r1 rfl
    have hrow2 : (w2.setCells (w0.heap.size + 1) 0 zl).heap[w0.heap.size + 1]? = some (.cells #[.int .u64 0, .int .u64 0, .int .u64 0, .int .u64 0, .bool false, .int .i64 0, .int .i64 0, .int .i64 0, .string ⟨#[]⟩] 37 (0, 0)) := hrow
    have hbel := set9 H2.out.bel (Nat.le_succ _) zl
    generalize w2.setCells (w0.heap.size + 1) 0 zl = W' at *
    have hq := fun i => cell_of_row _ _ i _ _ _ hrow2
    exact bodyPost_ret (v := .tuple #[.agg #[.int .u64 0, .int .u64 0, .int .u64 0, .int .u64 0, .bool false, .int .i64 0, .int .i64 0, .int .i64 0, .string ⟨#[]⟩], .int .i64 E]) (by simp [results, Tryd.results12, go_sem, hq]) rfl ⟨rfl, hbel⟩
end Go.Proofs.YtndkaehbmdiofaaDoor
