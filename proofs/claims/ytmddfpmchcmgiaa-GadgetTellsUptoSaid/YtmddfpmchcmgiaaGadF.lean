/- do walked. -/
import Derived.Test.YtmddfpmchcmgiaaGadE
import Derived.Test.YtmddfpmchcmgiaaGadC
import Derived.Test.YtmddfpmchcmgiaaSetV
import Derived.Deep.RegionHeld3
namespace Go.Proofs.Ytmddfpmchcmgiaa
open Go.RowKit Go.Proofs.Ytmddfpmchcmgiaa.Dsc Go.Proofs.Ytmddfpmchcmgiaa.Gad
theorem ByteOf (n : Int) : ((UInt8.ofNat (n % 256).toNat).toNat : Int) = n % 256 := by simp; omega
/-- what do leaves -/
def DoIs (s : Sh) (F T : Value) (b : Nat) (w : World) (r : Gd × List UInt8 × Int) (e' : Ending) (w' : World) : Prop :=
  e' = .returned (.tuple #[.string (bs' r.2.1), .int .i64 r.2.2]) ∧ w'.heap[b]? = some (.cells (thR s F T r.1) 99 (0, 0)) ∧ Below b w w'
set_option maxRecDepth 100000 in
set_option maxHeartbeats 3200000 in
theorem do_1 (s : Sh) (F T : Value) (g : Gd) (v i l : Int) (b : Nat) (w : World) (hr : w.heap[b]? = some (.cells (thR s F T g) 99 (0, 0))) :
    Calls Try.prog 49 #[.pointer (some ⟨b, 0, none⟩), askV 1 v i l] w (DoIs s F T b w (dod s g 1 v i l)) := by
  have HR := Lib.hid hr
  have HLT := Lib.hid (Array.getElem?_eq_some_iff.1 hr).1
  have HD : Hid (dod s g 1 v i l = (g, [0, 0], 0)) := Lib.hid rfl
  clear hr
  unfold askV
  go_enter Try.func49, Try.ntmps49
  go_wp2_with fail
  go_ret2
  rw [HD.out]
  exact ⟨rfl, Kt.row_on (Kt.balloc (Below.refl _ w) _) HR.out, ((Below.refl b w).alloc (Nat.le_of_lt HLT.out) _)⟩
set_option maxRecDepth 100000 in
set_option maxHeartbeats 3200000 in
theorem do_5 (hwd : WDev) (s : Sh) (F T : Value) (g : Gd) (v i l : Int) (b : Nat) (w : World) (hr : w.heap[b]? = some (.cells (thR s F T g) 99 (0, 0)))
    (hc : CRd w (.agg #[.int .i64 s.cfg.va, .int .i64 s.cfg.nm, .int .i64 s.cfg.at_, .int .i64 s.cfg.pw, F]) s.cfg) (hT : Kt.Ar w T 1 s.tx.length (xcells s.tx)) (hb : ∀ t ∈ s.tx, t.length ≤ 35184372088832) (hv : 0 ≤ v ∧ v ≤ 65535) (hl : 0 ≤ l ∧ l ≤ 65535) :
    Calls Try.prog 49 #[.pointer (some ⟨b, 0, none⟩), askV 5 v i l] w (DoIs s F T b w (dod s g 5 v i l)) := by
  have HR := Lib.hid hr
  have HLT := Lib.hid (Array.getElem?_eq_some_iff.1 hr).1
  obtain ⟨L, rfl⟩ := Int.eq_ofNat_of_zero_le hl.1
  have HD : Hid (dod s g 5 v i L = (g, (descr s v).1.take L, (descr s v).2)) := Lib.hid rfl
  have hbb := Kt.balloc (Below.refl _ w) (.cells #[.int .i64 5, .int .i64 v, .int .i64 i, .int .i64 L] 59)
  have HDS := Lib.hid (describe_calls hwd s F T g v b _ (Kt.row_on hbb hr) (hc.on hbb) (hT.on hbb) hb hv)
  have HRR := Lib.hid (Kt.row_on hbb hr)
  have HBB := Lib.hid (hbb.mono (Nat.le_of_lt HLT.out))
  obtain ⟨X, hX⟩ : ∃ X, (descr s v).1 = X := ⟨_, rfl⟩
  obtain ⟨C, hC⟩ : ∃ C, (descr s v).2 = C := ⟨_, rfl⟩
  rw [hX, hC] at HDS HD
  have hsz := bs_size X
  obtain ⟨S, hS⟩ : ∃ S, bs' X = S := ⟨_, rfl⟩
  rw [hS] at HDS hsz
  have HSZ := Lib.hid hsz
  have HSS := Lib.hid hS
  have hL : (L : Int) ≤ 65535 := hl.2
  clear hr hc hT hb hv hl hX hC hbb hsz hS
  unfold askV
  go_enter Try.func49, Try.ntmps49
  go_wp2_with fail
  refine HDS.out.mono ?_
  rintro e w1 ⟨rfl, hb1⟩
  have HB1 := Lib.hid hb1
  have HR1 := Lib.hid (Kt.row_on hb1 HRR.out)
  have hq := (Kt.bcell hb1).1
  clear hb1
  go_wp2_with fail
  go_ret2
  rw [HD.out]
  refine ⟨?_, HR1.out, HBB.out.trans (HB1.out.mono (Nat.le_trans (Nat.le_of_lt HLT.out) (by simp)))⟩
  refine congrArg (fun z => Ending.returned (.tuple #[.string z, .int .i64 C])) (Kt.bytes_eq ?_)
  rw [take_str, bs_list, ← HSS.out, bs_list, bs_size]
  show X.take (min (X.length : Int) L).toNat = X.take L
  rw [show (min (X.length : Int) L).toNat = min X.length L by omega]
  exact List.take_eq_take_iff.2 (by omega)
set_option maxRecDepth 100000 in
set_option maxHeartbeats 3200000 in
theorem do_4 (s : Sh) (F T : Value) (g : Gd) (v i l : Int) (b : Nat) (w : World) (hr : w.heap[b]? = some (.cells (thR s F T g) 99 (0, 0))) :
    Calls Try.prog 49 #[.pointer (some ⟨b, 0, none⟩), askV 4 v i l] w (DoIs s F T b w (dod s g 4 v i l)) := by
  have hbb := Kt.balloc (Below.refl _ w) (.cells #[.int .i64 4, .int .i64 v, .int .i64 i, .int .i64 l] 59)
  have HR0 := Lib.hid hr
  have q0 := fun i => cell_of_row _ _ i _ _ _ hr
  have qf0 := fun i => frozen_of_row _ _ i _ _ hr
  have HLT := Lib.hid (Array.getElem?_eq_some_iff.1 hr).1
  have HRR := Lib.hid (Kt.row_on hbb hr)
  have HBB := Lib.hid (hbb.mono (Nat.le_of_lt HLT.out))
  have q := fun i => cell_of_row _ _ i _ _ _ HRR.out
  have qf := fun i => frozen_of_row _ _ i _ _ HRR.out
  have hlt := HLT.out
  obtain ⟨st, ad, ha⟩ := g
  unfold thR at q q0
  dsimp only at q q0
  clear hr hbb
  by_cases c1 : st = 2
  · have HD : Hid (dod s ⟨st, ad, ha⟩ 4 v i l = (⟨st, ad, ha⟩, [], 8)) := Lib.hid (by subst c1; rfl)
    have e1 : (st == 2) = true := by rw [beq_iff_eq]; exact c1
    clear c1
    unfold askV
    go_enter Try.func49, Try.ntmps49
    go_wp2_with fail
    go_ret2
    rw [HD.out]
    exact ⟨rfl, HRR.out, HBB.out⟩
  · have HD : Hid (dod s ⟨st, ad, ha⟩ 4 v i l = (⟨min 1 v, v, ha⟩, [], 0)) := Lib.hid (by unfold dod; rw [if_neg (by decide), if_neg (by decide), if_pos rfl, if_neg c1])
    have e1 : (st == 2) = false := by rw [beq_eq_false_iff_ne]; exact c1
    clear c1
    unfold askV
    go_enter Try.func49, Try.ntmps49
    go_wp2_with fail
    go_region
    go_wp2_with fail
    go_ret2
    rw [HD.out]
    have hb2 := (((Below.refl b w).setCell (p := ⟨b, 19, none⟩) (Nat.le_refl _) (.int .i64 v)).setCell (p := ⟨b, 18, none⟩) (Nat.le_refl _) (.int .i64 (min 1 v))).alloc (Nat.le_trans (Nat.le_of_lt HLT.out) (by simp [World.setCell])) (.cells #[.int .i64 4, .int .i64 v, .int .i64 i, .int .i64 l] 59)
    exact ⟨rfl, (Below.heap_alloc _ _ _ (Nat.lt_of_lt_of_le HLT.out (by simp [World.setCell]))).trans (heap_setCell_same _ _ _ _ _ _ (heap_setCell_same _ _ _ _ _ _ HR0.out)), hb2.os, hb2.tape, hb2.output, hb2.size, hb2.block⟩
set_option maxRecDepth 100000 in
set_option maxHeartbeats 3200000 in
theorem do_6 (s : Sh) (F T : Value) (g : Gd) (v i l : Int) (b : Nat) (w : World) (hr : w.heap[b]? = some (.cells (thR s F T g) 99 (0, 0))) :
    Calls Try.prog 49 #[.pointer (some ⟨b, 0, none⟩), askV 6 v i l] w (DoIs s F T b w (dod s g 6 v i l)) := by
  have hbb := Kt.balloc (Below.refl _ w) (.cells #[.int .i64 6, .int .i64 v, .int .i64 i, .int .i64 l] 59)
  have HLT := Lib.hid (Array.getElem?_eq_some_iff.1 hr).1
  have HCF := Lib.hid (configure_calls s F T g v b _ (Kt.row_on hbb hr))
  have HBB := Lib.hid (hbb.mono (Nat.le_of_lt HLT.out))
  have HD : Hid (dod s g 6 v i l = ((conf s g v).1, [], (conf s g v).2)) := Lib.hid rfl
  clear hr hbb
  unfold askV
  go_enter Try.func49, Try.ntmps49
  go_wp2_with fail
  refine HCF.out.mono ?_
  rintro e w1 ⟨rfl, hr1, hb1⟩
  have HR1 := Lib.hid hr1
  have HB1 := Lib.hid hb1
  clear hr1 hb1
  go_wp2_with fail
  go_ret2
  rw [HD.out]
  exact ⟨rfl, HR1.out, HBB.out.trans HB1.out⟩
set_option maxRecDepth 100000 in
set_option maxHeartbeats 3200000 in
theorem do_7 (s : Sh) (F T : Value) (g : Gd) (v i l : Int) (b : Nat) (w : World) (hr : w.heap[b]? = some (.cells (thR s F T g) 99 (0, 0))) (hva : 0 ≤ s.cfg.va ∧ s.cfg.va ≤ 255) :
    Calls Try.prog 49 #[.pointer (some ⟨b, 0, none⟩), askV 7 v i l] w (DoIs s F T b w (dod s g 7 v i l)) := by
  have hbb := Kt.balloc (Below.refl _ w) (.cells #[.int .i64 7, .int .i64 v, .int .i64 i, .int .i64 l] 59)
  have HLT := Lib.hid (Array.getElem?_eq_some_iff.1 hr).1
  have HRR := Lib.hid (Kt.row_on hbb hr)
  have HBB := Lib.hid (hbb.mono (Nat.le_of_lt HLT.out))
  have q := fun i => cell_of_row _ _ i _ _ _ HRR.out
  have hlt := HLT.out
  obtain ⟨st, ad, ha⟩ := g
  unfold thR at q
  dsimp only at q
  clear hr hbb
  by_cases c0 : st = 0
  · have HD : Hid (dod s ⟨st, ad, ha⟩ 7 v i l = (⟨st, ad, ha⟩, [], 8)) := Lib.hid (by subst c0; rfl)
    have e1 : (st == 0) = true := by rw [beq_iff_eq]; exact c0
    clear c0
    unfold askV
    go_enter Try.func49, Try.ntmps49
    go_wp2_with fail
    go_ret2
    rw [HD.out]
    exact ⟨rfl, HRR.out, HBB.out⟩
  · have e0 : (st == 0) = false := by rw [beq_eq_false_iff_ne]; exact c0
    by_cases c1 : st = 1
    · have HD : Hid (dod s ⟨st, ad, ha⟩ 7 v i l = (⟨st, ad, ha⟩, [0], 0)) := Lib.hid (by subst c1; rfl)
      have e1 : (st == 1) = true := by rw [beq_iff_eq]; exact c1
      clear c1 c0
      unfold askV
      go_enter Try.func49, Try.ntmps49
      go_wp2_with fail
      go_ret2
      rw [HD.out]
      exact ⟨rfl, HRR.out, HBB.out⟩
    · have HD : Hid (dod s ⟨st, ad, ha⟩ 7 v i l = (⟨st, ad, ha⟩, [UInt8.ofNat s.cfg.va.toNat], 0)) := Lib.hid (by
        unfold dod
        rw [if_neg (by decide), if_neg (by decide), if_neg (by decide), if_neg (by decide), if_pos rfl, if_neg c0, if_neg c1])
      have e1 : (st == 1) = false := by rw [beq_eq_false_iff_ne]; exact c1
      obtain ⟨n, hn⟩ := Int.eq_ofNat_of_zero_le hva.1
      rw [hn] at q HD
      have hn2 : n ≤ 255 := by have := hva.2; omega
      have hcv := fun W : World => fun H : Nat => fun hH : W.heap.size = H => Kt.conv_back (P := Try.prog) (W.alloc (.cells #[.int .u8 (n : Int)] 5)) 66 9 5 H 0 1 1 [UInt8.ofNat n] rfl Try.underlying66 Try.underlying5 Try.underlying9 (fun j hj => by
        subst hH
        have h0 : j = 0 := by simp at hj; omega
        subst h0
        refine (cell_of_row _ _ _ _ _ _ (heap_alloc_new W _)).trans ?_
        simp; omega)
      have hcv2 := hcv (w.alloc (.cells #[.int .i64 7, .int .i64 v, .int .i64 i, .int .i64 l] 59)) (w.heap.size + 1) (by simp)
      have hw8 : IntKind.u8.wrap (n : Int) = n := IntWalk.u8_in _ (by omega)
      clear c1 c0 hcv
      unfold askV
      go_enter Try.func49, Try.ntmps49
      go_wp2_with fail
      go_ret2
      rw [HD.out]
      exact ⟨rfl, (Below.heap_alloc _ _ _ (Nat.lt_of_lt_of_le HLT.out (by simp))).trans HRR.out, HBB.out.alloc (Nat.le_trans (Nat.le_of_lt HLT.out) (by simp)) _⟩
set_option maxRecDepth 100000 in
set_option maxHeartbeats 3200000 in
theorem do_23 (k : Int) (hk : k = 2 ∨ k = 3) (s : Sh) (F T : Value) (g : Gd) (v i l : Int) (b : Nat) (w : World) (hr : w.heap[b]? = some (.cells (thR s F T g) 99 (0, 0)))
    (hc : CRd w (.agg #[.int .i64 s.cfg.va, .int .i64 s.cfg.nm, .int .i64 s.cfg.at_, .int .i64 s.cfg.pw, F]) s.cfg) (hok : cfgC s.cfg = 0) (he : (0 ≤ i ∧ i ≤ 15) ∨ (128 ≤ i ∧ i ≤ 143)) (hg : 0 ≤ g.ha ∧ g.ha < 4294967296) :
    Calls Try.prog 49 #[.pointer (some ⟨b, 0, none⟩), askV k v i l] w (DoIs s F T b w (dod s g k v i l)) := by
  have hbb := Kt.balloc (Below.refl _ w) (.cells #[.int .i64 k, .int .i64 v, .int .i64 i, .int .i64 l] 59)
  have HLT := Lib.hid (Array.getElem?_eq_some_iff.1 hr).1
  have HH := Lib.hid (fun on => halt_calls s F T g i on b _ (Kt.row_on hbb hr) (hc.on hbb) hok he hg)
  have HBB := Lib.hid (hbb.mono (Nat.le_of_lt HLT.out))
  clear hr hbb hc hok he hg
  rcases hk with rfl | rfl
  · have HD : Hid (dod s g 2 v i l = ((haltd s g i false).1, [], (haltd s g i false).2)) := Lib.hid rfl
    unfold askV
    go_enter Try.func49, Try.ntmps49
    go_wp2_with fail
    refine (HH.out false).mono ?_
    rintro e w1 ⟨rfl, hr1, hb1⟩
    have HR1 := Lib.hid hr1
    have HB1 := Lib.hid hb1
    clear hr1 hb1
    go_wp2_with fail
    go_ret2
    rw [HD.out]
    exact ⟨rfl, HR1.out, HBB.out.trans HB1.out⟩
  · have HD : Hid (dod s g 3 v i l = ((haltd s g i true).1, [], (haltd s g i true).2)) := Lib.hid rfl
    unfold askV
    go_enter Try.func49, Try.ntmps49
    go_wp2_with fail
    refine (HH.out true).mono ?_
    rintro e w1 ⟨rfl, hr1, hb1⟩
    have HR1 := Lib.hid hr1
    have HB1 := Lib.hid hb1
    clear hr1 hb1
    go_wp2_with fail
    go_ret2
    rw [HD.out]
    exact ⟨rfl, HR1.out, HBB.out.trans HB1.out⟩
end Go.Proofs.Ytmddfpmchcmgiaa
