/- The walks of package store: copied, check, what a cycle does at its box. -/
import Derived.Test.YtafiedhjjnapoaaStoP
import Derived.Test.YtafiedhjjnapoaaBlkX
import Derived.Test.YtafiedhjjnapoaaUpd
import Derived.Deep.CutBlock
import Derived.Deep.CutRange
import Derived.Shelf.Abstract
namespace Go.Proofs.Ytafiedhjjnapoaa
open Go.RowKit Go.Shelf Go.Proofs.Ytafiedhjjnapoaa.Scs Go.Proofs.Ytafiedhjjnapoaa.Blk Go.Proofs.Ytafiedhjjnapoaa.Sto
def lkV (A : Option Addr) (c : Nat) (l : Ln) : Value := .agg #[.slice A l.bs.length c, .int .i64 l.s, .int .i64 l.tag]
structure OkL (l : Ln) : Prop where
  d : OkD l.bs l.s
  t0 : 0 ≤ l.tag
  t1 : l.tag < 4294967296
structure OkF (fs : List Int) : Prop where
  n : fs.length ≤ 1000
  all : ∀ f ∈ fs, 1 ≤ f ∧ f ≤ 5
open Classical in
noncomputable def chkL (l : Ln) (fs : List Int) : Int :=
  if chkD l.bs l.s ≠ 0 then chkD l.bs l.s else if l.tag < 0 ∨ 4294967296 ≤ l.tag then 1 else if 1000 < fs.length then 2 else if ∀ f ∈ fs, 1 ≤ f ∧ f ≤ 5 then 0 else 1
theorem chkL_ok {l : Ln} {fs : List Int} : chkL l fs = 0 ↔ OkL l ∧ OkF fs := by
  unfold chkL
  constructor
  · intro h
    split at h
    · next h1 => exact absurd h h1
    · next h1 =>
      split at h
      · cases h
      · next h2 =>
        split at h
        · cases h
        · next h3 =>
          split at h
          · next h4 => exact ⟨⟨chkD_ok.1 (by omega), by omega, by omega⟩, by omega, h4⟩
          · cases h
  · rintro ⟨h1, h2⟩
    have := h1.t0; have := h1.t1; have := h2.n
    rw [if_neg (by rw [chkD_ok.2 h1.d]; decide), if_neg (by omega), if_neg (by omega), if_pos h2.all]
theorem Kt.Ar.from' {w : World} {A : Option Addr} {n c : Nat} {xs : List Value} (h : Kt.Ar w (.slice A n c) 1 n xs) (k : Nat) (hk : k ≤ n) :
    Kt.Ar w (.slice (if c - k = 0 then A else A.map (·.add k)) (n - k) (c - k)) 1 (n - k) (xs.drop k) := by
  obtain ⟨A', c', e, hnc, hx⟩ := h.form
  injection e with e1 e2 e3
  subst e1 e3
  have hl := h.len
  refine ⟨by rw [List.length_drop, hl]; omega, _, _, rfl, by omega, fun h0 => ?_⟩
  obtain ⟨b, o, rfl, hb, hc⟩ := hx (by omega)
  rw [if_neg (by omega)]
  refine ⟨b, o + k, ?_, hb, fun j hj => ?_⟩
  · simp only [Option.map_some, Addr.add]
    by_cases h1 : k = 0
    · simp [h1]
    · simp [h1]
  · rw [List.length_drop] at hj
    rw [Nat.add_assoc, hc (k + j) (by omega), List.getElem_drop]
theorem ld_lk {W : World} {g : Nat} {x y z : Value} (h : W.heap[g]? = some (.cells #[x, y, z] 26 (0, 0))) : (loadVar 26 ⟨g, 0, none⟩).run Try.prog W = .ok (.agg #[x, y, z]) W :=
  run_loadVar_row W g 26 26 #[x, y, z] (0, 0) _ h Try.underlying26 rfl (by kernel_rfl)
theorem ld_oc {W : World} {g : Nat} {x y z : Value} (h : W.heap[g]? = some (.cells #[x, y, z] 30 (0, 0))) : (loadVar 30 ⟨g, 0, none⟩).run Try.prog W = .ok (.agg #[x, y, z]) W :=
  run_loadVar_row W g 30 30 #[x, y, z] (0, 0) _ h Try.underlying30 rfl (by kernel_rfl)
theorem row_put3 {W : World} {g : Nat} {x y z x' y' z' : Value} {t : TypeId} (h : W.heap[g]? = some (.cells #[x, y, z] t (0, 0))) : (((W.setCell ⟨g, 0, none⟩ x').setCell ⟨g, 1, none⟩ y').setCell ⟨g, 2, none⟩ z').heap[g]? = some (.cells #[x', y', z'] t (0, 0)) :=
  heap_setCell_same _ _ _ _ _ _ (heap_setCell_same _ _ _ _ _ _ (heap_setCell_same _ _ _ _ _ _ h))
set_option maxRecDepth 100000 in
set_option maxHeartbeats 3200000 in
theorem lcopied_calls (l : Ln) (A : Option Addr) (c : Nat) (w : World) (h : DkA w A c l.bs) (hn : l.bs.length ≤ 8796093022208) :
    Calls Try.prog 22 #[lkV A c l] w fun e w' => ∃ A' c', e = .returned (lkV A' c' l) ∧ DkS w' w.heap.size A' c' l.bs ∧ Below w.heap.size w w' := by
  have HA := Lib.hid h
  have HN := Lib.hid hn
  clear h hn
  unfold lkV
  have hb0 : Below w.heap.size w ((w.alloc (.cells #[.slice A l.bs.length c, .int .i64 l.s, .int .i64 l.tag] 26)).alloc (.cells #[.slice none 0 0, .int .i64 0, .int .i64 0] 26)) := Kt.balloc (Kt.balloc (Below.refl _ w) _) _
  have HB0 := Lib.hid hb0
  go_enter Try.func22, Try.ntmps22
  go_wp2_with fail
  refine (clone_calls _ _ _ _ (HA.out.on hb0) (sts_one _) HN.out).mono ?_
  rintro e w3 ⟨A3, c3, rfl, hs, hb⟩
  rw [sz2] at hs hb
  obtain ⟨r1, r2⟩ := sv_rows hb
  have HS := Lib.hid hs
  have HB := Lib.hid (HB0.out.trans (hb.mono (by omega)))
  have q1 := fun i => cell_of_row _ _ i _ _ _ r1
  have f1 := fun i => frozen_of_row _ _ i _ _ r1
  have q2 := fun i => cell_of_row _ _ i _ _ _ r2
  have f2 := fun i => frozen_of_row _ _ i _ _ r2
  have R2 := Lib.hid r2
  clear hs hb hb0 r1 r2
  go_wp2_with fail
  have hw := row_put3 (x' := .slice A3 l.bs.length c3) (y' := .int .i64 l.s) (z' := .int .i64 l.tag) (show ((w3.setCell ⟨w.heap.size, 0, none⟩ (.slice A3 l.bs.length c3))).heap[w.heap.size + 1]? = some (.cells #[.slice none 0 0, .int .i64 0, .int .i64 0] 26 (0, 0)) from (heap_setCell_other _ _ _ _ (show w.heap.size + 1 ≠ w.heap.size by omega)).trans R2.out)
  refine bodyPost_ret (v := .agg #[.slice A3 l.bs.length c3, .int .i64 l.s, .int .i64 l.tag]) (by simp [results, Try.results22, asAddr, ld_lk hw]) rfl ?_
  refine ⟨A3, c3, rfl, ?_, ?_⟩
  · refine Kt.Sl.mono (B := w.heap.size + 2) ?_ (by omega)
    exact (((HS.out.low (p := ⟨w.heap.size, 0, none⟩) (by show w.heap.size < _; omega) _).low (p := ⟨w.heap.size + 1, 0, none⟩) (by show w.heap.size + 1 < _; omega) _).low (p := ⟨w.heap.size + 1, 1, none⟩) (by show w.heap.size + 1 < _; omega) _).low (p := ⟨w.heap.size + 1, 2, none⟩) (by show w.heap.size + 1 < _; omega) _
  · exact Kt.bset (Kt.bset (Kt.bset (Kt.bset HB.out (Nat.le_refl _) _) (by show w.heap.size ≤ w.heap.size + 1; omega) _) (by show w.heap.size ≤ w.heap.size + 1; omega) _) (by show w.heap.size ≤ w.heap.size + 1; omega) _
def FirstFI (p : Int → Bool) (l : List (Int)) (r : Int) : Prop := (r = -1 ∧ ∀ s ∈ l, p s = false) ∨ ∃ k : Nat, r = (k : Int) ∧ ∃ h : k < l.length, p l[k] = true
set_option maxRecDepth 100000 in
set_option maxHeartbeats 1600000 in
theorem indexFI (p : Int → Bool) (f : FuncId) (lb : Array Value) (l : List (Int)) (A0 : Option Addr) (c0 : Nat) (w : World) (hv : Kt.Ar w (.slice A0 l.length c0) 1 l.length (ics l)) (hm : l.length ≤ 1000)
    (eg : ∀ args w, (callFunc f args).run Try.prog w = .ok (.enter f args) w)
    (hf : ∀ d ∈ l, ∀ (W : World), Below w.heap.size w W → Calls Try.prog f (#[.int .i64 d] ++ lb) W fun e w' => e = .returned (.bool (p d)) ∧ Below W.heap.size W w') :
    Calls Try.prog 50 #[.slice A0 l.length c0, .func (.func f) #[] lb] w fun e w' => ∃ r, e = .returned (.int .i64 r) ∧ FirstFI p l r ∧ Below w.heap.size w w' := by
  obtain ⟨A, c, hAc, _, hcells⟩ := hv.form
  injection hAc with h1 h2 h3
  subst h1 h3
  have HCELLS := Lib.hid hcells
  have HF := Lib.hid hf
  clear hv hf hcells h2
  go_enter Try.func50, Try.ntmps50
  go_wp2_with fail
  go_loopw [8] (fun i wr => ∃ (k : Nat), k ≤ l.length ∧ i = .int .i64 (k : Int) ∧ Hid (∀ j (h : j < l.length), j < k → p l[j] = false) ∧ Hid (Below w.heap.size w wr)) (fun i _ => l.length - (intOf i).toNat)
  case atStart => exact ⟨0, Nat.zero_le _, rfl, Lib.hid (fun j h hj => absurd hj (by omega)), Lib.hid (Below.refl _ _)⟩
  case round =>
    obtain ⟨k, hk, rfl, HP, HB⟩ := hrel
    by_cases hlt : k < l.length
    · obtain ⟨b, o, rfl, hg, hcell⟩ := HCELLS.out (by omega)
      obtain ⟨d, hd⟩ : ∃ d, l[k] = d := ⟨_, rfl⟩
      have hki : (k : Int) < (l.length : Int) := by omega
      have g0 : wr.cell? ⟨b, o + k, none⟩ = some (.int .i64 d) := by
        rw [HB.out.cell (p := ⟨b, o + k, none⟩) hg, hcell k (by rw [ics_len]; exact hlt)]
        simp [ics, hd]
      clear hcell
      have HC := Lib.hid (HF.out d (hd ▸ List.getElem_mem hlt) wr HB.out)
      obtain ⟨v, hv⟩ : ∃ v, p d = v := ⟨_, rfl⟩
      have HV := Lib.hid (show p l[k] = v by rw [hd]; exact hv)
      rw [hv] at HC
      clear hd hv
      cases v with
      | true =>
        go_wp2_with fail
        refine HC.out.mono ?_
        rintro e w1 ⟨rfl, hb⟩
        have HB1 := Lib.hid (Kt.bthen HB.out hb)
        clear hb HC
        go_wp2_with fail
        go_ret
        exact ⟨_, rfl, .inr ⟨k, rfl, hlt, HV.out⟩, HB1.out⟩
      | false =>
        go_wp2_with fail
        refine HC.out.mono ?_
        rintro e w1 ⟨rfl, hb⟩
        have HB1 := Lib.hid (Kt.bthen HB.out hb)
        clear hb HC
        go_wp2_with fail
        go_roundw
        case rel => exact ⟨k + 1, by omega, by go_num, Lib.hid (fun j h hj => by
          by_cases e : j = k
          · subst e; exact HV.out
          · exact HP.out j h (by omega)), HB1⟩
        case measure => simp [intOf]; omega
    · have ek : ¬ (k : Int) < l.length := fun h => hlt (Int.ofNat_lt.1 h)
      have HA : Hid (∀ s ∈ l, p s = false) := Lib.hid (fun s hs => by
        obtain ⟨j, hj, rfl⟩ := List.mem_iff_getElem.1 hs
        exact HP.out j hj (by omega))
      go_wp2_with fail
      go_ret
      exact ⟨_, rfl, .inl ⟨rfl, HA.out⟩, HB.out⟩
set_option maxRecDepth 100000 in
set_option maxHeartbeats 1600000 in
theorem containsFI (p : Int → Bool) (f : FuncId) (lb : Array Value) (l : List (Int)) (A0 : Option Addr) (c0 : Nat) (w : World) (hv : Kt.Ar w (.slice A0 l.length c0) 1 l.length (ics l)) (hm : l.length ≤ 1000)
    (eg : ∀ args w, (callFunc f args).run Try.prog w = .ok (.enter f args) w)
    (hf : ∀ d ∈ l, ∀ (W : World), Below w.heap.size w W → Calls Try.prog f (#[.int .i64 d] ++ lb) W fun e w' => e = .returned (.bool (p d)) ∧ Below W.heap.size W w') :
    Calls Try.prog 33 #[.slice A0 l.length c0, .func (.func f) #[] lb] w fun e w' => e = .returned (.bool (l.any p)) ∧ Below w.heap.size w w' := by
  have HI := Lib.hid (indexFI p f lb l A0 c0 w hv hm eg hf)
  clear hv hm hf eg
  go_enter Try.func33, Try.ntmps33
  go_wp2_with fail
  refine HI.out.mono ?_
  rintro e w1 ⟨r, rfl, hr, hb⟩
  have HB := Lib.hid hb
  clear hb HI
  rcases hr with ⟨rfl, hall⟩ | ⟨k, rfl, hk, hp⟩
  · have HA : Hid (l.any p = false) := Lib.hid (by rw [List.any_eq_false]; exact fun x hx => by simp [hall x hx])
    clear hall
    go_wp2_with fail
    go_ret
    exact ⟨by rw [HA.out]; rfl, HB.out⟩
  · have HA : Hid (l.any p = true) := Lib.hid (by rw [List.any_eq_true]; exact ⟨_, List.getElem_mem hk, hp⟩)
    have hk0 : (0 : Int) ≤ (k : Int) := Int.natCast_nonneg k
    clear hk hp
    go_wp2_with fail
    go_ret
    exact ⟨by rw [HA.out]; rfl, HB.out⟩
theorem eg_chk : ∀ args w, (callFunc 39 args).run Try.prog w = .ok (.enter 39 args) w := enters_of Try.func39 (by kernel_rfl) rfl
def badF (f : Int) : Bool := decide (f < 1) || decide (5 < f)
theorem chk1_calls (f : Int) (w : World) : Calls Try.prog 39 #[.int .i64 f] w fun e w' => e = .returned (.bool (badF f)) ∧ Below w.heap.size w w' := by
  by_cases h : f < 1
  · have e : badF f = true := by unfold badF; rw [decide_eq_true h]; rfl
    rw [e]; clear e
    go_enter Try.func39, Try.ntmps39
    go_wp2_with fail
    go_ret
    exact ⟨rfl, Below.refl _ _⟩
  · have e : badF f = decide (5 < f) := by unfold badF; rw [decide_eq_false h]; rfl
    rw [e]; clear e
    go_enter Try.func39, Try.ntmps39
    go_wp2_with fail
    go_ret
    exact ⟨rfl, Below.refl _ _⟩
theorem any_bad {fs : List Int} : fs.any badF = false ↔ ∀ f ∈ fs, 1 ≤ f ∧ f ≤ 5 := by
  rw [List.any_eq_false]
  refine forall_congr' fun f => imp_congr_right fun _ => ?_
  unfold badF
  simp only [Bool.or_eq_true, decide_eq_true_eq]
  omega
theorem chkL_0 {l : Ln} {fs : List Int} (h : chkD l.bs l.s ≠ 0) : chkL l fs = chkD l.bs l.s := by unfold chkL; rw [if_pos h]
theorem chkL_1 {l : Ln} {fs : List Int} (h : chkD l.bs l.s = 0) (h1 : l.tag < 0 ∨ 4294967296 ≤ l.tag) : chkL l fs = 1 := by unfold chkL; rw [if_neg (by omega), if_pos h1]
theorem chkL_2 {l : Ln} {fs : List Int} (h : chkD l.bs l.s = 0) (h1 : ¬ (l.tag < 0 ∨ 4294967296 ≤ l.tag)) (h2 : 1000 < fs.length) : chkL l fs = 2 := by unfold chkL; rw [if_neg (by omega), if_neg h1, if_pos h2]
theorem chkL_3 {l : Ln} {fs : List Int} (h : chkD l.bs l.s = 0) (h1 : ¬ (l.tag < 0 ∨ 4294967296 ≤ l.tag)) (h2 : ¬ 1000 < fs.length) : chkL l fs = if fs.any badF then 1 else 0 := by
  unfold chkL; rw [if_neg (by omega), if_neg h1, if_neg h2]
  cases hb : fs.any badF with
  | false => rw [if_pos (any_bad.1 hb)]; rfl
  | true => rw [if_neg (fun q => by rw [any_bad.2 q] at hb; cases hb)]; rfl
set_option maxRecDepth 100000 in
set_option maxHeartbeats 3200000 in
theorem lcheck_calls (l : Ln) (fs : List Int) (A : Option Addr) (c : Nat) (FA : Option Addr) (fc : Nat) (w : World) (h : DkA w A c l.bs) (hn : l.bs.length ≤ 8796093022208) (hf : Kt.Ar w (.slice FA fs.length fc) 1 fs.length (ics fs)) :
    Calls Try.prog 23 #[lkV A c l, .slice FA fs.length fc] w fun e w' => e = .returned (.int .i64 (chkL l fs)) ∧ Below w.heap.size w w' := by
  have HF := Lib.hid hf
  have hb0 : Below w.heap.size w (w.alloc (.cells #[.slice A l.bs.length c, .int .i64 l.s, .int .i64 l.tag] 26)) := Kt.balloc (Below.refl _ w) _
  have HB0 := Lib.hid hb0
  have r1 : (w.alloc (.cells #[.slice A l.bs.length c, .int .i64 l.s, .int .i64 l.tag] 26)).heap[w.heap.size]? = some (.cells #[.slice A l.bs.length c, .int .i64 l.s, .int .i64 l.tag] 26 (0, 0)) := heap_alloc_new w _
  have HC := Lib.hid (dcheck_calls l.bs l.s A c _ (h.on hb0) (by omega))
  unfold lkV
  clear h hn hf hb0
  go_enter Try.func23, Try.ntmps23
  go_wp2_with fail
  refine HC.out.mono ?_
  rintro e w1 ⟨rfl, hb⟩
  have q1 := fun i => cell_of_row _ _ i _ _ _ (Kt.row_on hb r1)
  have HB1 := Lib.hid (Kt.bthen HB0.out hb)
  clear hb r1 HC HB0
  by_cases h0 : chkD l.bs l.s = 0
  · have H0 := Lib.hid h0
    rw [h0]
    clear h0
    by_cases h1 : l.tag < 0 ∨ 4294967296 ≤ l.tag
    · have HE := Lib.hid (chkL_1 (fs := fs) H0.out h1)
      rcases h1 with h1 | h1
      · go_wp2_with fail
        go_ret
        exact ⟨by rw [HE.out]; rfl, HB1.out⟩
      · have h2 : ¬ l.tag < 0 := by omega
        go_wp2_with fail
        go_ret
        exact ⟨by rw [HE.out]; rfl, HB1.out⟩
    · have h3 : ¬ l.tag < 0 := by omega
      have h4 : ¬ 4294967296 ≤ l.tag := by omega
      by_cases h2 : 1000 < fs.length
      · have HE := Lib.hid (chkL_2 H0.out h1 h2)
        have h5 : (1000 : Int) < (fs.length : Int) := by omega
        clear h1
        go_wp2_with fail
        go_ret
        exact ⟨by rw [HE.out]; rfl, HB1.out⟩
      · have HE := Lib.hid (chkL_3 H0.out h1 h2)
        have h5 : ¬ (1000 : Int) < (fs.length : Int) := by omega
        have HN := Lib.hid (show fs.length ≤ 1000 by omega)
        clear h1 h2
        go_wp2_with fail
        refine (containsFI badF _ #[] fs FA fc w1 (HF.out.on HB1.out) HN.out eg_chk (fun f _ W _ => chk1_calls f W)).mono ?_
        rintro e w2 ⟨rfl, hb⟩
        have HB2 := Lib.hid (Kt.bthen HB1.out hb)
        clear hb
        cases hbb : fs.any badF with
        | false =>
          have HE2 : Hid (chkL l fs = 0) := Lib.hid (by rw [HE.out, hbb]; rfl)
          clear hbb
          go_wp2_with fail
          go_ret
          exact ⟨by rw [HE2.out]; rfl, HB2.out⟩
        | true =>
          have HE2 : Hid (chkL l fs = 1) := Lib.hid (by rw [HE.out, hbb]; rfl)
          clear hbb
          go_wp2_with fail
          go_ret
          exact ⟨by rw [HE2.out]; rfl, HB2.out⟩
  · have HE := Lib.hid (chkL_0 (fs := fs) h0)
    go_wp2_with fail
    go_ret
    exact ⟨by rw [HE.out]; rfl, HB1.out⟩
end Go.Proofs.Ytafiedhjjnapoaa
