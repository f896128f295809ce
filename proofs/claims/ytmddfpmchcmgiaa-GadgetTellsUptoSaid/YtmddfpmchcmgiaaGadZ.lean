/- GadgetTells. -/
import Derived.Test.YtmddfpmchcmgiaaGadX
import Derived.Test.YtmddfpmchcmgiaaUtfO
namespace Go.Proofs.Ytmddfpmchcmgiaa
open Go.RowKit Go.Proofs.Ytmddfpmchcmgiaa.Dsc Go.Proofs.Ytmddfpmchcmgiaa.Gad Go.Proofs.Ytmddfpmchcmgiaa.SetP Go.Proofs.Ytmddfpmchcmgiaa.Utf
theorem wtL_len (l : List UInt8) : (wtxt l).length = l.length + 2 := by simp [wtxt, putB]
theorem wtL_ok (rs : List Nat) (h : (wideR rs).length ≤ 252) : okTxt ⟨(wtxt (wideR rs)).toArray⟩ (cnt rs) := by
  have hl := wideR_len rs
  have hz : (⟨(wtxt (wideR rs)).toArray⟩ : ByteArray).size = (wideR rs).length + 2 := by show (List.toArray _).size = _; rw [List.size_toArray, wtL_len]
  refine ⟨by omega, by omega, by omega, by omega, ?_, ?_⟩
  · refine Eq.trans (b := (UInt8.ofNat ((((wideR rs).length : Int) + 2) % 256).toNat).toNat) rfl ?_
    rw [hz]
    simp; omega
  · show (UInt8.ofNat ((3 : Int) % 256).toNat).toNat = 3
    decide
theorem wtL_runes (rs : List Nat) (hs : ∀ r ∈ rs, scalar r) : runesOfTxt ⟨(wtxt (wideR rs)).toArray⟩ = rs := by
  unfold runesOfTxt
  have e : ((⟨(wtxt (wideR rs)).toArray⟩ : ByteArray).data.toList).drop 2 = wideR rs := rfl
  rw [e, nar_wide rs hs]
theorem txsC_get : ∀ (l : List (List UInt8)), txsC l = 0 → ∀ t ∈ l, txC t = 0
  | [], _, t, ht => by cases ht
  | u :: l, h, t, ht => by
    have h : (if txC u = 0 then txsC l else txC u) = 0 := h
    by_cases hu : txC u = 0
    · rw [if_pos hu] at h
      rcases List.mem_cons.1 ht with rfl | ht
      · exact hu
      · exact txsC_get l h t ht
    · rw [if_neg hu] at h
      exact absurd h hu
theorem chk_parts {s : Sh} (h : chk s = 0) : okD s.dev ∧ wDev s.dev = (devT s.dev, 0) ∧ cfgC s.cfg = 0 ∧ wCfg s.cfg = (cfgT s.cfg, 0) ∧ s.tx.length ≤ 8 ∧ ∀ t ∈ s.tx, txC t = 0 := by
  unfold chk at h
  split at h
  · contradiction
  rename_i h0
  split at h
  · exact absurd h (by decide)
  split at h
  · contradiction
  rename_i h3
  split at h
  · exact absurd h (by decide)
  rename_i h4
  split at h
  · contradiction
  rename_i h5
  have h0 : (wDev s.dev).2 = 0 := by simpa using h0
  have hd : okD s.dev := by
    by_cases hd : okD s.dev
    · exact hd
    · unfold wDev at h0; rw [if_neg hd] at h0; exact absurd h0 (by decide)
  have h3 : (wCfg s.cfg).2 = 0 := by simpa using h3
  have hc : cfgC s.cfg = 0 := by unfold wCfg at h3; split at h3; assumption; exact h3
  exact ⟨hd, if_pos hd, hc, if_pos hc, by omega, txsC_get _ (by simpa using h5)⟩
/-- a Length that cuts nothing -/
theorem tells_do {s : Sh} {g : Gd} {v : Int} (h1 : chk s = 0) (h2 : gOk g = true) {X : List UInt8} (hx : descr s v = (X, 0)) (hl : X.length ≤ 65535) : ctl s g (some (5, v, 0, 65535)) = (g, X, 0) := by
  refine ctl_do h1 h2 (by decide) ?_ (.inl rfl)
  show (g, (descr s v).1.take (65535 : Int).toNat, (descr s v).2) = _
  rw [hx]
  show (g, X.take 65535, (0 : Int)) = _
  rw [List.take_of_length_le hl]
theorem ask5 {v : Int} (h : 0 ≤ v ∧ v ≤ 65535) : Okw 5 v 0 65535 := ⟨⟨128, 6, 1, 1, (-1)⟩, rfl, by show canP 1 v; unfold canP; omega, by show canP 1 0; unfold canP; omega, .inr ⟨by show (-1 : Int) < 0; omega, by unfold canP; omega⟩⟩
theorem tx_at {s : Sh} (h : chk s = 0) {i : Int} (h1 : 1 ≤ i) (h2 : i ≤ s.tx.length) : ∃ t, t ∈ s.tx ∧ s.tx[(i - 1).toNat]? = some t ∧ descr s (768 + i) = (wtxt (wide t), 0) ∧ (wide t).length ≤ 252 := by
  obtain ⟨_, _, _, _, _, h6⟩ := chk_parts h
  obtain ⟨k, hk⟩ : ∃ k : Nat, i = k + 1 := ⟨(i - 1).toNat, by omega⟩
  subst hk
  have hlt : k < s.tx.length := by omega
  have hm : s.tx[k] ∈ s.tx := List.getElem_mem hlt
  have hc := h6 _ hm
  have hw : (wide s.tx[k]).length ≤ 252 := by
    by_cases hw : (wide s.tx[k]).length ≤ 252
    · exact hw
    · unfold txC at hc; rw [if_neg hw] at hc; exact absurd hc (by decide)
  refine ⟨s.tx[k], hm, ?_, ?_, hw⟩
  · rw [show ((k : Int) + 1 - 1).toNat = k by omega, List.getElem?_eq_getElem hlt]
  · unfold descr
    rw [if_neg (by omega), if_neg (by omega), if_neg (by omega), if_pos (by omega)]
    have : s.tx.getD (768 + ((k : Int) + 1) - 769).toNat [] = s.tx[k] := by
      rw [show (768 + ((k : Int) + 1) - 769).toNat = k by omega, List.getD_eq_getElem?_getD, List.getElem?_eq_getElem hlt]; rfl
    rw [this, hc]
    unfold txT
    rw [if_pos hw]
theorem tx_cell {w : World} {TA : Option Addr} {tc : Nat} {tx : List (List UInt8)} {i : Int} {t : List UInt8} (h : Kt.Ar w (.slice TA tx.length tc) 1 tx.length (xcells tx)) (h1 : 1 ≤ i) (h2 : i ≤ (tx.length : Int)) (ht : tx[(i - 1).toNat]? = some t) :
    ∃ tb tq, TA = some ⟨tb, tq, none⟩ ∧ tb < w.heap.size ∧ w.cell? ⟨tb, tq + (i - 1).toNat, none⟩ = some (.string (bs' t)) := by
  obtain ⟨A, c, e, _, hx⟩ := h.form
  injection e with e1 _ e2
  subst e1 e2
  obtain ⟨b, o, rfl, hb, hc⟩ := hx (by omega)
  have hl : (i - 1).toNat < (xcells tx).length := by unfold xcells; rw [List.length_map]; omega
  refine ⟨b, o, rfl, hb, (hc _ hl).trans ?_⟩
  have h3 : (xcells tx)[(i - 1).toNat]? = some (.string (bs' t)) := by unfold xcells; rw [List.getElem?_map, ht]; rfl
  rw [List.getElem?_eq_getElem hl] at h3
  exact h3
set_option maxRecDepth 100000 in
set_option maxHeartbeats 12800000 in
theorem tells_walk (v0 v1 v2 : Value) (w : World) (r0 : Fr.RdV w 1048576 shS v0) (r1 : Fr.RdV w 1048576 gdS v1) (r2 : Fr.RdV w 1048576 (.int .i64) v2) :
    Calls Try.prog 12 #[v0, v1, v2] w fun e w' => e = .returned (.bool true) ∧ Below w.heap.size w w' := by
  obtain ⟨s, hs, hb⟩ := sh_rd r0
  obtain ⟨g, rfl⟩ := gd_rd r1
  obtain ⟨i, h, _⟩ := r2
  injection h with h _
  subst h
  have hbt : ∀ t ∈ s.tx, t.length ≤ 35184372088832 := fun t ht => Nat.le_trans (hb t ht) (by decide)
  obtain ⟨F, T, rfl, hs2, hs3⟩ := hs
  have hs : ShRd w (.agg (shCs s F T)) s := ⟨F, T, rfl, hs2, hs3⟩
  have HLV := Lib.hid glives_calls
  have HRG := Lib.hid (refgd_calls g)
  have HCK : Hid (∀ W, Below w.heap.size w W → Calls Try.prog 27 #[.agg (shCs s F T)] W fun e w' => e = .returned (.int .i64 (chk s)) ∧ Below W.heap.size W w') := Lib.hid (fun W hW => check_calls wdev s _ W (hs.on hW) hbt)
  obtain ⟨S1, a1, r1'⟩ := asked_ok (ask5 (v := 256) (by omega)) (by decide)
  have HA1 := Lib.hid a1
  have h2b := two_boxes w (shCs s F T) #[.int .i64 g.st, .int .i64 g.ad, .int .i64 g.ha] 53 55
  by_cases hok : chk s = 0 ∧ gOk g = true
  case neg =>
    have hbad : ∃ c : Int, c ≠ 0 ∧ ctl s g (some (5, 256, 0, 65535)) = (g, [], c) ∧ ((chk s == c) = true ∨ (chk s == c) = false ∧ gOk g = false) := by
      by_cases h1 : chk s = 0
      · have h2 : gOk g = false := by simpa [h1] using hok
        exact ⟨1, by decide, by unfold ctl; rw [if_neg (by simp [h1]), if_pos h2], .inr ⟨by rw [h1]; rfl, h2⟩⟩
      · exact ⟨chk s, h1, if_pos h1, .inl (by simp)⟩
    obtain ⟨c, hc, hct, hor⟩ := hbad
    have K1 := Lib.hid (ctT_of hs hbt r1' hct)
    have e1 : (c != 0) = true := by rw [bne_iff_ne]; exact hc
    rw [show bs' [] = ⟨#[]⟩ from rfl] at K1
    generalize chk s = C1 at *
    generalize gOk g = G1 at *
    obtain ⟨st, ad, ha⟩ := g
    clear hs hs2 hs3 hbt hb r0 r1 r1' a1 hok hct hc
    unfold CtT at K1
    unfold gdV at *
    unfold askS at HA1
    dsimp only at *
    go_enter Try.func12, Try.ntmps12
    go_upto_region 1 with (fail)
    refine Kt.fold (fun W => Kt.Fb w [((w.heap.size + 1), #[.int .i64 st, .int .i64 ad, .int .i64 ha], 55), (w.heap.size, (shCs s F T), 53)] W) (((Kt.Fb.nil w h2b.2.2).add h2b.1).add h2b.2.1) ?_
    intro w0 hf0
    have HF0 := Lib.hid hf0
    clear hf0 h2b
    go_upto_region 1 with (fail)
    go_cut [7, 8, 9] from 19 to 26 (fun p x y wx1 => ∃ kZ, p = .pointer (some ⟨kZ, 0, none⟩) ∧ x = .string ⟨#[]⟩ ∧ y = .int .i64 c ∧ Hid (Kt.Fb w ((kZ, #[.int .i64 st, .int .i64 ad, .int .i64 ha], 55) :: [((w.heap.size + 1), #[.int .i64 st, .int .i64 ad, .int .i64 ha], 55), (w.heap.size, (shCs s F T), 53)]) wx1))
    case first =>
      refine Kt.G.start 9 (Kt.Fb w [((w.heap.size + 1), #[.int .i64 st, .int .i64 ad, .int .i64 ha], 55), (w.heap.size, (shCs s F T), 53)]) (by kernel_rfl) HF0.out.drew (fun hHeld => ?_)
      generalize w0.drew = xx at *
      refine Kt.G.load_row 0 { dst := some 20, op := Op.load 53 (Operand.tmp 3), type := 53, pos := "gadget.go:48", after := #[], guard := none } 53 (Operand.tmp 3) w.heap.size 53 (shCs s F T) _ hHeld rfl (by kernel_rfl) (fun _ _ _ h => h) (by rfl) rfl rfl (fun _ h => h.row _ (List.Mem.tail _ (List.Mem.head _))) Try.underlying53 rfl (by kernel_rfl) ?_
      try simp only [Act.put, List.setIfInBounds_toArray, List.set_cons_zero, List.set_cons_succ]
      refine Kt.G.load_row 1 { dst := some 21, op := Op.load 55 (Operand.tmp 4), type := 55, pos := "gadget.go:48", after := #[], guard := none } 55 (Operand.tmp 4) (w.heap.size + 1) 55 #[.int .i64 st, .int .i64 ad, .int .i64 ha] _ hHeld rfl (by kernel_rfl) (fun _ _ _ h => h) (by rfl) rfl rfl (fun _ h => h.row _ (List.Mem.head _)) Try.underlying55 rfl (by kernel_rfl) ?_
      try simp only [Act.put, List.setIfInBounds_toArray, List.set_cons_zero, List.set_cons_succ]
      refine Kt.G.two 2 8 { dst := some 22, op := Op.call { callee := Callee.value (Operand.func 28), args := #[Operand.const (Value.int IntKind.i64 5), Operand.const (Value.int IntKind.i64 256), Operand.const (Value.int IntKind.i64 0), Operand.const (Value.int IntKind.i64 65535)], argTypes := #[3, 3, 3, 3] }, type := 9, pos := "gadget.go:48", after := #[], guard := none } { dst := some 7, op := Op.alloc 55, type := 0, pos := "gadget.go:48", after := #[], guard := none } rfl rfl (by kernel_rfl) (by rfl) (by rfl) (fun K hK => ?_) (fun K hK => ?_)
      · go_simp
        refine (HA1.out _).mono ?_; rintro en xx ⟨rfl, hb⟩
        refine hK.out _ _ (fun _ => hHeld.on hb) (fun hHeld => ?_)
        have hHeld := hHeld rfl
        clear hK K
        try simp only [Act.put, List.setIfInBounds_toArray, List.set_cons_zero, List.set_cons_succ]
        try (replace rK := Kt.row_on hb rK)
        clear hb
        refine Kt.G.two 3 8 { dst := some 23, op := Op.call { callee := Callee.value (Operand.func 23), args := #[Operand.tmp 20, Operand.tmp 21, Operand.tmp 22], argTypes := #[53, 55, 9] }, type := 56, pos := "gadget.go:48", after := #[{ on := 0, ground := Ground.data }, { on := 1, ground := Ground.data }, { on := 2, ground := Ground.data }, { on := 2, ground := Ground.chain }], guard := none } { dst := some 7, op := Op.alloc 55, type := 0, pos := "gadget.go:48", after := #[], guard := none } rfl rfl (by kernel_rfl) (by rfl) (by rfl) (fun K hK => ?_) (fun K hK => ?_)
        · go_simp
          refine (K1.out _ hHeld.bel).mono ?_; rintro en xx ⟨rfl, hb⟩
          refine hK.out _ _ (fun _ => hHeld.on hb) (fun hHeld => ?_)
          have hHeld := hHeld rfl
          clear hK K
          try simp only [Act.put, List.setIfInBounds_toArray, List.set_cons_zero, List.set_cons_succ]
          try (replace rK := Kt.row_on hb rK)
          clear hb
          refine Kt.G.takeP 4 { dst := some 19, op := Op.move (Operand.tmp 23), type := 56, pos := "gadget.go:48", after := #[{ on := 3, ground := Ground.data }], guard := none } ?_ (fun _ => hHeld) rfl (by kernel_rfl) (fun _ _ _ h => h) (by rfl) ?_ ?_
          rotate_left
          · intro wq; go_simp; try with_reducible rfl
          try simp only [Act.put, List.setIfInBounds_toArray, List.set_cons_zero, List.set_cons_succ]
          refine Kt.G.takeP 5 { dst := some 24, op := Op.extract (Operand.tmp 19) 0, type := 55, pos := "gadget.go:48", after := #[{ on := 4, ground := Ground.data }], guard := none } ?_ (fun _ => hHeld) rfl (by kernel_rfl) (fun _ _ _ h => h) (by rfl) ?_ ?_
          rotate_left
          · intro wq; go_simp; try with_reducible rfl
          try simp only [Act.put, List.setIfInBounds_toArray, List.set_cons_zero, List.set_cons_succ]
          refine Kt.G.takeP 6 { dst := some 25, op := Op.extract (Operand.tmp 19) 1, type := 9, pos := "gadget.go:48", after := #[{ on := 4, ground := Ground.data }, { on := 9, ground := Ground.gcOnly Departure.lateStores }], guard := none } ?_ (fun _ => hHeld) rfl (by kernel_rfl) (fun _ _ _ h => h) (by rfl) ?_ ?_
          rotate_left
          · intro wq; go_simp; try with_reducible rfl
          try simp only [Act.put, List.setIfInBounds_toArray, List.set_cons_zero, List.set_cons_succ]
          refine Kt.G.takeP 7 { dst := some 26, op := Op.extract (Operand.tmp 19) 2, type := 25, pos := "gadget.go:48", after := #[{ on := 4, ground := Ground.data }, { on := 10, ground := Ground.gcOnly Departure.lateStores }], guard := none } ?_ (fun _ => hHeld) rfl (by kernel_rfl) (fun _ _ _ h => h) (by rfl) ?_ ?_
          rotate_left
          · intro wq; go_simp; try with_reducible rfl
          try simp only [Act.put, List.setIfInBounds_toArray, List.set_cons_zero, List.set_cons_succ]
          refine Kt.G.one 8 { dst := some 7, op := Op.alloc 55, type := 0, pos := "gadget.go:48", after := #[], guard := none } rfl (by kernel_rfl) (by rfl) (fun K hK => ?_)
          have hkz := hHeld.bel.size
          have hkr : ∀ r ∈ ([((w.heap.size + 1), #[.int .i64 st, .int .i64 ad, .int .i64 ha], 55), (w.heap.size, (shCs s F T), 53)] : List (Nat × Array Value × TypeId)), r.1 < xx.heap.size := fun r hr => hHeld.lt hr
          go_simp
          refine hK.out _ _ (fun _ => hHeld.alloc _) (fun hHeld => ?_)
          have hHeld := hHeld rfl
          clear hK K
          try simp only [Act.put, List.setIfInBounds_toArray, List.set_cons_zero, List.set_cons_succ]
          have rK := heap_alloc_new xx (.cells #[.int .i64 0, .int .i64 0, .int .i64 0] 55)
          generalize hkK : xx.heap.size = kK at *
          clear hkK
          generalize xx.alloc (.cells #[.int .i64 0, .int .i64 0, .int .i64 0] 55) = xx at *
          refine Kt.G.one 9 { dst := none, op := Op.store 55 (Operand.tmp 7) (Operand.tmp 24), type := 0, pos := "gadget.go:48", after := #[{ on := 8, ground := Ground.data }, { on := 5, ground := Ground.data }, { on := 3, ground := Ground.chain }, { on := 0, ground := Ground.phase }, { on := 1, ground := Ground.phase }, { on := 2, ground := Ground.phase }, { on := 3, ground := Ground.phase }, { on := 4, ground := Ground.phase }, { on := 5, ground := Ground.phase }, { on := 6, ground := Ground.textOnly Departure.lateStores }, { on := 7, ground := Ground.textOnly Departure.lateStores }, { on := 8, ground := Ground.phase }], guard := none } rfl (by kernel_rfl) (by rfl) (fun K hK => ?_)
          have cK := fun i => cell_of_row _ _ i _ _ _ rK; have fK := fun i => frozen_of_row _ _ i _ _ rK
          go_simp
          refine hK.out _ _ (Kt.G.late (by kernel_rfl)) (fun _ => ?_)
          clear hK K
          try simp only [Act.put, List.setIfInBounds_toArray, List.set_cons_zero, List.set_cons_succ]
          refine Kt.G.takeP 10 { dst := some 8, op := Op.assign (Operand.tmp 25), type := 9, pos := "gadget.go:48", after := #[{ on := 6, ground := Ground.data }, { on := 9, ground := Ground.chain }, { on := 0, ground := Ground.phase }, { on := 1, ground := Ground.phase }, { on := 2, ground := Ground.phase }, { on := 3, ground := Ground.phase }, { on := 4, ground := Ground.phase }, { on := 5, ground := Ground.phase }, { on := 6, ground := Ground.phase }, { on := 7, ground := Ground.textOnly Departure.lateStores }, { on := 8, ground := Ground.phase }, { on := 9, ground := Ground.phase }], guard := none } ?_ (Kt.G.late (by kernel_rfl)) rfl (by kernel_rfl) (fun _ _ _ h => h) (by rfl) ?_ ?_
          rotate_left
          · intro wq; go_simp; try with_reducible rfl
          try simp only [Act.put, List.setIfInBounds_toArray, List.set_cons_zero, List.set_cons_succ]
          refine Kt.G.takeP 11 { dst := some 9, op := Op.assign (Operand.tmp 26), type := 25, pos := "gadget.go:48", after := #[{ on := 7, ground := Ground.data }, { on := 10, ground := Ground.chain }, { on := 0, ground := Ground.phase }, { on := 1, ground := Ground.phase }, { on := 2, ground := Ground.phase }, { on := 3, ground := Ground.phase }, { on := 4, ground := Ground.phase }, { on := 5, ground := Ground.phase }, { on := 6, ground := Ground.phase }, { on := 7, ground := Ground.phase }, { on := 8, ground := Ground.phase }, { on := 9, ground := Ground.phase }, { on := 10, ground := Ground.phase }], guard := none } ?_ (Kt.G.late (by kernel_rfl)) rfl (by kernel_rfl) (fun _ _ _ h => h) (by rfl) ?_ ?_
          rotate_left
          · intro wq; go_simp; try with_reducible rfl
          try simp only [Act.put, List.setIfInBounds_toArray, List.set_cons_zero, List.set_cons_succ]
          refine Kt.G.done (by kernel_rfl) (NoPanic.normal ?_) _
          clear cK fK
          go_wp2_with fail
          go_meet
          case rel => exact ⟨kK, rfl, rfl, rfl, Lib.hid ((hHeld.onB (Kt.below_setCells [.int .i64 st, .int .i64 ad, .int .i64 ha] kK 0 _ _ (Nat.le_refl _) (Below.refl _ _)) hkz hkr).add (Kt.fill [.int .i64 st, .int .i64 ad, .int .i64 ha] rK rfl))⟩
        · have hkz := hHeld.bel.size
          have hkr : ∀ r ∈ ([((w.heap.size + 1), #[.int .i64 st, .int .i64 ad, .int .i64 ha], 55), (w.heap.size, (shCs s F T), 53)] : List (Nat × Array Value × TypeId)), r.1 < xx.heap.size := fun r hr => hHeld.lt hr
          go_simp
          refine hK.out _ _ (fun _ => hHeld.alloc _) (fun hHeld => ?_)
          have hHeld := hHeld rfl
          clear hK K
          try simp only [Act.put, List.setIfInBounds_toArray, List.set_cons_zero, List.set_cons_succ]
          have rK := heap_alloc_new xx (.cells #[.int .i64 0, .int .i64 0, .int .i64 0] 55)
          generalize hkK : xx.heap.size = kK at *
          clear hkK
          generalize xx.alloc (.cells #[.int .i64 0, .int .i64 0, .int .i64 0] 55) = xx at *
          refine Kt.G.one 3 { dst := some 23, op := Op.call { callee := Callee.value (Operand.func 23), args := #[Operand.tmp 20, Operand.tmp 21, Operand.tmp 22], argTypes := #[53, 55, 9] }, type := 56, pos := "gadget.go:48", after := #[{ on := 0, ground := Ground.data }, { on := 1, ground := Ground.data }, { on := 2, ground := Ground.data }, { on := 2, ground := Ground.chain }], guard := none } rfl (by kernel_rfl) (by rfl) (fun K hK => ?_)
          go_simp
          refine (K1.out _ hHeld.bel).mono ?_; rintro en xx ⟨rfl, hb⟩
          refine hK.out _ _ (fun _ => hHeld.on hb) (fun hHeld => ?_)
          have hHeld := hHeld rfl
          clear hK K
          try simp only [Act.put, List.setIfInBounds_toArray, List.set_cons_zero, List.set_cons_succ]
          try (replace rK := Kt.row_on hb rK)
          clear hb
          refine Kt.G.takeP 4 { dst := some 19, op := Op.move (Operand.tmp 23), type := 56, pos := "gadget.go:48", after := #[{ on := 3, ground := Ground.data }], guard := none } ?_ (fun _ => hHeld) rfl (by kernel_rfl) (fun _ _ _ h => h) (by rfl) ?_ ?_
          rotate_left
          · intro wq; go_simp; try with_reducible rfl
          try simp only [Act.put, List.setIfInBounds_toArray, List.set_cons_zero, List.set_cons_succ]
          refine Kt.G.takeP 5 { dst := some 24, op := Op.extract (Operand.tmp 19) 0, type := 55, pos := "gadget.go:48", after := #[{ on := 4, ground := Ground.data }], guard := none } ?_ (fun _ => hHeld) rfl (by kernel_rfl) (fun _ _ _ h => h) (by rfl) ?_ ?_
          rotate_left
          · intro wq; go_simp; try with_reducible rfl
          try simp only [Act.put, List.setIfInBounds_toArray, List.set_cons_zero, List.set_cons_succ]
          refine Kt.G.takeP 6 { dst := some 25, op := Op.extract (Operand.tmp 19) 1, type := 9, pos := "gadget.go:48", after := #[{ on := 4, ground := Ground.data }, { on := 9, ground := Ground.gcOnly Departure.lateStores }], guard := none } ?_ (fun _ => hHeld) rfl (by kernel_rfl) (fun _ _ _ h => h) (by rfl) ?_ ?_
          rotate_left
          · intro wq; go_simp; try with_reducible rfl
          try simp only [Act.put, List.setIfInBounds_toArray, List.set_cons_zero, List.set_cons_succ]
          refine Kt.G.takeP 7 { dst := some 26, op := Op.extract (Operand.tmp 19) 2, type := 25, pos := "gadget.go:48", after := #[{ on := 4, ground := Ground.data }, { on := 10, ground := Ground.gcOnly Departure.lateStores }], guard := none } ?_ (fun _ => hHeld) rfl (by kernel_rfl) (fun _ _ _ h => h) (by rfl) ?_ ?_
          rotate_left
          · intro wq; go_simp; try with_reducible rfl
          try simp only [Act.put, List.setIfInBounds_toArray, List.set_cons_zero, List.set_cons_succ]
          refine Kt.G.one 9 { dst := none, op := Op.store 55 (Operand.tmp 7) (Operand.tmp 24), type := 0, pos := "gadget.go:48", after := #[{ on := 8, ground := Ground.data }, { on := 5, ground := Ground.data }, { on := 3, ground := Ground.chain }, { on := 0, ground := Ground.phase }, { on := 1, ground := Ground.phase }, { on := 2, ground := Ground.phase }, { on := 3, ground := Ground.phase }, { on := 4, ground := Ground.phase }, { on := 5, ground := Ground.phase }, { on := 6, ground := Ground.textOnly Departure.lateStores }, { on := 7, ground := Ground.textOnly Departure.lateStores }, { on := 8, ground := Ground.phase }], guard := none } rfl (by kernel_rfl) (by rfl) (fun K hK => ?_)
          have cK := fun i => cell_of_row _ _ i _ _ _ rK; have fK := fun i => frozen_of_row _ _ i _ _ rK
          go_simp
          refine hK.out _ _ (Kt.G.late (by kernel_rfl)) (fun _ => ?_)
          clear hK K
          try simp only [Act.put, List.setIfInBounds_toArray, List.set_cons_zero, List.set_cons_succ]
          refine Kt.G.takeP 10 { dst := some 8, op := Op.assign (Operand.tmp 25), type := 9, pos := "gadget.go:48", after := #[{ on := 6, ground := Ground.data }, { on := 9, ground := Ground.chain }, { on := 0, ground := Ground.phase }, { on := 1, ground := Ground.phase }, { on := 2, ground := Ground.phase }, { on := 3, ground := Ground.phase }, { on := 4, ground := Ground.phase }, { on := 5, ground := Ground.phase }, { on := 6, ground := Ground.phase }, { on := 7, ground := Ground.textOnly Departure.lateStores }, { on := 8, ground := Ground.phase }, { on := 9, ground := Ground.phase }], guard := none } ?_ (Kt.G.late (by kernel_rfl)) rfl (by kernel_rfl) (fun _ _ _ h => h) (by rfl) ?_ ?_
          rotate_left
          · intro wq; go_simp; try with_reducible rfl
          try simp only [Act.put, List.setIfInBounds_toArray, List.set_cons_zero, List.set_cons_succ]
          refine Kt.G.takeP 11 { dst := some 9, op := Op.assign (Operand.tmp 26), type := 25, pos := "gadget.go:48", after := #[{ on := 7, ground := Ground.data }, { on := 10, ground := Ground.chain }, { on := 0, ground := Ground.phase }, { on := 1, ground := Ground.phase }, { on := 2, ground := Ground.phase }, { on := 3, ground := Ground.phase }, { on := 4, ground := Ground.phase }, { on := 5, ground := Ground.phase }, { on := 6, ground := Ground.phase }, { on := 7, ground := Ground.phase }, { on := 8, ground := Ground.phase }, { on := 9, ground := Ground.phase }, { on := 10, ground := Ground.phase }], guard := none } ?_ (Kt.G.late (by kernel_rfl)) rfl (by kernel_rfl) (fun _ _ _ h => h) (by rfl) ?_ ?_
          rotate_left
          · intro wq; go_simp; try with_reducible rfl
          try simp only [Act.put, List.setIfInBounds_toArray, List.set_cons_zero, List.set_cons_succ]
          refine Kt.G.done (by kernel_rfl) (NoPanic.normal ?_) _
          clear cK fK
          go_wp2_with fail
          go_meet
          case rel => exact ⟨kK, rfl, rfl, rfl, Lib.hid ((hHeld.onB (Kt.below_setCells [.int .i64 st, .int .i64 ad, .int .i64 ha] kK 0 _ _ (Nat.le_refl _) (Below.refl _ _)) hkz hkr).add (Kt.fill [.int .i64 st, .int .i64 ad, .int .i64 ha] rK rfl))⟩
      · have hkz := hHeld.bel.size
        have hkr : ∀ r ∈ ([((w.heap.size + 1), #[.int .i64 st, .int .i64 ad, .int .i64 ha], 55), (w.heap.size, (shCs s F T), 53)] : List (Nat × Array Value × TypeId)), r.1 < xx.heap.size := fun r hr => hHeld.lt hr
        go_simp
        refine hK.out _ _ (fun _ => hHeld.alloc _) (fun hHeld => ?_)
        have hHeld := hHeld rfl
        clear hK K
        try simp only [Act.put, List.setIfInBounds_toArray, List.set_cons_zero, List.set_cons_succ]
        have rK := heap_alloc_new xx (.cells #[.int .i64 0, .int .i64 0, .int .i64 0] 55)
        generalize hkK : xx.heap.size = kK at *
        clear hkK
        generalize xx.alloc (.cells #[.int .i64 0, .int .i64 0, .int .i64 0] 55) = xx at *
        refine Kt.G.one 2 { dst := some 22, op := Op.call { callee := Callee.value (Operand.func 28), args := #[Operand.const (Value.int IntKind.i64 5), Operand.const (Value.int IntKind.i64 256), Operand.const (Value.int IntKind.i64 0), Operand.const (Value.int IntKind.i64 65535)], argTypes := #[3, 3, 3, 3] }, type := 9, pos := "gadget.go:48", after := #[], guard := none } rfl (by kernel_rfl) (by rfl) (fun K hK => ?_)
        go_simp
        refine (HA1.out _).mono ?_; rintro en xx ⟨rfl, hb⟩
        refine hK.out _ _ (fun _ => hHeld.on hb) (fun hHeld => ?_)
        have hHeld := hHeld rfl
        clear hK K
        try simp only [Act.put, List.setIfInBounds_toArray, List.set_cons_zero, List.set_cons_succ]
        try (replace rK := Kt.row_on hb rK)
        clear hb
        refine Kt.G.one 3 { dst := some 23, op := Op.call { callee := Callee.value (Operand.func 23), args := #[Operand.tmp 20, Operand.tmp 21, Operand.tmp 22], argTypes := #[53, 55, 9] }, type := 56, pos := "gadget.go:48", after := #[{ on := 0, ground := Ground.data }, { on := 1, ground := Ground.data }, { on := 2, ground := Ground.data }, { on := 2, ground := Ground.chain }], guard := none } rfl (by kernel_rfl) (by rfl) (fun K hK => ?_)
        go_simp
        refine (K1.out _ hHeld.bel).mono ?_; rintro en xx ⟨rfl, hb⟩
        refine hK.out _ _ (fun _ => hHeld.on hb) (fun hHeld => ?_)
        have hHeld := hHeld rfl
        clear hK K
        try simp only [Act.put, List.setIfInBounds_toArray, List.set_cons_zero, List.set_cons_succ]
        try (replace rK := Kt.row_on hb rK)
        clear hb
        refine Kt.G.takeP 4 { dst := some 19, op := Op.move (Operand.tmp 23), type := 56, pos := "gadget.go:48", after := #[{ on := 3, ground := Ground.data }], guard := none } ?_ (fun _ => hHeld) rfl (by kernel_rfl) (fun _ _ _ h => h) (by rfl) ?_ ?_
        rotate_left
        · intro wq; go_simp; try with_reducible rfl
        try simp only [Act.put, List.setIfInBounds_toArray, List.set_cons_zero, List.set_cons_succ]
        refine Kt.G.takeP 5 { dst := some 24, op := Op.extract (Operand.tmp 19) 0, type := 55, pos := "gadget.go:48", after := #[{ on := 4, ground := Ground.data }], guard := none } ?_ (fun _ => hHeld) rfl (by kernel_rfl) (fun _ _ _ h => h) (by rfl) ?_ ?_
        rotate_left
        · intro wq; go_simp; try with_reducible rfl
        try simp only [Act.put, List.setIfInBounds_toArray, List.set_cons_zero, List.set_cons_succ]
        refine Kt.G.takeP 6 { dst := some 25, op := Op.extract (Operand.tmp 19) 1, type := 9, pos := "gadget.go:48", after := #[{ on := 4, ground := Ground.data }, { on := 9, ground := Ground.gcOnly Departure.lateStores }], guard := none } ?_ (fun _ => hHeld) rfl (by kernel_rfl) (fun _ _ _ h => h) (by rfl) ?_ ?_
        rotate_left
        · intro wq; go_simp; try with_reducible rfl
        try simp only [Act.put, List.setIfInBounds_toArray, List.set_cons_zero, List.set_cons_succ]
        refine Kt.G.takeP 7 { dst := some 26, op := Op.extract (Operand.tmp 19) 2, type := 25, pos := "gadget.go:48", after := #[{ on := 4, ground := Ground.data }, { on := 10, ground := Ground.gcOnly Departure.lateStores }], guard := none } ?_ (fun _ => hHeld) rfl (by kernel_rfl) (fun _ _ _ h => h) (by rfl) ?_ ?_
        rotate_left
        · intro wq; go_simp; try with_reducible rfl
        try simp only [Act.put, List.setIfInBounds_toArray, List.set_cons_zero, List.set_cons_succ]
        refine Kt.G.one 9 { dst := none, op := Op.store 55 (Operand.tmp 7) (Operand.tmp 24), type := 0, pos := "gadget.go:48", after := #[{ on := 8, ground := Ground.data }, { on := 5, ground := Ground.data }, { on := 3, ground := Ground.chain }, { on := 0, ground := Ground.phase }, { on := 1, ground := Ground.phase }, { on := 2, ground := Ground.phase }, { on := 3, ground := Ground.phase }, { on := 4, ground := Ground.phase }, { on := 5, ground := Ground.phase }, { on := 6, ground := Ground.textOnly Departure.lateStores }, { on := 7, ground := Ground.textOnly Departure.lateStores }, { on := 8, ground := Ground.phase }], guard := none } rfl (by kernel_rfl) (by rfl) (fun K hK => ?_)
        have cK := fun i => cell_of_row _ _ i _ _ _ rK; have fK := fun i => frozen_of_row _ _ i _ _ rK
        go_simp
        refine hK.out _ _ (Kt.G.late (by kernel_rfl)) (fun _ => ?_)
        clear hK K
        try simp only [Act.put, List.setIfInBounds_toArray, List.set_cons_zero, List.set_cons_succ]
        refine Kt.G.takeP 10 { dst := some 8, op := Op.assign (Operand.tmp 25), type := 9, pos := "gadget.go:48", after := #[{ on := 6, ground := Ground.data }, { on := 9, ground := Ground.chain }, { on := 0, ground := Ground.phase }, { on := 1, ground := Ground.phase }, { on := 2, ground := Ground.phase }, { on := 3, ground := Ground.phase }, { on := 4, ground := Ground.phase }, { on := 5, ground := Ground.phase }, { on := 6, ground := Ground.phase }, { on := 7, ground := Ground.textOnly Departure.lateStores }, { on := 8, ground := Ground.phase }, { on := 9, ground := Ground.phase }], guard := none } ?_ (Kt.G.late (by kernel_rfl)) rfl (by kernel_rfl) (fun _ _ _ h => h) (by rfl) ?_ ?_
        rotate_left
        · intro wq; go_simp; try with_reducible rfl
        try simp only [Act.put, List.setIfInBounds_toArray, List.set_cons_zero, List.set_cons_succ]
        refine Kt.G.takeP 11 { dst := some 9, op := Op.assign (Operand.tmp 26), type := 25, pos := "gadget.go:48", after := #[{ on := 7, ground := Ground.data }, { on := 10, ground := Ground.chain }, { on := 0, ground := Ground.phase }, { on := 1, ground := Ground.phase }, { on := 2, ground := Ground.phase }, { on := 3, ground := Ground.phase }, { on := 4, ground := Ground.phase }, { on := 5, ground := Ground.phase }, { on := 6, ground := Ground.phase }, { on := 7, ground := Ground.phase }, { on := 8, ground := Ground.phase }, { on := 9, ground := Ground.phase }, { on := 10, ground := Ground.phase }], guard := none } ?_ (Kt.G.late (by kernel_rfl)) rfl (by kernel_rfl) (fun _ _ _ h => h) (by rfl) ?_ ?_
        rotate_left
        · intro wq; go_simp; try with_reducible rfl
        try simp only [Act.put, List.setIfInBounds_toArray, List.set_cons_zero, List.set_cons_succ]
        refine Kt.G.done (by kernel_rfl) (NoPanic.normal ?_) _
        clear cK fK
        go_wp2_with fail
        go_meet
        case rel => exact ⟨kK, rfl, rfl, rfl, Lib.hid ((hHeld.onB (Kt.below_setCells [.int .i64 st, .int .i64 ad, .int .i64 ha] kK 0 _ _ (Nat.le_refl _) (Below.refl _ _)) hkz hkr).add (Kt.fill [.int .i64 st, .int .i64 ad, .int .i64 ha] rK rfl))⟩
    case rest =>
      obtain ⟨k_a, rfl, rfl, rfl, HF1⟩ := hcut
      clear HF0
      go_wp2_with fail
      refine (HLV.out _).mono ?_
      rintro e x1 ⟨rfl, hb⟩
      have HF2 := Lib.hid (HF1.out.on hb)
      clear hb HF1
      go_wp2_with fail
      refine (HLV.out _).mono ?_
      rintro e x2 ⟨rfl, hb⟩
      have HF3 := Lib.hid (HF2.out.on hb)
      clear hb HF2
      go_wp2_with (refine Kt.load_row_g (by rfl) 53 (.tmp 3) rfl w.heap.size rfl 53 (shCs s F T) _ (HF3.out.row _ (List.Mem.tail _ (List.Mem.tail _ (List.Mem.head _)))) Try.underlying53 rfl (by kernel_rfl) ?_)
      refine (HCK.out _ HF3.out.bel).mono ?_
      rintro e x3 ⟨rfl, hb⟩
      have HF4 := Lib.hid (HF3.out.on hb)
      clear hb HF3
      rcases hor with e2 | ⟨e2, rfl⟩
      · go_wp2_with fail
        go_ret
        exact ⟨rfl, HF4.out.bel⟩
      · have q_g := fun i => cell_of_row _ _ i _ _ _ (HF4.out.row _ (List.Mem.tail _ (List.Mem.head _)))
        go_wp2_with fail
        refine (HRG.out _).mono ?_
        rintro e x4 ⟨rfl, hb⟩
        have HF5 := Lib.hid (HF4.out.on hb)
        clear hb HF4
        go_wp2_with fail
        go_ret
        exact ⟨rfl, HF5.out.bel⟩
  obtain ⟨hck, hgo⟩ := hok
  obtain ⟨p1, p2, p3, p4, p5, p6⟩ := chk_parts hck
  have K1 := Lib.hid (ctT_of hs hbt r1' (tells_do hck hgo (show descr s 256 = (devT s.dev, 0) from p2) (by rw [devT_len]; decide)))
  obtain ⟨S2, a2, r2'⟩ := asked_ok (ask5 (v := 512) (by omega)) (by decide)
  have HA2 := Lib.hid a2
  have hl := cfgT_len p3
  have K2 := Lib.hid (ctT_of hs hbt r2' (tells_do hck hgo (show descr s 512 = (cfgT s.cfg, 0) from p4) (by omega)))
  have HRD := Lib.hid (rdev_calls wdev (devT s.dev))
  rw [dev_back p1] at HRD
  have HRC := Lib.hid (rcfg_calls (cfgT s.cfg))
  have HCB := Lib.hid (cfg_back p3)
  have HOK := Lib.hid (cfgC_ok p3)
  have HTX := Lib.hid (fun (h1 : 1 ≤ i) (h2 : i ≤ (s.tx.length : Int)) => tx_at hck h1 h2)
  have HCT := Lib.hid (fun (S : ByteArray) (v : Int) (X : List UInt8) (hr : RdA S (some (5, v, 0, 65535))) (hx : descr s v = (X, 0)) (hl : X.length ≤ 65535) => ctT_of hs hbt hr (tells_do hck hgo hx hl))
  have HL8 := Lib.hid p5
  have HTA := Lib.hid hs3
  have HSC := Lib.hid hs2
  have HBT := Lib.hid hbt
  obtain ⟨TA, tc, rfl, _, _⟩ := hs3.form
  have hFA : ∃ FA fc, F = .slice FA s.cfg.fs.length fc := by
    obtain ⟨F', css, hF', hF, _⟩ := hs2
    injection hF' with hF'
    have e5 : F = F' := by
      have := congrArg (fun a : Array Value => a[4]?) hF'
      simpa using this
    subst e5
    obtain ⟨A, c, e, _⟩ := hF.form
    exact ⟨A, c, e⟩
  obtain ⟨FA, fc, rfl⟩ := hFA
  obtain ⟨d, hd⟩ : ∃ d, s.dev = d := ⟨_, rfl⟩
  rw [hd] at K1 HRD
  have HDV := Lib.hid hd
  obtain ⟨XD, hXD⟩ : ∃ X, bs' (devT d) = X := ⟨_, rfl⟩
  rw [hXD] at K1 HRD
  obtain ⟨XC, hXC⟩ : ∃ X, bs' (cfgT s.cfg) = X := ⟨_, rfl⟩
  rw [hXC] at K2 HRC
  have HNE := fun w => dev_neq d w
  have HGE := fun p q (a b : Array Value) w => run_eqGuard_agg (P := Try.prog) w .neq 46 p q a b guard_dev
  clear hs hs2 hs3 hbt hb r0 r1 r1' a1 r2' a2 p1 p2 p3 p4 p5 p6 hd hXD hXC hck hgo hl HRG HCK
  obtain ⟨st, ad, ha⟩ := g
  unfold CtT at K1 K2
  unfold gdV at *
  unfold askS at HA1 HA2
  dsimp only at *
  go_enter Try.func12, Try.ntmps12
  go_upto_region 1 with (fail)
  refine Kt.fold (fun W => Kt.Fb w [((w.heap.size + 1), #[.int .i64 st, .int .i64 ad, .int .i64 ha], 55), (w.heap.size, (shCs s (.slice FA s.cfg.fs.length fc) (.slice TA s.tx.length tc)), 53)] W) (((Kt.Fb.nil w h2b.2.2).add h2b.1).add h2b.2.1) ?_
  intro w0 hf0
  have HF0 := Lib.hid hf0
  clear hf0 h2b
  go_upto_region 1 with (fail)
  go_cut [7, 8, 9] from 19 to 26 (fun p x y wx1 => ∃ kZ, p = .pointer (some ⟨kZ, 0, none⟩) ∧ x = .string XD ∧ y = .int .i64 0 ∧ Hid (Kt.Fb w ((kZ, #[.int .i64 st, .int .i64 ad, .int .i64 ha], 55) :: [((w.heap.size + 1), #[.int .i64 st, .int .i64 ad, .int .i64 ha], 55), (w.heap.size, (shCs s (.slice FA s.cfg.fs.length fc) (.slice TA s.tx.length tc)), 53)]) wx1))
  case first =>
    refine Kt.G.start 9 (Kt.Fb w [((w.heap.size + 1), #[.int .i64 st, .int .i64 ad, .int .i64 ha], 55), (w.heap.size, (shCs s (.slice FA s.cfg.fs.length fc) (.slice TA s.tx.length tc)), 53)]) (by kernel_rfl) HF0.out.drew (fun hHeld => ?_)
    generalize w0.drew = xx at *
    refine Kt.G.load_row 0 { dst := some 20, op := Op.load 53 (Operand.tmp 3), type := 53, pos := "gadget.go:48", after := #[], guard := none } 53 (Operand.tmp 3) w.heap.size 53 (shCs s (.slice FA s.cfg.fs.length fc) (.slice TA s.tx.length tc)) _ hHeld rfl (by kernel_rfl) (fun _ _ _ h => h) (by rfl) rfl rfl (fun _ h => h.row _ (List.Mem.tail _ (List.Mem.head _))) Try.underlying53 rfl (by kernel_rfl) ?_
    try simp only [Act.put, List.setIfInBounds_toArray, List.set_cons_zero, List.set_cons_succ]
    refine Kt.G.load_row 1 { dst := some 21, op := Op.load 55 (Operand.tmp 4), type := 55, pos := "gadget.go:48", after := #[], guard := none } 55 (Operand.tmp 4) (w.heap.size + 1) 55 #[.int .i64 st, .int .i64 ad, .int .i64 ha] _ hHeld rfl (by kernel_rfl) (fun _ _ _ h => h) (by rfl) rfl rfl (fun _ h => h.row _ (List.Mem.head _)) Try.underlying55 rfl (by kernel_rfl) ?_
    try simp only [Act.put, List.setIfInBounds_toArray, List.set_cons_zero, List.set_cons_succ]
    refine Kt.G.two 2 8 { dst := some 22, op := Op.call { callee := Callee.value (Operand.func 28), args := #[Operand.const (Value.int IntKind.i64 5), Operand.const (Value.int IntKind.i64 256), Operand.const (Value.int IntKind.i64 0), Operand.const (Value.int IntKind.i64 65535)], argTypes := #[3, 3, 3, 3] }, type := 9, pos := "gadget.go:48", after := #[], guard := none } { dst := some 7, op := Op.alloc 55, type := 0, pos := "gadget.go:48", after := #[], guard := none } rfl rfl (by kernel_rfl) (by rfl) (by rfl) (fun K hK => ?_) (fun K hK => ?_)
    · go_simp
      refine (HA1.out _).mono ?_; rintro en xx ⟨rfl, hb⟩
      refine hK.out _ _ (fun _ => hHeld.on hb) (fun hHeld => ?_)
      have hHeld := hHeld rfl
      clear hK K
      try simp only [Act.put, List.setIfInBounds_toArray, List.set_cons_zero, List.set_cons_succ]
      try (replace rK := Kt.row_on hb rK)
      clear hb
      refine Kt.G.two 3 8 { dst := some 23, op := Op.call { callee := Callee.value (Operand.func 23), args := #[Operand.tmp 20, Operand.tmp 21, Operand.tmp 22], argTypes := #[53, 55, 9] }, type := 56, pos := "gadget.go:48", after := #[{ on := 0, ground := Ground.data }, { on := 1, ground := Ground.data }, { on := 2, ground := Ground.data }, { on := 2, ground := Ground.chain }], guard := none } { dst := some 7, op := Op.alloc 55, type := 0, pos := "gadget.go:48", after := #[], guard := none } rfl rfl (by kernel_rfl) (by rfl) (by rfl) (fun K hK => ?_) (fun K hK => ?_)
      · go_simp
        refine (K1.out _ hHeld.bel).mono ?_; rintro en xx ⟨rfl, hb⟩
        refine hK.out _ _ (fun _ => hHeld.on hb) (fun hHeld => ?_)
        have hHeld := hHeld rfl
        clear hK K
        try simp only [Act.put, List.setIfInBounds_toArray, List.set_cons_zero, List.set_cons_succ]
        try (replace rK := Kt.row_on hb rK)
        clear hb
        refine Kt.G.takeP 4 { dst := some 19, op := Op.move (Operand.tmp 23), type := 56, pos := "gadget.go:48", after := #[{ on := 3, ground := Ground.data }], guard := none } ?_ (fun _ => hHeld) rfl (by kernel_rfl) (fun _ _ _ h => h) (by rfl) ?_ ?_
        rotate_left
        · intro wq; go_simp; try with_reducible rfl
        try simp only [Act.put, List.setIfInBounds_toArray, List.set_cons_zero, List.set_cons_succ]
        refine Kt.G.takeP 5 { dst := some 24, op := Op.extract (Operand.tmp 19) 0, type := 55, pos := "gadget.go:48", after := #[{ on := 4, ground := Ground.data }], guard := none } ?_ (fun _ => hHeld) rfl (by kernel_rfl) (fun _ _ _ h => h) (by rfl) ?_ ?_
        rotate_left
        · intro wq; go_simp; try with_reducible rfl
        try simp only [Act.put, List.setIfInBounds_toArray, List.set_cons_zero, List.set_cons_succ]
        refine Kt.G.takeP 6 { dst := some 25, op := Op.extract (Operand.tmp 19) 1, type := 9, pos := "gadget.go:48", after := #[{ on := 4, ground := Ground.data }, { on := 9, ground := Ground.gcOnly Departure.lateStores }], guard := none } ?_ (fun _ => hHeld) rfl (by kernel_rfl) (fun _ _ _ h => h) (by rfl) ?_ ?_
        rotate_left
        · intro wq; go_simp; try with_reducible rfl
        try simp only [Act.put, List.setIfInBounds_toArray, List.set_cons_zero, List.set_cons_succ]
        refine Kt.G.takeP 7 { dst := some 26, op := Op.extract (Operand.tmp 19) 2, type := 25, pos := "gadget.go:48", after := #[{ on := 4, ground := Ground.data }, { on := 10, ground := Ground.gcOnly Departure.lateStores }], guard := none } ?_ (fun _ => hHeld) rfl (by kernel_rfl) (fun _ _ _ h => h) (by rfl) ?_ ?_
        rotate_left
        · intro wq; go_simp; try with_reducible rfl
        try simp only [Act.put, List.setIfInBounds_toArray, List.set_cons_zero, List.set_cons_succ]
        refine Kt.G.one 8 { dst := some 7, op := Op.alloc 55, type := 0, pos := "gadget.go:48", after := #[], guard := none } rfl (by kernel_rfl) (by rfl) (fun K hK => ?_)
        have hkz := hHeld.bel.size
        have hkr : ∀ r ∈ ([((w.heap.size + 1), #[.int .i64 st, .int .i64 ad, .int .i64 ha], 55), (w.heap.size, (shCs s (.slice FA s.cfg.fs.length fc) (.slice TA s.tx.length tc)), 53)] : List (Nat × Array Value × TypeId)), r.1 < xx.heap.size := fun r hr => hHeld.lt hr
        go_simp
        refine hK.out _ _ (fun _ => hHeld.alloc _) (fun hHeld => ?_)
        have hHeld := hHeld rfl
        clear hK K
        try simp only [Act.put, List.setIfInBounds_toArray, List.set_cons_zero, List.set_cons_succ]
        have rK := heap_alloc_new xx (.cells #[.int .i64 0, .int .i64 0, .int .i64 0] 55)
        generalize hkK : xx.heap.size = kK at *
        clear hkK
        generalize xx.alloc (.cells #[.int .i64 0, .int .i64 0, .int .i64 0] 55) = xx at *
        refine Kt.G.one 9 { dst := none, op := Op.store 55 (Operand.tmp 7) (Operand.tmp 24), type := 0, pos := "gadget.go:48", after := #[{ on := 8, ground := Ground.data }, { on := 5, ground := Ground.data }, { on := 3, ground := Ground.chain }, { on := 0, ground := Ground.phase }, { on := 1, ground := Ground.phase }, { on := 2, ground := Ground.phase }, { on := 3, ground := Ground.phase }, { on := 4, ground := Ground.phase }, { on := 5, ground := Ground.phase }, { on := 6, ground := Ground.textOnly Departure.lateStores }, { on := 7, ground := Ground.textOnly Departure.lateStores }, { on := 8, ground := Ground.phase }], guard := none } rfl (by kernel_rfl) (by rfl) (fun K hK => ?_)
        have cK := fun i => cell_of_row _ _ i _ _ _ rK; have fK := fun i => frozen_of_row _ _ i _ _ rK
        go_simp
        refine hK.out _ _ (Kt.G.late (by kernel_rfl)) (fun _ => ?_)
        clear hK K
        try simp only [Act.put, List.setIfInBounds_toArray, List.set_cons_zero, List.set_cons_succ]
        refine Kt.G.takeP 10 { dst := some 8, op := Op.assign (Operand.tmp 25), type := 9, pos := "gadget.go:48", after := #[{ on := 6, ground := Ground.data }, { on := 9, ground := Ground.chain }, { on := 0, ground := Ground.phase }, { on := 1, ground := Ground.phase }, { on := 2, ground := Ground.phase }, { on := 3, ground := Ground.phase }, { on := 4, ground := Ground.phase }, { on := 5, ground := Ground.phase }, { on := 6, ground := Ground.phase }, { on := 7, ground := Ground.textOnly Departure.lateStores }, { on := 8, ground := Ground.phase }, { on := 9, ground := Ground.phase }], guard := none } ?_ (Kt.G.late (by kernel_rfl)) rfl (by kernel_rfl) (fun _ _ _ h => h) (by rfl) ?_ ?_
        rotate_left
        · intro wq; go_simp; try with_reducible rfl
        try simp only [Act.put, List.setIfInBounds_toArray, List.set_cons_zero, List.set_cons_succ]
        refine Kt.G.takeP 11 { dst := some 9, op := Op.assign (Operand.tmp 26), type := 25, pos := "gadget.go:48", after := #[{ on := 7, ground := Ground.data }, { on := 10, ground := Ground.chain }, { on := 0, ground := Ground.phase }, { on := 1, ground := Ground.phase }, { on := 2, ground := Ground.phase }, { on := 3, ground := Ground.phase }, { on := 4, ground := Ground.phase }, { on := 5, ground := Ground.phase }, { on := 6, ground := Ground.phase }, { on := 7, ground := Ground.phase }, { on := 8, ground := Ground.phase }, { on := 9, ground := Ground.phase }, { on := 10, ground := Ground.phase }], guard := none } ?_ (Kt.G.late (by kernel_rfl)) rfl (by kernel_rfl) (fun _ _ _ h => h) (by rfl) ?_ ?_
        rotate_left
        · intro wq; go_simp; try with_reducible rfl
        try simp only [Act.put, List.setIfInBounds_toArray, List.set_cons_zero, List.set_cons_succ]
        refine Kt.G.done (by kernel_rfl) (NoPanic.normal ?_) _
        clear cK fK
        go_wp2_with fail
        go_meet
        case rel => exact ⟨kK, rfl, rfl, rfl, Lib.hid ((hHeld.onB (Kt.below_setCells [.int .i64 st, .int .i64 ad, .int .i64 ha] kK 0 _ _ (Nat.le_refl _) (Below.refl _ _)) hkz hkr).add (Kt.fill [.int .i64 st, .int .i64 ad, .int .i64 ha] rK rfl))⟩
      · have hkz := hHeld.bel.size
        have hkr : ∀ r ∈ ([((w.heap.size + 1), #[.int .i64 st, .int .i64 ad, .int .i64 ha], 55), (w.heap.size, (shCs s (.slice FA s.cfg.fs.length fc) (.slice TA s.tx.length tc)), 53)] : List (Nat × Array Value × TypeId)), r.1 < xx.heap.size := fun r hr => hHeld.lt hr
        go_simp
        refine hK.out _ _ (fun _ => hHeld.alloc _) (fun hHeld => ?_)
        have hHeld := hHeld rfl
        clear hK K
        try simp only [Act.put, List.setIfInBounds_toArray, List.set_cons_zero, List.set_cons_succ]
        have rK := heap_alloc_new xx (.cells #[.int .i64 0, .int .i64 0, .int .i64 0] 55)
        generalize hkK : xx.heap.size = kK at *
        clear hkK
        generalize xx.alloc (.cells #[.int .i64 0, .int .i64 0, .int .i64 0] 55) = xx at *
        refine Kt.G.one 3 { dst := some 23, op := Op.call { callee := Callee.value (Operand.func 23), args := #[Operand.tmp 20, Operand.tmp 21, Operand.tmp 22], argTypes := #[53, 55, 9] }, type := 56, pos := "gadget.go:48", after := #[{ on := 0, ground := Ground.data }, { on := 1, ground := Ground.data }, { on := 2, ground := Ground.data }, { on := 2, ground := Ground.chain }], guard := none } rfl (by kernel_rfl) (by rfl) (fun K hK => ?_)
        go_simp
        refine (K1.out _ hHeld.bel).mono ?_; rintro en xx ⟨rfl, hb⟩
        refine hK.out _ _ (fun _ => hHeld.on hb) (fun hHeld => ?_)
        have hHeld := hHeld rfl
        clear hK K
        try simp only [Act.put, List.setIfInBounds_toArray, List.set_cons_zero, List.set_cons_succ]
        try (replace rK := Kt.row_on hb rK)
        clear hb
        refine Kt.G.takeP 4 { dst := some 19, op := Op.move (Operand.tmp 23), type := 56, pos := "gadget.go:48", after := #[{ on := 3, ground := Ground.data }], guard := none } ?_ (fun _ => hHeld) rfl (by kernel_rfl) (fun _ _ _ h => h) (by rfl) ?_ ?_
        rotate_left
        · intro wq; go_simp; try with_reducible rfl
        try simp only [Act.put, List.setIfInBounds_toArray, List.set_cons_zero, List.set_cons_succ]
        refine Kt.G.takeP 5 { dst := some 24, op := Op.extract (Operand.tmp 19) 0, type := 55, pos := "gadget.go:48", after := #[{ on := 4, ground := Ground.data }], guard := none } ?_ (fun _ => hHeld) rfl (by kernel_rfl) (fun _ _ _ h => h) (by rfl) ?_ ?_
        rotate_left
        · intro wq; go_simp; try with_reducible rfl
        try simp only [Act.put, List.setIfInBounds_toArray, List.set_cons_zero, List.set_cons_succ]
        refine Kt.G.takeP 6 { dst := some 25, op := Op.extract (Operand.tmp 19) 1, type := 9, pos := "gadget.go:48", after := #[{ on := 4, ground := Ground.data }, { on := 9, ground := Ground.gcOnly Departure.lateStores }], guard := none } ?_ (fun _ => hHeld) rfl (by kernel_rfl) (fun _ _ _ h => h) (by rfl) ?_ ?_
        rotate_left
        · intro wq; go_simp; try with_reducible rfl
        try simp only [Act.put, List.setIfInBounds_toArray, List.set_cons_zero, List.set_cons_succ]
        refine Kt.G.takeP 7 { dst := some 26, op := Op.extract (Operand.tmp 19) 2, type := 25, pos := "gadget.go:48", after := #[{ on := 4, ground := Ground.data }, { on := 10, ground := Ground.gcOnly Departure.lateStores }], guard := none } ?_ (fun _ => hHeld) rfl (by kernel_rfl) (fun _ _ _ h => h) (by rfl) ?_ ?_
        rotate_left
        · intro wq; go_simp; try with_reducible rfl
        try simp only [Act.put, List.setIfInBounds_toArray, List.set_cons_zero, List.set_cons_succ]
        refine Kt.G.one 9 { dst := none, op := Op.store 55 (Operand.tmp 7) (Operand.tmp 24), type := 0, pos := "gadget.go:48", after := #[{ on := 8, ground := Ground.data }, { on := 5, ground := Ground.data }, { on := 3, ground := Ground.chain }, { on := 0, ground := Ground.phase }, { on := 1, ground := Ground.phase }, { on := 2, ground := Ground.phase }, { on := 3, ground := Ground.phase }, { on := 4, ground := Ground.phase }, { on := 5, ground := Ground.phase }, { on := 6, ground := Ground.textOnly Departure.lateStores }, { on := 7, ground := Ground.textOnly Departure.lateStores }, { on := 8, ground := Ground.phase }], guard := none } rfl (by kernel_rfl) (by rfl) (fun K hK => ?_)
        have cK := fun i => cell_of_row _ _ i _ _ _ rK; have fK := fun i => frozen_of_row _ _ i _ _ rK
        go_simp
        refine hK.out _ _ (Kt.G.late (by kernel_rfl)) (fun _ => ?_)
        clear hK K
        try simp only [Act.put, List.setIfInBounds_toArray, List.set_cons_zero, List.set_cons_succ]
        refine Kt.G.takeP 10 { dst := some 8, op := Op.assign (Operand.tmp 25), type := 9, pos := "gadget.go:48", after := #[{ on := 6, ground := Ground.data }, { on := 9, ground := Ground.chain }, { on := 0, ground := Ground.phase }, { on := 1, ground := Ground.phase }, { on := 2, ground := Ground.phase }, { on := 3, ground := Ground.phase }, { on := 4, ground := Ground.phase }, { on := 5, ground := Ground.phase }, { on := 6, ground := Ground.phase }, { on := 7, ground := Ground.textOnly Departure.lateStores }, { on := 8, ground := Ground.phase }, { on := 9, ground := Ground.phase }], guard := none } ?_ (Kt.G.late (by kernel_rfl)) rfl (by kernel_rfl) (fun _ _ _ h => h) (by rfl) ?_ ?_
        rotate_left
        · intro wq; go_simp; try with_reducible rfl
        try simp only [Act.put, List.setIfInBounds_toArray, List.set_cons_zero, List.set_cons_succ]
        refine Kt.G.takeP 11 { dst := some 9, op := Op.assign (Operand.tmp 26), type := 25, pos := "gadget.go:48", after := #[{ on := 7, ground := Ground.data }, { on := 10, ground := Ground.chain }, { on := 0, ground := Ground.phase }, { on := 1, ground := Ground.phase }, { on := 2, ground := Ground.phase }, { on := 3, ground := Ground.phase }, { on := 4, ground := Ground.phase }, { on := 5, ground := Ground.phase }, { on := 6, ground := Ground.phase }, { on := 7, ground := Ground.phase }, { on := 8, ground := Ground.phase }, { on := 9, ground := Ground.phase }, { on := 10, ground := Ground.phase }], guard := none } ?_ (Kt.G.late (by kernel_rfl)) rfl (by kernel_rfl) (fun _ _ _ h => h) (by rfl) ?_ ?_
        rotate_left
        · intro wq; go_simp; try with_reducible rfl
        try simp only [Act.put, List.setIfInBounds_toArray, List.set_cons_zero, List.set_cons_succ]
        refine Kt.G.done (by kernel_rfl) (NoPanic.normal ?_) _
        clear cK fK
        go_wp2_with fail
        go_meet
        case rel => exact ⟨kK, rfl, rfl, rfl, Lib.hid ((hHeld.onB (Kt.below_setCells [.int .i64 st, .int .i64 ad, .int .i64 ha] kK 0 _ _ (Nat.le_refl _) (Below.refl _ _)) hkz hkr).add (Kt.fill [.int .i64 st, .int .i64 ad, .int .i64 ha] rK rfl))⟩
    · have hkz := hHeld.bel.size
      have hkr : ∀ r ∈ ([((w.heap.size + 1), #[.int .i64 st, .int .i64 ad, .int .i64 ha], 55), (w.heap.size, (shCs s (.slice FA s.cfg.fs.length fc) (.slice TA s.tx.length tc)), 53)] : List (Nat × Array Value × TypeId)), r.1 < xx.heap.size := fun r hr => hHeld.lt hr
      go_simp
      refine hK.out _ _ (fun _ => hHeld.alloc _) (fun hHeld => ?_)
      have hHeld := hHeld rfl
      clear hK K
      try simp only [Act.put, List.setIfInBounds_toArray, List.set_cons_zero, List.set_cons_succ]
      have rK := heap_alloc_new xx (.cells #[.int .i64 0, .int .i64 0, .int .i64 0] 55)
      generalize hkK : xx.heap.size = kK at *
      clear hkK
      generalize xx.alloc (.cells #[.int .i64 0, .int .i64 0, .int .i64 0] 55) = xx at *
      refine Kt.G.one 2 { dst := some 22, op := Op.call { callee := Callee.value (Operand.func 28), args := #[Operand.const (Value.int IntKind.i64 5), Operand.const (Value.int IntKind.i64 256), Operand.const (Value.int IntKind.i64 0), Operand.const (Value.int IntKind.i64 65535)], argTypes := #[3, 3, 3, 3] }, type := 9, pos := "gadget.go:48", after := #[], guard := none } rfl (by kernel_rfl) (by rfl) (fun K hK => ?_)
      go_simp
      refine (HA1.out _).mono ?_; rintro en xx ⟨rfl, hb⟩
      refine hK.out _ _ (fun _ => hHeld.on hb) (fun hHeld => ?_)
      have hHeld := hHeld rfl
      clear hK K
      try simp only [Act.put, List.setIfInBounds_toArray, List.set_cons_zero, List.set_cons_succ]
      try (replace rK := Kt.row_on hb rK)
      clear hb
      refine Kt.G.one 3 { dst := some 23, op := Op.call { callee := Callee.value (Operand.func 23), args := #[Operand.tmp 20, Operand.tmp 21, Operand.tmp 22], argTypes := #[53, 55, 9] }, type := 56, pos := "gadget.go:48", after := #[{ on := 0, ground := Ground.data }, { on := 1, ground := Ground.data }, { on := 2, ground := Ground.data }, { on := 2, ground := Ground.chain }], guard := none } rfl (by kernel_rfl) (by rfl) (fun K hK => ?_)
      go_simp
      refine (K1.out _ hHeld.bel).mono ?_; rintro en xx ⟨rfl, hb⟩
      refine hK.out _ _ (fun _ => hHeld.on hb) (fun hHeld => ?_)
      have hHeld := hHeld rfl
      clear hK K
      try simp only [Act.put, List.setIfInBounds_toArray, List.set_cons_zero, List.set_cons_succ]
      try (replace rK := Kt.row_on hb rK)
      clear hb
      refine Kt.G.takeP 4 { dst := some 19, op := Op.move (Operand.tmp 23), type := 56, pos := "gadget.go:48", after := #[{ on := 3, ground := Ground.data }], guard := none } ?_ (fun _ => hHeld) rfl (by kernel_rfl) (fun _ _ _ h => h) (by rfl) ?_ ?_
      rotate_left
      · intro wq; go_simp; try with_reducible rfl
      try simp only [Act.put, List.setIfInBounds_toArray, List.set_cons_zero, List.set_cons_succ]
      refine Kt.G.takeP 5 { dst := some 24, op := Op.extract (Operand.tmp 19) 0, type := 55, pos := "gadget.go:48", after := #[{ on := 4, ground := Ground.data }], guard := none } ?_ (fun _ => hHeld) rfl (by kernel_rfl) (fun _ _ _ h => h) (by rfl) ?_ ?_
      rotate_left
      · intro wq; go_simp; try with_reducible rfl
      try simp only [Act.put, List.setIfInBounds_toArray, List.set_cons_zero, List.set_cons_succ]
      refine Kt.G.takeP 6 { dst := some 25, op := Op.extract (Operand.tmp 19) 1, type := 9, pos := "gadget.go:48", after := #[{ on := 4, ground := Ground.data }, { on := 9, ground := Ground.gcOnly Departure.lateStores }], guard := none } ?_ (fun _ => hHeld) rfl (by kernel_rfl) (fun _ _ _ h => h) (by rfl) ?_ ?_
      rotate_left
      · intro wq; go_simp; try with_reducible rfl
      try simp only [Act.put, List.setIfInBounds_toArray, List.set_cons_zero, List.set_cons_succ]
      refine Kt.G.takeP 7 { dst := some 26, op := Op.extract (Operand.tmp 19) 2, type := 25, pos := "gadget.go:48", after := #[{ on := 4, ground := Ground.data }, { on := 10, ground := Ground.gcOnly Departure.lateStores }], guard := none } ?_ (fun _ => hHeld) rfl (by kernel_rfl) (fun _ _ _ h => h) (by rfl) ?_ ?_
      rotate_left
      · intro wq; go_simp; try with_reducible rfl
      try simp only [Act.put, List.setIfInBounds_toArray, List.set_cons_zero, List.set_cons_succ]
      refine Kt.G.one 9 { dst := none, op := Op.store 55 (Operand.tmp 7) (Operand.tmp 24), type := 0, pos := "gadget.go:48", after := #[{ on := 8, ground := Ground.data }, { on := 5, ground := Ground.data }, { on := 3, ground := Ground.chain }, { on := 0, ground := Ground.phase }, { on := 1, ground := Ground.phase }, { on := 2, ground := Ground.phase }, { on := 3, ground := Ground.phase }, { on := 4, ground := Ground.phase }, { on := 5, ground := Ground.phase }, { on := 6, ground := Ground.textOnly Departure.lateStores }, { on := 7, ground := Ground.textOnly Departure.lateStores }, { on := 8, ground := Ground.phase }], guard := none } rfl (by kernel_rfl) (by rfl) (fun K hK => ?_)
      have cK := fun i => cell_of_row _ _ i _ _ _ rK; have fK := fun i => frozen_of_row _ _ i _ _ rK
      go_simp
      refine hK.out _ _ (Kt.G.late (by kernel_rfl)) (fun _ => ?_)
      clear hK K
      try simp only [Act.put, List.setIfInBounds_toArray, List.set_cons_zero, List.set_cons_succ]
      refine Kt.G.takeP 10 { dst := some 8, op := Op.assign (Operand.tmp 25), type := 9, pos := "gadget.go:48", after := #[{ on := 6, ground := Ground.data }, { on := 9, ground := Ground.chain }, { on := 0, ground := Ground.phase }, { on := 1, ground := Ground.phase }, { on := 2, ground := Ground.phase }, { on := 3, ground := Ground.phase }, { on := 4, ground := Ground.phase }, { on := 5, ground := Ground.phase }, { on := 6, ground := Ground.phase }, { on := 7, ground := Ground.textOnly Departure.lateStores }, { on := 8, ground := Ground.phase }, { on := 9, ground := Ground.phase }], guard := none } ?_ (Kt.G.late (by kernel_rfl)) rfl (by kernel_rfl) (fun _ _ _ h => h) (by rfl) ?_ ?_
      rotate_left
      · intro wq; go_simp; try with_reducible rfl
      try simp only [Act.put, List.setIfInBounds_toArray, List.set_cons_zero, List.set_cons_succ]
      refine Kt.G.takeP 11 { dst := some 9, op := Op.assign (Operand.tmp 26), type := 25, pos := "gadget.go:48", after := #[{ on := 7, ground := Ground.data }, { on := 10, ground := Ground.chain }, { on := 0, ground := Ground.phase }, { on := 1, ground := Ground.phase }, { on := 2, ground := Ground.phase }, { on := 3, ground := Ground.phase }, { on := 4, ground := Ground.phase }, { on := 5, ground := Ground.phase }, { on := 6, ground := Ground.phase }, { on := 7, ground := Ground.phase }, { on := 8, ground := Ground.phase }, { on := 9, ground := Ground.phase }, { on := 10, ground := Ground.phase }], guard := none } ?_ (Kt.G.late (by kernel_rfl)) rfl (by kernel_rfl) (fun _ _ _ h => h) (by rfl) ?_ ?_
      rotate_left
      · intro wq; go_simp; try with_reducible rfl
      try simp only [Act.put, List.setIfInBounds_toArray, List.set_cons_zero, List.set_cons_succ]
      refine Kt.G.done (by kernel_rfl) (NoPanic.normal ?_) _
      clear cK fK
      go_wp2_with fail
      go_meet
      case rel => exact ⟨kK, rfl, rfl, rfl, Lib.hid ((hHeld.onB (Kt.below_setCells [.int .i64 st, .int .i64 ad, .int .i64 ha] kK 0 _ _ (Nat.le_refl _) (Below.refl _ _)) hkz hkr).add (Kt.fill [.int .i64 st, .int .i64 ad, .int .i64 ha] rK rfl))⟩
  case rest =>
    obtain ⟨k_a, rfl, rfl, rfl, HF1⟩ := hcut
    clear HF0
    unfold dV at HRD
    go_wp2_with fail
    refine (HLV.out _).mono ?_
    rintro e x1 ⟨rfl, hb⟩
    have HF2 := Lib.hid (HF1.out.on hb)
    clear hb HF1
    go_wp2_with fail
    refine (HRD.out _).mono ?_
    rintro e x2 ⟨rfl, hb⟩
    have HF3 := Lib.hid (HF2.out.on hb)
    clear hb HF2
    have HF4 := Lib.hid ((HF3.out.alloc (.cells #[.int .i64 d.usb, .int .i64 d.cls, .int .i64 d.sub, .int .i64 d.pro, .int .i64 d.m0, .int .i64 d.ven, .int .i64 d.prd, .int .i64 d.rel, .int .i64 d.mak, .int .i64 d.nam, .int .i64 d.ser, .int .i64 d.cfs] 46)).add (heap_alloc_new x2 (.cells #[.int .i64 d.usb, .int .i64 d.cls, .int .i64 d.sub, .int .i64 d.pro, .int .i64 d.m0, .int .i64 d.ven, .int .i64 d.prd, .int .i64 d.rel, .int .i64 d.mak, .int .i64 d.nam, .int .i64 d.ser, .int .i64 d.cfs] 46)))
    clear HF3
    go_upto_region 5 with (fail)
    generalize x2.alloc (.cells #[.int .i64 d.usb, .int .i64 d.cls, .int .i64 d.sub, .int .i64 d.pro, .int .i64 d.m0, .int .i64 d.ven, .int .i64 d.prd, .int .i64 d.rel, .int .i64 d.mak, .int .i64 d.nam, .int .i64 d.ser, .int .i64 d.cfs] 46) = w1 at *
    go_upto_region 5 with (fail)
    go_cut [11, 12, 13] from 54 to 61 (fun p x y wx2 => ∃ kZ, p = .pointer (some ⟨kZ, 0, none⟩) ∧ x = .string XC ∧ y = .int .i64 0 ∧ Hid (Kt.Fb w ((kZ, #[.int .i64 st, .int .i64 ad, .int .i64 ha], 55) :: [(x2.heap.size, #[.int .i64 d.usb, .int .i64 d.cls, .int .i64 d.sub, .int .i64 d.pro, .int .i64 d.m0, .int .i64 d.ven, .int .i64 d.prd, .int .i64 d.rel, .int .i64 d.mak, .int .i64 d.nam, .int .i64 d.ser, .int .i64 d.cfs], 46), (k_a, #[.int .i64 st, .int .i64 ad, .int .i64 ha], 55), ((w.heap.size + 1), #[.int .i64 st, .int .i64 ad, .int .i64 ha], 55), (w.heap.size, (shCs s (.slice FA s.cfg.fs.length fc) (.slice TA s.tx.length tc)), 53)]) wx2))
    case first =>
      refine Kt.G.start 9 (Kt.Fb w [(x2.heap.size, #[.int .i64 d.usb, .int .i64 d.cls, .int .i64 d.sub, .int .i64 d.pro, .int .i64 d.m0, .int .i64 d.ven, .int .i64 d.prd, .int .i64 d.rel, .int .i64 d.mak, .int .i64 d.nam, .int .i64 d.ser, .int .i64 d.cfs], 46), (k_a, #[.int .i64 st, .int .i64 ad, .int .i64 ha], 55), ((w.heap.size + 1), #[.int .i64 st, .int .i64 ad, .int .i64 ha], 55), (w.heap.size, (shCs s (.slice FA s.cfg.fs.length fc) (.slice TA s.tx.length tc)), 53)]) (by kernel_rfl) HF4.out.drew (fun hHeld => ?_)
      generalize w1.drew = xx at *
      refine Kt.G.load_row 0 { dst := some 55, op := Op.load 53 (Operand.tmp 3), type := 53, pos := "gadget.go:53", after := #[], guard := none } 53 (Operand.tmp 3) w.heap.size 53 (shCs s (.slice FA s.cfg.fs.length fc) (.slice TA s.tx.length tc)) _ hHeld rfl (by kernel_rfl) (fun _ _ _ h => h) (by rfl) rfl rfl (fun _ h => h.row _ (List.Mem.tail _ (List.Mem.tail _ (List.Mem.tail _ (List.Mem.head _))))) Try.underlying53 rfl (by kernel_rfl) ?_
      try simp only [Act.put, List.setIfInBounds_toArray, List.set_cons_zero, List.set_cons_succ]
      refine Kt.G.load_row 1 { dst := some 56, op := Op.load 55 (Operand.tmp 4), type := 55, pos := "gadget.go:53", after := #[], guard := none } 55 (Operand.tmp 4) (w.heap.size + 1) 55 #[.int .i64 st, .int .i64 ad, .int .i64 ha] _ hHeld rfl (by kernel_rfl) (fun _ _ _ h => h) (by rfl) rfl rfl (fun _ h => h.row _ (List.Mem.tail _ (List.Mem.tail _ (List.Mem.head _)))) Try.underlying55 rfl (by kernel_rfl) ?_
      try simp only [Act.put, List.setIfInBounds_toArray, List.set_cons_zero, List.set_cons_succ]
      refine Kt.G.two 2 8 { dst := some 57, op := Op.call { callee := Callee.value (Operand.func 28), args := #[Operand.const (Value.int IntKind.i64 5), Operand.const (Value.int IntKind.i64 512), Operand.const (Value.int IntKind.i64 0), Operand.const (Value.int IntKind.i64 65535)], argTypes := #[3, 3, 3, 3] }, type := 9, pos := "gadget.go:53", after := #[], guard := none } { dst := some 11, op := Op.alloc 55, type := 0, pos := "gadget.go:53", after := #[], guard := none } rfl rfl (by kernel_rfl) (by rfl) (by rfl) (fun K hK => ?_) (fun K hK => ?_)
      · go_simp
        refine (HA2.out _).mono ?_; rintro en xx ⟨rfl, hb⟩
        refine hK.out _ _ (fun _ => hHeld.on hb) (fun hHeld => ?_)
        have hHeld := hHeld rfl
        clear hK K
        try simp only [Act.put, List.setIfInBounds_toArray, List.set_cons_zero, List.set_cons_succ]
        try (replace rK := Kt.row_on hb rK)
        clear hb
        refine Kt.G.two 3 8 { dst := some 58, op := Op.call { callee := Callee.value (Operand.func 23), args := #[Operand.tmp 55, Operand.tmp 56, Operand.tmp 57], argTypes := #[53, 55, 9] }, type := 56, pos := "gadget.go:53", after := #[{ on := 0, ground := Ground.data }, { on := 1, ground := Ground.data }, { on := 2, ground := Ground.data }, { on := 2, ground := Ground.chain }], guard := none } { dst := some 11, op := Op.alloc 55, type := 0, pos := "gadget.go:53", after := #[], guard := none } rfl rfl (by kernel_rfl) (by rfl) (by rfl) (fun K hK => ?_) (fun K hK => ?_)
        · go_simp
          refine (K2.out _ hHeld.bel).mono ?_; rintro en xx ⟨rfl, hb⟩
          refine hK.out _ _ (fun _ => hHeld.on hb) (fun hHeld => ?_)
          have hHeld := hHeld rfl
          clear hK K
          try simp only [Act.put, List.setIfInBounds_toArray, List.set_cons_zero, List.set_cons_succ]
          try (replace rK := Kt.row_on hb rK)
          clear hb
          refine Kt.G.takeP 4 { dst := some 54, op := Op.move (Operand.tmp 58), type := 56, pos := "gadget.go:53", after := #[{ on := 3, ground := Ground.data }], guard := none } ?_ (fun _ => hHeld) rfl (by kernel_rfl) (fun _ _ _ h => h) (by rfl) ?_ ?_
          rotate_left
          · intro wq; go_simp; try with_reducible rfl
          try simp only [Act.put, List.setIfInBounds_toArray, List.set_cons_zero, List.set_cons_succ]
          refine Kt.G.takeP 5 { dst := some 59, op := Op.extract (Operand.tmp 54) 0, type := 55, pos := "gadget.go:53", after := #[{ on := 4, ground := Ground.data }], guard := none } ?_ (fun _ => hHeld) rfl (by kernel_rfl) (fun _ _ _ h => h) (by rfl) ?_ ?_
          rotate_left
          · intro wq; go_simp; try with_reducible rfl
          try simp only [Act.put, List.setIfInBounds_toArray, List.set_cons_zero, List.set_cons_succ]
          refine Kt.G.takeP 6 { dst := some 60, op := Op.extract (Operand.tmp 54) 1, type := 9, pos := "gadget.go:53", after := #[{ on := 4, ground := Ground.data }, { on := 9, ground := Ground.gcOnly Departure.lateStores }], guard := none } ?_ (fun _ => hHeld) rfl (by kernel_rfl) (fun _ _ _ h => h) (by rfl) ?_ ?_
          rotate_left
          · intro wq; go_simp; try with_reducible rfl
          try simp only [Act.put, List.setIfInBounds_toArray, List.set_cons_zero, List.set_cons_succ]
          refine Kt.G.takeP 7 { dst := some 61, op := Op.extract (Operand.tmp 54) 2, type := 25, pos := "gadget.go:53", after := #[{ on := 4, ground := Ground.data }, { on := 10, ground := Ground.gcOnly Departure.lateStores }], guard := none } ?_ (fun _ => hHeld) rfl (by kernel_rfl) (fun _ _ _ h => h) (by rfl) ?_ ?_
          rotate_left
          · intro wq; go_simp; try with_reducible rfl
          try simp only [Act.put, List.setIfInBounds_toArray, List.set_cons_zero, List.set_cons_succ]
          refine Kt.G.one 8 { dst := some 11, op := Op.alloc 55, type := 0, pos := "gadget.go:53", after := #[], guard := none } rfl (by kernel_rfl) (by rfl) (fun K hK => ?_)
          have hkz := hHeld.bel.size
          have hkr : ∀ r ∈ ([(x2.heap.size, #[.int .i64 d.usb, .int .i64 d.cls, .int .i64 d.sub, .int .i64 d.pro, .int .i64 d.m0, .int .i64 d.ven, .int .i64 d.prd, .int .i64 d.rel, .int .i64 d.mak, .int .i64 d.nam, .int .i64 d.ser, .int .i64 d.cfs], 46), (k_a, #[.int .i64 st, .int .i64 ad, .int .i64 ha], 55), ((w.heap.size + 1), #[.int .i64 st, .int .i64 ad, .int .i64 ha], 55), (w.heap.size, (shCs s (.slice FA s.cfg.fs.length fc) (.slice TA s.tx.length tc)), 53)] : List (Nat × Array Value × TypeId)), r.1 < xx.heap.size := fun r hr => hHeld.lt hr
          go_simp
          refine hK.out _ _ (fun _ => hHeld.alloc _) (fun hHeld => ?_)
          have hHeld := hHeld rfl
          clear hK K
          try simp only [Act.put, List.setIfInBounds_toArray, List.set_cons_zero, List.set_cons_succ]
          have rK := heap_alloc_new xx (.cells #[.int .i64 0, .int .i64 0, .int .i64 0] 55)
          generalize hkK : xx.heap.size = kK at *
          clear hkK
          generalize xx.alloc (.cells #[.int .i64 0, .int .i64 0, .int .i64 0] 55) = xx at *
          refine Kt.G.one 9 { dst := none, op := Op.store 55 (Operand.tmp 11) (Operand.tmp 59), type := 0, pos := "gadget.go:53", after := #[{ on := 8, ground := Ground.data }, { on := 5, ground := Ground.data }, { on := 3, ground := Ground.chain }, { on := 0, ground := Ground.phase }, { on := 1, ground := Ground.phase }, { on := 2, ground := Ground.phase }, { on := 3, ground := Ground.phase }, { on := 4, ground := Ground.phase }, { on := 5, ground := Ground.phase }, { on := 6, ground := Ground.textOnly Departure.lateStores }, { on := 7, ground := Ground.textOnly Departure.lateStores }, { on := 8, ground := Ground.phase }], guard := none } rfl (by kernel_rfl) (by rfl) (fun K hK => ?_)
          have cK := fun i => cell_of_row _ _ i _ _ _ rK; have fK := fun i => frozen_of_row _ _ i _ _ rK
          go_simp
          refine hK.out _ _ (Kt.G.late (by kernel_rfl)) (fun _ => ?_)
          clear hK K
          try simp only [Act.put, List.setIfInBounds_toArray, List.set_cons_zero, List.set_cons_succ]
          refine Kt.G.takeP 10 { dst := some 12, op := Op.assign (Operand.tmp 60), type := 9, pos := "gadget.go:53", after := #[{ on := 6, ground := Ground.data }, { on := 9, ground := Ground.chain }, { on := 0, ground := Ground.phase }, { on := 1, ground := Ground.phase }, { on := 2, ground := Ground.phase }, { on := 3, ground := Ground.phase }, { on := 4, ground := Ground.phase }, { on := 5, ground := Ground.phase }, { on := 6, ground := Ground.phase }, { on := 7, ground := Ground.textOnly Departure.lateStores }, { on := 8, ground := Ground.phase }, { on := 9, ground := Ground.phase }], guard := none } ?_ (Kt.G.late (by kernel_rfl)) rfl (by kernel_rfl) (fun _ _ _ h => h) (by rfl) ?_ ?_
          rotate_left
          · intro wq; go_simp; try with_reducible rfl
          try simp only [Act.put, List.setIfInBounds_toArray, List.set_cons_zero, List.set_cons_succ]
          refine Kt.G.takeP 11 { dst := some 13, op := Op.assign (Operand.tmp 61), type := 25, pos := "gadget.go:53", after := #[{ on := 7, ground := Ground.data }, { on := 10, ground := Ground.chain }, { on := 0, ground := Ground.phase }, { on := 1, ground := Ground.phase }, { on := 2, ground := Ground.phase }, { on := 3, ground := Ground.phase }, { on := 4, ground := Ground.phase }, { on := 5, ground := Ground.phase }, { on := 6, ground := Ground.phase }, { on := 7, ground := Ground.phase }, { on := 8, ground := Ground.phase }, { on := 9, ground := Ground.phase }, { on := 10, ground := Ground.phase }], guard := none } ?_ (Kt.G.late (by kernel_rfl)) rfl (by kernel_rfl) (fun _ _ _ h => h) (by rfl) ?_ ?_
          rotate_left
          · intro wq; go_simp; try with_reducible rfl
          try simp only [Act.put, List.setIfInBounds_toArray, List.set_cons_zero, List.set_cons_succ]
          refine Kt.G.done (by kernel_rfl) (NoPanic.normal ?_) _
          clear cK fK
          go_wp2_with fail
          go_meet
          case rel => exact ⟨kK, rfl, rfl, rfl, Lib.hid ((hHeld.onB (Kt.below_setCells [.int .i64 st, .int .i64 ad, .int .i64 ha] kK 0 _ _ (Nat.le_refl _) (Below.refl _ _)) hkz hkr).add (Kt.fill [.int .i64 st, .int .i64 ad, .int .i64 ha] rK rfl))⟩
        · have hkz := hHeld.bel.size
          have hkr : ∀ r ∈ ([(x2.heap.size, #[.int .i64 d.usb, .int .i64 d.cls, .int .i64 d.sub, .int .i64 d.pro, .int .i64 d.m0, .int .i64 d.ven, .int .i64 d.prd, .int .i64 d.rel, .int .i64 d.mak, .int .i64 d.nam, .int .i64 d.ser, .int .i64 d.cfs], 46), (k_a, #[.int .i64 st, .int .i64 ad, .int .i64 ha], 55), ((w.heap.size + 1), #[.int .i64 st, .int .i64 ad, .int .i64 ha], 55), (w.heap.size, (shCs s (.slice FA s.cfg.fs.length fc) (.slice TA s.tx.length tc)), 53)] : List (Nat × Array Value × TypeId)), r.1 < xx.heap.size := fun r hr => hHeld.lt hr
          go_simp
          refine hK.out _ _ (fun _ => hHeld.alloc _) (fun hHeld => ?_)
          have hHeld := hHeld rfl
          clear hK K
          try simp only [Act.put, List.setIfInBounds_toArray, List.set_cons_zero, List.set_cons_succ]
          have rK := heap_alloc_new xx (.cells #[.int .i64 0, .int .i64 0, .int .i64 0] 55)
          generalize hkK : xx.heap.size = kK at *
          clear hkK
          generalize xx.alloc (.cells #[.int .i64 0, .int .i64 0, .int .i64 0] 55) = xx at *
          refine Kt.G.one 3 { dst := some 58, op := Op.call { callee := Callee.value (Operand.func 23), args := #[Operand.tmp 55, Operand.tmp 56, Operand.tmp 57], argTypes := #[53, 55, 9] }, type := 56, pos := "gadget.go:53", after := #[{ on := 0, ground := Ground.data }, { on := 1, ground := Ground.data }, { on := 2, ground := Ground.data }, { on := 2, ground := Ground.chain }], guard := none } rfl (by kernel_rfl) (by rfl) (fun K hK => ?_)
          go_simp
          refine (K2.out _ hHeld.bel).mono ?_; rintro en xx ⟨rfl, hb⟩
          refine hK.out _ _ (fun _ => hHeld.on hb) (fun hHeld => ?_)
          have hHeld := hHeld rfl
          clear hK K
          try simp only [Act.put, List.setIfInBounds_toArray, List.set_cons_zero, List.set_cons_succ]
          try (replace rK := Kt.row_on hb rK)
          clear hb
          refine Kt.G.takeP 4 { dst := some 54, op := Op.move (Operand.tmp 58), type := 56, pos := "gadget.go:53", after := #[{ on := 3, ground := Ground.data }], guard := none } ?_ (fun _ => hHeld) rfl (by kernel_rfl) (fun _ _ _ h => h) (by rfl) ?_ ?_
          rotate_left
          · intro wq; go_simp; try with_reducible rfl
          try simp only [Act.put, List.setIfInBounds_toArray, List.set_cons_zero, List.set_cons_succ]
          refine Kt.G.takeP 5 { dst := some 59, op := Op.extract (Operand.tmp 54) 0, type := 55, pos := "gadget.go:53", after := #[{ on := 4, ground := Ground.data }], guard := none } ?_ (fun _ => hHeld) rfl (by kernel_rfl) (fun _ _ _ h => h) (by rfl) ?_ ?_
          rotate_left
          · intro wq; go_simp; try with_reducible rfl
          try simp only [Act.put, List.setIfInBounds_toArray, List.set_cons_zero, List.set_cons_succ]
          refine Kt.G.takeP 6 { dst := some 60, op := Op.extract (Operand.tmp 54) 1, type := 9, pos := "gadget.go:53", after := #[{ on := 4, ground := Ground.data }, { on := 9, ground := Ground.gcOnly Departure.lateStores }], guard := none } ?_ (fun _ => hHeld) rfl (by kernel_rfl) (fun _ _ _ h => h) (by rfl) ?_ ?_
          rotate_left
          · intro wq; go_simp; try with_reducible rfl
          try simp only [Act.put, List.setIfInBounds_toArray, List.set_cons_zero, List.set_cons_succ]
          refine Kt.G.takeP 7 { dst := some 61, op := Op.extract (Operand.tmp 54) 2, type := 25, pos := "gadget.go:53", after := #[{ on := 4, ground := Ground.data }, { on := 10, ground := Ground.gcOnly Departure.lateStores }], guard := none } ?_ (fun _ => hHeld) rfl (by kernel_rfl) (fun _ _ _ h => h) (by rfl) ?_ ?_
          rotate_left
          · intro wq; go_simp; try with_reducible rfl
          try simp only [Act.put, List.setIfInBounds_toArray, List.set_cons_zero, List.set_cons_succ]
          refine Kt.G.one 9 { dst := none, op := Op.store 55 (Operand.tmp 11) (Operand.tmp 59), type := 0, pos := "gadget.go:53", after := #[{ on := 8, ground := Ground.data }, { on := 5, ground := Ground.data }, { on := 3, ground := Ground.chain }, { on := 0, ground := Ground.phase }, { on := 1, ground := Ground.phase }, { on := 2, ground := Ground.phase }, { on := 3, ground := Ground.phase }, { on := 4, ground := Ground.phase }, { on := 5, ground := Ground.phase }, { on := 6, ground := Ground.textOnly Departure.lateStores }, { on := 7, ground := Ground.textOnly Departure.lateStores }, { on := 8, ground := Ground.phase }], guard := none } rfl (by kernel_rfl) (by rfl) (fun K hK => ?_)
          have cK := fun i => cell_of_row _ _ i _ _ _ rK; have fK := fun i => frozen_of_row _ _ i _ _ rK
          go_simp
          refine hK.out _ _ (Kt.G.late (by kernel_rfl)) (fun _ => ?_)
          clear hK K
          try simp only [Act.put, List.setIfInBounds_toArray, List.set_cons_zero, List.set_cons_succ]
          refine Kt.G.takeP 10 { dst := some 12, op := Op.assign (Operand.tmp 60), type := 9, pos := "gadget.go:53", after := #[{ on := 6, ground := Ground.data }, { on := 9, ground := Ground.chain }, { on := 0, ground := Ground.phase }, { on := 1, ground := Ground.phase }, { on := 2, ground := Ground.phase }, { on := 3, ground := Ground.phase }, { on := 4, ground := Ground.phase }, { on := 5, ground := Ground.phase }, { on := 6, ground := Ground.phase }, { on := 7, ground := Ground.textOnly Departure.lateStores }, { on := 8, ground := Ground.phase }, { on := 9, ground := Ground.phase }], guard := none } ?_ (Kt.G.late (by kernel_rfl)) rfl (by kernel_rfl) (fun _ _ _ h => h) (by rfl) ?_ ?_
          rotate_left
          · intro wq; go_simp; try with_reducible rfl
          try simp only [Act.put, List.setIfInBounds_toArray, List.set_cons_zero, List.set_cons_succ]
          refine Kt.G.takeP 11 { dst := some 13, op := Op.assign (Operand.tmp 61), type := 25, pos := "gadget.go:53", after := #[{ on := 7, ground := Ground.data }, { on := 10, ground := Ground.chain }, { on := 0, ground := Ground.phase }, { on := 1, ground := Ground.phase }, { on := 2, ground := Ground.phase }, { on := 3, ground := Ground.phase }, { on := 4, ground := Ground.phase }, { on := 5, ground := Ground.phase }, { on := 6, ground := Ground.phase }, { on := 7, ground := Ground.phase }, { on := 8, ground := Ground.phase }, { on := 9, ground := Ground.phase }, { on := 10, ground := Ground.phase }], guard := none } ?_ (Kt.G.late (by kernel_rfl)) rfl (by kernel_rfl) (fun _ _ _ h => h) (by rfl) ?_ ?_
          rotate_left
          · intro wq; go_simp; try with_reducible rfl
          try simp only [Act.put, List.setIfInBounds_toArray, List.set_cons_zero, List.set_cons_succ]
          refine Kt.G.done (by kernel_rfl) (NoPanic.normal ?_) _
          clear cK fK
          go_wp2_with fail
          go_meet
          case rel => exact ⟨kK, rfl, rfl, rfl, Lib.hid ((hHeld.onB (Kt.below_setCells [.int .i64 st, .int .i64 ad, .int .i64 ha] kK 0 _ _ (Nat.le_refl _) (Below.refl _ _)) hkz hkr).add (Kt.fill [.int .i64 st, .int .i64 ad, .int .i64 ha] rK rfl))⟩
      · have hkz := hHeld.bel.size
        have hkr : ∀ r ∈ ([(x2.heap.size, #[.int .i64 d.usb, .int .i64 d.cls, .int .i64 d.sub, .int .i64 d.pro, .int .i64 d.m0, .int .i64 d.ven, .int .i64 d.prd, .int .i64 d.rel, .int .i64 d.mak, .int .i64 d.nam, .int .i64 d.ser, .int .i64 d.cfs], 46), (k_a, #[.int .i64 st, .int .i64 ad, .int .i64 ha], 55), ((w.heap.size + 1), #[.int .i64 st, .int .i64 ad, .int .i64 ha], 55), (w.heap.size, (shCs s (.slice FA s.cfg.fs.length fc) (.slice TA s.tx.length tc)), 53)] : List (Nat × Array Value × TypeId)), r.1 < xx.heap.size := fun r hr => hHeld.lt hr
        go_simp
        refine hK.out _ _ (fun _ => hHeld.alloc _) (fun hHeld => ?_)
        have hHeld := hHeld rfl
        clear hK K
        try simp only [Act.put, List.setIfInBounds_toArray, List.set_cons_zero, List.set_cons_succ]
        have rK := heap_alloc_new xx (.cells #[.int .i64 0, .int .i64 0, .int .i64 0] 55)
        generalize hkK : xx.heap.size = kK at *
        clear hkK
        generalize xx.alloc (.cells #[.int .i64 0, .int .i64 0, .int .i64 0] 55) = xx at *
        refine Kt.G.one 2 { dst := some 57, op := Op.call { callee := Callee.value (Operand.func 28), args := #[Operand.const (Value.int IntKind.i64 5), Operand.const (Value.int IntKind.i64 512), Operand.const (Value.int IntKind.i64 0), Operand.const (Value.int IntKind.i64 65535)], argTypes := #[3, 3, 3, 3] }, type := 9, pos := "gadget.go:53", after := #[], guard := none } rfl (by kernel_rfl) (by rfl) (fun K hK => ?_)
        go_simp
        refine (HA2.out _).mono ?_; rintro en xx ⟨rfl, hb⟩
        refine hK.out _ _ (fun _ => hHeld.on hb) (fun hHeld => ?_)
        have hHeld := hHeld rfl
        clear hK K
        try simp only [Act.put, List.setIfInBounds_toArray, List.set_cons_zero, List.set_cons_succ]
        try (replace rK := Kt.row_on hb rK)
        clear hb
        refine Kt.G.one 3 { dst := some 58, op := Op.call { callee := Callee.value (Operand.func 23), args := #[Operand.tmp 55, Operand.tmp 56, Operand.tmp 57], argTypes := #[53, 55, 9] }, type := 56, pos := "gadget.go:53", after := #[{ on := 0, ground := Ground.data }, { on := 1, ground := Ground.data }, { on := 2, ground := Ground.data }, { on := 2, ground := Ground.chain }], guard := none } rfl (by kernel_rfl) (by rfl) (fun K hK => ?_)
        go_simp
        refine (K2.out _ hHeld.bel).mono ?_; rintro en xx ⟨rfl, hb⟩
        refine hK.out _ _ (fun _ => hHeld.on hb) (fun hHeld => ?_)
        have hHeld := hHeld rfl
        clear hK K
        try simp only [Act.put, List.setIfInBounds_toArray, List.set_cons_zero, List.set_cons_succ]
        try (replace rK := Kt.row_on hb rK)
        clear hb
        refine Kt.G.takeP 4 { dst := some 54, op := Op.move (Operand.tmp 58), type := 56, pos := "gadget.go:53", after := #[{ on := 3, ground := Ground.data }], guard := none } ?_ (fun _ => hHeld) rfl (by kernel_rfl) (fun _ _ _ h => h) (by rfl) ?_ ?_
        rotate_left
        · intro wq; go_simp; try with_reducible rfl
        try simp only [Act.put, List.setIfInBounds_toArray, List.set_cons_zero, List.set_cons_succ]
        refine Kt.G.takeP 5 { dst := some 59, op := Op.extract (Operand.tmp 54) 0, type := 55, pos := "gadget.go:53", after := #[{ on := 4, ground := Ground.data }], guard := none } ?_ (fun _ => hHeld) rfl (by kernel_rfl) (fun _ _ _ h => h) (by rfl) ?_ ?_
        rotate_left
        · intro wq; go_simp; try with_reducible rfl
        try simp only [Act.put, List.setIfInBounds_toArray, List.set_cons_zero, List.set_cons_succ]
        refine Kt.G.takeP 6 { dst := some 60, op := Op.extract (Operand.tmp 54) 1, type := 9, pos := "gadget.go:53", after := #[{ on := 4, ground := Ground.data }, { on := 9, ground := Ground.gcOnly Departure.lateStores }], guard := none } ?_ (fun _ => hHeld) rfl (by kernel_rfl) (fun _ _ _ h => h) (by rfl) ?_ ?_
        rotate_left
        · intro wq; go_simp; try with_reducible rfl
        try simp only [Act.put, List.setIfInBounds_toArray, List.set_cons_zero, List.set_cons_succ]
        refine Kt.G.takeP 7 { dst := some 61, op := Op.extract (Operand.tmp 54) 2, type := 25, pos := "gadget.go:53", after := #[{ on := 4, ground := Ground.data }, { on := 10, ground := Ground.gcOnly Departure.lateStores }], guard := none } ?_ (fun _ => hHeld) rfl (by kernel_rfl) (fun _ _ _ h => h) (by rfl) ?_ ?_
        rotate_left
        · intro wq; go_simp; try with_reducible rfl
        try simp only [Act.put, List.setIfInBounds_toArray, List.set_cons_zero, List.set_cons_succ]
        refine Kt.G.one 9 { dst := none, op := Op.store 55 (Operand.tmp 11) (Operand.tmp 59), type := 0, pos := "gadget.go:53", after := #[{ on := 8, ground := Ground.data }, { on := 5, ground := Ground.data }, { on := 3, ground := Ground.chain }, { on := 0, ground := Ground.phase }, { on := 1, ground := Ground.phase }, { on := 2, ground := Ground.phase }, { on := 3, ground := Ground.phase }, { on := 4, ground := Ground.phase }, { on := 5, ground := Ground.phase }, { on := 6, ground := Ground.textOnly Departure.lateStores }, { on := 7, ground := Ground.textOnly Departure.lateStores }, { on := 8, ground := Ground.phase }], guard := none } rfl (by kernel_rfl) (by rfl) (fun K hK => ?_)
        have cK := fun i => cell_of_row _ _ i _ _ _ rK; have fK := fun i => frozen_of_row _ _ i _ _ rK
        go_simp
        refine hK.out _ _ (Kt.G.late (by kernel_rfl)) (fun _ => ?_)
        clear hK K
        try simp only [Act.put, List.setIfInBounds_toArray, List.set_cons_zero, List.set_cons_succ]
        refine Kt.G.takeP 10 { dst := some 12, op := Op.assign (Operand.tmp 60), type := 9, pos := "gadget.go:53", after := #[{ on := 6, ground := Ground.data }, { on := 9, ground := Ground.chain }, { on := 0, ground := Ground.phase }, { on := 1, ground := Ground.phase }, { on := 2, ground := Ground.phase }, { on := 3, ground := Ground.phase }, { on := 4, ground := Ground.phase }, { on := 5, ground := Ground.phase }, { on := 6, ground := Ground.phase }, { on := 7, ground := Ground.textOnly Departure.lateStores }, { on := 8, ground := Ground.phase }, { on := 9, ground := Ground.phase }], guard := none } ?_ (Kt.G.late (by kernel_rfl)) rfl (by kernel_rfl) (fun _ _ _ h => h) (by rfl) ?_ ?_
        rotate_left
        · intro wq; go_simp; try with_reducible rfl
        try simp only [Act.put, List.setIfInBounds_toArray, List.set_cons_zero, List.set_cons_succ]
        refine Kt.G.takeP 11 { dst := some 13, op := Op.assign (Operand.tmp 61), type := 25, pos := "gadget.go:53", after := #[{ on := 7, ground := Ground.data }, { on := 10, ground := Ground.chain }, { on := 0, ground := Ground.phase }, { on := 1, ground := Ground.phase }, { on := 2, ground := Ground.phase }, { on := 3, ground := Ground.phase }, { on := 4, ground := Ground.phase }, { on := 5, ground := Ground.phase }, { on := 6, ground := Ground.phase }, { on := 7, ground := Ground.phase }, { on := 8, ground := Ground.phase }, { on := 9, ground := Ground.phase }, { on := 10, ground := Ground.phase }], guard := none } ?_ (Kt.G.late (by kernel_rfl)) rfl (by kernel_rfl) (fun _ _ _ h => h) (by rfl) ?_ ?_
        rotate_left
        · intro wq; go_simp; try with_reducible rfl
        try simp only [Act.put, List.setIfInBounds_toArray, List.set_cons_zero, List.set_cons_succ]
        refine Kt.G.done (by kernel_rfl) (NoPanic.normal ?_) _
        clear cK fK
        go_wp2_with fail
        go_meet
        case rel => exact ⟨kK, rfl, rfl, rfl, Lib.hid ((hHeld.onB (Kt.below_setCells [.int .i64 st, .int .i64 ad, .int .i64 ha] kK 0 _ _ (Nat.le_refl _) (Below.refl _ _)) hkz hkr).add (Kt.fill [.int .i64 st, .int .i64 ad, .int .i64 ha] rK rfl))⟩
    case rest =>
      obtain ⟨k_b, rfl, rfl, rfl, HF5⟩ := hcut
      clear HF4
      go_wp2_with fail
      refine (HRC.out _).mono ?_
      rintro e x3 ⟨⟨V, fl, rfl, hfl, hfo⟩, hb⟩
      have HF6 := Lib.hid (HF5.out.on hb)
      clear hb HF5
      rw [HCB.out] at hfl ⊢
      dsimp only at hfl ⊢
      obtain ⟨VA, vc, rfl, _, _⟩ := hfo.sl.form
      have hcrd := hfo.crd s.cfg.va s.cfg.nm s.cfg.at_ s.cfg.pw
      rw [hfl] at hcrd
      have HCR : Hid (CRd x3 (.agg #[.int .i64 s.cfg.va, .int .i64 s.cfg.nm, .int .i64 s.cfg.at_, .int .i64 s.cfg.pw, .slice VA fl.length vc]) s.cfg) := Lib.hid hcrd
      clear hcrd hfo hfl
      have HF7 := Lib.hid ((HF6.out.alloc (.cells #[.int .i64 s.cfg.va, .int .i64 s.cfg.nm, .int .i64 s.cfg.at_, .int .i64 s.cfg.pw, .slice VA fl.length vc] 24)).add (heap_alloc_new x3 (.cells #[.int .i64 s.cfg.va, .int .i64 s.cfg.nm, .int .i64 s.cfg.at_, .int .i64 s.cfg.pw, .slice VA fl.length vc] 24)))
      clear HF6
      go_upto_region 7 with (fail)
      have HCR2 := Lib.hid (HCR.out.on (Kt.balloc (Below.refl _ x3) (.cells #[.int .i64 s.cfg.va, .int .i64 s.cfg.nm, .int .i64 s.cfg.at_, .int .i64 s.cfg.pw, .slice VA fl.length vc] 24)))
      clear HCR
      generalize x3.alloc (.cells #[.int .i64 s.cfg.va, .int .i64 s.cfg.nm, .int .i64 s.cfg.at_, .int .i64 s.cfg.pw, .slice VA fl.length vc] 24) = w2 at *
      have q_s := fun i => cell_of_row _ _ i _ _ _ (HF7.out.row _ (List.Mem.tail _ (List.Mem.tail _ (List.Mem.tail _ (List.Mem.tail _ (List.Mem.tail _ (List.Mem.head _)))))))
      have q_dv := fun i => cell_of_row _ _ i _ _ _ (HF7.out.row _ (List.Mem.tail _ (List.Mem.tail _ (List.Mem.head _))))
      have q_cf := fun i => cell_of_row _ _ i _ _ _ (HF7.out.row _ (List.Mem.head _))
      unfold shCs at q_s
      rw [HDV.out] at q_s
      go_wp2_with fail
      clear q_s q_dv q_cf
      refine (same_calls s.cfg _ _ w2 HCR2.out (HSC.out.on HF7.out.bel) (Nat.le_trans HOK.out.2.1 (by decide)) (fun f hf => ⟨Nat.le_trans (HOK.out.2.2 f hf).nx (by decide), Nat.le_trans (HOK.out.2.2 f hf).ne (by decide)⟩)).mono ?_
      rintro e x4 ⟨rfl, hb⟩
      have HF8 := Lib.hid (HF7.out.on hb)
      clear hb HCR2 HF7
      have q_s := fun i => cell_of_row _ _ i _ _ _ (HF8.out.row _ (List.Mem.tail _ (List.Mem.tail _ (List.Mem.tail _ (List.Mem.tail _ (List.Mem.tail _ (List.Mem.head _)))))))
      unfold shCs at q_s
      by_cases h1 : 1 ≤ i
      case neg =>
        have h2 : i < 1 := Int.not_le.1 h1
        clear h1
        go_wp2_with fail
        go_ret
        exact ⟨rfl, HF8.out.bel⟩
      by_cases h2 : i ≤ (s.tx.length : Int)
      case neg =>
        have h3 : (s.tx.length : Int) < i := Int.not_le.1 h2
        clear h2
        go_wp2_with fail
        go_ret
        exact ⟨rfl, HF8.out.bel⟩
      go_upto_region 11 with (fail)
      obtain ⟨t, htm, hti, hde, hwl⟩ := HTX.out h1 h2
      obtain ⟨S3, a3, r3⟩ := asked_ok (ask5 (v := 768 + i) (by have := HL8.out; omega)) (by decide)
      have HA3 := Lib.hid a3
      have K3 := Lib.hid (HCT.out S3 _ _ r3 hde (by rw [wtL_len]; omega))
      have HWO : Hid (okTxt (bs' (wtxt (wide t))) (cnt (runes t))) := Lib.hid (wtL_ok (runes t) hwl)
      have HWR : Hid (runesOfTxt (bs' (wtxt (wide t))) = runes t) := Lib.hid (wtL_runes _ (runes_scalar _))
      have HZS : Hid ((bs' (wtxt (wide t))).size ≤ 140737488355328) := Lib.hid (by rw [bs_size, wtL_len]; omega)
      have HOF := Lib.hid (fun W => of_calls (bs' t) (by rw [bs_size]; exact HBT.out t htm) W)
      rw [bs_list] at HOF
      have hcl := tx_cell HTA.out h1 h2 hti
      obtain ⟨tb, tq, rfl, htb, hcell⟩ := hcl
      have HCE := Lib.hid (And.intro htb hcell)
      have hw1 : wrap64 (768 + i) = 768 + i := by have := HL8.out; unfold wrap64; omega
      have hw1b : IntKind.i64.wrap (768 + i) = 768 + i := IntWalk.i64_in _ (by have := HL8.out; omega)
      obtain ⟨XT, hXT⟩ : ∃ X, bs' (wtxt (wide t)) = X := ⟨_, rfl⟩
      rw [hXT] at K3 HWO HWR HZS
      have hi8 : i ≤ 8 := by have := HL8.out; omega
      clear a3 r3 htm hti hde hwl htb hcell HTX HCT HTA HSC HBT HOK HL8 hXT q_s
      unfold CtT at K3
      unfold gdV at K3
      unfold askS at HA3
      dsimp only at K3
      go_cut [16, 17, 9] from 99 to 108 (fun p x y wx3 => ∃ kZ, p = .pointer (some ⟨kZ, 0, none⟩) ∧ x = .string XT ∧ y = .int .i64 0 ∧ Hid (Kt.Fb w ((kZ, #[.int .i64 st, .int .i64 ad, .int .i64 ha], 55) :: [(x3.heap.size, #[.int .i64 s.cfg.va, .int .i64 s.cfg.nm, .int .i64 s.cfg.at_, .int .i64 s.cfg.pw, .slice VA fl.length vc], 24), (k_b, #[.int .i64 st, .int .i64 ad, .int .i64 ha], 55), (x2.heap.size, #[.int .i64 d.usb, .int .i64 d.cls, .int .i64 d.sub, .int .i64 d.pro, .int .i64 d.m0, .int .i64 d.ven, .int .i64 d.prd, .int .i64 d.rel, .int .i64 d.mak, .int .i64 d.nam, .int .i64 d.ser, .int .i64 d.cfs], 46), (k_a, #[.int .i64 st, .int .i64 ad, .int .i64 ha], 55), ((w.heap.size + 1), #[.int .i64 st, .int .i64 ad, .int .i64 ha], 55), (w.heap.size, (shCs s (.slice FA s.cfg.fs.length fc) (.slice (some ⟨tb, tq, none⟩) s.tx.length tc)), 53)]) wx3))
      case first =>
        refine Kt.G.start 11 (Kt.Fb w [(x3.heap.size, #[.int .i64 s.cfg.va, .int .i64 s.cfg.nm, .int .i64 s.cfg.at_, .int .i64 s.cfg.pw, .slice VA fl.length vc], 24), (k_b, #[.int .i64 st, .int .i64 ad, .int .i64 ha], 55), (x2.heap.size, #[.int .i64 d.usb, .int .i64 d.cls, .int .i64 d.sub, .int .i64 d.pro, .int .i64 d.m0, .int .i64 d.ven, .int .i64 d.prd, .int .i64 d.rel, .int .i64 d.mak, .int .i64 d.nam, .int .i64 d.ser, .int .i64 d.cfs], 46), (k_a, #[.int .i64 st, .int .i64 ad, .int .i64 ha], 55), ((w.heap.size + 1), #[.int .i64 st, .int .i64 ad, .int .i64 ha], 55), (w.heap.size, (shCs s (.slice FA s.cfg.fs.length fc) (.slice (some ⟨tb, tq, none⟩) s.tx.length tc)), 53)]) (by kernel_rfl) HF8.out.drew (fun hHeld => ?_)
        generalize x4.drew = xx at *
        refine Kt.G.load_row 0 { dst := some 100, op := Op.load 53 (Operand.tmp 3), type := 53, pos := "gadget.go:61", after := #[], guard := none } 53 (Operand.tmp 3) w.heap.size 53 (shCs s (.slice FA s.cfg.fs.length fc) (.slice (some ⟨tb, tq, none⟩) s.tx.length tc)) _ hHeld rfl (by kernel_rfl) (fun _ _ _ h => h) (by rfl) rfl rfl (fun _ h => h.row _ (List.Mem.tail _ (List.Mem.tail _ (List.Mem.tail _ (List.Mem.tail _ (List.Mem.tail _ (List.Mem.head _))))))) Try.underlying53 rfl (by kernel_rfl) ?_
        try simp only [Act.put, List.setIfInBounds_toArray, List.set_cons_zero, List.set_cons_succ]
        refine Kt.G.load_row 1 { dst := some 101, op := Op.load 55 (Operand.tmp 4), type := 55, pos := "gadget.go:61", after := #[], guard := none } 55 (Operand.tmp 4) (w.heap.size + 1) 55 #[.int .i64 st, .int .i64 ad, .int .i64 ha] _ hHeld rfl (by kernel_rfl) (fun _ _ _ h => h) (by rfl) rfl rfl (fun _ h => h.row _ (List.Mem.tail _ (List.Mem.tail _ (List.Mem.tail _ (List.Mem.tail _ (List.Mem.head _)))))) Try.underlying55 rfl (by kernel_rfl) ?_
        try simp only [Act.put, List.setIfInBounds_toArray, List.set_cons_zero, List.set_cons_succ]
        refine Kt.G.takeP 2 { dst := some 102, op := Op.move (Operand.tmp 2), type := 3, pos := "gadget.go:61", after := #[], guard := none } ?_ (fun _ => hHeld) rfl (by kernel_rfl) (fun _ _ _ h => h) (by rfl) ?_ ?_
        rotate_left
        · intro wq; go_simp; try with_reducible rfl
        try simp only [Act.put, List.setIfInBounds_toArray, List.set_cons_zero, List.set_cons_succ]
        refine Kt.G.takeP 3 { dst := some 103, op := Op.binOp BinOp.add 3 (Operand.const (Value.int IntKind.i64 768)) (Operand.tmp 102) 3, type := 3, pos := "gadget.go:61", after := #[{ on := 2, ground := Ground.data }], guard := none } ?_ (fun _ => hHeld) rfl (by kernel_rfl) (fun _ _ _ h => h) (by rfl) ?_ ?_
        rotate_left
        · intro wq; go_simp; try with_reducible rfl
        try simp only [Act.put, List.setIfInBounds_toArray, List.set_cons_zero, List.set_cons_succ]
        refine Kt.G.two 4 10 { dst := some 104, op := Op.call { callee := Callee.value (Operand.func 28), args := #[Operand.const (Value.int IntKind.i64 5), Operand.tmp 103, Operand.const (Value.int IntKind.i64 0), Operand.const (Value.int IntKind.i64 65535)], argTypes := #[3, 3, 3, 3] }, type := 9, pos := "gadget.go:61", after := #[{ on := 3, ground := Ground.data }], guard := none } { dst := some 16, op := Op.alloc 55, type := 0, pos := "gadget.go:61", after := #[], guard := none } rfl rfl (by kernel_rfl) (by rfl) (by rfl) (fun K hK => ?_) (fun K hK => ?_)
        · go_simp
          refine (HA3.out _).mono ?_; rintro en xx ⟨rfl, hb⟩
          refine hK.out _ _ (fun _ => hHeld.on hb) (fun hHeld => ?_)
          have hHeld := hHeld rfl
          clear hK K
          try simp only [Act.put, List.setIfInBounds_toArray, List.set_cons_zero, List.set_cons_succ]
          try (replace rK := Kt.row_on hb rK)
          clear hb
          refine Kt.G.two 5 10 { dst := some 105, op := Op.call { callee := Callee.value (Operand.func 23), args := #[Operand.tmp 100, Operand.tmp 101, Operand.tmp 104], argTypes := #[53, 55, 9] }, type := 56, pos := "gadget.go:61", after := #[{ on := 0, ground := Ground.data }, { on := 1, ground := Ground.data }, { on := 4, ground := Ground.data }, { on := 4, ground := Ground.chain }], guard := none } { dst := some 16, op := Op.alloc 55, type := 0, pos := "gadget.go:61", after := #[], guard := none } rfl rfl (by kernel_rfl) (by rfl) (by rfl) (fun K hK => ?_) (fun K hK => ?_)
          · go_simp
            refine (K3.out _ hHeld.bel).mono ?_; rintro en xx ⟨rfl, hb⟩
            refine hK.out _ _ (fun _ => hHeld.on hb) (fun hHeld => ?_)
            have hHeld := hHeld rfl
            clear hK K
            try simp only [Act.put, List.setIfInBounds_toArray, List.set_cons_zero, List.set_cons_succ]
            try (replace rK := Kt.row_on hb rK)
            clear hb
            refine Kt.G.takeP 6 { dst := some 99, op := Op.move (Operand.tmp 105), type := 56, pos := "gadget.go:61", after := #[{ on := 5, ground := Ground.data }], guard := none } ?_ (fun _ => hHeld) rfl (by kernel_rfl) (fun _ _ _ h => h) (by rfl) ?_ ?_
            rotate_left
            · intro wq; go_simp; try with_reducible rfl
            try simp only [Act.put, List.setIfInBounds_toArray, List.set_cons_zero, List.set_cons_succ]
            refine Kt.G.takeP 7 { dst := some 106, op := Op.extract (Operand.tmp 99) 0, type := 55, pos := "gadget.go:61", after := #[{ on := 6, ground := Ground.data }], guard := none } ?_ (fun _ => hHeld) rfl (by kernel_rfl) (fun _ _ _ h => h) (by rfl) ?_ ?_
            rotate_left
            · intro wq; go_simp; try with_reducible rfl
            try simp only [Act.put, List.setIfInBounds_toArray, List.set_cons_zero, List.set_cons_succ]
            refine Kt.G.takeP 8 { dst := some 107, op := Op.extract (Operand.tmp 99) 1, type := 9, pos := "gadget.go:61", after := #[{ on := 6, ground := Ground.data }, { on := 11, ground := Ground.gcOnly Departure.lateStores }], guard := none } ?_ (fun _ => hHeld) rfl (by kernel_rfl) (fun _ _ _ h => h) (by rfl) ?_ ?_
            rotate_left
            · intro wq; go_simp; try with_reducible rfl
            try simp only [Act.put, List.setIfInBounds_toArray, List.set_cons_zero, List.set_cons_succ]
            refine Kt.G.takeP 9 { dst := some 108, op := Op.extract (Operand.tmp 99) 2, type := 25, pos := "gadget.go:61", after := #[{ on := 6, ground := Ground.data }, { on := 12, ground := Ground.gcOnly Departure.lateStores }], guard := none } ?_ (fun _ => hHeld) rfl (by kernel_rfl) (fun _ _ _ h => h) (by rfl) ?_ ?_
            rotate_left
            · intro wq; go_simp; try with_reducible rfl
            try simp only [Act.put, List.setIfInBounds_toArray, List.set_cons_zero, List.set_cons_succ]
            refine Kt.G.one 10 { dst := some 16, op := Op.alloc 55, type := 0, pos := "gadget.go:61", after := #[], guard := none } rfl (by kernel_rfl) (by rfl) (fun K hK => ?_)
            have hkz := hHeld.bel.size
            have hkr : ∀ r ∈ ([(x3.heap.size, #[.int .i64 s.cfg.va, .int .i64 s.cfg.nm, .int .i64 s.cfg.at_, .int .i64 s.cfg.pw, .slice VA fl.length vc], 24), (k_b, #[.int .i64 st, .int .i64 ad, .int .i64 ha], 55), (x2.heap.size, #[.int .i64 d.usb, .int .i64 d.cls, .int .i64 d.sub, .int .i64 d.pro, .int .i64 d.m0, .int .i64 d.ven, .int .i64 d.prd, .int .i64 d.rel, .int .i64 d.mak, .int .i64 d.nam, .int .i64 d.ser, .int .i64 d.cfs], 46), (k_a, #[.int .i64 st, .int .i64 ad, .int .i64 ha], 55), ((w.heap.size + 1), #[.int .i64 st, .int .i64 ad, .int .i64 ha], 55), (w.heap.size, (shCs s (.slice FA s.cfg.fs.length fc) (.slice (some ⟨tb, tq, none⟩) s.tx.length tc)), 53)] : List (Nat × Array Value × TypeId)), r.1 < xx.heap.size := fun r hr => hHeld.lt hr
            go_simp
            refine hK.out _ _ (fun _ => hHeld.alloc _) (fun hHeld => ?_)
            have hHeld := hHeld rfl
            clear hK K
            try simp only [Act.put, List.setIfInBounds_toArray, List.set_cons_zero, List.set_cons_succ]
            have rK := heap_alloc_new xx (.cells #[.int .i64 0, .int .i64 0, .int .i64 0] 55)
            generalize hkK : xx.heap.size = kK at *
            clear hkK
            generalize xx.alloc (.cells #[.int .i64 0, .int .i64 0, .int .i64 0] 55) = xx at *
            refine Kt.G.one 11 { dst := none, op := Op.store 55 (Operand.tmp 16) (Operand.tmp 106), type := 0, pos := "gadget.go:61", after := #[{ on := 10, ground := Ground.data }, { on := 7, ground := Ground.data }, { on := 5, ground := Ground.chain }, { on := 0, ground := Ground.phase }, { on := 1, ground := Ground.phase }, { on := 2, ground := Ground.phase }, { on := 3, ground := Ground.phase }, { on := 4, ground := Ground.phase }, { on := 5, ground := Ground.phase }, { on := 6, ground := Ground.phase }, { on := 7, ground := Ground.phase }, { on := 8, ground := Ground.textOnly Departure.lateStores }, { on := 9, ground := Ground.textOnly Departure.lateStores }, { on := 10, ground := Ground.phase }], guard := none } rfl (by kernel_rfl) (by rfl) (fun K hK => ?_)
            have cK := fun i => cell_of_row _ _ i _ _ _ rK; have fK := fun i => frozen_of_row _ _ i _ _ rK
            go_simp
            refine hK.out _ _ (Kt.G.late (by kernel_rfl)) (fun _ => ?_)
            clear hK K
            try simp only [Act.put, List.setIfInBounds_toArray, List.set_cons_zero, List.set_cons_succ]
            refine Kt.G.takeP 12 { dst := some 17, op := Op.assign (Operand.tmp 107), type := 9, pos := "gadget.go:61", after := #[{ on := 8, ground := Ground.data }, { on := 11, ground := Ground.chain }, { on := 0, ground := Ground.phase }, { on := 1, ground := Ground.phase }, { on := 2, ground := Ground.phase }, { on := 3, ground := Ground.phase }, { on := 4, ground := Ground.phase }, { on := 5, ground := Ground.phase }, { on := 6, ground := Ground.phase }, { on := 7, ground := Ground.phase }, { on := 8, ground := Ground.phase }, { on := 9, ground := Ground.textOnly Departure.lateStores }, { on := 10, ground := Ground.phase }, { on := 11, ground := Ground.phase }], guard := none } ?_ (Kt.G.late (by kernel_rfl)) rfl (by kernel_rfl) (fun _ _ _ h => h) (by rfl) ?_ ?_
            rotate_left
            · intro wq; go_simp; try with_reducible rfl
            try simp only [Act.put, List.setIfInBounds_toArray, List.set_cons_zero, List.set_cons_succ]
            refine Kt.G.takeP 13 { dst := some 9, op := Op.assign (Operand.tmp 108), type := 25, pos := "gadget.go:61", after := #[{ on := 9, ground := Ground.data }, { on := 12, ground := Ground.chain }, { on := 0, ground := Ground.phase }, { on := 1, ground := Ground.phase }, { on := 2, ground := Ground.phase }, { on := 3, ground := Ground.phase }, { on := 4, ground := Ground.phase }, { on := 5, ground := Ground.phase }, { on := 6, ground := Ground.phase }, { on := 7, ground := Ground.phase }, { on := 8, ground := Ground.phase }, { on := 9, ground := Ground.phase }, { on := 10, ground := Ground.phase }, { on := 11, ground := Ground.phase }, { on := 12, ground := Ground.phase }], guard := none } ?_ (Kt.G.late (by kernel_rfl)) rfl (by kernel_rfl) (fun _ _ _ h => h) (by rfl) ?_ ?_
            rotate_left
            · intro wq; go_simp; try with_reducible rfl
            try simp only [Act.put, List.setIfInBounds_toArray, List.set_cons_zero, List.set_cons_succ]
            refine Kt.G.done (by kernel_rfl) (NoPanic.normal ?_) _
            clear cK fK
            go_wp2_with fail
            go_meet
            case rel => exact ⟨kK, rfl, rfl, rfl, Lib.hid ((hHeld.onB (Kt.below_setCells [.int .i64 st, .int .i64 ad, .int .i64 ha] kK 0 _ _ (Nat.le_refl _) (Below.refl _ _)) hkz hkr).add (Kt.fill [.int .i64 st, .int .i64 ad, .int .i64 ha] rK rfl))⟩
          · have hkz := hHeld.bel.size
            have hkr : ∀ r ∈ ([(x3.heap.size, #[.int .i64 s.cfg.va, .int .i64 s.cfg.nm, .int .i64 s.cfg.at_, .int .i64 s.cfg.pw, .slice VA fl.length vc], 24), (k_b, #[.int .i64 st, .int .i64 ad, .int .i64 ha], 55), (x2.heap.size, #[.int .i64 d.usb, .int .i64 d.cls, .int .i64 d.sub, .int .i64 d.pro, .int .i64 d.m0, .int .i64 d.ven, .int .i64 d.prd, .int .i64 d.rel, .int .i64 d.mak, .int .i64 d.nam, .int .i64 d.ser, .int .i64 d.cfs], 46), (k_a, #[.int .i64 st, .int .i64 ad, .int .i64 ha], 55), ((w.heap.size + 1), #[.int .i64 st, .int .i64 ad, .int .i64 ha], 55), (w.heap.size, (shCs s (.slice FA s.cfg.fs.length fc) (.slice (some ⟨tb, tq, none⟩) s.tx.length tc)), 53)] : List (Nat × Array Value × TypeId)), r.1 < xx.heap.size := fun r hr => hHeld.lt hr
            go_simp
            refine hK.out _ _ (fun _ => hHeld.alloc _) (fun hHeld => ?_)
            have hHeld := hHeld rfl
            clear hK K
            try simp only [Act.put, List.setIfInBounds_toArray, List.set_cons_zero, List.set_cons_succ]
            have rK := heap_alloc_new xx (.cells #[.int .i64 0, .int .i64 0, .int .i64 0] 55)
            generalize hkK : xx.heap.size = kK at *
            clear hkK
            generalize xx.alloc (.cells #[.int .i64 0, .int .i64 0, .int .i64 0] 55) = xx at *
            refine Kt.G.one 5 { dst := some 105, op := Op.call { callee := Callee.value (Operand.func 23), args := #[Operand.tmp 100, Operand.tmp 101, Operand.tmp 104], argTypes := #[53, 55, 9] }, type := 56, pos := "gadget.go:61", after := #[{ on := 0, ground := Ground.data }, { on := 1, ground := Ground.data }, { on := 4, ground := Ground.data }, { on := 4, ground := Ground.chain }], guard := none } rfl (by kernel_rfl) (by rfl) (fun K hK => ?_)
            go_simp
            refine (K3.out _ hHeld.bel).mono ?_; rintro en xx ⟨rfl, hb⟩
            refine hK.out _ _ (fun _ => hHeld.on hb) (fun hHeld => ?_)
            have hHeld := hHeld rfl
            clear hK K
            try simp only [Act.put, List.setIfInBounds_toArray, List.set_cons_zero, List.set_cons_succ]
            try (replace rK := Kt.row_on hb rK)
            clear hb
            refine Kt.G.takeP 6 { dst := some 99, op := Op.move (Operand.tmp 105), type := 56, pos := "gadget.go:61", after := #[{ on := 5, ground := Ground.data }], guard := none } ?_ (fun _ => hHeld) rfl (by kernel_rfl) (fun _ _ _ h => h) (by rfl) ?_ ?_
            rotate_left
            · intro wq; go_simp; try with_reducible rfl
            try simp only [Act.put, List.setIfInBounds_toArray, List.set_cons_zero, List.set_cons_succ]
            refine Kt.G.takeP 7 { dst := some 106, op := Op.extract (Operand.tmp 99) 0, type := 55, pos := "gadget.go:61", after := #[{ on := 6, ground := Ground.data }], guard := none } ?_ (fun _ => hHeld) rfl (by kernel_rfl) (fun _ _ _ h => h) (by rfl) ?_ ?_
            rotate_left
            · intro wq; go_simp; try with_reducible rfl
            try simp only [Act.put, List.setIfInBounds_toArray, List.set_cons_zero, List.set_cons_succ]
            refine Kt.G.takeP 8 { dst := some 107, op := Op.extract (Operand.tmp 99) 1, type := 9, pos := "gadget.go:61", after := #[{ on := 6, ground := Ground.data }, { on := 11, ground := Ground.gcOnly Departure.lateStores }], guard := none } ?_ (fun _ => hHeld) rfl (by kernel_rfl) (fun _ _ _ h => h) (by rfl) ?_ ?_
            rotate_left
            · intro wq; go_simp; try with_reducible rfl
            try simp only [Act.put, List.setIfInBounds_toArray, List.set_cons_zero, List.set_cons_succ]
            refine Kt.G.takeP 9 { dst := some 108, op := Op.extract (Operand.tmp 99) 2, type := 25, pos := "gadget.go:61", after := #[{ on := 6, ground := Ground.data }, { on := 12, ground := Ground.gcOnly Departure.lateStores }], guard := none } ?_ (fun _ => hHeld) rfl (by kernel_rfl) (fun _ _ _ h => h) (by rfl) ?_ ?_
            rotate_left
            · intro wq; go_simp; try with_reducible rfl
            try simp only [Act.put, List.setIfInBounds_toArray, List.set_cons_zero, List.set_cons_succ]
            refine Kt.G.one 11 { dst := none, op := Op.store 55 (Operand.tmp 16) (Operand.tmp 106), type := 0, pos := "gadget.go:61", after := #[{ on := 10, ground := Ground.data }, { on := 7, ground := Ground.data }, { on := 5, ground := Ground.chain }, { on := 0, ground := Ground.phase }, { on := 1, ground := Ground.phase }, { on := 2, ground := Ground.phase }, { on := 3, ground := Ground.phase }, { on := 4, ground := Ground.phase }, { on := 5, ground := Ground.phase }, { on := 6, ground := Ground.phase }, { on := 7, ground := Ground.phase }, { on := 8, ground := Ground.textOnly Departure.lateStores }, { on := 9, ground := Ground.textOnly Departure.lateStores }, { on := 10, ground := Ground.phase }], guard := none } rfl (by kernel_rfl) (by rfl) (fun K hK => ?_)
            have cK := fun i => cell_of_row _ _ i _ _ _ rK; have fK := fun i => frozen_of_row _ _ i _ _ rK
            go_simp
            refine hK.out _ _ (Kt.G.late (by kernel_rfl)) (fun _ => ?_)
            clear hK K
            try simp only [Act.put, List.setIfInBounds_toArray, List.set_cons_zero, List.set_cons_succ]
            refine Kt.G.takeP 12 { dst := some 17, op := Op.assign (Operand.tmp 107), type := 9, pos := "gadget.go:61", after := #[{ on := 8, ground := Ground.data }, { on := 11, ground := Ground.chain }, { on := 0, ground := Ground.phase }, { on := 1, ground := Ground.phase }, { on := 2, ground := Ground.phase }, { on := 3, ground := Ground.phase }, { on := 4, ground := Ground.phase }, { on := 5, ground := Ground.phase }, { on := 6, ground := Ground.phase }, { on := 7, ground := Ground.phase }, { on := 8, ground := Ground.phase }, { on := 9, ground := Ground.textOnly Departure.lateStores }, { on := 10, ground := Ground.phase }, { on := 11, ground := Ground.phase }], guard := none } ?_ (Kt.G.late (by kernel_rfl)) rfl (by kernel_rfl) (fun _ _ _ h => h) (by rfl) ?_ ?_
            rotate_left
            · intro wq; go_simp; try with_reducible rfl
            try simp only [Act.put, List.setIfInBounds_toArray, List.set_cons_zero, List.set_cons_succ]
            refine Kt.G.takeP 13 { dst := some 9, op := Op.assign (Operand.tmp 108), type := 25, pos := "gadget.go:61", after := #[{ on := 9, ground := Ground.data }, { on := 12, ground := Ground.chain }, { on := 0, ground := Ground.phase }, { on := 1, ground := Ground.phase }, { on := 2, ground := Ground.phase }, { on := 3, ground := Ground.phase }, { on := 4, ground := Ground.phase }, { on := 5, ground := Ground.phase }, { on := 6, ground := Ground.phase }, { on := 7, ground := Ground.phase }, { on := 8, ground := Ground.phase }, { on := 9, ground := Ground.phase }, { on := 10, ground := Ground.phase }, { on := 11, ground := Ground.phase }, { on := 12, ground := Ground.phase }], guard := none } ?_ (Kt.G.late (by kernel_rfl)) rfl (by kernel_rfl) (fun _ _ _ h => h) (by rfl) ?_ ?_
            rotate_left
            · intro wq; go_simp; try with_reducible rfl
            try simp only [Act.put, List.setIfInBounds_toArray, List.set_cons_zero, List.set_cons_succ]
            refine Kt.G.done (by kernel_rfl) (NoPanic.normal ?_) _
            clear cK fK
            go_wp2_with fail
            go_meet
            case rel => exact ⟨kK, rfl, rfl, rfl, Lib.hid ((hHeld.onB (Kt.below_setCells [.int .i64 st, .int .i64 ad, .int .i64 ha] kK 0 _ _ (Nat.le_refl _) (Below.refl _ _)) hkz hkr).add (Kt.fill [.int .i64 st, .int .i64 ad, .int .i64 ha] rK rfl))⟩
        · have hkz := hHeld.bel.size
          have hkr : ∀ r ∈ ([(x3.heap.size, #[.int .i64 s.cfg.va, .int .i64 s.cfg.nm, .int .i64 s.cfg.at_, .int .i64 s.cfg.pw, .slice VA fl.length vc], 24), (k_b, #[.int .i64 st, .int .i64 ad, .int .i64 ha], 55), (x2.heap.size, #[.int .i64 d.usb, .int .i64 d.cls, .int .i64 d.sub, .int .i64 d.pro, .int .i64 d.m0, .int .i64 d.ven, .int .i64 d.prd, .int .i64 d.rel, .int .i64 d.mak, .int .i64 d.nam, .int .i64 d.ser, .int .i64 d.cfs], 46), (k_a, #[.int .i64 st, .int .i64 ad, .int .i64 ha], 55), ((w.heap.size + 1), #[.int .i64 st, .int .i64 ad, .int .i64 ha], 55), (w.heap.size, (shCs s (.slice FA s.cfg.fs.length fc) (.slice (some ⟨tb, tq, none⟩) s.tx.length tc)), 53)] : List (Nat × Array Value × TypeId)), r.1 < xx.heap.size := fun r hr => hHeld.lt hr
          go_simp
          refine hK.out _ _ (fun _ => hHeld.alloc _) (fun hHeld => ?_)
          have hHeld := hHeld rfl
          clear hK K
          try simp only [Act.put, List.setIfInBounds_toArray, List.set_cons_zero, List.set_cons_succ]
          have rK := heap_alloc_new xx (.cells #[.int .i64 0, .int .i64 0, .int .i64 0] 55)
          generalize hkK : xx.heap.size = kK at *
          clear hkK
          generalize xx.alloc (.cells #[.int .i64 0, .int .i64 0, .int .i64 0] 55) = xx at *
          refine Kt.G.one 4 { dst := some 104, op := Op.call { callee := Callee.value (Operand.func 28), args := #[Operand.const (Value.int IntKind.i64 5), Operand.tmp 103, Operand.const (Value.int IntKind.i64 0), Operand.const (Value.int IntKind.i64 65535)], argTypes := #[3, 3, 3, 3] }, type := 9, pos := "gadget.go:61", after := #[{ on := 3, ground := Ground.data }], guard := none } rfl (by kernel_rfl) (by rfl) (fun K hK => ?_)
          go_simp
          refine (HA3.out _).mono ?_; rintro en xx ⟨rfl, hb⟩
          refine hK.out _ _ (fun _ => hHeld.on hb) (fun hHeld => ?_)
          have hHeld := hHeld rfl
          clear hK K
          try simp only [Act.put, List.setIfInBounds_toArray, List.set_cons_zero, List.set_cons_succ]
          try (replace rK := Kt.row_on hb rK)
          clear hb
          refine Kt.G.one 5 { dst := some 105, op := Op.call { callee := Callee.value (Operand.func 23), args := #[Operand.tmp 100, Operand.tmp 101, Operand.tmp 104], argTypes := #[53, 55, 9] }, type := 56, pos := "gadget.go:61", after := #[{ on := 0, ground := Ground.data }, { on := 1, ground := Ground.data }, { on := 4, ground := Ground.data }, { on := 4, ground := Ground.chain }], guard := none } rfl (by kernel_rfl) (by rfl) (fun K hK => ?_)
          go_simp
          refine (K3.out _ hHeld.bel).mono ?_; rintro en xx ⟨rfl, hb⟩
          refine hK.out _ _ (fun _ => hHeld.on hb) (fun hHeld => ?_)
          have hHeld := hHeld rfl
          clear hK K
          try simp only [Act.put, List.setIfInBounds_toArray, List.set_cons_zero, List.set_cons_succ]
          try (replace rK := Kt.row_on hb rK)
          clear hb
          refine Kt.G.takeP 6 { dst := some 99, op := Op.move (Operand.tmp 105), type := 56, pos := "gadget.go:61", after := #[{ on := 5, ground := Ground.data }], guard := none } ?_ (fun _ => hHeld) rfl (by kernel_rfl) (fun _ _ _ h => h) (by rfl) ?_ ?_
          rotate_left
          · intro wq; go_simp; try with_reducible rfl
          try simp only [Act.put, List.setIfInBounds_toArray, List.set_cons_zero, List.set_cons_succ]
          refine Kt.G.takeP 7 { dst := some 106, op := Op.extract (Operand.tmp 99) 0, type := 55, pos := "gadget.go:61", after := #[{ on := 6, ground := Ground.data }], guard := none } ?_ (fun _ => hHeld) rfl (by kernel_rfl) (fun _ _ _ h => h) (by rfl) ?_ ?_
          rotate_left
          · intro wq; go_simp; try with_reducible rfl
          try simp only [Act.put, List.setIfInBounds_toArray, List.set_cons_zero, List.set_cons_succ]
          refine Kt.G.takeP 8 { dst := some 107, op := Op.extract (Operand.tmp 99) 1, type := 9, pos := "gadget.go:61", after := #[{ on := 6, ground := Ground.data }, { on := 11, ground := Ground.gcOnly Departure.lateStores }], guard := none } ?_ (fun _ => hHeld) rfl (by kernel_rfl) (fun _ _ _ h => h) (by rfl) ?_ ?_
          rotate_left
          · intro wq; go_simp; try with_reducible rfl
          try simp only [Act.put, List.setIfInBounds_toArray, List.set_cons_zero, List.set_cons_succ]
          refine Kt.G.takeP 9 { dst := some 108, op := Op.extract (Operand.tmp 99) 2, type := 25, pos := "gadget.go:61", after := #[{ on := 6, ground := Ground.data }, { on := 12, ground := Ground.gcOnly Departure.lateStores }], guard := none } ?_ (fun _ => hHeld) rfl (by kernel_rfl) (fun _ _ _ h => h) (by rfl) ?_ ?_
          rotate_left
          · intro wq; go_simp; try with_reducible rfl
          try simp only [Act.put, List.setIfInBounds_toArray, List.set_cons_zero, List.set_cons_succ]
          refine Kt.G.one 11 { dst := none, op := Op.store 55 (Operand.tmp 16) (Operand.tmp 106), type := 0, pos := "gadget.go:61", after := #[{ on := 10, ground := Ground.data }, { on := 7, ground := Ground.data }, { on := 5, ground := Ground.chain }, { on := 0, ground := Ground.phase }, { on := 1, ground := Ground.phase }, { on := 2, ground := Ground.phase }, { on := 3, ground := Ground.phase }, { on := 4, ground := Ground.phase }, { on := 5, ground := Ground.phase }, { on := 6, ground := Ground.phase }, { on := 7, ground := Ground.phase }, { on := 8, ground := Ground.textOnly Departure.lateStores }, { on := 9, ground := Ground.textOnly Departure.lateStores }, { on := 10, ground := Ground.phase }], guard := none } rfl (by kernel_rfl) (by rfl) (fun K hK => ?_)
          have cK := fun i => cell_of_row _ _ i _ _ _ rK; have fK := fun i => frozen_of_row _ _ i _ _ rK
          go_simp
          refine hK.out _ _ (Kt.G.late (by kernel_rfl)) (fun _ => ?_)
          clear hK K
          try simp only [Act.put, List.setIfInBounds_toArray, List.set_cons_zero, List.set_cons_succ]
          refine Kt.G.takeP 12 { dst := some 17, op := Op.assign (Operand.tmp 107), type := 9, pos := "gadget.go:61", after := #[{ on := 8, ground := Ground.data }, { on := 11, ground := Ground.chain }, { on := 0, ground := Ground.phase }, { on := 1, ground := Ground.phase }, { on := 2, ground := Ground.phase }, { on := 3, ground := Ground.phase }, { on := 4, ground := Ground.phase }, { on := 5, ground := Ground.phase }, { on := 6, ground := Ground.phase }, { on := 7, ground := Ground.phase }, { on := 8, ground := Ground.phase }, { on := 9, ground := Ground.textOnly Departure.lateStores }, { on := 10, ground := Ground.phase }, { on := 11, ground := Ground.phase }], guard := none } ?_ (Kt.G.late (by kernel_rfl)) rfl (by kernel_rfl) (fun _ _ _ h => h) (by rfl) ?_ ?_
          rotate_left
          · intro wq; go_simp; try with_reducible rfl
          try simp only [Act.put, List.setIfInBounds_toArray, List.set_cons_zero, List.set_cons_succ]
          refine Kt.G.takeP 13 { dst := some 9, op := Op.assign (Operand.tmp 108), type := 25, pos := "gadget.go:61", after := #[{ on := 9, ground := Ground.data }, { on := 12, ground := Ground.chain }, { on := 0, ground := Ground.phase }, { on := 1, ground := Ground.phase }, { on := 2, ground := Ground.phase }, { on := 3, ground := Ground.phase }, { on := 4, ground := Ground.phase }, { on := 5, ground := Ground.phase }, { on := 6, ground := Ground.phase }, { on := 7, ground := Ground.phase }, { on := 8, ground := Ground.phase }, { on := 9, ground := Ground.phase }, { on := 10, ground := Ground.phase }, { on := 11, ground := Ground.phase }, { on := 12, ground := Ground.phase }], guard := none } ?_ (Kt.G.late (by kernel_rfl)) rfl (by kernel_rfl) (fun _ _ _ h => h) (by rfl) ?_ ?_
          rotate_left
          · intro wq; go_simp; try with_reducible rfl
          try simp only [Act.put, List.setIfInBounds_toArray, List.set_cons_zero, List.set_cons_succ]
          refine Kt.G.done (by kernel_rfl) (NoPanic.normal ?_) _
          clear cK fK
          go_wp2_with fail
          go_meet
          case rel => exact ⟨kK, rfl, rfl, rfl, Lib.hid ((hHeld.onB (Kt.below_setCells [.int .i64 st, .int .i64 ad, .int .i64 ha] kK 0 _ _ (Nat.le_refl _) (Below.refl _ _)) hkz hkr).add (Kt.fill [.int .i64 st, .int .i64 ad, .int .i64 ha] rK rfl))⟩
      case rest =>
        obtain ⟨k_z, rfl, rfl, rfl, HF9⟩ := hcut
        clear HF8
        go_wp2_with fail
        refine (read_calls XT _ HZS.out).mono ?_
        rintro e x5 ⟨⟨n, _, rfl⟩ | ⟨hno, _⟩, hb⟩
        case inr => exact absurd HWO.out (hno _)
        have HF10 := Lib.hid (HF9.out.on hb)
        clear hb HF9
        rw [HWR.out]
        obtain ⟨XR, hXR⟩ : ∃ X : ByteArray, (⟨(enc (runes t)).toArray⟩ : ByteArray) = X := ⟨_, rfl⟩
        rw [hXR] at HOF ⊢
        clear hXR
        have q_s := fun i => cell_of_row _ _ i _ _ _ (HF10.out.row _ (List.Mem.tail _ (List.Mem.tail _ (List.Mem.tail _ (List.Mem.tail _ (List.Mem.tail _ (List.Mem.tail _ (List.Mem.head _))))))))
        unfold shCs at q_s
        have hcx := (HF10.out.bel.cell (p := ⟨tb, tq + (i - 1).toNat, none⟩) HCE.out.1).trans HCE.out.2
        obtain ⟨k, hk⟩ : ∃ k : Nat, i = (k : Int) + 1 := ⟨(i - 1).toNat, by omega⟩
        rw [show (i - 1).toNat = k by omega] at hcx
        have hlt : k < s.tx.length := by omega
        clear hw1 hw1b HCE
        subst hk
        have hz3 : wrap64 ((k : Int) + 1 - 1) = (k : Int) := by unfold wrap64; omega
        clear h1 h2
        go_wp2_with fail
        clear q_s
        refine (HOF.out _).mono ?_
        rintro e x6 ⟨rfl, hb⟩
        have HF11 := Lib.hid (HF10.out.on hb)
        clear hb HF10
        go_wp2_with fail
        go_ret
        exact ⟨rfl, HF11.out.bel⟩
end Go.Proofs.Ytmddfpmchcmgiaa
