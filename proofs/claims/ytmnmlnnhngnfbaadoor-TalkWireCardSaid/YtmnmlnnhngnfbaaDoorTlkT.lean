/- talk.Talk walked, where all is right. -/
import Derived.Test.YtmnmlnnhngnfbaaDoorTlkW
namespace Go.Proofs.YtmnmlnnhngnfbaaDoor
open Go.RowKit Go.Proofs.YtmnmlnnhngnfbaaDoor.PktP Go.Proofs.YtmnmlnnhngnfbaaDoor.Phy Go.Proofs.YtmnmlnnhngnfbaaDoor.Lan
def tWire (a e : Int) (l : List ByteArray) (us : List Int) : List UInt8 := wire 0 (txts (packs a e (p0 l) us))
def pipeC (p : St) (LA : Option Addr) (Lc : Nat) (GA : Option Addr) (Gc : Nat) : Array Value := #[.int .i64 p.s, .int .i64 p.t, .slice LA p.ls.length Lc, .slice GA p.gs.length Gc]
/-- the loop: the pipe in pb, the builder in pb + 1 -/
def TkRel (w3 : World) (pb : Nat) (p : St) (x : List UInt8) (B : Nat) (wr : World) : Prop := ∃ LA Lc GA Gc,
  wr.heap[pb]? = some (.cells (pipeC p LA Lc GA Gc) 45 (0, 0)) ∧
  Kt.Sl wr B 9 1 (.slice LA p.ls.length Lc) p.ls.length (sts p.ls) ∧ Kt.Sl wr B 9 1 (.slice GA p.gs.length Gc) p.gs.length (sts p.gs) ∧
  BdB (pb + 1) x wr ∧ Below pb w3 wr
theorem sl_others2 {w w' : World} {b B e sz n : Nat} {bs : List Value} {v : Value} {xs : List Value} (h : Kt.Sl w B e sz v n xs) (hbd : Bd b bs w) (he : e ≠ 5) (he2 : e ≠ 51) (hk : Lib.OthersKept 5 (some b) w w') : Kt.Sl w' B e sz v n xs :=
  h.keep fun k hv => by
    rcases h.2 with ⟨rfl, _⟩ | ⟨g, o, c, cur, rfl, hBg, hg, _⟩
    · cases hv
    · have hgk : g = k := by simpa [Value.ownBlock] using hv
      subst hgk
      obtain ⟨p, u, _, hb, _⟩ := hbd
      exact (hk g _ hg (fun q => by
        injection q with q
        subst q
        rw [hg] at hb
        injection hb with q
        injection q with _ q _
        exact he2 q) (fun c' fz' q => by injection q with _ q _; exact he q)).trans hg.symm
section
variable {w3 W W' : World} {pb B : Nat} {p q : St} {x y : List UInt8}
theorem TkRel.lt (h : TkRel w3 pb p x B W) : pb + 1 < W.heap.size := by
  obtain ⟨_, _, _, _, _, _, _, h4, _⟩ := h
  exact h4.lt
theorem TkRel.bd (h : TkRel w3 pb p x B W) : BdB (pb + 1) x W := by
  obtain ⟨_, _, _, _, _, _, _, h4, _⟩ := h
  exact h4
theorem TkRel.on (h : TkRel w3 pb p x B W) (hb : Below W.heap.size W W') : TkRel w3 pb p x B W' := by
  have hlt := h.lt
  obtain ⟨LA, Lc, GA, Gc, h1, h2, h3, h4, h5⟩ := h
  exact ⟨LA, Lc, GA, Gc, (hb.block pb (by omega)).trans h1, h2.on hb, h3.on hb, bd_on h4 hb, h5.trans (hb.mono (by omega))⟩
theorem TkRel.alloc (h : TkRel w3 pb p x B W) (o : Obj) : TkRel w3 pb p x B (W.alloc o) := h.on (Kt.balloc (Below.refl _ W) o)
theorem TkRel.write (h : TkRel w3 pb p x B W) (hbd : BdB (pb + 1) y W') (hb : Below (pb + 1) W W') (hk : Lib.OthersKept 5 (some (pb + 1)) W W') : TkRel w3 pb p y B W' := by
  obtain ⟨LA, Lc, GA, Gc, h1, h2, h3, h4, h5⟩ := h
  exact ⟨LA, Lc, GA, Gc, (hb.block pb (Nat.lt_succ_self _)).trans h1, sl_others2 h2 h4 (by decide) (by decide) hk, sl_others2 h3 h4 (by decide) (by decide) hk, hbd, h5.trans (hb.mono (Nat.le_succ _))⟩
theorem TkRel.step (h : TkRel w3 pb p x B W) (hB : B ≤ pb) (hb : Below W.heap.size W W') {LA GA : Option Addr} {Lc Gc : Nat} (hL : Kt.Sl W' W.heap.size 9 1 (.slice LA q.ls.length Lc) q.ls.length (sts q.ls)) (hG : Kt.Sl W' W.heap.size 9 1 (.slice GA q.gs.length Gc) q.gs.length (sts q.gs)) :
    TkRel w3 pb q x B (W'.setRow pb (pipeC q LA Lc GA Gc)) := by
  have hlt := h.lt
  have h' := h.on hb
  obtain ⟨_, _, _, _, h1, _, _, ⟨pp, u, r1, r2, r3⟩, h5⟩ := h'
  refine ⟨LA, Lc, GA, Gc, setRow_heap _ _ _ _ _ _ h1, ?_, ?_, ⟨pp, u, r1, (setRow_other _ _ _ _ (by omega)).trans r2, r3.1, ?_⟩, brow h5 (Nat.le_refl _) _⟩
  · exact (hL.mono (by omega)).keep fun j hj => setRow_other _ _ _ _ (by have := (hL.lt j hj).1; omega)
  · exact (hG.mono (by omega)).keep fun j hj => setRow_other _ _ _ _ (by have := (hG.lt j hj).1; omega)
  · rcases r3.2 with h0 | ⟨g, cap, cur, g1, g2, g3, g4⟩
    · exact .inl h0
    · exact .inr ⟨g, cap, cur, g1, g2, (setRow_other _ _ _ _ (by omega)).trans g3, g4⟩
end
theorem wrap_k3 {k : Nat} (h : k ≤ 1000) : wrap64 ((k : Int) + 1) = ((k + 1 : Nat) : Int) := by unfold wrap64; omega
theorem meas3 {l k : Nat} (h : k < l) : l - (intOf (.int .i64 ((k + 1 : Nat) : Int))).toNat < l - (intOf (.int .i64 (k : Int))).toNat := by
  show l - (k + 1) < l - k
  omega
def seg (q : Pk) : List UInt8 := levs (text q) ++ endL
theorem seg_len {q : Pk} (h : Okp q) : (seg q).length ≤ 759 := by
  have h1 := text_len q h
  have h2 := levs_len (show (text q).length ≤ 80 by omega)
  unfold seg
  rw [List.length_append]
  show _ + 3 ≤ _
  omega
theorem wire_cons (n : Nat) (s : List UInt8) (l : List (List UInt8)) : wire n (s :: l) = if okS s then List.replicate n 74 ++ (levs s ++ endL) ++ wire n l else wire n l := rfl
theorem wire_app (n : Nat) (a b : List (List UInt8)) : wire n (a ++ b) = wire n a ++ wire n b := by
  induction a with
  | nil => rfl
  | cons s a ih =>
    rw [List.cons_append, wire_cons, wire_cons, ih]
    split
    · simp only [List.append_assoc]
    · rfl
theorem wire_one {q : Pk} (h : Okp q) : wire 0 (txts [q]) = seg q := by
  show wire 0 [text q] = _
  unfold wire
  rw [if_pos (okS_text h)]
  unfold seg
  simp [wire]
theorem txts_app (a b : List Pk) : txts (a ++ b) = txts a ++ txts b := List.map_append
theorem tw_take {a e : Int} {l : List ByteArray} {us : List Int} {k : Nat} (h : k < us.length) : tWire a e l (us.take (k + 1)) = tWire a e l (us.take k) ++ wire 0 (txts (pk1 a e (runF (p0 l) (us.take k)) us[k])) := by
  unfold tWire
  rw [List.take_succ_eq_append_getElem h, packs_snoc, txts_app, wire_app]
theorem tw_len {a e : Int} {l : List ByteArray} {us : List Int} (h : us.length ≤ 1000) : (tWire a e l us).length ≤ 2277000 := by
  have h1 := wire_len 0 (txts (packs a e (p0 l) us))
  have h2 := packs_len a e us (p0 l)
  have h3 : (txts (packs a e (p0 l) us)).length = (packs a e (p0 l) us).length := List.length_map _
  rw [h3] at h1
  unfold tWire
  omega
theorem pk1_skip {a e : Int} {p : St} : wire 0 (txts (pk1 a e p 2)) = [] := rfl
theorem pk1_some {a e : Int} {p : St} {f : Int} (h : f ≠ 2) (ha : 1 ≤ a ∧ a ≤ 127) (he : 1 ≤ e ∧ e ≤ 15) (hs : ∀ x ∈ p.ls, x.size ≤ 64) :
    wire 0 (txts (pk1 a e p f)) = seg (tokP a e) ++ seg (datP p) ++ wire 0 (txts (resp f)) := by
  unfold pk1
  rw [if_neg h, show tokP a e :: datP p :: resp f = [tokP a e] ++ ([datP p] ++ resp f) from rfl, txts_app, txts_app, wire_app, wire_app, wire_one (tok_ok ha he), wire_one (dat_ok hs), List.append_assoc]
set_option maxRecDepth 100000 in
set_option maxHeartbeats 1600000 in
theorem talk_good (t : ByteArray) (a e : Int) (s : Nat) (fs : List Int) (U : Value) (w : World) (hU : Kt.Ar w U 1 fs.length (ics fs)) (ha : 1 ≤ a ∧ a ≤ 127) (he : 1 ≤ e ∧ e ≤ 15) (hok : OkArgs t s fs)
    (l : List ByteArray) (hl : l = chop s t) (R : Int × St × Nat) (hR : R = carF (p0 l) 0 0 fs) :
    Calls Tryd.prog 7 #[.string t, .int .i64 a, .int .i64 e, .int .i64 s, U] w fun en w' => en = .returned (.tuple #[tkV R.1 (cat R.2.1.gs) (doneOf l R.2.1) R.2.2 (bt (tWire a e l (fs.take R.2.2))), .int .i64 0]) ∧ Below w.heap.size w w' := by
  have hs1 := hok.s1
  have hs2 := hok.s2
  have htz := hok.tz
  have hn := hok.n
  rw [Int.toNat_natCast, ← hl] at hn
  have hss : 1 ≤ s ∧ s ≤ 64 := by omega
  have hl0 : (p0 l).ls ≠ [] := by rw [hl]; exact start_ne hss.1 t
  have hrun := carF_run fs (p0 l) 0 0 hl0
  rw [← hR, Nat.sub_zero, Nat.zero_add] at hrun
  have hszl : ∀ x ∈ l, x.size ≤ 64 := fun x hx => Nat.le_trans (chop_le hss.1 t x (by rw [← hl]; exact hx)) hss.2
  have HC := Lib.hid (fun W (hW : Below w.heap.size w W) => carry_calls t s fs U W (hU.on hW))
  have HSP := Lib.hid (fun W => split_ok t s W hss.1 hss.2 htz)
  rw [← hl] at HSP
  have HOK := Lib.hid hok
  have HRUN := Lib.hid hrun
  have HSZ := Lib.hid hszl
  have HLN := Lib.hid hn
  have HA := Lib.hid (And.intro ha he)
  have h1 : ¬ a < 1 := by omega
  have h2 : ¬ 127 < a := by omega
  have h3 : ¬ e < 1 := by omega
  have h4 : ¬ 15 < e := by omega
  have HL := Lib.hid hl
  have HR := Lib.hid hR
  obtain ⟨UA, uc, rfl, huc, hux⟩ := hU.form
  have HU := Lib.hid hux
  have HUC := Lib.hid huc
  clear hU hok hs1 hs2 htz hn hss hl0 hrun hszl ha he hl hR hux huc
  go_enter Tryd.func7, Tryd.ntmps7
  go_wp2_with fail
  refine (HC.out _ (Kt.balloc (Below.refl _ _) _)).mono ?_
  rintro en w1 (⟨_, rfl, hb⟩ | ⟨hno, _⟩)
  · rw [Int.toNat_natCast, ← HL.out, ← HR.out]
    have HB1 := Lib.hid (Kt.bthen (Kt.balloc (Below.refl w.heap.size w) _) hb)
    have Q1 := Lib.hid (Kt.box1 hb)
    obtain ⟨code, p, used⟩ := R
    dsimp only [carOf, carV]
    dsimp only at HRUN
    obtain ⟨got, hgot⟩ : ∃ x, (⟨(cat p.gs).toArray⟩ : ByteArray) = x := ⟨_, rfl⟩
    obtain ⟨dn, hdn⟩ : ∃ x, doneOf l p = x := ⟨_, rfl⟩
    have HG := Lib.hid (And.intro hgot hdn)
    rw [hgot, hdn]
    clear hb HC hgot hdn
    go_wp2_with fail
    refine (HSP.out _).mono ?_
    rintro en w2 ⟨V, rfl, hs2, hb2⟩
    have HB2 := Lib.hid (Kt.bthen (Kt.balloc HB1.out (.cells #[.int .i64 code, .string got, .int .i64 dn, .int .i64 used] 26)) hb2)
    have P1 := Lib.hid (Kt.box1 hb2)
    have P0 := Lib.hid (Kt.row_on hb2 ((Below.heap_alloc w1 (.cells #[.int .i64 code, .string got, .int .i64 dn, .int .i64 used] 26) _ (Array.getElem?_eq_some_iff.1 Q1.out).1).trans Q1.out))
    have HS2 := Lib.hid (Kt.Ar.of_sl hs2)
    obtain ⟨VA, vc, rfl, _, _⟩ := hs2.form
    clear hb2 hs2 HSP
    go_wp2_with fail
    refine (new_ok _ l _ HS2.out (by have := HLN.out; omega)).mono ?_
    rintro en w3 ⟨v, rfl, ⟨L, G, rfl, hL, hG⟩, hb3⟩
    dsimp only at hL hG
    obtain ⟨LA, Lc, rfl, _, _⟩ := hL.form
    obtain ⟨GA, Gc, rfl, _, _⟩ := hG.form
    have O1 := Kt.row_on hb3 P1.out
    have O0 := Kt.row_on hb3 P0.out
    have HB3 := Lib.hid (Kt.bthen HB2.out hb3)
    have HL3 := Lib.hid hL
    have HG3 := Lib.hid hG
    have hc1 := fun i => cell_of_row _ _ i _ _ _ O1
    have hz1 := (Array.getElem?_eq_some_iff.1 O1).1
    have HO := Lib.hid (And.intro O0 O1)
    have hu2 : used ≤ fs.length := HRUN.out.2.1
    have hu3 : used ≤ uc := Nat.le_trans hu2 HUC.out
    have hBP := hb3.size
    clear hb3 hL hG O0 O1
    go_wp2_with fail
    have HBP := Lib.hid hBP
    clear hBP
    have HREL : Hid (TkRel w3 w3.heap.size (p0 l) [] w2.heap.size ((w3.alloc (.cells #[.int .i64 0, .int .i64 0, .slice LA l.length Lc, .slice GA 0 Gc] 45)).alloc (.cells #[.pointer none, .slice none 0 0] 51))) :=
      Lib.hid ⟨LA, Lc, GA, Gc, heap_alloc2_old w3 _ _, (HL3.out.alloc _).alloc _, (HG3.out.alloc _).alloc _, by have := BdB.fresh (w3.alloc (.cells #[.int .i64 0, .int .i64 0, .slice LA l.length Lc, .slice GA 0 Gc] 45)); rw [World.size_alloc] at this; exact this, Kt.balloc (Kt.balloc (Below.refl _ _) _) _⟩
    have hul : (fs.take used).length = used := by rw [List.length_take]; omega
    have HUL := Lib.hid hul
    have HRUN2 := Lib.hid HRUN.out.2.2
    have HU2 := Lib.hid (And.intro hu2 hu3)
    clear hc1 hz1 hu2 hu3 hul HL3 HG3
    generalize ((w3.alloc (.cells #[.int .i64 0, .int .i64 0, .slice LA l.length Lc, .slice GA 0 Gc] 45)).alloc (.cells #[.pointer none, .slice none 0 0] 51)) = W at *
    obtain ⟨us, hus⟩ : ∃ us, fs.take used = us := ⟨_, rfl⟩
    rw [hus] at HUL HRUN2
    have HUS := Lib.hid hus
    clear hus
    go_loopw [65] (fun vi wr => ∃ k : Nat, k ≤ used ∧ vi = .int .i64 k ∧ Hid (TkRel w3 w3.heap.size (runF (p0 l) (us.take k)) (tWire a e l (us.take k)) w2.heap.size wr)) (fun vi _ => used - (intOf vi).toNat)
    case atStart => exact ⟨0, Nat.zero_le _, rfl, HREL⟩
    case round =>
      clear HREL
      obtain ⟨k, hk, rfl, HT⟩ := hrel
      by_cases hlt : k < used
      · have hkl : k < us.length := by rw [HUL.out]; exact hlt
        obtain ⟨f, hf⟩ : ∃ f, us[k] = f := ⟨_, rfl⟩
        have hfk : k < fs.length := Nat.lt_of_lt_of_le hlt HU2.out.1
        have hfe : fs[k] = f := by have := HUS.out; subst this; rw [← hf, List.getElem_take]
        have hft : fated f := by have := HOK.out.all k hfk; rw [hfe] at this; exact this
        have hub0 := HU.out (Nat.lt_of_le_of_lt (Nat.zero_le _) hfk)
        obtain ⟨ub, uo, rfl, hub, hux⟩ := hub0
        have hbw : Below w.heap.size w wr := by
          obtain ⟨_, _, _, _, _, _, _, _, h5⟩ := HT.out
          exact HB3.out.trans (h5.mono HB3.out.size)
        have hcell : wr.cell? ⟨ub, uo + k, none⟩ = some (.int .i64 f) := (hbw.cell (p := ⟨ub, uo + k, none⟩) hub).trans ((hux k (by rw [ics_len]; exact hfk)).trans (by simp [ics, hfe]))
        have HTW := Lib.hid (tw_take (a := a) (e := e) (l := l) hkl)
        have HNX := Lib.hid (runF_take (p0 l) us k hkl)
        rw [hf] at HTW HNX
        obtain ⟨gt, hI⟩ := run_from l (us.take k)
        have hne := leftF_take us (p0 l) k HRUN2.out.2 hkl
        have hlX : (tWire a e l (us.take k)).length ≤ 2277000 := tw_len (by rw [List.length_take]; have := HOK.out.f; omega)
        have hsub := run_sub (us.take k) (p0 l)
        change Inv l (runF (p0 l) (us.take k)) _ _ at hI
        generalize runF (p0 l) (us.take k) = q at *
        generalize tWire a e l (us.take k) = X at *
        have HBI := Lib.hid (show ((q.s = 0 ∨ q.s = 1) ∧ (q.t = 0 ∨ q.t = 1)) ∧ q.ls.length ≤ 200 ∧ q.gs.length ≤ 200 from ⟨hI.bits, by have := hI.llen; have := HLN.out; omega, by have := hI.glen; have := hI.gn; have := HLN.out; omega⟩)
        have HQS := Lib.hid (show ∀ x ∈ q.ls, x.size ≤ 64 from fun x hx => HSZ.out x (hsub x hx))
        have HXL := Lib.hid hlX
        have HFT := Lib.hid hft
        have hf5 : f = 2 ∨ (f ≠ 2 ∧ (f = 1 ∨ f = 3 ∨ f = 4 ∨ f = 5)) := by unfold fated at hft; omega
        clear hI hft hlX hsub hfe hf hfk hkl hux hub hbw
        rcases hf5 with rfl | ⟨hf2, hf4⟩
        · rw [pk1_skip, List.append_nil] at HTW
          have HTf := HT
          clear hne
          obtain ⟨LA3, Lc3, GA3, Gc3, r1, hL, hG, _, _⟩ := HTf.out
          have HSTP := Lib.hid (step_ok (.agg (pipeC q LA3 Lc3 GA3 Gc3)) q 2 wr ⟨_, _, rfl, Kt.Ar.of_sl hL, Kt.Ar.of_sl hG⟩ HBI.out.1.1 HBI.out.1.2 HFT.out HBI.out.2.1 HBI.out.2.2)
          dsimp only [pipeC] at r1 HSTP
          have hc := fun i => cell_of_row _ _ i _ _ _ r1
          have hz := (Array.getElem?_eq_some_iff.1 r1).1
          clear r1 hL hG
          go_wp2_with fail
          refine HSTP.out.mono ?_
          rintro en y ⟨v, rfl, ⟨L', G', rfl, hL', hG'⟩, hb2⟩
          obtain ⟨LA', Lc', rfl, _, _⟩ := hL'.form
          obtain ⟨GA', Gc', rfl, _, _⟩ := hG'.form
          have hnx := HTf.out.step HBP.out hb2 hL' hG'
          obtain ⟨LA4, Lc4, GA4, Gc4, hrow3, _, _, _, _⟩ := HTf.out.on hb2
          dsimp only [pipeC] at hrow3 hnx
          clear hb2 hL' hG' hc hz HSTP
          go_wp2_with (
            refine wpList_store_row rfl 45 (.tmp 16) (.tmp 100) rfl w3.heap.size _ rfl rfl 45 _ hrow3 info_pipe rfl (by simp [Value.oneCell']) ?_
            refine Kt.foldL (fun W => TkRel w3 w3.heap.size (stepF q 2) X w2.heap.size W) hnx (fun W hW => ?_)
            clear hnx hrow3
            have HW := Lib.hid hW
            clear hW)
          have hwk := wrap_k3 (show k ≤ 1000 from Nat.le_trans (Nat.le_of_lt hlt) (Nat.le_trans HU2.out.1 HOK.out.f))
          go_roundw
          case rel => exact ⟨k + 1, hlt, congrArg (Value.int .i64) hwk, Lib.hid (by rw [HNX.out, HTW.out]; exact HW.out)⟩
          case measure => rw [hwk]; exact meas3 hlt
        · have e2 : (f != 2) = true := by rw [bne_iff_ne]; exact hf2
          rw [pk1_some hf2 HA.out.1 HA.out.2 HQS.out] at HTW
          obtain ⟨x, rl, hql⟩ : ∃ x rl, q.ls = x :: rl := by
            cases hq : q.ls with
            | nil => exact absurd hq hne
            | cons x rl => exact ⟨x, rl, rfl⟩
          have hx64 : x.size ≤ 64 := HQS.out x (by rw [hql]; exact List.mem_cons_self ..)
          have HDAT : Hid (datP q = ⟨if q.s = 1 then 11 else 3, 0, 0, 0, x.data.toList⟩) := Lib.hid (by unfold datP topL; rw [hql]; rfl)
          have HDOK := Lib.hid (dat_ok HQS.out)
          obtain ⟨LA2, Lc2, GA2, Gc2, r1, hL, hG, _, _⟩ := HT.out
          obtain ⟨g, o, cap, hv, _, hg, _, _, hlc, _⟩ := hL.cells (by rw [hql]; exact Nat.succ_pos _)
          have hx0 : wr.cell? ⟨g, o, none⟩ = some (.string x) := by
            have h0 := hlc 0 (by rw [sts_len, hql]; exact Nat.succ_pos _)
            rw [Nat.add_zero] at h0
            rw [h0]
            simp [sts, hql]
          have hqn : 0 < q.ls.length := by rw [hql]; exact Nat.succ_pos _
          injection hv with hv1 _ hv2
          subst hv1 hv2
          dsimp only [pipeC] at r1
          have hc := fun i => cell_of_row _ _ i _ _ _ r1
          have hz := (Array.getElem?_eq_some_iff.1 r1).1
          clear r1 hL hG hlc hf2 hql hne
          rcases HBI.out.1.1 with hqs | hqs
          · have es : (q.s == 1) = false := by rw [hqs]; rfl
            have HD : Hid (datP q = ⟨3, 0, 0, 0, x.data.toList⟩) := Lib.hid (by rw [HDAT.out, if_neg (by rw [hqs]; decide)])
            clear hqs HDAT
            go_wp2_with fail
            refine (states_calls 1 a e 0 ByteArray.empty (tok_ok HA.out.1 HA.out.2) _).mono ?_
            rintro en x1 ⟨rfl, hb⟩
            have HT1 := Lib.hid ((HT.out.alloc _).on hb)
            have D1 := Lib.hid (Kt.box1 hb)
            have hg1 := hb.size
            rw [World.size_alloc] at hg1
            clear hb hc hz hx0
            go_wp2_with fail
            refine (write_s _ X (seg (tokP a e)) _ HT1.out.bd (by have := HXL.out; have := seg_len (tok_ok HA.out.1 HA.out.2); omega)).mono ?_
            rintro en x2 ⟨rfl, hbd, hbw, hk2⟩
            have HT2 := Lib.hid (HT1.out.write hbd hbw hk2)
            have d2 := hk2 _ _ D1.out (fun q => by injection q with q; have := HT.out.lt; omega) (fun c fz q => by injection q with _ q _; exact absurd q (by decide))
            have D2 := Lib.hid d2
            have hc2 := fun i => cell_of_row _ _ i _ _ _ d2
            have hz2 := (Array.getElem?_eq_some_iff.1 d2).1
            clear hbd hbw hk2 d2 HT1 D1
            go_wp2_with fail
            refine (states_calls 3 0 0 0 x (by have := HDOK.out; rw [HD.out] at this; exact this) _).mono ?_
            rintro en x3 ⟨rfl, hb⟩
            have HT3 := Lib.hid (HT2.out.on hb)
            clear hb hc2 hz2 HT2 D2
            go_wp2_with fail
            refine (write_s _ (X ++ seg (tokP a e)) (seg ⟨3, 0, 0, 0, x.data.toList⟩) _ HT3.out.bd (by have := HXL.out; have := seg_len (tok_ok HA.out.1 HA.out.2); have h2 := seg_len HDOK.out; rw [HD.out] at h2; rw [List.length_append]; omega)).mono ?_
            rintro en x4 ⟨rfl, hbd, hbw, hk4⟩
            have HT4 := Lib.hid (HT3.out.write hbd hbw hk4)
            clear hbd hbw hk4 HT3
            go_wp2_with fail
            refine (response_calls f HFT.out _).mono ?_
            rintro en x5 ⟨rfl, rfl⟩
            rcases hf4 with rfl | rfl | rfl | rfl
            · rw [HD.out, show txts (resp 1) = txts [⟨2, 0, 0, 0, []⟩] from rfl, wire_one (by decide), ← List.append_assoc, ← List.append_assoc] at HTW
              rw [show respK 1 = 2 from rfl]
              go_wp2_with fail
              refine (states_calls 2 0 0 0 ByteArray.empty (by decide) _).mono ?_
              rintro en x6 ⟨rfl, hb⟩
              have HT6 := Lib.hid (HT4.out.on hb)
              clear hb HT4
              go_wp2_with fail
              refine (write_s _ (X ++ seg (tokP a e) ++ seg ⟨3, 0, 0, 0, x.data.toList⟩) (seg ⟨2, 0, 0, 0, []⟩) _ HT6.out.bd (by have := HXL.out; have := seg_len (tok_ok HA.out.1 HA.out.2); have h2 := seg_len HDOK.out; have h3 := seg_len (show Okp ⟨2, 0, 0, 0, []⟩ by decide); rw [HD.out] at h2; rw [List.length_append, List.length_append]; omega)).mono ?_
              rintro en x7 ⟨rfl, hbd, hbw, hk7⟩
              have HTf := Lib.hid (HT6.out.write hbd hbw hk7)
              clear hbd hbw hk7 HT6
              obtain ⟨LA3, Lc3, GA3, Gc3, r1, hL, hG, _, _⟩ := HTf.out
              have HSTP := Lib.hid (step_ok (.agg (pipeC q LA3 Lc3 GA3 Gc3)) q 1 x7 ⟨_, _, rfl, Kt.Ar.of_sl hL, Kt.Ar.of_sl hG⟩ HBI.out.1.1 HBI.out.1.2 HFT.out HBI.out.2.1 HBI.out.2.2)
              dsimp only [pipeC] at r1 HSTP
              have hc := fun i => cell_of_row _ _ i _ _ _ r1
              have hz := (Array.getElem?_eq_some_iff.1 r1).1
              clear r1 hL hG
              go_wp2_with fail
              refine HSTP.out.mono ?_
              rintro en y ⟨v, rfl, ⟨L', G', rfl, hL', hG'⟩, hb2⟩
              obtain ⟨LA', Lc', rfl, _, _⟩ := hL'.form
              obtain ⟨GA', Gc', rfl, _, _⟩ := hG'.form
              have hnx := HTf.out.step HBP.out hb2 hL' hG'
              obtain ⟨LA4, Lc4, GA4, Gc4, hrow3, _, _, _, _⟩ := HTf.out.on hb2
              dsimp only [pipeC] at hrow3 hnx
              clear hb2 hL' hG' hc hz HSTP
              go_wp2_with (
                refine wpList_store_row rfl 45 (.tmp 16) (.tmp 100) rfl w3.heap.size _ rfl rfl 45 _ hrow3 info_pipe rfl (by simp [Value.oneCell']) ?_
                refine Kt.foldL (fun W => TkRel w3 w3.heap.size (stepF q 1) _ w2.heap.size W) hnx (fun W hW => ?_)
                clear hnx hrow3
                have HW := Lib.hid hW
                clear hW)
              have hwk := wrap_k3 (show k ≤ 1000 from Nat.le_trans (Nat.le_of_lt hlt) (Nat.le_trans HU2.out.1 HOK.out.f))
              go_roundw
              case rel => exact ⟨k + 1, hlt, congrArg (Value.int .i64) hwk, Lib.hid (by rw [HNX.out, HTW.out]; exact HW.out)⟩
              case measure => rw [hwk]; exact meas3 hlt
            · rw [HD.out, show txts (resp 3) = [] from rfl, show wire 0 [] = [] from rfl, List.append_nil, ← List.append_assoc] at HTW
              rw [show respK 3 = 0 from rfl]
              have HTf := HT4
              obtain ⟨LA3, Lc3, GA3, Gc3, r1, hL, hG, _, _⟩ := HTf.out
              have HSTP := Lib.hid (step_ok (.agg (pipeC q LA3 Lc3 GA3 Gc3)) q 3 x5 ⟨_, _, rfl, Kt.Ar.of_sl hL, Kt.Ar.of_sl hG⟩ HBI.out.1.1 HBI.out.1.2 HFT.out HBI.out.2.1 HBI.out.2.2)
              dsimp only [pipeC] at r1 HSTP
              have hc := fun i => cell_of_row _ _ i _ _ _ r1
              have hz := (Array.getElem?_eq_some_iff.1 r1).1
              clear r1 hL hG
              go_wp2_with fail
              refine HSTP.out.mono ?_
              rintro en y ⟨v, rfl, ⟨L', G', rfl, hL', hG'⟩, hb2⟩
              obtain ⟨LA', Lc', rfl, _, _⟩ := hL'.form
              obtain ⟨GA', Gc', rfl, _, _⟩ := hG'.form
              have hnx := HTf.out.step HBP.out hb2 hL' hG'
              obtain ⟨LA4, Lc4, GA4, Gc4, hrow3, _, _, _, _⟩ := HTf.out.on hb2
              dsimp only [pipeC] at hrow3 hnx
              clear hb2 hL' hG' hc hz HSTP
              go_wp2_with (
                refine wpList_store_row rfl 45 (.tmp 16) (.tmp 100) rfl w3.heap.size _ rfl rfl 45 _ hrow3 info_pipe rfl (by simp [Value.oneCell']) ?_
                refine Kt.foldL (fun W => TkRel w3 w3.heap.size (stepF q 3) _ w2.heap.size W) hnx (fun W hW => ?_)
                clear hnx hrow3
                have HW := Lib.hid hW
                clear hW)
              have hwk := wrap_k3 (show k ≤ 1000 from Nat.le_trans (Nat.le_of_lt hlt) (Nat.le_trans HU2.out.1 HOK.out.f))
              go_roundw
              case rel => exact ⟨k + 1, hlt, congrArg (Value.int .i64) hwk, Lib.hid (by rw [HNX.out, HTW.out]; exact HW.out)⟩
              case measure => rw [hwk]; exact meas3 hlt
            · rw [HD.out, show txts (resp 4) = txts [⟨10, 0, 0, 0, []⟩] from rfl, wire_one (by decide), ← List.append_assoc, ← List.append_assoc] at HTW
              rw [show respK 4 = 10 from rfl]
              go_wp2_with fail
              refine (states_calls 10 0 0 0 ByteArray.empty (by decide) _).mono ?_
              rintro en x6 ⟨rfl, hb⟩
              have HT6 := Lib.hid (HT4.out.on hb)
              clear hb HT4
              go_wp2_with fail
              refine (write_s _ (X ++ seg (tokP a e) ++ seg ⟨3, 0, 0, 0, x.data.toList⟩) (seg ⟨10, 0, 0, 0, []⟩) _ HT6.out.bd (by have := HXL.out; have := seg_len (tok_ok HA.out.1 HA.out.2); have h2 := seg_len HDOK.out; have h3 := seg_len (show Okp ⟨10, 0, 0, 0, []⟩ by decide); rw [HD.out] at h2; rw [List.length_append, List.length_append]; omega)).mono ?_
              rintro en x7 ⟨rfl, hbd, hbw, hk7⟩
              have HTf := Lib.hid (HT6.out.write hbd hbw hk7)
              clear hbd hbw hk7 HT6
              obtain ⟨LA3, Lc3, GA3, Gc3, r1, hL, hG, _, _⟩ := HTf.out
              have HSTP := Lib.hid (step_ok (.agg (pipeC q LA3 Lc3 GA3 Gc3)) q 4 x7 ⟨_, _, rfl, Kt.Ar.of_sl hL, Kt.Ar.of_sl hG⟩ HBI.out.1.1 HBI.out.1.2 HFT.out HBI.out.2.1 HBI.out.2.2)
              dsimp only [pipeC] at r1 HSTP
              have hc := fun i => cell_of_row _ _ i _ _ _ r1
              have hz := (Array.getElem?_eq_some_iff.1 r1).1
              clear r1 hL hG
              go_wp2_with fail
              refine HSTP.out.mono ?_
              rintro en y ⟨v, rfl, ⟨L', G', rfl, hL', hG'⟩, hb2⟩
              obtain ⟨LA', Lc', rfl, _, _⟩ := hL'.form
              obtain ⟨GA', Gc', rfl, _, _⟩ := hG'.form
              have hnx := HTf.out.step HBP.out hb2 hL' hG'
              obtain ⟨LA4, Lc4, GA4, Gc4, hrow3, _, _, _, _⟩ := HTf.out.on hb2
              dsimp only [pipeC] at hrow3 hnx
              clear hb2 hL' hG' hc hz HSTP
              go_wp2_with (
                refine wpList_store_row rfl 45 (.tmp 16) (.tmp 100) rfl w3.heap.size _ rfl rfl 45 _ hrow3 info_pipe rfl (by simp [Value.oneCell']) ?_
                refine Kt.foldL (fun W => TkRel w3 w3.heap.size (stepF q 4) _ w2.heap.size W) hnx (fun W hW => ?_)
                clear hnx hrow3
                have HW := Lib.hid hW
                clear hW)
              have hwk := wrap_k3 (show k ≤ 1000 from Nat.le_trans (Nat.le_of_lt hlt) (Nat.le_trans HU2.out.1 HOK.out.f))
              go_roundw
              case rel => exact ⟨k + 1, hlt, congrArg (Value.int .i64) hwk, Lib.hid (by rw [HNX.out, HTW.out]; exact HW.out)⟩
              case measure => rw [hwk]; exact meas3 hlt
            · rw [HD.out, show txts (resp 5) = txts [⟨14, 0, 0, 0, []⟩] from rfl, wire_one (by decide), ← List.append_assoc, ← List.append_assoc] at HTW
              rw [show respK 5 = 14 from rfl]
              go_wp2_with fail
              refine (states_calls 14 0 0 0 ByteArray.empty (by decide) _).mono ?_
              rintro en x6 ⟨rfl, hb⟩
              have HT6 := Lib.hid (HT4.out.on hb)
              clear hb HT4
              go_wp2_with fail
              refine (write_s _ (X ++ seg (tokP a e) ++ seg ⟨3, 0, 0, 0, x.data.toList⟩) (seg ⟨14, 0, 0, 0, []⟩) _ HT6.out.bd (by have := HXL.out; have := seg_len (tok_ok HA.out.1 HA.out.2); have h2 := seg_len HDOK.out; have h3 := seg_len (show Okp ⟨14, 0, 0, 0, []⟩ by decide); rw [HD.out] at h2; rw [List.length_append, List.length_append]; omega)).mono ?_
              rintro en x7 ⟨rfl, hbd, hbw, hk7⟩
              have HTf := Lib.hid (HT6.out.write hbd hbw hk7)
              clear hbd hbw hk7 HT6
              obtain ⟨LA3, Lc3, GA3, Gc3, r1, hL, hG, _, _⟩ := HTf.out
              have HSTP := Lib.hid (step_ok (.agg (pipeC q LA3 Lc3 GA3 Gc3)) q 5 x7 ⟨_, _, rfl, Kt.Ar.of_sl hL, Kt.Ar.of_sl hG⟩ HBI.out.1.1 HBI.out.1.2 HFT.out HBI.out.2.1 HBI.out.2.2)
              dsimp only [pipeC] at r1 HSTP
              have hc := fun i => cell_of_row _ _ i _ _ _ r1
              have hz := (Array.getElem?_eq_some_iff.1 r1).1
              clear r1 hL hG
              go_wp2_with fail
              refine HSTP.out.mono ?_
              rintro en y ⟨v, rfl, ⟨L', G', rfl, hL', hG'⟩, hb2⟩
              obtain ⟨LA', Lc', rfl, _, _⟩ := hL'.form
              obtain ⟨GA', Gc', rfl, _, _⟩ := hG'.form
              have hnx := HTf.out.step HBP.out hb2 hL' hG'
              obtain ⟨LA4, Lc4, GA4, Gc4, hrow3, _, _, _, _⟩ := HTf.out.on hb2
              dsimp only [pipeC] at hrow3 hnx
              clear hb2 hL' hG' hc hz HSTP
              go_wp2_with (
                refine wpList_store_row rfl 45 (.tmp 16) (.tmp 100) rfl w3.heap.size _ rfl rfl 45 _ hrow3 info_pipe rfl (by simp [Value.oneCell']) ?_
                refine Kt.foldL (fun W => TkRel w3 w3.heap.size (stepF q 5) _ w2.heap.size W) hnx (fun W hW => ?_)
                clear hnx hrow3
                have HW := Lib.hid hW
                clear hW)
              have hwk := wrap_k3 (show k ≤ 1000 from Nat.le_trans (Nat.le_of_lt hlt) (Nat.le_trans HU2.out.1 HOK.out.f))
              go_roundw
              case rel => exact ⟨k + 1, hlt, congrArg (Value.int .i64) hwk, Lib.hid (by rw [HNX.out, HTW.out]; exact HW.out)⟩
              case measure => rw [hwk]; exact meas3 hlt
          · have es : (q.s == 1) = true := by rw [hqs]; rfl
            have HD : Hid (datP q = ⟨11, 0, 0, 0, x.data.toList⟩) := Lib.hid (by rw [HDAT.out, if_pos hqs])
            clear hqs HDAT
            go_wp2_with fail
            refine (states_calls 1 a e 0 ByteArray.empty (tok_ok HA.out.1 HA.out.2) _).mono ?_
            rintro en x1 ⟨rfl, hb⟩
            have HT1 := Lib.hid ((HT.out.alloc _).on hb)
            have D1 := Lib.hid (Kt.box1 hb)
            have hg1 := hb.size
            rw [World.size_alloc] at hg1
            clear hb hc hz hx0
            go_wp2_with fail
            refine (write_s _ X (seg (tokP a e)) _ HT1.out.bd (by have := HXL.out; have := seg_len (tok_ok HA.out.1 HA.out.2); omega)).mono ?_
            rintro en x2 ⟨rfl, hbd, hbw, hk2⟩
            have HT2 := Lib.hid (HT1.out.write hbd hbw hk2)
            have d2 := hk2 _ _ D1.out (fun q => by injection q with q; have := HT.out.lt; omega) (fun c fz q => by injection q with _ q _; exact absurd q (by decide))
            have D2 := Lib.hid d2
            have hc2 := fun i => cell_of_row _ _ i _ _ _ d2
            have hz2 := (Array.getElem?_eq_some_iff.1 d2).1
            clear hbd hbw hk2 d2 HT1 D1
            go_wp2_with fail
            refine (states_calls 11 0 0 0 x (by have := HDOK.out; rw [HD.out] at this; exact this) _).mono ?_
            rintro en x3 ⟨rfl, hb⟩
            have HT3 := Lib.hid (HT2.out.on hb)
            clear hb hc2 hz2 HT2 D2
            go_wp2_with fail
            refine (write_s _ (X ++ seg (tokP a e)) (seg ⟨11, 0, 0, 0, x.data.toList⟩) _ HT3.out.bd (by have := HXL.out; have := seg_len (tok_ok HA.out.1 HA.out.2); have h2 := seg_len HDOK.out; rw [HD.out] at h2; rw [List.length_append]; omega)).mono ?_
            rintro en x4 ⟨rfl, hbd, hbw, hk4⟩
            have HT4 := Lib.hid (HT3.out.write hbd hbw hk4)
            clear hbd hbw hk4 HT3
            go_wp2_with fail
            refine (response_calls f HFT.out _).mono ?_
            rintro en x5 ⟨rfl, rfl⟩
            rcases hf4 with rfl | rfl | rfl | rfl
            · rw [HD.out, show txts (resp 1) = txts [⟨2, 0, 0, 0, []⟩] from rfl, wire_one (by decide), ← List.append_assoc, ← List.append_assoc] at HTW
              rw [show respK 1 = 2 from rfl]
              go_wp2_with fail
              refine (states_calls 2 0 0 0 ByteArray.empty (by decide) _).mono ?_
              rintro en x6 ⟨rfl, hb⟩
              have HT6 := Lib.hid (HT4.out.on hb)
              clear hb HT4
              go_wp2_with fail
              refine (write_s _ (X ++ seg (tokP a e) ++ seg ⟨11, 0, 0, 0, x.data.toList⟩) (seg ⟨2, 0, 0, 0, []⟩) _ HT6.out.bd (by have := HXL.out; have := seg_len (tok_ok HA.out.1 HA.out.2); have h2 := seg_len HDOK.out; have h3 := seg_len (show Okp ⟨2, 0, 0, 0, []⟩ by decide); rw [HD.out] at h2; rw [List.length_append, List.length_append]; omega)).mono ?_
              rintro en x7 ⟨rfl, hbd, hbw, hk7⟩
              have HTf := Lib.hid (HT6.out.write hbd hbw hk7)
              clear hbd hbw hk7 HT6
              obtain ⟨LA3, Lc3, GA3, Gc3, r1, hL, hG, _, _⟩ := HTf.out
              have HSTP := Lib.hid (step_ok (.agg (pipeC q LA3 Lc3 GA3 Gc3)) q 1 x7 ⟨_, _, rfl, Kt.Ar.of_sl hL, Kt.Ar.of_sl hG⟩ HBI.out.1.1 HBI.out.1.2 HFT.out HBI.out.2.1 HBI.out.2.2)
              dsimp only [pipeC] at r1 HSTP
              have hc := fun i => cell_of_row _ _ i _ _ _ r1
              have hz := (Array.getElem?_eq_some_iff.1 r1).1
              clear r1 hL hG
              go_wp2_with fail
              refine HSTP.out.mono ?_
              rintro en y ⟨v, rfl, ⟨L', G', rfl, hL', hG'⟩, hb2⟩
              obtain ⟨LA', Lc', rfl, _, _⟩ := hL'.form
              obtain ⟨GA', Gc', rfl, _, _⟩ := hG'.form
              have hnx := HTf.out.step HBP.out hb2 hL' hG'
              obtain ⟨LA4, Lc4, GA4, Gc4, hrow3, _, _, _, _⟩ := HTf.out.on hb2
              dsimp only [pipeC] at hrow3 hnx
              clear hb2 hL' hG' hc hz HSTP
              go_wp2_with (
                refine wpList_store_row rfl 45 (.tmp 16) (.tmp 100) rfl w3.heap.size _ rfl rfl 45 _ hrow3 info_pipe rfl (by simp [Value.oneCell']) ?_
                refine Kt.foldL (fun W => TkRel w3 w3.heap.size (stepF q 1) _ w2.heap.size W) hnx (fun W hW => ?_)
                clear hnx hrow3
                have HW := Lib.hid hW
                clear hW)
              have hwk := wrap_k3 (show k ≤ 1000 from Nat.le_trans (Nat.le_of_lt hlt) (Nat.le_trans HU2.out.1 HOK.out.f))
              go_roundw
              case rel => exact ⟨k + 1, hlt, congrArg (Value.int .i64) hwk, Lib.hid (by rw [HNX.out, HTW.out]; exact HW.out)⟩
              case measure => rw [hwk]; exact meas3 hlt
            · rw [HD.out, show txts (resp 3) = [] from rfl, show wire 0 [] = [] from rfl, List.append_nil, ← List.append_assoc] at HTW
              rw [show respK 3 = 0 from rfl]
              have HTf := HT4
              obtain ⟨LA3, Lc3, GA3, Gc3, r1, hL, hG, _, _⟩ := HTf.out
              have HSTP := Lib.hid (step_ok (.agg (pipeC q LA3 Lc3 GA3 Gc3)) q 3 x5 ⟨_, _, rfl, Kt.Ar.of_sl hL, Kt.Ar.of_sl hG⟩ HBI.out.1.1 HBI.out.1.2 HFT.out HBI.out.2.1 HBI.out.2.2)
              dsimp only [pipeC] at r1 HSTP
              have hc := fun i => cell_of_row _ _ i _ _ _ r1
              have hz := (Array.getElem?_eq_some_iff.1 r1).1
              clear r1 hL hG
              go_wp2_with fail
              refine HSTP.out.mono ?_
              rintro en y ⟨v, rfl, ⟨L', G', rfl, hL', hG'⟩, hb2⟩
              obtain ⟨LA', Lc', rfl, _, _⟩ := hL'.form
              obtain ⟨GA', Gc', rfl, _, _⟩ := hG'.form
              have hnx := HTf.out.step HBP.out hb2 hL' hG'
              obtain ⟨LA4, Lc4, GA4, Gc4, hrow3, _, _, _, _⟩ := HTf.out.on hb2
              dsimp only [pipeC] at hrow3 hnx
              clear hb2 hL' hG' hc hz HSTP
              go_wp2_with (
                refine wpList_store_row rfl 45 (.tmp 16) (.tmp 100) rfl w3.heap.size _ rfl rfl 45 _ hrow3 info_pipe rfl (by simp [Value.oneCell']) ?_
                refine Kt.foldL (fun W => TkRel w3 w3.heap.size (stepF q 3) _ w2.heap.size W) hnx (fun W hW => ?_)
                clear hnx hrow3
                have HW := Lib.hid hW
                clear hW)
              have hwk := wrap_k3 (show k ≤ 1000 from Nat.le_trans (Nat.le_of_lt hlt) (Nat.le_trans HU2.out.1 HOK.out.f))
              go_roundw
              case rel => exact ⟨k + 1, hlt, congrArg (Value.int .i64) hwk, Lib.hid (by rw [HNX.out, HTW.out]; exact HW.out)⟩
              case measure => rw [hwk]; exact meas3 hlt
            · rw [HD.out, show txts (resp 4) = txts [⟨10, 0, 0, 0, []⟩] from rfl, wire_one (by decide), ← List.append_assoc, ← List.append_assoc] at HTW
              rw [show respK 4 = 10 from rfl]
              go_wp2_with fail
              refine (states_calls 10 0 0 0 ByteArray.empty (by decide) _).mono ?_
              rintro en x6 ⟨rfl, hb⟩
              have HT6 := Lib.hid (HT4.out.on hb)
              clear hb HT4
              go_wp2_with fail
              refine (write_s _ (X ++ seg (tokP a e) ++ seg ⟨11, 0, 0, 0, x.data.toList⟩) (seg ⟨10, 0, 0, 0, []⟩) _ HT6.out.bd (by have := HXL.out; have := seg_len (tok_ok HA.out.1 HA.out.2); have h2 := seg_len HDOK.out; have h3 := seg_len (show Okp ⟨10, 0, 0, 0, []⟩ by decide); rw [HD.out] at h2; rw [List.length_append, List.length_append]; omega)).mono ?_
              rintro en x7 ⟨rfl, hbd, hbw, hk7⟩
              have HTf := Lib.hid (HT6.out.write hbd hbw hk7)
              clear hbd hbw hk7 HT6
              obtain ⟨LA3, Lc3, GA3, Gc3, r1, hL, hG, _, _⟩ := HTf.out
              have HSTP := Lib.hid (step_ok (.agg (pipeC q LA3 Lc3 GA3 Gc3)) q 4 x7 ⟨_, _, rfl, Kt.Ar.of_sl hL, Kt.Ar.of_sl hG⟩ HBI.out.1.1 HBI.out.1.2 HFT.out HBI.out.2.1 HBI.out.2.2)
              dsimp only [pipeC] at r1 HSTP
              have hc := fun i => cell_of_row _ _ i _ _ _ r1
              have hz := (Array.getElem?_eq_some_iff.1 r1).1
              clear r1 hL hG
              go_wp2_with fail
              refine HSTP.out.mono ?_
              rintro en y ⟨v, rfl, ⟨L', G', rfl, hL', hG'⟩, hb2⟩
              obtain ⟨LA', Lc', rfl, _, _⟩ := hL'.form
              obtain ⟨GA', Gc', rfl, _, _⟩ := hG'.form
              have hnx := HTf.out.step HBP.out hb2 hL' hG'
              obtain ⟨LA4, Lc4, GA4, Gc4, hrow3, _, _, _, _⟩ := HTf.out.on hb2
              dsimp only [pipeC] at hrow3 hnx
              clear hb2 hL' hG' hc hz HSTP
              go_wp2_with (
                refine wpList_store_row rfl 45 (.tmp 16) (.tmp 100) rfl w3.heap.size _ rfl rfl 45 _ hrow3 info_pipe rfl (by simp [Value.oneCell']) ?_
                refine Kt.foldL (fun W => TkRel w3 w3.heap.size (stepF q 4) _ w2.heap.size W) hnx (fun W hW => ?_)
                clear hnx hrow3
                have HW := Lib.hid hW
                clear hW)
              have hwk := wrap_k3 (show k ≤ 1000 from Nat.le_trans (Nat.le_of_lt hlt) (Nat.le_trans HU2.out.1 HOK.out.f))
              go_roundw
              case rel => exact ⟨k + 1, hlt, congrArg (Value.int .i64) hwk, Lib.hid (by rw [HNX.out, HTW.out]; exact HW.out)⟩
              case measure => rw [hwk]; exact meas3 hlt
            · rw [HD.out, show txts (resp 5) = txts [⟨14, 0, 0, 0, []⟩] from rfl, wire_one (by decide), ← List.append_assoc, ← List.append_assoc] at HTW
              rw [show respK 5 = 14 from rfl]
              go_wp2_with fail
              refine (states_calls 14 0 0 0 ByteArray.empty (by decide) _).mono ?_
              rintro en x6 ⟨rfl, hb⟩
              have HT6 := Lib.hid (HT4.out.on hb)
              clear hb HT4
              go_wp2_with fail
              refine (write_s _ (X ++ seg (tokP a e) ++ seg ⟨11, 0, 0, 0, x.data.toList⟩) (seg ⟨14, 0, 0, 0, []⟩) _ HT6.out.bd (by have := HXL.out; have := seg_len (tok_ok HA.out.1 HA.out.2); have h2 := seg_len HDOK.out; have h3 := seg_len (show Okp ⟨14, 0, 0, 0, []⟩ by decide); rw [HD.out] at h2; rw [List.length_append, List.length_append]; omega)).mono ?_
              rintro en x7 ⟨rfl, hbd, hbw, hk7⟩
              have HTf := Lib.hid (HT6.out.write hbd hbw hk7)
              clear hbd hbw hk7 HT6
              obtain ⟨LA3, Lc3, GA3, Gc3, r1, hL, hG, _, _⟩ := HTf.out
              have HSTP := Lib.hid (step_ok (.agg (pipeC q LA3 Lc3 GA3 Gc3)) q 5 x7 ⟨_, _, rfl, Kt.Ar.of_sl hL, Kt.Ar.of_sl hG⟩ HBI.out.1.1 HBI.out.1.2 HFT.out HBI.out.2.1 HBI.out.2.2)
              dsimp only [pipeC] at r1 HSTP
              have hc := fun i => cell_of_row _ _ i _ _ _ r1
              have hz := (Array.getElem?_eq_some_iff.1 r1).1
              clear r1 hL hG
              go_wp2_with fail
              refine HSTP.out.mono ?_
              rintro en y ⟨v, rfl, ⟨L', G', rfl, hL', hG'⟩, hb2⟩
              obtain ⟨LA', Lc', rfl, _, _⟩ := hL'.form
              obtain ⟨GA', Gc', rfl, _, _⟩ := hG'.form
              have hnx := HTf.out.step HBP.out hb2 hL' hG'
              obtain ⟨LA4, Lc4, GA4, Gc4, hrow3, _, _, _, _⟩ := HTf.out.on hb2
              dsimp only [pipeC] at hrow3 hnx
              clear hb2 hL' hG' hc hz HSTP
              go_wp2_with (
                refine wpList_store_row rfl 45 (.tmp 16) (.tmp 100) rfl w3.heap.size _ rfl rfl 45 _ hrow3 info_pipe rfl (by simp [Value.oneCell']) ?_
                refine Kt.foldL (fun W => TkRel w3 w3.heap.size (stepF q 5) _ w2.heap.size W) hnx (fun W hW => ?_)
                clear hnx hrow3
                have HW := Lib.hid hW
                clear hW)
              have hwk := wrap_k3 (show k ≤ 1000 from Nat.le_trans (Nat.le_of_lt hlt) (Nat.le_trans HU2.out.1 HOK.out.f))
              go_roundw
              case rel => exact ⟨k + 1, hlt, congrArg (Value.int .i64) hwk, Lib.hid (by rw [HNX.out, HTW.out]; exact HW.out)⟩
              case measure => rw [hwk]; exact meas3 hlt
      · obtain rfl : k = used := by omega
        have hT : us.take k = us := List.take_of_length_le (by rw [HUL.out]; exact Nat.le_refl _)
        rw [hT] at HT
        have hbr : Below w3.heap.size w3 wr := by obtain ⟨_, _, _, _, _, _, _, _, h5⟩ := HT.out; exact h5
        have HLT : Hid (w.heap.size < w3.heap.size + 1 ∧ w1.heap.size < w3.heap.size + 1) := Lib.hid ⟨Nat.lt_succ_of_lt (Array.getElem?_eq_some_iff.1 HO.out.1).1, Nat.lt_succ_of_lt (Array.getElem?_eq_some_iff.1 HO.out.2).1⟩
        have HO0 := Lib.hid ((hbr.block _ (Array.getElem?_eq_some_iff.1 HO.out.1).1).trans HO.out.1)
        have HO1 := Lib.hid ((hbr.block _ (Array.getElem?_eq_some_iff.1 HO.out.2).1).trans HO.out.2)
        have HBR := Lib.hid (HB3.out.trans (hbr.mono HB3.out.size))
        have HSTR := Lib.hid (string_k (w3.heap.size + 1) (tWire a e l us) wr.drew HT.out.bd)
        have HUSZ := Lib.hid (Nat.le_succ_of_le HB3.out.size)
        obtain ⟨TW, hTW⟩ : ∃ x, bt (tWire a e l us) = x := ⟨_, rfl⟩
        rw [hTW] at HSTR
        have HTW := Lib.hid hTW
        clear hT hbr hTW
        go_upto_region 23 with fail
        refine Kt.G.start 3 (fun W => W.heap[w1.heap.size]? = some (.cells #[.int .i64 code, .string got, .int .i64 dn, .int .i64 k] 26 (0, 0)) ∧ W.heap[w.heap.size]? = some (.cells #[.int .i64 0, .string ⟨#[]⟩, .int .i64 0, .int .i64 0, .string ⟨#[]⟩] 28 (0, 0))) (by kernel_rfl) ⟨HO1.out, HO0.out⟩ (fun hHeld => ?_)
        refine Kt.G.take 0 { dst := some 103, op := Op.load 26 (Operand.tmp 12), type := 26, pos := "talk.go:60", after := #[], guard := none } ?_ hHeld rfl (by kernel_rfl) (fun _ _ _ h => h) (by rfl) ?_ ?_
        rotate_left
        · intro w hSw; have q := fun i => cell_of_row _ _ i _ _ _ hSw.1; go_simp; try with_reducible rfl
        try simp only [Act.put, List.setIfInBounds_toArray, List.set_cons_zero, List.set_cons_succ]
        refine Kt.G.one 1 { dst := some 104, op := Op.call { callee := Callee.value (Operand.func 17), args := #[Operand.tmp 18], argTypes := #[51] }, type := 9, pos := "talk.go:60", after := #[], guard := none } rfl (by kernel_rfl) (by rfl) (fun K hK => ?_)
        go_simp
        refine HSTR.out.mono ?_; rintro en x8 ⟨rfl, hb8, hk8⟩
        have HB8 := Lib.hid hb8
        refine hK.out _ _ (fun _ => ⟨(hb8.block _ HLT.out.2).trans hHeld.1, (hb8.block _ HLT.out.1).trans hHeld.2⟩) (fun hHeld => ?_)
        have hHeld := hHeld rfl
        clear hK K
        try simp only [Act.put, List.setIfInBounds_toArray, List.set_cons_zero, List.set_cons_succ]
        clear hb8 hk8
        refine Kt.G.takeP 2 { dst := some 105, op := Op.build 28 #[(0, Operand.tmp 103), (1, Operand.tmp 104)], type := 28, pos := "talk.go:60", after := #[{ on := 0, ground := Ground.data }, { on := 1, ground := Ground.data }], guard := none } ?_ (fun _ => hHeld) rfl (by kernel_rfl) (fun _ _ _ h => h) (by rfl) ?_ ?_
        rotate_left
        · intro w; go_simp; try with_reducible rfl
        try simp only [Act.put, List.setIfInBounds_toArray, List.set_cons_zero, List.set_cons_succ]
        refine Kt.G.one 3 { dst := none, op := Op.store 28 (Operand.tmp 10) (Operand.tmp 105), type := 0, pos := "talk.go:60", after := #[{ on := 2, ground := Ground.data }, { on := 1, ground := Ground.chain }, { on := 0, ground := Ground.phase }, { on := 1, ground := Ground.phase }, { on := 2, ground := Ground.phase }], guard := none } rfl (by kernel_rfl) (by rfl) (fun K hK => ?_)
        have q0 := fun i => cell_of_row _ _ i _ _ _ hHeld.2
        have f0 := fun i => frozen_of_row _ _ i _ _ hHeld.2
        have z0 := (Array.getElem?_eq_some_iff.1 hHeld.2).1
        have HX8 := Lib.hid hHeld.2
        go_simp
        refine hK.out _ _ (Kt.G.late (by kernel_rfl)) (fun _ => ?_)
        clear hK K
        try simp only [Act.put, List.setIfInBounds_toArray, List.set_cons_zero, List.set_cons_succ]
        refine Kt.G.takeP 4 { dst := some 11, op := Op.assign (Operand.const (Value.int IntKind.i64 0)), type := 24, pos := "talk.go:60", after := #[{ on := 3, ground := Ground.chain }, { on := 0, ground := Ground.phase }, { on := 1, ground := Ground.phase }, { on := 2, ground := Ground.phase }, { on := 3, ground := Ground.phase }], guard := none } ?_ (Kt.G.late (by kernel_rfl)) rfl (by kernel_rfl) (fun _ _ _ h => h) (by rfl) ?_ ?_
        rotate_left
        · intro w; go_simp; try with_reducible rfl
        try simp only [Act.put, List.setIfInBounds_toArray, List.set_cons_zero, List.set_cons_succ]
        refine Kt.G.done (by kernel_rfl) (NoPanic.normal ?_) _
        go_wp2_with fail
        refine bodyPost_ret (v := .tuple #[tkV code (cat p.gs) (doneOf l p) k (bt (tWire a e l (fs.take k))), .int .i64 0]) (by simp [tkV, results, Tryd.results7, go_sem, q0, HUS.out, HTW.out, HG.out.1, HG.out.2]) rfl ⟨rfl, ?_⟩
        have HBX := HBR.out.drew.trans (HB8.out.mono HUSZ.out)
        repeat (first | with_reducible exact HBX | with_reducible refine Kt.balloc ?_ _ | with_reducible refine Kt.bset ?_ (by simp) _)
  · exact absurd HOK.out hno
end Go.Proofs.YtmnmlnnhngnfbaaDoor
