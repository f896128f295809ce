/- The law TalkWire. -/
import Derived.Test.YtmnmlnnhngnfbaaDoorTlkY
namespace Go.Proofs.YtmnmlnnhngnfbaaDoor
open Go.RowKit Go.Proofs.YtmnmlnnhngnfbaaDoor.PktP Go.Proofs.YtmnmlnnhngnfbaaDoor.Phy Go.Proofs.YtmnmlnnhngnfbaaDoor.Lan
def pkTy : Fr.Ty := .cat 1 (.int .i64) (.cat 1 (.int .i64) (.cat 1 (.int .i64) (.cat 1 (.int .i64) (.cat 1 .string .nil))))
theorem fit_pk : Fr.fits Tryd.prog 12 38 pkTy = true := by kernel_rfl
theorem okk_pk : Fr.eqOk Tryd.prog 12 38 = true := by kernel_rfl
theorem neq_tok (a e : Int) (w : World) : (binOp .neq 38 (.agg #[.int .i64 1, .int .i64 a, .int .i64 e, .int .i64 0, .string ⟨#[]⟩]) (.agg #[.int .i64 1, .int .i64 a, .int .i64 e, .int .i64 0, .string ⟨#[]⟩])).run Tryd.prog w = .ok (.bool false) w := by
  have h1 : Fr.Cl pkTy [.int .i64 1, .int .i64 a, .int .i64 e, .int .i64 0, .string ⟨#[]⟩] := ⟨by simp, ⟨_, rfl⟩, by simp, ⟨_, rfl⟩, by simp, ⟨_, rfl⟩, by simp, ⟨_, rfl⟩, by simp, ⟨_, rfl⟩, rfl⟩
  have h := (Fr.eql_agg (P := Tryd.prog) w 38 pkTy 12 (by omega) fit_pk okk_pk rfl #[.int .i64 1, .int .i64 a, .int .i64 e, .int .i64 0, .string ⟨#[]⟩] #[.int .i64 1, .int .i64 a, .int .i64 e, .int .i64 0, .string ⟨#[]⟩] h1 h1 rfl rfl).2
  rw [h]
  simp
theorem guard_pkT : Program.eqGuardType Tryd.prog Tryd.prog.depth 38 = false := by kernel_rfl
theorem guard_pk (p q : Operand) (a b : Array Value) (w : World) : (eqGuard .neq 38 p q (.agg a) (.agg b)).run Tryd.prog w = .ok () w := run_eqGuard_agg w .neq 38 p q a b guard_pkT
set_option maxRecDepth 100000 in
theorem wired_fail (t : ByteArray) (a e s : Int) (fs : List Int) (U : Value) (w : World) (m : Int) (hm : w.cell? ⟨0, 0, none⟩ = some (.int .i64 m)) (hU : Kt.Ar w U 1 fs.length (ics fs)) (h : ¬ ((1 ≤ a ∧ a ≤ 127) ∧ (1 ≤ e ∧ e ≤ 15) ∧ OkArgs t s fs)) :
    Calls Tryd.prog 4 #[.string t, .int .i64 a, .int .i64 e, .int .i64 s, U] w fun en w' => en = .returned (.bool true) ∧ Below w.heap.size w w' := by
  have HV := Lib.hid (fun W (hW : Below w.heap.size w W) => tlives_calls W m (tkept_cell hW hm))
  have HT := Lib.hid (talk_any t a e s fs U w hU h)
  obtain ⟨UA, uc, rfl, _, _⟩ := hU.form
  clear hU hm h
  dsimp only [tkV] at HT
  go_enter Tryd.func4, Tryd.ntmps4
  go_wp2_with fail
  refine HT.out.mono ?_; rintro en w1 ⟨n, hn, rfl, hb1⟩
  have hne : (n != 0) = true := by rw [bne_iff_ne]; exact hn
  have HB1 := Lib.hid hb1
  clear hb1 HT hn
  go_wp2_with fail
  refine (HV.out _ (Kt.balloc HB1.out _)).mono ?_; rintro en w2 ⟨rfl, hb2⟩
  have HB2 := Lib.hid (Kt.bthen (Kt.balloc HB1.out _) hb2)
  clear hb2 HB1
  go_wp2_with fail
  refine (HV.out _ HB2.out).mono ?_; rintro en w3 ⟨rfl, hb3⟩
  have HB3 := Lib.hid (Kt.bthen HB2.out hb3)
  clear hb3
  go_wp2_with fail
  go_ret
  exact ⟨rfl, HB3.out⟩
set_option maxRecDepth 100000 in
theorem wired_many (t : ByteArray) (a e : Int) (s : Nat) (fs : List Int) (U : Value) (w : World) (m : Int) (hm : w.cell? ⟨0, 0, none⟩ = some (.int .i64 m)) (hU : Kt.Ar w U 1 fs.length (ics fs)) (ha : 1 ≤ a ∧ a ≤ 127) (he : 1 ≤ e ∧ e ≤ 15) (hok : OkArgs t s fs) (h : 300 < fs.length) :
    Calls Tryd.prog 4 #[.string t, .int .i64 a, .int .i64 e, .int .i64 s, U] w fun en w' => en = .returned (.bool true) ∧ Below w.heap.size w w' := by
  have HV := Lib.hid (fun W (hW : Below w.heap.size w W) => tlives_calls W m (tkept_cell hW hm))
  have HT := Lib.hid (talk_good t a e s fs U w hU ha he hok _ rfl _ rfl)
  have hlen : (300 : Int) < fs.length := by omega
  obtain ⟨UA, uc, rfl, _, _⟩ := hU.form
  clear hU hm h ha he hok
  dsimp only [tkV] at HT
  generalize bt (tWire a e (chop s t) (fs.take (carF (p0 (chop s t)) 0 0 fs).2.2)) = TW at *
  generalize carF (p0 (chop s t)) 0 0 fs = R at *
  go_enter Tryd.func4, Tryd.ntmps4
  go_wp2_with fail
  refine HT.out.mono ?_; rintro en w1 ⟨rfl, hb1⟩
  have HB1 := Lib.hid hb1
  clear hb1 HT
  go_wp2_with fail
  refine (HV.out _ (Kt.balloc HB1.out _)).mono ?_; rintro en w2 ⟨rfl, hb2⟩
  have HB2 := Lib.hid (Kt.bthen (Kt.balloc HB1.out _) hb2)
  clear hb2 HB1
  go_wp2_with fail
  refine (HV.out _ HB2.out).mono ?_; rintro en w3 ⟨rfl, hb3⟩
  have HB3 := Lib.hid (Kt.bthen HB2.out hb3)
  clear hb3
  go_wp2_with fail
  go_ret
  exact ⟨rfl, HB3.out⟩
theorem meas5 {L n m : Nat} {z : Int} (hz : z = (m : Int)) (hm : m ≤ L) (hn : n < m := by omega) : L - (intOf (.int .i64 z)).toNat < L - (intOf (.int .i64 (n : Int))).toNat := by
  subst hz
  show L - m < L - n
  omega
set_option maxRecDepth 100000 in
set_option maxHeartbeats 1600000 in
theorem wired_good (t : ByteArray) (a e : Int) (s : Nat) (fs : List Int) (U : Value) (w : World) (m : Int) (hm : w.cell? ⟨0, 0, none⟩ = some (.int .i64 m)) (hU : Kt.Ar w U 1 fs.length (ics fs)) (ha : 1 ≤ a ∧ a ≤ 127) (he : 1 ≤ e ∧ e ≤ 15) (hok : OkArgs t s fs) (h : fs.length ≤ 300)
    (l : List ByteArray) (R : Int × St × Nat) (us : List Int) (hG : Went t s fs l R us) :
    Calls Tryd.prog 4 #[.string t, .int .i64 a, .int .i64 e, .int .i64 s, U] w fun en w' => en = .returned (.bool true) ∧ Below w.heap.size w w' := by
  have HV := Lib.hid (fun W (hW : Below w.heap.size w W) => tlives_calls W m (tkept_cell hW hm))
  have HT := Lib.hid (talk_good t a e s fs U w hU ha he hok l hG.hl R hG.hR)
  rw [← hG.hu] at HT
  have hul : us.length ≤ 300 := by rw [hG.hu, List.length_take]; omega
  obtain ⟨g1, g2, g3⟩ := all_good hG.sz ha he hul
  have HP := Lib.hid (fun W => packets_calls (packs a e (p0 l) us) W g1 (by omega) g3)
  have HLF := Lib.hid hG.left
  have HFT : Hid (∀ f ∈ us, fated f) := Lib.hid (fun f hf => by obtain ⟨j, hj, rfl⟩ := List.getElem_of_mem (hG.fate f hf); exact hok.all j hj)
  have hlen : ¬ (300 : Int) < fs.length := by omega
  obtain ⟨UA, uc, rfl, _, hux⟩ := hU.form
  change Hid (∀ W, Calls _ _ #[.string (bt (tWire a e l us))] W _) at HP
  dsimp only [tkV] at HT
  generalize bt (tWire a e l us) = TW at *
  obtain ⟨pks, hpks⟩ : ∃ x, packs a e (p0 l) us = x := ⟨_, rfl⟩
  rw [hpks] at HP g1 g2 g3
  have HPE := Lib.hid hpks
  have HPK := Lib.hid (And.intro g1 g2)
  obtain ⟨got, hgot⟩ : ∃ x, (⟨(cat R.2.1.gs).toArray⟩ : ByteArray) = x := ⟨_, rfl⟩
  rw [hgot] at HT
  generalize doneOf l R.2.1 = dn at *
  clear hU hm h ha he hok hul g1 g2 g3 hux hgot hG hpks
  go_enter Tryd.func4, Tryd.ntmps4
  go_wp2_with fail
  refine HT.out.mono ?_; rintro en w1 ⟨rfl, hb1⟩
  have HB1 := Lib.hid hb1
  clear hb1 HT
  go_wp2_with fail
  refine (HV.out _ (Kt.balloc HB1.out _)).mono ?_; rintro en w2 ⟨rfl, hb2⟩
  have HB2 := Lib.hid (Kt.bthen (Kt.balloc HB1.out _) hb2)
  have Q2 := Lib.hid (Kt.box1 hb2)
  clear hb2 HB1
  have hq := Q2.out
  have hqc := fun i => cell_of_row _ _ i _ _ _ hq
  have hqz := (Array.getElem?_eq_some_iff.1 hq).1
  clear hq
  go_wp2_with fail
  refine (HP.out _).mono ?_; rintro en w3 ⟨A, c, rfl, hs3, hb3⟩
  have HB3 := Lib.hid (Kt.bthen HB2.out hb3)
  have HS3 := Lib.hid hs3
  have EQ := fun a e w => neq_tok a e w
  have EG := fun p q a b w => guard_pk p q a b w
  clear hb3 hs3 HP hqc hqz
  go_wp2_with fail
  go_loopw [15, 16] (fun vb vi wr => ∃ (n : Nat) (p : St) (r : List Int), n ≤ pks.length ∧ vi = .int .i64 n ∧ vb = .int .i64 p.s ∧ Hid (pks.drop n = packs a e p r) ∧ Hid (LeftF p r) ∧ Hid ((p.s = 0 ∨ p.s = 1) ∧ (p.t = 0 ∨ p.t = 1)) ∧ Hid (∀ f ∈ r, fated f) ∧ wr = w3) (fun _ vi _ => pks.length - (intOf vi).toNat)
  case atStart => exact ⟨0, p0 l, us, Nat.zero_le _, rfl, rfl, Lib.hid HPE.out.symm, HLF, Lib.hid ⟨.inl rfl, .inl rfl⟩, HFT, rfl⟩
  case round =>
    obtain ⟨n, p, r, hn, rfl, rfl, HD, HLE, HBI, HFA, rfl⟩ := hrel
    rcases packs_cases a e r p HLE.out with h0 | ⟨f, r', f2, fr, hne, hle, hsub, _, hsh⟩
    · have hnl : n = pks.length := by
        have := congrArg List.length (HD.out.trans h0)
        rw [List.length_drop, List.length_nil] at this
        omega
      subst hnl
      clear h0
      go_wp2_with fail
      go_ret
      exact ⟨rfl, HB3.out⟩
    · have hd := HD.out.trans hsh
      have hft := HFA.out f fr
      have hst := step_s f hne
      have hbt := step_bits f HBI.out.1 HBI.out.2
      have hfx : f = 1 ∨ f = 3 ∨ f = 4 ∨ f = 5 := by unfold fated at hft; omega
      have HFA' := Lib.hid (fun g hg => HFA.out g (hsub g hg))
      have HLE' := Lib.hid hle
      have HBI' := Lib.hid hbt
      have hdk : (datP p).k = if p.s = 1 then 11 else 3 := rfl
      have hdl := congrArg List.length hd
      rw [List.length_drop, List.length_cons, List.length_cons, List.length_append] at hdl
      have hgt : ∀ j, pks[n + j]? = (tokP a e :: datP p :: (resp f ++ packs a e (stepF p f) r'))[j]? := fun j => by rw [← List.getElem?_drop, hd]
      have hdrop : ∀ j, pks.drop (n + (2 + j)) = (resp f ++ packs a e (stepF p f) r').drop j := fun j => by
        rw [← List.drop_drop, hd, Nat.add_comm 2 j]; rfl
      have hn9 := HPK.out.2
      obtain ⟨g, o, cap, hv, _, hg, _, _, hc, _⟩ := HS3.out.cells (by omega)
      injection hv with hv1 _ hv2
      subst hv1 hv2
      have hcell : ∀ i q, pks[i]? = some q → ∀ j (hj : j < 5), wr.cell? ⟨g, o + i * 5 + j, none⟩ = (pc1 q)[j]? := fun i q hiq j hj => by
        obtain ⟨hi, rfl⟩ := List.getElem?_eq_some_iff.1 hiq
        have h1 := pcells_get hi j hj
        have hj5 : j < (pc1 pks[i]).length := hj
        obtain ⟨h2, h3⟩ := List.getElem?_eq_some_iff.1 (h1.trans (List.getElem?_eq_getElem hj5))
        rw [List.getElem?_eq_getElem hj5, Nat.add_assoc]
        exact (hc _ h2).trans (by rw [h3])
      have w1k := hcell n _ (by have := hgt 0; rw [Nat.add_zero] at this; exact this)
      have w2k := hcell (n + 1) _ (hgt 1) 0 (by decide)
      have k0 := w1k 0 (by decide)
      have k1 := w1k 1 (by decide)
      have k2 := w1k 2 (by decide)
      have k3 := w1k 3 (by decide)
      have k4 := w1k 4 (by decide)
      have w3k := hcell (n + 2)
      have hg2 := hgt 2
      rw [Nat.add_zero] at k0 w2k
      clear w1k hc hcell hgt
      have hb1 : (n : Int) < pks.length := by omega
      have hb2 : ¬ (pks.length : Int) ≤ (n : Int) + 1 := by omega
      have hs01 := HBI.out.1
      replace k0 : wr.cell? ⟨g, o + n * 5, none⟩ = some (.int .i64 1) := k0
      replace k1 : wr.cell? ⟨g, o + n * 5 + 1, none⟩ = some (.int .i64 a) := k1
      replace k2 : wr.cell? ⟨g, o + n * 5 + 2, none⟩ = some (.int .i64 e) := k2
      replace k3 : wr.cell? ⟨g, o + n * 5 + 3, none⟩ = some (.int .i64 0) := k3
      replace k4 : wr.cell? ⟨g, o + n * 5 + 4, none⟩ = some (.string ⟨#[]⟩) := k4
      replace w2k : wr.cell? ⟨g, o + (n + 1) * 5, none⟩ = some (.int .i64 (datP p).k) := w2k
      have HDR := Lib.hid hdrop
      clear hd hft hbt hle hsub hsh hdrop
      rcases hs01 with hs | hs
      · rw [hs] at hst hdk ⊢
        rw [if_neg (by decide)] at hdk
        rw [hdk] at w2k
        rcases hfx with rfl | rfl | rfl | rfl
        · rw [if_pos rfl] at hst
          have hl1 : (resp 1).length = 1 := rfl
          rw [hl1] at hdl
          have c3 : wr.cell? ⟨g, o + (n + 2) * 5, none⟩ = some (.int .i64 2) := (by have := w3k _ hg2 0 (by decide); rw [Nat.add_zero] at this; exact this)
          have hb3 : (n : Int) + 2 < pks.length := by omega
          have HD1 : Hid (pks.drop (n + 3) = packs a e (stepF p 1) r') := Lib.hid (HDR.out 1)
          have hlen3 : n + 3 ≤ pks.length := by omega
          clear w3k hg2
          go_wp2_with fail
          refine ⟨⟨n + 3, stepF p 1, r', by omega, congrArg (Value.int .i64) (by omega), by rw [hst]; exact congrArg (Value.int .i64) (by decide +kernel), HD1, HLE', HBI', HFA', trivial⟩, ?_⟩
          exact meas5 (by omega) hlen3
        · rw [if_neg (by decide)] at hst
          have hl1 : (resp 3).length = 0 := rfl
          rw [hl1, Nat.zero_add] at hdl
          have HD1 : Hid (pks.drop (n + 2) = packs a e (stepF p 3) r') := Lib.hid (HDR.out 0)
          have hlen2 : n + 2 ≤ pks.length := by omega
          rcases packs_cases a e r' (stepF p 3) HLE'.out with h0 | ⟨f3, r3, _, _, _, _, _, _, hsh3⟩
          · rw [h0, List.length_nil] at hdl
            have hb3 : ¬ (n : Int) + 2 < pks.length := by omega
            clear w3k hg2 h0
            go_wp2_with fail
            refine ⟨⟨n + 2, stepF p 3, r', by omega, congrArg (Value.int .i64) (by omega), by rw [hst], HD1, HLE', HBI', HFA', trivial⟩, ?_⟩
            exact meas5 (by omega) hlen2
          · rw [hsh3] at hg2
            have c3 : wr.cell? ⟨g, o + (n + 2) * 5, none⟩ = some (.int .i64 1) := (by have := w3k _ hg2 0 (by decide); rw [Nat.add_zero] at this; exact this)
            rw [hsh3, List.length_cons] at hdl
            have hb3 : (n : Int) + 2 < pks.length := by omega
            clear w3k hg2 hsh3
            go_wp2_with fail
            refine ⟨⟨n + 2, stepF p 3, r', by omega, congrArg (Value.int .i64) (by omega), by rw [hst], HD1, HLE', HBI', HFA', trivial⟩, ?_⟩
            exact meas5 (by omega) hlen2
        · rw [if_neg (by decide)] at hst
          have hl1 : (resp 4).length = 1 := rfl
          rw [hl1] at hdl
          have c3 : wr.cell? ⟨g, o + (n + 2) * 5, none⟩ = some (.int .i64 10) := (by have := w3k _ hg2 0 (by decide); rw [Nat.add_zero] at this; exact this)
          have hb3 : (n : Int) + 2 < pks.length := by omega
          have HD1 : Hid (pks.drop (n + 3) = packs a e (stepF p 4) r') := Lib.hid (HDR.out 1)
          have hlen3 : n + 3 ≤ pks.length := by omega
          clear w3k hg2
          go_wp2_with fail
          refine ⟨⟨n + 3, stepF p 4, r', by omega, congrArg (Value.int .i64) (by omega), by rw [hst], HD1, HLE', HBI', HFA', trivial⟩, ?_⟩
          exact meas5 (by omega) hlen3
        · rw [if_neg (by decide)] at hst
          have hl1 : (resp 5).length = 1 := rfl
          rw [hl1] at hdl
          have c3 : wr.cell? ⟨g, o + (n + 2) * 5, none⟩ = some (.int .i64 14) := (by have := w3k _ hg2 0 (by decide); rw [Nat.add_zero] at this; exact this)
          have hb3 : (n : Int) + 2 < pks.length := by omega
          have HD1 : Hid (pks.drop (n + 3) = packs a e (stepF p 5) r') := Lib.hid (HDR.out 1)
          have hlen3 : n + 3 ≤ pks.length := by omega
          clear w3k hg2
          go_wp2_with fail
          refine ⟨⟨n + 3, stepF p 5, r', by omega, congrArg (Value.int .i64) (by omega), by rw [hst], HD1, HLE', HBI', HFA', trivial⟩, ?_⟩
          exact meas5 (by omega) hlen3
      · rw [hs] at hst hdk ⊢
        rw [if_pos rfl] at hdk
        rw [hdk] at w2k
        rcases hfx with rfl | rfl | rfl | rfl
        · rw [if_pos rfl] at hst
          have hl1 : (resp 1).length = 1 := rfl
          rw [hl1] at hdl
          have c3 : wr.cell? ⟨g, o + (n + 2) * 5, none⟩ = some (.int .i64 2) := (by have := w3k _ hg2 0 (by decide); rw [Nat.add_zero] at this; exact this)
          have hb3 : (n : Int) + 2 < pks.length := by omega
          have HD1 : Hid (pks.drop (n + 3) = packs a e (stepF p 1) r') := Lib.hid (HDR.out 1)
          have hlen3 : n + 3 ≤ pks.length := by omega
          clear w3k hg2
          go_wp2_with fail
          refine ⟨⟨n + 3, stepF p 1, r', by omega, congrArg (Value.int .i64) (by omega), by rw [hst]; exact congrArg (Value.int .i64) (by decide +kernel), HD1, HLE', HBI', HFA', trivial⟩, ?_⟩
          exact meas5 (by omega) hlen3
        · rw [if_neg (by decide)] at hst
          have hl1 : (resp 3).length = 0 := rfl
          rw [hl1, Nat.zero_add] at hdl
          have HD1 : Hid (pks.drop (n + 2) = packs a e (stepF p 3) r') := Lib.hid (HDR.out 0)
          have hlen2 : n + 2 ≤ pks.length := by omega
          rcases packs_cases a e r' (stepF p 3) HLE'.out with h0 | ⟨f3, r3, _, _, _, _, _, _, hsh3⟩
          · rw [h0, List.length_nil] at hdl
            have hb3 : ¬ (n : Int) + 2 < pks.length := by omega
            clear w3k hg2 h0
            go_wp2_with fail
            refine ⟨⟨n + 2, stepF p 3, r', by omega, congrArg (Value.int .i64) (by omega), by rw [hst], HD1, HLE', HBI', HFA', trivial⟩, ?_⟩
            exact meas5 (by omega) hlen2
          · rw [hsh3] at hg2
            have c3 : wr.cell? ⟨g, o + (n + 2) * 5, none⟩ = some (.int .i64 1) := (by have := w3k _ hg2 0 (by decide); rw [Nat.add_zero] at this; exact this)
            rw [hsh3, List.length_cons] at hdl
            have hb3 : (n : Int) + 2 < pks.length := by omega
            clear w3k hg2 hsh3
            go_wp2_with fail
            refine ⟨⟨n + 2, stepF p 3, r', by omega, congrArg (Value.int .i64) (by omega), by rw [hst], HD1, HLE', HBI', HFA', trivial⟩, ?_⟩
            exact meas5 (by omega) hlen2
        · rw [if_neg (by decide)] at hst
          have hl1 : (resp 4).length = 1 := rfl
          rw [hl1] at hdl
          have c3 : wr.cell? ⟨g, o + (n + 2) * 5, none⟩ = some (.int .i64 10) := (by have := w3k _ hg2 0 (by decide); rw [Nat.add_zero] at this; exact this)
          have hb3 : (n : Int) + 2 < pks.length := by omega
          have HD1 : Hid (pks.drop (n + 3) = packs a e (stepF p 4) r') := Lib.hid (HDR.out 1)
          have hlen3 : n + 3 ≤ pks.length := by omega
          clear w3k hg2
          go_wp2_with fail
          refine ⟨⟨n + 3, stepF p 4, r', by omega, congrArg (Value.int .i64) (by omega), by rw [hst], HD1, HLE', HBI', HFA', trivial⟩, ?_⟩
          exact meas5 (by omega) hlen3
        · rw [if_neg (by decide)] at hst
          have hl1 : (resp 5).length = 1 := rfl
          rw [hl1] at hdl
          have c3 : wr.cell? ⟨g, o + (n + 2) * 5, none⟩ = some (.int .i64 14) := (by have := w3k _ hg2 0 (by decide); rw [Nat.add_zero] at this; exact this)
          have hb3 : (n : Int) + 2 < pks.length := by omega
          have HD1 : Hid (pks.drop (n + 3) = packs a e (stepF p 5) r') := Lib.hid (HDR.out 1)
          have hlen3 : n + 3 ≤ pks.length := by omega
          clear w3k hg2
          go_wp2_with fail
          refine ⟨⟨n + 3, stepF p 5, r', by omega, congrArg (Value.int .i64) (by omega), by rw [hst], HD1, HLE', HBI', HFA', trivial⟩, ?_⟩
          exact meas5 (by omega) hlen3
theorem wired_walk (v0 v1 v2 v3 v4 : Value) (w : World) (hsh : w.ShapedOpen Tryd.prog) (r0 : Fr.RdV w reachBytes .string v0) (r1 : Fr.RdV w reachBytes (.int .i64) v1) (r2 : Fr.RdV w reachBytes (.int .i64) v2) (r3 : Fr.RdV w reachBytes (.int .i64) v3) (r4 : Fr.RdV w reachBytes (.slice 1 (.int .i64)) v4) :
    Calls Tryd.prog 4 #[v0, v1, v2, v3, v4] w fun en w' => en = .returned (.bool true) ∧ Below w.heap.size w w' := by
  obtain ⟨m, hm⟩ := tmax_len hsh
  obtain ⟨t, h0, _⟩ := r0
  obtain ⟨a, h1, _⟩ := r1
  obtain ⟨e, h2, _⟩ := r2
  obtain ⟨s, h3, _⟩ := r3
  injection h0 with h0 _
  injection h1 with h1 _
  injection h2 with h2 _
  injection h3 with h3 _
  subst h0 h1 h2 h3
  obtain ⟨fs, _, _, hU⟩ := Kt.ar_ints r4
  by_cases h : (1 ≤ a ∧ a ≤ 127) ∧ (1 ≤ e ∧ e ≤ 15) ∧ OkArgs t s fs
  · obtain ⟨ha, he, hok⟩ := h
    obtain ⟨n, rfl⟩ : ∃ n : Nat, s = n := ⟨s.toNat, by have := hok.s1; omega⟩
    by_cases hf : 300 < fs.length
    · exact wired_many t a e n fs v4 w m hm hU ha he hok hf
    · exact wired_good t a e n fs v4 w m hm hU ha he hok (by omega) _ _ _ (went hok)
  · exact wired_fail t a e s fs v4 w m hm hU h
end Go.Proofs.YtmnmlnnhngnfbaaDoor
