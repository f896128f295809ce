/- The law HubRight: plainly, and walked. -/
import Derived.Test.YtijolofnmccolaaHubV
import Derived.Deep.QuietTactic
import Derived.BigQuiet
namespace Go.Proofs.Ytijolofnmccolaa
open Go.RowKit Go.Proofs.Ytijolofnmccolaa.SetP
/-- ports that are alike -/
def alike (ps b : List Int) (k : Nat) : Prop := psS b k = psS ps k ∧ psT b k = psT ps k
open Classical in
noncomputable def cntTo (ps b : List Int) : Nat → Nat
  | 0 => 0
  | k + 1 => cntTo ps b k + if alike ps b k then 0 else 1
theorem cnt_yes {ps b : List Int} {k : Nat} (h : alike ps b k) : cntTo ps b (k + 1) = cntTo ps b k := by
  show cntTo ps b k + _ = _
  rw [if_pos h]; rfl
theorem cnt_no {ps b : List Int} {k : Nat} (h : ¬ alike ps b k) : cntTo ps b (k + 1) = cntTo ps b k + 1 := by
  rw [cntTo, if_neg h]
theorem cnt_le' (ps b : List Int) : ∀ k, cntTo ps b k ≤ k
  | 0 => Nat.le_refl _
  | k + 1 => by
    have := cnt_le' ps b k
    by_cases h : alike ps b k
    · rw [cnt_yes h]; omega
    · rw [cnt_no h]; omega
theorem cnt_one {ps b : List Int} (i : Nat) (h : ∀ k, k ≠ i → alike ps b k) : ∀ k, cntTo ps b k ≤ 1 ∧ (k ≤ i → cntTo ps b k = 0)
  | 0 => ⟨Nat.zero_le 1, fun _ => rfl⟩
  | k + 1 => by
    obtain ⟨h1, h2⟩ := cnt_one i h k
    by_cases e : k = i
    · have h0 := h2 (by omega)
      by_cases ha : alike ps b k
      · rw [cnt_yes ha]; omega
      · rw [cnt_no ha]; omega
    · rw [cnt_yes (h k e)]; exact ⟨h1, fun _ => h2 (by omega)⟩
theorem ctl_cnt {c : Int} {ps b : List Int} {s t : ByteArray} {n : Int} (h : Ctl c ps s b t n) : cntTo ps b 16 ≤ 1 ∧ (n ≠ 0 → b = ps) := by
  cases h with
  | on h i hi h1 h2 x hx => exact ⟨(cnt_one i (fun k e => upd_get ps i k _ _ e) 16).1, fun e => absurd rfl e⟩
  | off h i hi h1 h2 x y hx => exact ⟨(cnt_one i (fun k e => upd_get ps i k _ _ e) 16).1, fun e => absurd rfl e⟩
  | _ => exact ⟨(cnt_one 0 (fun k e => ⟨rfl, rfl⟩) 16).1, fun _ => rfl⟩
theorem plugR_apart {c : Int} {ps : List Int} (hr : RightH c ps) (port : Int) (there : Bool) : (∀ k : Nat, (k : Int) ≠ port → alike ps (plugR c ps port there).1 k) ∧ ((plugR c ps port there).2 ≠ 0 → (plugR c ps port there).1 = ps) := by
  unfold plugR
  rw [if_pos hr]
  by_cases h1 : 1 ≤ port ∧ port ≤ c
  · rw [if_pos h1]
    by_cases h2 : psS ps port.toNat = 0
    · rw [if_pos h2]; exact ⟨fun _ _ => ⟨rfl, rfl⟩, fun _ => rfl⟩
    · rw [if_neg h2]
      exact ⟨fun k e => upd_get ps _ k _ _ (by omega), fun e => absurd rfl e⟩
  · rw [if_neg h1]; exact ⟨fun _ _ => ⟨rfl, rfl⟩, fun _ => rfl⟩
theorem chk_wrong {c : Int} {ps : List Int} (h : ¬ RightH c ps) : chk c ps ≠ 0 := fun e => h (chk_zero.1 e)
theorem plugR_wrong {c : Int} {ps : List Int} (hr : ¬ RightH c ps) (port : Int) (there : Bool) : (plugR c ps port there).1 = ps ∧ (plugR c ps port there).2 ≠ 0 := by
  unfold plugR
  rw [if_neg hr]
  exact ⟨rfl, chk_wrong hr⟩
theorem neq_hub_no (c : Int) (a : List Int) (hl : a.length = 32) (w : World) : (binOp .neq 26 (HV c a) (HV c a)).run Try.prog w = .ok (.bool false) w :=
  ((Kt.eq_ia (P := Try.prog) .i64 26 hubTy 12 (by omega) fit_hub ok_hub rfl rfl rfl (fun _ => rfl) (c :: a) (c :: a) (by rw [List.length_cons, hl]; rfl) (by rw [List.length_cons, hl]; rfl)).1 rfl w).2
theorem HBox.sts {b : Nat} {c : Int} {ps : List Int} {w : World} (h : HBox b c ps w) (hl : ps.length = 32) (k : Nat) (hk : k < 16) : w.cell? ⟨b, 1 + k * 2, none⟩ = some (.int .i64 (psS ps k)) ∧ w.cell? ⟨b, 1 + k * 2 + 1, none⟩ = some (.int .i64 (psT ps k)) := by
  have e1 : ps[k * 2]'(by omega) = psS ps k := (getD_at ps _ (by omega)).symm
  have e2 : ps[k * 2 + 1]'(by omega) = psT ps k := (getD_at ps _ (by omega)).symm
  rw [← e1, ← e2]; exact h.port hl k hk
theorem guard_hub_n (x y : Operand) (c d : Int) (a b : List Int) (w : World) : (eqGuard .neq 26 x y (HV c a) (HV d b)).run Try.prog w = .ok () w := run_eqGuard_agg w .neq 26 x y _ _ guard_type
theorem guard_ptype : Program.eqGuardType Try.prog Try.prog.depth 23 = false := by kernel_rfl
theorem guard_port_n (x y : Operand) (a b : Array Value) (w : World) : (eqGuard .neq 23 x y (.agg a) (.agg b)).run Try.prog w = .ok () w := run_eqGuard_agg w .neq 23 x y _ _ guard_ptype
theorem port_cl (s t : Int) : Fr.Cl portTy [.int .i64 s, .int .i64 t] := ⟨by simp, ⟨s, rfl⟩, by simp, ⟨t, rfl⟩, rfl⟩
open Classical in
theorem neq_port (s t x y : Int) (w : World) : (binOp .neq 23 (.agg #[.int .i64 s, .int .i64 t]) (.agg #[.int .i64 x, .int .i64 y])).run Try.prog w = .ok (.bool (!decide ((#[.int .i64 s, .int .i64 t] : Array Value) = #[.int .i64 x, .int .i64 y]))) w :=
  (Fr.eql_agg (P := Try.prog) w 23 portTy 12 (by omega) fit_port ok_port rfl _ _ (port_cl s t) (port_cl x y) rfl rfl).2
open Classical in
theorem neq_port_no (s t : Int) (w : World) : (binOp .neq 23 (.agg #[.int .i64 s, .int .i64 t]) (.agg #[.int .i64 s, .int .i64 t])).run Try.prog w = .ok (.bool false) w := by
  rw [neq_port, decide_eq_true rfl]; rfl
open Classical in
theorem neq_port_yes {s t x y : Int} (h : ¬ (s = x ∧ t = y)) (w : World) : (binOp .neq 23 (.agg #[.int .i64 s, .int .i64 t]) (.agg #[.int .i64 x, .int .i64 y])).run Try.prog w = .ok (.bool true) w := by
  rw [neq_port, decide_eq_false]; rfl
  intro e
  simp at e
  exact h e
/-- the four boxes of the law -/
structure RBox (w : World) (g0 ga gb gd : Nat) (c : Int) (ps a b d : List Int) (W : World) : Prop where
  b0 : HBox g0 c ps W
  b1 : HBox ga c a W
  b2 : HBox gb c b W
  b3 : HBox gd c d W
  bel : Below w.heap.size w W
theorem RBox.drewN {w : World} {g0 ga gb gd : Nat} {c : Int} {ps a b d : List Int} {W : World} (h : RBox w g0 ga gb gd c ps a b d W) (n : Nat) : RBox w g0 ga gb gd c ps a b d (W.drewN n) := ⟨h.b0, h.b1, h.b2, h.b3, ⟨h.bel.os, h.bel.tape, h.bel.output, h.bel.size, h.bel.block⟩⟩
theorem RBox.on {w : World} {g0 ga gb gd : Nat} {c : Int} {ps a b d : List Int} {W W' : World} (h : RBox w g0 ga gb gd c ps a b d W) (hb : Below W.heap.size W W') : RBox w g0 ga gb gd c ps a b d W' := ⟨h.b0.on hb, h.b1.on hb, h.b2.on hb, h.b3.on hb, Kt.bthen h.bel hb⟩
/-- what a right hub's law leans on -/
structure RFacts (c : Int) (port : Int) (ps a b d : List Int) : Prop where
  la : a.length = 32
  lb : b.length = 32
  ld : d.length = 32
  lp : ps.length = 32
  fa : Fit a
  fb : Fit b
  fd : Fit d
  ra : RightH c a
  rb : RightH c b
  rd : RightH c d
  apart : ∀ k : Nat, (k : Int) ≠ port → alike ps a k
  one : cntTo ps b 16 ≤ 1
set_option maxRecDepth 100000 in
set_option maxHeartbeats 4000000 in
theorem right_walk (v0 v1 v2 v3 : Value) (w : World) (r0 : Fr.RdV w reachBytes hubTy v0) (r1 : Fr.RdV w reachBytes (.int .i64) v1) (r2 : Fr.RdV w reachBytes .bool v2) (r3 : Fr.RdV w reachBytes .string v3) :
    Calls Try.prog 4 #[v0, v1, v2, v3] w fun e w' => e = .returned (.bool true) ∧ Below w.heap.size w w' := by
  obtain ⟨c, ps, rfl, hl, hf⟩ := hub_in r0
  obtain ⟨port, e, _⟩ := r1; cases e
  obtain ⟨there, e⟩ := r2; cases e
  obtain ⟨s, e, hss⟩ := r3; cases e
  have HP := Lib.hid (fun W => plug_calls c ps hl hf port there W)
  have HT := Lib.hid (fun W => tick_calls c ps hl hf W)
  have HC := Lib.hid (fun W => ctl_calls c ps hl hf s W)
  have HRF := Lib.hid (fun W => ref_calls c ps hl hf W)
  have HL := Lib.hid hl
  have k1 := plugR_keeps c ps hl hf port there
  have k2 := tickR_keeps c ps hl hf
  have HKA := Lib.hid k1
  have HKD := Lib.hid k2
  have HLA := Lib.hid k1.1
  have HLD := Lib.hid k2.1
  have HW1 := Lib.hid (fun hr => plugR_wrong (c := c) (ps := ps) hr port there)
  have HW2 := Lib.hid (fun hr => (tickR_no (c := c) (ps := ps) hr))
  have HR1 := Lib.hid (fun hr => plugR_apart (c := c) (ps := ps) hr port there)
  have HR2 := Lib.hid (fun hr => tickR_yes (c := c) (ps := ps) hr)
  have HFL : Hid (∀ a t n, CtlAll c ps s a t n → (a.length = 32 ∧ Fit a ∧ (RightH c ps → RightH c a)) ∧ (RightH c ps → cntTo ps a 16 ≤ 1 ∧ (n ≠ 0 → a = ps)) ∧ (¬ RightH c ps → a = ps ∧ n ≠ 0)) := Lib.hid (fun a t n h => ⟨ctlAll_keeps hl hf h, fun hr => by
    rcases h with ⟨_, h⟩ | ⟨h, _⟩
    · exact ctl_cnt h
    · exact absurd hr h, fun hr => by
    rcases h with ⟨h, _⟩ | ⟨_, h1, _, h2⟩
    · exact absurd h hr
    · exact ⟨h1, by rw [h2]; exact chk_wrong hr⟩⟩)
  clear hl hf hss k1 k2
  obtain ⟨a, m, hpr⟩ : ∃ a m, plugR c ps port there = (a, m) := ⟨_, _, rfl⟩
  rw [hpr] at HP HLA HKA HW1 HR1
  obtain ⟨d, o, htr⟩ : ∃ d o, tickR c ps = (d, o) := ⟨_, _, rfl⟩
  rw [htr] at HT HLD HKD HW2 HR2
  dsimp only at HP HLA HKA HW1 HR1 HT HLD HKD HW2 HR2
  clear hpr htr
  have b0 : HBox w.heap.size c ps (w.alloc (.cells (Kt.ia .i64 (c :: ps)) 26)) := heap_alloc_new w _
  have hbel := Kt.balloc (Below.refl _ w) (.cells (Kt.ia .i64 (c :: ps)) 26)
  unfold HV
  go_enter Try.func4, Try.ntmps4
  go_wp2_with (refine load_hub rfl (.tmp 4) rfl w.heap.size rfl c ps HL.out b0 ?_)
  refine (HP.out _).mono ?_
  rintro en w3 ⟨rfl, hb⟩
  replace b0 := (b0.on hb).on (new_bel w3 c a)
  replace hbel := Kt.bthen (Kt.bthen hbel hb) (new_bel w3 c a)
  have b1 := new_box w3 c a
  clear hb
  go_wp2_with (first
    | (refine store_hub_new rfl (.tmp 9) (.tmp 23) rfl w3.heap.size rfl rfl c a HLA.out rfl _ rfl ?_)
    | (refine load_hub rfl (.tmp 4) rfl w.heap.size rfl c ps HL.out b0 ?_))
  refine (HC.out _).mono ?_
  rintro en w4 ⟨b, t, k, hca, rfl, hb⟩
  have HLB := Lib.hid (HFL.out _ _ _ hca).1.1
  have HB3 := Lib.hid (HFL.out _ _ _ hca)
  clear hca
  replace b0 := (b0.on hb).on (new_bel w4 c b)
  replace b1 := (b1.on hb).on (new_bel w4 c b)
  replace hbel := Kt.bthen (Kt.bthen hbel hb) (new_bel w4 c b)
  have b2 := new_box w4 c b
  clear hb
  go_wp2_with (first
    | (refine store_hub_new rfl (.tmp 11) (.tmp 29) rfl w4.heap.size rfl rfl c b HLB.out rfl _ rfl ?_)
    | (refine load_hub rfl (.tmp 4) rfl w.heap.size rfl c ps HL.out b0 ?_))
  refine (HT.out _).mono ?_
  rintro en w5 ⟨rfl, hb⟩
  replace b0 := (b0.on hb).on (new_bel w5 c d)
  replace b1 := (b1.on hb).on (new_bel w5 c d)
  replace b2 := (b2.on hb).on (new_bel w5 c d)
  replace hbel := Kt.bthen (Kt.bthen hbel hb) (new_bel w5 c d)
  have b3 := new_box w5 c d
  clear hb
  go_wp2_with (refine store_hub_new rfl (.tmp 14) (.tmp 35) rfl w5.heap.size rfl rfl c d HLD.out rfl _ rfl ?_)
  refine (lives_calls _).mono ?_
  rintro en w6 ⟨rfl, hb⟩
  have HBX : Hid (RBox w w.heap.size w3.heap.size w4.heap.size w5.heap.size c ps a b d w6) := Lib.hid (RBox.on ⟨b0, b1, b2, b3, hbel⟩ hb)
  clear b0 b1 b2 b3 hb hbel
  have EQ := fun w => neq_hub_no c ps HL.out w
  have EG := fun x y a b w => guard_hub_n x y c c a b w
  by_cases hr : RightH c ps
  rotate_left
  · obtain ⟨ea, hm⟩ := HW1.out hr
    obtain ⟨eb, hk⟩ := HB3.out.2.2 hr
    obtain ⟨ed, ho⟩ := HW2.out hr
    obtain rfl := ea.symm
    obtain rfl := eb.symm
    obtain rfl := ed.symm
    clear ea eb ed
    have e1 : (m != 0) = true := by rw [bne_iff_ne]; exact hm
    have e2 : (k != 0) = true := by rw [bne_iff_ne]; exact hk
    have e3 : (chk c ps != 0) = true := by rw [bne_iff_ne]; exact chk_wrong hr
    subst ho
    have HN := Lib.hid hr
    clear hm hk hr HW1 HW2 HR1 HR2 HB3 HFL HKA HKD
    generalize chk c ps = q at *
    go_wp2_with (first
      | (refine load_hub_g rfl (.tmp 9) rfl w3.heap.size rfl c ps HL.out HBX.out.b1 ?_)
      | (refine load_hub_g rfl (.tmp 11) rfl w4.heap.size rfl c ps HL.out HBX.out.b2 ?_)
      | (refine load_hub_g rfl (.tmp 14) rfl w5.heap.size rfl c ps HL.out HBX.out.b3 ?_)
      | (refine load_hub_g rfl (.tmp 4) rfl w.heap.size rfl c ps HL.out HBX.out.b0 ?_)
      | (refine load_hub rfl (.tmp 4) rfl w.heap.size rfl c ps HL.out HBX.out.b0 ?_))
    refine (HRF.out _).mono ?_
    rintro en w7 ⟨n, rfl, hn, hb7⟩
    have HNB : Hid (n ≠ 0) := Lib.hid fun e => HN.out (hn.1 e)
    have e4 : (n != 0) = true := by rw [bne_iff_ne]; exact HNB.out
    clear hn
    go_wp2_with fail
    go_ret
    exact ⟨rfl, (HBX.out.on hb7).bel⟩
  have HF : Hid (RFacts c port ps a b d) := Lib.hid ⟨HLA.out, HLB.out, HLD.out, HL.out, HKA.out.2.1, HB3.out.1.2.1, HKD.out.2.1, HKA.out.2.2 hr, HB3.out.1.2.2 hr, HKD.out.2.2 hr, (HR1.out hr).1, (HB3.out.2.1 hr).1⟩
  have hm : m = 0 ∨ ((m != 0) = true ∧ ∀ w, (binOp .neq 26 (HV c a) (HV c ps)).run Try.prog w = .ok (.bool false) w) := by
    by_cases h : m = 0
    · exact .inl h
    · refine .inr ⟨by rw [bne_iff_ne]; exact h, ?_⟩
      rw [(HR1.out hr).2 h]; exact EQ
  have hk : k = 0 ∨ ((k != 0) = true ∧ ∀ w, (binOp .neq 26 (HV c b) (HV c ps)).run Try.prog w = .ok (.bool false) w) := by
    by_cases h : k = 0
    · exact .inl h
    · refine .inr ⟨by rw [bne_iff_ne]; exact h, ?_⟩
      rw [(HB3.out.2.1 hr).2 h]; exact EQ
  obtain ⟨-, ho⟩ := HR2.out hr
  subst ho
  have HRT := Lib.hid hr
  clear hr HW1 HW2 HR1 HR2 HB3 HFL HKA HKD HP HT HC EQ HLA HLB HLD
  have HRA := Lib.hid (fun W => ref_calls c a HF.out.la HF.out.fa W)
  have HRB := Lib.hid (fun W => ref_calls c b HF.out.lb HF.out.fb W)
  have HRD := Lib.hid (fun W => ref_calls c d HF.out.ld HF.out.fd W)
  rcases hm with rfl | ⟨e1, EA⟩
  all_goals rcases hk with rfl | ⟨e2, EB⟩
  all_goals
    go_wp2_with (first
      | (refine load_hub_g rfl (.tmp 9) rfl w3.heap.size rfl c a HF.out.la HBX.out.b1 ?_)
      | (refine load_hub_g rfl (.tmp 11) rfl w4.heap.size rfl c b HF.out.lb HBX.out.b2 ?_)
      | (refine load_hub_g rfl (.tmp 14) rfl w5.heap.size rfl c d HF.out.ld HBX.out.b3 ?_)
      | (refine load_hub_g rfl (.tmp 4) rfl w.heap.size rfl c ps HL.out HBX.out.b0 ?_)
      | (refine load_hub rfl (.tmp 4) rfl w.heap.size rfl c ps HL.out HBX.out.b0 ?_))
    refine (HRF.out _).mono ?_
    rintro en w7 ⟨n, rfl, hn, hb7⟩
    obtain rfl : n = 0 := hn.2 HRT.out
    clear hn
    replace HBX := Lib.hid (HBX.out.on hb7)
    clear hb7
    try clear EA e1
    try clear EB e2
    go_wp2_with fail
    go_loopw [16, 79] (fun l i wr => ∃ k : Nat, k ≤ 16 ∧ i = .int .i64 k ∧ l = .int .i64 (cntTo ps b k) ∧ Hid (RBox w w.heap.size w3.heap.size w4.heap.size w5.heap.size c ps a b d wr)) (fun _ i _ => 16 - (intOf i).toNat)
    case atStart => exact ⟨0, by omega, rfl, rfl, HBX⟩
    case round =>
      clear HBX
      obtain ⟨k, hk, rfl, rfl, HBX⟩ := hrel
      by_cases hlt : k < 16
      · have hle := cnt_le' ps b k
        obtain ⟨x0, x1⟩ := HBX.out.b0.sts HL.out k hlt
        obtain ⟨y0, y1⟩ := HBX.out.b2.sts HF.out.lb k hlt
        have ek : (k : Int) < 16 := by omega
        have NP := fun x y a b w => guard_port_n x y a b w
        have HSA := Lib.hid (fun h => HF.out.apart k h)
        obtain ⟨z0, z1⟩ := HBX.out.b1.sts HF.out.la k hlt
        have HNXT : Hid ((alike ps b k → cntTo ps b (k + 1) = cntTo ps b k) ∧ (¬ alike ps b k → cntTo ps b (k + 1) = cntTo ps b k + 1)) := Lib.hid ⟨cnt_yes, cnt_no⟩
        generalize cntTo ps b k = n at *
        by_cases hal : alike ps b k
        · have HN2 := Lib.hid (HNXT.out.1 hal)
          rw [hal.1] at y0
          rw [hal.2] at y1
          have NE := neq_port_no (psS ps k) (psT ps k)
          clear hal
          go_wp2_with fail
          go_quiet (fail)
          by_cases hp : (k : Int) = port
          · have e5 : ((k : Int) != port) = false := by rw [bne_eq_false_iff_eq]; exact hp
            clear hp
            go_wp2_with fail
            go_quiet (fail)
            go_wp2_with fail
            go_roundw
            case rel => exact ⟨k + 1, by omega, by go_num, by rw [HN2.out], Lib.hid (HBX.out.drewN _)⟩
            case measure => (simp [intOf] <;> omega)
          · have e5 : ((k : Int) != port) = true := by rw [bne_iff_ne]; exact hp
            rw [(HSA.out hp).1] at z0
            rw [(HSA.out hp).2] at z1
            clear hp
            go_wp2_with fail
            go_quiet (fail)
            go_wp2_with fail
            go_roundw
            case rel => exact ⟨k + 1, by omega, by go_num, by rw [HN2.out], Lib.hid (HBX.out.drewN _)⟩
            case measure => (simp [intOf] <;> omega)
        · have HN2 := Lib.hid (HNXT.out.2 hal)
          have NE := neq_port_no (psS ps k) (psT ps k)
          have NY := neq_port_yes (s := psS b k) (t := psT b k) (x := psS ps k) (y := psT ps k) hal
          clear hal
          generalize psS b k = s1 at *
          generalize psT b k = t1 at *
          go_wp2_with fail
          go_quiet (fail)
          by_cases hp : (k : Int) = port
          · have e5 : ((k : Int) != port) = false := by rw [bne_eq_false_iff_eq]; exact hp
            clear hp
            go_wp2_with fail
            go_quiet (fail)
            go_wp2_with fail
            go_roundw
            case rel => exact ⟨k + 1, by omega, by go_num, by rw [HN2.out]; go_num, Lib.hid (HBX.out.drewN _)⟩
            case measure => (simp [intOf] <;> omega)
          · have e5 : ((k : Int) != port) = true := by rw [bne_iff_ne]; exact hp
            rw [(HSA.out hp).1] at z0
            rw [(HSA.out hp).2] at z1
            clear hp
            go_wp2_with fail
            go_quiet (fail)
            go_wp2_with fail
            go_roundw
            case rel => exact ⟨k + 1, by omega, by go_num, by rw [HN2.out]; go_num, Lib.hid (HBX.out.drewN _)⟩
            case measure => (simp [intOf] <;> omega)
      · obtain rfl : k = 16 := by omega
        have hle := HF.out.one
        generalize cntTo ps b 16 = n at *
        have b0 := HBX.out.b0
        have hle2 : (n : Int) ≤ 1 := by omega
        clear hle
        go_wp2_with (refine load_hub_g rfl (.tmp 9) rfl w3.heap.size rfl c a HF.out.la HBX.out.b1 ?_)
        refine (HRA.out _).mono ?_
        rintro en w8 ⟨n1, rfl, hn, hb8⟩
        obtain rfl : n1 = 0 := hn.2 HF.out.ra
        clear hn
        replace HBX := Lib.hid (HBX.out.on hb8)
        clear hb8 b0
        go_wp2_with (refine load_hub_g rfl (.tmp 11) rfl w4.heap.size rfl c b HF.out.lb HBX.out.b2 ?_)
        refine (HRB.out _).mono ?_
        rintro en w9 ⟨n1, rfl, hn, hb8⟩
        obtain rfl : n1 = 0 := hn.2 HF.out.rb
        clear hn
        replace HBX := Lib.hid (HBX.out.on hb8)
        clear hb8
        go_wp2_with (refine load_hub_g rfl (.tmp 14) rfl w5.heap.size rfl c d HF.out.ld HBX.out.b3 ?_)
        refine (HRD.out _).mono ?_
        rintro en w10 ⟨n1, rfl, hn, hb8⟩
        obtain rfl : n1 = 0 := hn.2 HF.out.rd
        clear hn
        replace HBX := Lib.hid (HBX.out.on hb8)
        clear hb8
        go_wp2_with fail
        go_ret
        exact ⟨rfl, HBX.out.bel⟩
end Go.Proofs.Ytijolofnmccolaa
