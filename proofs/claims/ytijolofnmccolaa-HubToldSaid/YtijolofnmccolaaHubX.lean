/- The law HubTwice, walked. -/
import Derived.Test.YtijolofnmccolaaHubE
namespace Go.Proofs.Ytijolofnmccolaa
open Go.RowKit Go.Proofs.Ytijolofnmccolaa.SetP
theorem eq_hub_yes (c : Int) (a : List Int) (hl : a.length = 32) (w : World) : (binOp .eql 26 (HV c a) (HV c a)).run Try.prog w = .ok (.bool true) w :=
  ((Kt.eq_ia (P := Try.prog) .i64 26 hubTy 12 (by omega) fit_hub ok_hub rfl rfl rfl (fun _ => rfl) (c :: a) (c :: a) (by rw [List.length_cons, hl]; rfl) (by rw [List.length_cons, hl]; rfl)).1 rfl w).1
theorem guard_type : Program.eqGuardType Try.prog Try.prog.depth 26 = false := by kernel_rfl
theorem guard_hub (x y : Operand) (c d : Int) (a b : List Int) (w : World) : (eqGuard .eql 26 x y (HV c a) (HV d b)).run Try.prog w = .ok () w := run_eqGuard_agg w .eql 26 x y _ _ guard_type
theorem new_box (W : World) (c : Int) (x : List Int) : HBox W.heap.size c x (W.alloc (.cells (Kt.ia .i64 (c :: x)) 26)) := heap_alloc_new W _
theorem new_bel (W : World) (c : Int) (x : List Int) : Below W.heap.size W (W.alloc (.cells (Kt.ia .i64 (c :: x)) 26)) := Kt.balloc (Below.refl _ W) _
theorem plug_two (c : Int) (ps : List Int) (hl : ps.length = 32) (hf : Fit ps) (port : Int) (there : Bool) : ∃ a n, a.length = 32 ∧ (∀ W, Calls Try.prog 12 #[HV c ps, .int .i64 port, .bool there] W (Gives c a n W)) ∧ (∀ W, Calls Try.prog 12 #[HV c a, .int .i64 port, .bool there] W (Gives c a n W)) := by
  obtain ⟨k1, k2, _⟩ := plugR_keeps c ps hl hf port there
  refine ⟨_, _, k1, fun W => plug_calls c ps hl hf port there W, fun W => ?_⟩
  have h := plug_calls c _ k1 k2 port there W
  rw [plugR_twice c ps hl hf port there] at h
  exact h
theorem tick_two (c : Int) (ps : List Int) (hl : ps.length = 32) (hf : Fit ps) : ∃ a n, a.length = 32 ∧ (∀ W, Calls Try.prog 13 #[HV c ps] W (Gives c a n W)) ∧ (∀ W, Calls Try.prog 13 #[HV c a] W (Gives c a n W)) := by
  obtain ⟨k1, k2, _⟩ := tickR_keeps c ps hl hf
  refine ⟨_, _, k1, fun W => tick_calls c ps hl hf W, fun W => ?_⟩
  have h := tick_calls c _ k1 k2 W
  obtain ⟨e1, e2⟩ := tickR_twice c ps hl
  rw [e1, e2] at h
  exact h
theorem ctl_two (c : Int) (ps : List Int) (hl : ps.length = 32) (hf : Fit ps) (s : ByteArray) (W : World) : Calls Try.prog 10 #[HV c ps, .string s] W fun e W' => ∃ a t n, (CtlRet c a t n W e W' ∧ a.length = 32) ∧ ∀ V, Calls Try.prog 10 #[HV c a, .string s] V fun e V' => ∃ t, CtlRet c a t n V e V' := by
  refine (ctl_calls c ps hl hf s W).mono ?_
  rintro e W' ⟨a, t, n, hc, hr⟩
  obtain ⟨k1, k2, k3⟩ := ctlAll_keeps hl hf hc
  refine ⟨a, t, n, ⟨hr, k1⟩, fun V => ?_⟩
  refine (ctl_calls c a k1 k2 s V).mono ?_
  rintro e V' ⟨a', t', n', hc', hr'⟩
  obtain ⟨rfl, rfl⟩ := ctl_twice hl hc k3 hc'
  exact ⟨t', hr'⟩
set_option maxRecDepth 100000 in
set_option maxHeartbeats 4000000 in
theorem twice_walk (v0 v1 v2 v3 : Value) (w : World) (r0 : Fr.RdV w reachBytes hubTy v0) (r1 : Fr.RdV w reachBytes (.int .i64) v1) (r2 : Fr.RdV w reachBytes .bool v2) (r3 : Fr.RdV w reachBytes .string v3) :
    Calls Try.prog 7 #[v0, v1, v2, v3] w fun e w' => e = .returned (.bool true) ∧ Below w.heap.size w w' := by
  obtain ⟨c, ps, rfl, hl, hf⟩ := hub_in r0
  obtain ⟨port, e, _⟩ := r1; cases e
  obtain ⟨there, e⟩ := r2; cases e
  obtain ⟨s, e, _⟩ := r3; cases e
  obtain ⟨a, n, hla, hp1, hp2⟩ := plug_two c ps hl hf port there
  obtain ⟨d, m, hld, ht1, ht2⟩ := tick_two c ps hl hf
  have HP1 := Lib.hid hp1
  have HP2 := Lib.hid hp2
  have HT1 := Lib.hid ht1
  have HT2 := Lib.hid ht2
  have HC1 := Lib.hid (ctl_two c ps hl hf s)
  clear hp1 hp2 ht1 ht2 hf
  have HL := Lib.hid hl
  have HLA := Lib.hid hla
  have HLD := Lib.hid hld
  clear hl hla hld
  have b0 : HBox w.heap.size c ps (w.alloc (.cells (Kt.ia .i64 (c :: ps)) 26)) := heap_alloc_new w _
  have hbel := Kt.balloc (Below.refl _ w) (.cells (Kt.ia .i64 (c :: ps)) 26)
  unfold HV
  go_enter Try.func7, Try.ntmps7
  go_wp2_with (refine load_hub rfl (.tmp 4) rfl w.heap.size rfl c ps HL.out b0 ?_)
  refine (HP1.out _).mono ?_
  rintro en w1 ⟨rfl, hb⟩
  replace b0 := (b0.on hb).on (new_bel w1 c a)
  replace hbel := Kt.bthen (Kt.bthen hbel hb) (new_bel w1 c a)
  have b1 := new_box w1 c a
  clear hb
  go_wp2_with (first
    | (refine store_hub_new rfl (.tmp 9) (.tmp 28) rfl w1.heap.size rfl rfl c a HLA.out rfl _ rfl ?_)
    | (refine load_hub rfl (.tmp 9) rfl w1.heap.size rfl c a HLA.out b1 ?_))
  refine (HP2.out _).mono ?_
  rintro en w2 ⟨rfl, hb⟩
  replace b0 := (b0.on hb).on (new_bel w2 c a)
  replace b1 := (b1.on hb).on (new_bel w2 c a)
  replace hbel := Kt.bthen (Kt.bthen hbel hb) (new_bel w2 c a)
  have b2 := new_box w2 c a
  clear hb
  go_wp2_with (first
    | (refine store_hub_new rfl (.tmp 11) (.tmp 35) rfl w2.heap.size rfl rfl c a HLA.out rfl _ rfl ?_)
    | (refine load_hub rfl (.tmp 4) rfl w.heap.size rfl c ps HL.out b0 ?_))
  refine (HC1.out _).mono ?_
  rintro en w3 ⟨q, t, k, ⟨⟨rfl, hb⟩, hlq⟩, hc2⟩
  have HLQ := Lib.hid hlq
  have HC2 := Lib.hid hc2
  clear hlq hc2
  replace b0 := (b0.on hb).on (new_bel w3 c q)
  replace b1 := (b1.on hb).on (new_bel w3 c q)
  replace b2 := (b2.on hb).on (new_bel w3 c q)
  replace hbel := Kt.bthen (Kt.bthen hbel hb) (new_bel w3 c q)
  have b3 := new_box w3 c q
  clear hb
  go_wp2_with (first
    | (refine store_hub_new rfl (.tmp 13) (.tmp 41) rfl w3.heap.size rfl rfl c q HLQ.out rfl _ rfl ?_)
    | (refine load_hub rfl (.tmp 13) rfl w3.heap.size rfl c q HLQ.out b3 ?_))
  refine (HC2.out _).mono ?_
  rintro en w4 ⟨t2, rfl, hb⟩
  replace b0 := (b0.on hb).on (new_bel w4 c q)
  replace b1 := (b1.on hb).on (new_bel w4 c q)
  replace b2 := (b2.on hb).on (new_bel w4 c q)
  replace b3 := (b3.on hb).on (new_bel w4 c q)
  replace hbel := Kt.bthen (Kt.bthen hbel hb) (new_bel w4 c q)
  have b4 := new_box w4 c q
  clear hb
  go_wp2_with (first
    | (refine store_hub_new rfl (.tmp 16) (.tmp 48) rfl w4.heap.size rfl rfl c q HLQ.out rfl _ rfl ?_)
    | (refine load_hub rfl (.tmp 4) rfl w.heap.size rfl c ps HL.out b0 ?_))
  refine (HT1.out _).mono ?_
  rintro en w5 ⟨rfl, hb⟩
  replace b0 := (b0.on hb).on (new_bel w5 c d)
  replace b1 := (b1.on hb).on (new_bel w5 c d)
  replace b2 := (b2.on hb).on (new_bel w5 c d)
  replace b3 := (b3.on hb).on (new_bel w5 c d)
  replace b4 := (b4.on hb).on (new_bel w5 c d)
  replace hbel := Kt.bthen (Kt.bthen hbel hb) (new_bel w5 c d)
  have b5 := new_box w5 c d
  clear hb
  go_wp2_with (first
    | (refine store_hub_new rfl (.tmp 19) (.tmp 54) rfl w5.heap.size rfl rfl c d HLD.out rfl _ rfl ?_)
    | (refine load_hub rfl (.tmp 19) rfl w5.heap.size rfl c d HLD.out b5 ?_))
  refine (HT2.out _).mono ?_
  rintro en w6 ⟨rfl, hb⟩
  replace b0 := (b0.on hb).on (new_bel w6 c d)
  replace b1 := (b1.on hb).on (new_bel w6 c d)
  replace b2 := (b2.on hb).on (new_bel w6 c d)
  replace b3 := (b3.on hb).on (new_bel w6 c d)
  replace b4 := (b4.on hb).on (new_bel w6 c d)
  replace b5 := (b5.on hb).on (new_bel w6 c d)
  replace hbel := Kt.bthen (Kt.bthen hbel hb) (new_bel w6 c d)
  have b6 := new_box w6 c d
  clear hb
  go_wp2_with (first
    | (refine store_hub_new rfl (.tmp 21) (.tmp 59) rfl w6.heap.size rfl rfl c d HLD.out rfl _ rfl ?_))
  refine (lives_calls _).mono ?_
  rintro en w7 ⟨rfl, hb⟩
  replace b0 := b0.on hb
  replace b1 := b1.on hb
  replace b2 := b2.on hb
  replace b3 := b3.on hb
  replace b4 := b4.on hb
  replace b5 := b5.on hb
  replace b6 := b6.on hb
  replace hbel := Kt.bthen hbel hb
  have EA := fun w => eq_hub_yes c a HLA.out w
  have EQ := fun w => eq_hub_yes c q HLQ.out w
  have EG := fun x y a b w => guard_hub x y c c a b w
  have ED := fun w => eq_hub_yes c d HLD.out w
  go_wp2_with (first
    | (refine load_hub_g rfl (.tmp 9) rfl w1.heap.size rfl c a HLA.out b1 ?_)
    | (refine load_hub_g rfl (.tmp 11) rfl w2.heap.size rfl c a HLA.out b2 ?_)
    | (refine load_hub_g rfl (.tmp 13) rfl w3.heap.size rfl c q HLQ.out b3 ?_)
    | (refine load_hub_g rfl (.tmp 16) rfl w4.heap.size rfl c q HLQ.out b4 ?_)
    | (refine load_hub_g rfl (.tmp 19) rfl w5.heap.size rfl c d HLD.out b5 ?_)
    | (refine load_hub_g rfl (.tmp 21) rfl w6.heap.size rfl c d HLD.out b6 ?_))
  go_ret
  exact ⟨rfl, hbel⟩
end Go.Proofs.Ytijolofnmccolaa
