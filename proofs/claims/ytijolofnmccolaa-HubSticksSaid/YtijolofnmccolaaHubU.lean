/- The law HubSticks, walked. -/
import Derived.Test.YtijolofnmccolaaHubS
namespace Go.Proofs.Ytijolofnmccolaa
open Go.RowKit Go.Proofs.Ytijolofnmccolaa.SetP
theorem small_facts {q : Int} (h : small q) (h0 : q ≠ 0) : bits .and .u64 q (q - 1) = 0 ∧ 0 < q ∧ q ≤ 16 := by
  unfold small at h
  rcases h with rfl | rfl | rfl | rfl
  · exact absurd rfl h0
  all_goals (refine ⟨?_, by omega, by omega⟩; decide)
set_option maxHeartbeats 400000 in
theorem ones_small (q : Int) (hq : small q) (w : World) : Calls Try.prog 16 #[.int .u64 q] w fun e w' => e = .returned (.int .i64 (oneN q : Nat)) ∧ w = w' := by
  have HQ := Lib.hid hq
  clear hq
  obtain ⟨n, hn⟩ : ∃ n, oneN q = n := ⟨_, rfl⟩
  rw [hn]
  have HNN := Lib.hid hn
  clear hn
  go_enter Try.func16, Try.ntmps16
  go_wp2
  go_loop [0, 3] (fun a b => (a = .int .u64 q ∧ b = .int .i64 0) ∨ (a = .int .u64 0 ∧ b = .int .i64 n ∧ q ≠ 0)) (fun a _ => (intOf a).toNat)
  case atStart => exact .inl ⟨rfl, rfl⟩
  case round =>
    rcases hrel with ⟨rfl, rfl⟩ | ⟨rfl, rfl, hne⟩
    · by_cases h0 : q = 0
      · have e1 : n = 0 := by rw [← HNN.out]; unfold oneN; rw [if_pos h0]
        subst h0
        go_wp2
        go_ret
        exact ⟨Kt.ret_int (by omega), rfl⟩
      · obtain ⟨hc, hpos, hle⟩ := small_facts HQ.out h0
        have e1 : n = 1 := by rw [← HNN.out]; unfold oneN; rw [if_neg h0]
        have HE := Lib.hid e1
        have H0 := Lib.hid h0
        clear e1 h0
        go_wp2
        go_round
        case rel => exact .inr ⟨rfl, by rw [HE.out]; rfl, H0.out⟩
        case measure => simp [intOf]; omega
    · have HE := Lib.hid hne
      clear hne
      go_wp2
      go_ret
      exact ⟨rfl, rfl⟩
theorem get_psT {ps : List Int} (hl : ps.length = 32) (k : Nat) (hk : k < 16) : ps[k * 2 + 1]'(by omega) = psT ps k := (getD_at ps _ (by omega)).symm
theorem HBox.chg {b : Nat} {c : Int} {ps : List Int} {w : World} (h : HBox b c ps w) (hl : ps.length = 32) (k : Nat) (hk : k < 16) : w.cell? ⟨b, 1 + k * 2 + 1, none⟩ = some (.int .i64 (psT ps k)) := by
  rw [← get_psT hl k hk]; exact (h.port hl k hk).2
structure StickIn (c : Int) (ps : List Int) (w : World) (g0 ga gb gc : Nat) (a b d : List Int) (s : ByteArray) (n : Int) : Prop where
  hg : ∀ k, k < 16 → w.cell? ⟨g0, 1 + k * 2 + 1, none⟩ = some (.int .i64 (psT ps k)) ∧ w.cell? ⟨ga, 1 + k * 2 + 1, none⟩ = some (.int .i64 (psT a k)) ∧ w.cell? ⟨gb, 1 + k * 2 + 1, none⟩ = some (.int .i64 (psT b k)) ∧ w.cell? ⟨gc, 1 + k * 2 + 1, none⟩ = some (.int .i64 (psT d k))
  ha : ∀ k, k < 16 → bits .andNot .i64 (psT ps k) (psT a k) = 0
  hd : ∀ k, k < 16 → bits .andNot .i64 (psT ps k) (psT d k) = 0
  hs : Sticks ps b s n
theorem small_u64 {q : Int} (h : small q) : IntKind.u64.wrap q = q := by
  unfold small at h
  exact IntWalk.u64_in _ (by omega)
set_option maxRecDepth 100000 in
set_option maxHeartbeats 4000000 in
theorem sticks_walk (v0 v1 v2 v3 : Value) (w : World) (r0 : Fr.RdV w reachBytes hubTy v0) (r1 : Fr.RdV w reachBytes (.int .i64) v1) (r2 : Fr.RdV w reachBytes .bool v2) (r3 : Fr.RdV w reachBytes .string v3) :
    Calls Try.prog 5 #[v0, v1, v2, v3] w fun e w' => e = .returned (.bool true) ∧ Below w.heap.size w w' := by
  obtain ⟨c, ps, rfl, hl, hf⟩ := hub_in r0
  obtain ⟨port, e, _⟩ := r1; cases e
  obtain ⟨there, e⟩ := r2; cases e
  obtain ⟨s, e, hss⟩ := r3; cases e
  have HS : Hid (s.size ≤ reachBytes) := Lib.hid hss
  have HP := Lib.hid (fun W => plug_calls c ps hl hf port there W)
  have HT := Lib.hid (fun W => tick_calls c ps hl hf W)
  have HC := Lib.hid (fun W => ctl_calls c ps hl hf s W)
  have HCK := Lib.hid (fun W => check_calls c ps hl hf W)
  have HL := Lib.hid hl
  have HLA := Lib.hid (plugR_keeps c ps hl hf port there).1
  have HLD := Lib.hid (tickR_keeps c ps hl hf).1
  have HPS := Lib.hid (fun hr => plugR_sticks (c := c) (ps := ps) hr hl port there)
  have HTS := Lib.hid (fun hr => tickR_sticks (c := c) (ps := ps) hr hl)
  have HFL : Hid (∀ a t n, CtlAll c ps s a t n → a.length = 32 ∧ (RightH c ps → Sticks ps a s n)) := Lib.hid (fun a t n h => ⟨(ctlAll_keeps hl hf h).1, fun hr => by
    rcases h with ⟨_, h⟩ | ⟨h, _⟩
    · exact ctl_sticks hr hl h
    · exact absurd hr h⟩)
  clear hl hf hss
  obtain ⟨a, m, hpr⟩ : ∃ a m, plugR c ps port there = (a, m) := ⟨_, _, rfl⟩
  rw [hpr] at HP HLA HPS
  obtain ⟨d, o, htr⟩ : ∃ d o, tickR c ps = (d, o) := ⟨_, _, rfl⟩
  rw [htr] at HT HLD HTS
  dsimp only at HP HLA HPS HT HLD HTS
  clear hpr htr
  have b0 : HBox w.heap.size c ps (w.alloc (.cells (Kt.ia .i64 (c :: ps)) 26)) := heap_alloc_new w _
  have hbel := Kt.balloc (Below.refl _ w) (.cells (Kt.ia .i64 (c :: ps)) 26)
  unfold HV
  go_enter Try.func5, Try.ntmps5
  go_wp2_with fail
  refine (lives_calls _).mono ?_
  rintro en w1 ⟨rfl, hb⟩
  replace b0 := b0.on hb
  replace hbel := Kt.bthen hbel hb
  clear hb
  go_wp2_with (refine load_hub_g rfl (.tmp 4) rfl w.heap.size rfl c ps HL.out b0 ?_)
  refine (HCK.out _).mono ?_
  rintro en w2 ⟨n, rfl, hn, hb⟩
  replace b0 := b0.on hb
  replace hbel := Kt.bthen hbel hb
  have HNN := Lib.hid hn.1
  clear hb hn
  by_cases h0 : n = 0
  rotate_left
  · have e1 : (n != 0) = true := by rw [bne_iff_ne]; exact h0
    clear h0
    go_wp2_with fail
    refine (lives_calls _).mono ?_
    rintro en w3 ⟨rfl, hb⟩
    go_wp2_with fail
    go_ret
    exact ⟨rfl, Kt.bthen hbel hb⟩
  subst h0
  have HR := Lib.hid (HNN.out.1 rfl)
  clear HNN
  go_wp2_with (refine load_hub rfl (.tmp 4) rfl w.heap.size rfl c ps HL.out b0 ?_)
  refine (HP.out _).mono ?_
  rintro en w3 ⟨rfl, hb⟩
  replace b0 := (b0.on hb).on (new_bel w3 c a)
  replace hbel := Kt.bthen (Kt.bthen hbel hb) (new_bel w3 c a)
  have b1 := new_box w3 c a
  clear hb
  go_wp2_with (first
    | (refine store_hub_new rfl (.tmp 9) (.tmp 32) rfl w3.heap.size rfl rfl c a HLA.out rfl _ rfl ?_)
    | (refine load_hub rfl (.tmp 4) rfl w.heap.size rfl c ps HL.out b0 ?_))
  refine (HC.out _).mono ?_
  rintro en w4 ⟨b, t, k, hca, rfl, hb⟩
  have HLB := Lib.hid (HFL.out _ _ _ hca).1
  have HST := Lib.hid ((HFL.out _ _ _ hca).2 HR.out)
  clear hca
  replace b0 := (b0.on hb).on (new_bel w4 c b)
  replace b1 := (b1.on hb).on (new_bel w4 c b)
  replace hbel := Kt.bthen (Kt.bthen hbel hb) (new_bel w4 c b)
  have b2 := new_box w4 c b
  clear hb
  go_wp2_with (first
    | (refine store_hub_new rfl (.tmp 11) (.tmp 38) rfl w4.heap.size rfl rfl c b HLB.out rfl _ rfl ?_)
    | (refine load_hub rfl (.tmp 4) rfl w.heap.size rfl c ps HL.out b0 ?_))
  refine (HT.out _).mono ?_
  rintro en w5 ⟨rfl, hb⟩
  replace b0 := (b0.on hb).on (new_bel w5 c d)
  replace b1 := (b1.on hb).on (new_bel w5 c d)
  replace b2 := (b2.on hb).on (new_bel w5 c d)
  replace hbel := Kt.bthen (Kt.bthen hbel hb) (new_bel w5 c d)
  have b3 := new_box w5 c d
  clear hb
  go_wp2_with (refine store_hub_new rfl (.tmp 14) (.tmp 44) rfl w5.heap.size rfl rfl c d HLD.out rfl _ rfl ?_)
  have HIN : Hid (StickIn c ps (w5.alloc (.cells (Kt.ia .i64 (c :: d)) 26)) w.heap.size w3.heap.size w4.heap.size w5.heap.size a b d s k) :=
    Lib.hid ⟨fun k hk => ⟨b0.chg HL.out k hk, b1.chg HLA.out k hk, b2.chg HLB.out k hk, b3.chg HLD.out k hk⟩, fun k hk => HPS.out HR.out k hk, fun k hk => HTS.out HR.out k hk, HST.out⟩
  clear b0 b1 b2 b3 HPS HTS HST HP HT HC HCK HFL HR HLA HLB HLD HL
  generalize (w5.alloc (.cells (Kt.ia .i64 (c :: d)) 26)) = W at *
  go_wp2_with fail
  go_loop [16, 46] (fun l i => ∃ k : Nat, k ≤ 16 ∧ i = .int .i64 k ∧ l = .int .i64 (lostTo ps b k)) (fun _ i => 16 - (intOf i).toNat)
  case atStart => exact ⟨0, by omega, rfl, rfl⟩
  case round =>
    obtain ⟨j, hj, rfl, rfl⟩ := hrel
    have HLO := lost_le ps b j
    by_cases hlt : j < 16
    · obtain ⟨c0, c1, c2, c3⟩ := HIN.out.hg j hlt
      have f1 := HIN.out.ha j hlt
      have f2 := HIN.out.hd j hlt
      have f3 := HIN.out.hs.back j hlt
      have f4 := HIN.out.hs.few j hlt
      have HW := small_u64 f4
      have HST := Lib.hid (lost_step ps b j)
      have HSM := Lib.hid f4
      have ek : (j : Int) < 16 := by omega
      clear f4
      generalize psT ps j = t0 at *
      generalize psT a j = t1 at *
      generalize psT b j = t2 at *
      generalize psT d j = t3 at *
      obtain ⟨q, hq⟩ : ∃ q, bits .andNot .i64 t0 t2 = q := ⟨_, rfl⟩
      rw [hq] at HW HST HSM
      generalize lostTo ps b j = L at *
      go_wp2_with fail
      refine (ones_small q HSM.out W).mono ?_
      rintro en W2 ⟨rfl, rfl⟩
      have HO : Hid (oneN q ≤ 1) := Lib.hid (by unfold oneN; split <;> omega)
      generalize oneN q = z at *
      have hz := HO.out
      go_wp2_with fail
      go_round
      case rel => exact ⟨j + 1, by omega, by go_num, by rw [HST.out]; go_num⟩
      case measure => (simp [intOf] <;> omega)
    · obtain rfl : j = 16 := by omega
      have HON := Lib.hid HIN.out.hs.one
      have HWH := Lib.hid HIN.out.hs.who
      generalize lostTo ps b 16 = L at *
      by_cases hL : L = 0
      · subst hL
        go_wp2_with fail
        go_ret
        exact ⟨rfl, hbel⟩
      · obtain rfl : L = 1 := by have := HON.out; omega
        obtain ⟨rfl, hs1, hs2⟩ := HWH.out hL
        clear hL
        have hs3 : (s[1]'hs1).toNat = 1 := by rw [hs2]; rfl
        clear hs2
        go_wp2_with fail
        go_ret
        exact ⟨rfl, hbel⟩
end Go.Proofs.Ytijolofnmccolaa
