/- ArenaRight walked. -/
import Derived.Test.YtdckakjfplhanaaArnR
namespace Go.Proofs.Ytdckakjfplhanaa
open Go.RowKit Go.Proofs.Ytdckakjfplhanaa.Arn
theorem give_two {B : Nat} {size : Int} {l : List (Int × Int)} {a : Int} {e : Ending} {w' : World} (h : GiveIs B size l a e w') :
    (∃ n, n ≠ 0 ∧ e = .returned (.tuple #[.agg #[.int .i64 0, .slice none 0 0], .int .i64 n])) ∨ ∃ (k m : Nat) (A : Option Addr) (c : Nat), l.length = m + 1 ∧ m < 64 ∧ e = .returned (.tuple #[.agg #[.int .i64 size, .slice A m c], .int .i64 0]) ∧ Kt.Sl w' B 30 2 (.slice A m c) m (spv (rem l k)) ∧ chk size (rem l k) = 0 ∧ (rem l k).length = m := by
  rcases h with ⟨n, hn, h, _⟩ | ⟨hc, k, m, A, c, hm, ⟨hk, h1⟩, h2, h, h3⟩
  · exact .inl ⟨n, hn, h⟩
  · obtain ⟨s1, s2, s3, s4⟩ := chk_ok hc
    have e2 := rem_len l k hk
    exact .inr ⟨k, m, A, c, hm, by omega, h, h3, chk_of s1 s2 (by omega) (okS_rem size l k 0 s4), by omega⟩
theorem rarena_n (size : Int) (l : List (Int × Int)) (n : Nat) (hn : l.length = n) (V : Value) (w : World) (hv : Kt.Ar w V 2 n (spv l)) (hc : chk size l = 0) :
    Calls Try.prog 18 #[.agg #[.int .i64 size, V]] w fun e w' => e = .returned (.int .i64 0) ∧ Below w.heap.size w w' := by subst hn; exact rarena_ok size l V w hv hc
theorem scontains_n (x : Int × Int) (l : List (Int × Int)) (n : Nat) (hn : l.length = n) (V : Value) (w : World) (hv : Kt.Ar w V 2 n (spv l)) (hm : l.length ≤ 1099511627776) (hx : x ∈ l) :
    Calls Try.prog 19 #[V, .agg #[.int .i64 x.1, .int .i64 x.2]] w fun e w' => e = .returned (.bool true) ∧ Below w.heap.size w w' := by subst hn; exact scontains_calls x l V w hv hm hx
theorem args_pos {z al : Int} (h : argsOk z al) : 1 ≤ z ∧ z ≤ 4096 ∧ 1 ≤ al ∧ al ≤ 4096 := ⟨h.1, h.2.1, h.2.2.1, h.2.2.2.1⟩
set_option maxRecDepth 100000 in
set_option maxHeartbeats 3200000 in
theorem right_walk (v0 v1 v2 v3 : Value) (w : World) (r0 : Fr.RdV w reachBytes arTy v0) (r1 : Fr.RdV w reachBytes (.int .i64) v1) (r2 : Fr.RdV w reachBytes (.int .i64) v2) (r3 : Fr.RdV w reachBytes (.int .i64) v3) :
    Calls Try.prog 8 #[v0, v1, v2, v3] w fun e w' => e = .returned (.bool true) ∧ Below w.heap.size w w' := by
  obtain ⟨size, l, A0, c0, rfl, hv, hl⟩ := ar_arena r0
  obtain ⟨z, e1, _⟩ := r1
  obtain ⟨al, e2, _⟩ := r2
  obtain ⟨p, e3, _⟩ := r3
  cases e1; cases e2; cases e3
  clear r0
  have HB0 := Lib.hid (Kt.balloc (Below.refl _ w) (.cells #[.int .i64 size, .slice A0 l.length c0] 24))
  have HA0 := Lib.hid (heap_alloc_new w (.cells #[.int .i64 size, .slice A0 l.length c0] 24))
  have HT := Lib.hid (take_calls size l _ z al _ (hv.on HB0.out) (Nat.le_trans hl (by decide +kernel)))
  have HV := Lib.hid hv
  have HLB := Lib.hid hl
  have HL := Lib.hid (lives_calls)
  have q := fun i => cell_of_row _ _ i _ _ _ HA0.out
  clear hv hl
  go_enter Try.func8, Try.ntmps8
  go_wp2_with fail
  refine HT.out.mono ?_
  rintro e w1 ⟨ht, hb⟩
  have HB1 := Lib.hid (Kt.bthen HB0.out hb)
  have HA1 := Lib.hid (Kt.row_on hb HA0.out)
  clear hb HT HB0 HA0 q
  rcases take_two ht with ⟨n, hn, rfl⟩ | ⟨a, A, c, hok, rfl, hs⟩
  · have hba := Kt.balloc (Below.refl _ w1) (.cells #[.int .i64 0, .slice none 0 0] 24)
    have HB2 := Lib.hid (Kt.bthen HB1.out hba)
    have HA2 := Lib.hid (Kt.row_on hba HA1.out)
    have b0 : (n == 0) = false := by rw [beq_eq_false_iff_ne]; exact hn
    clear ht hn hba HB1 HA1
    go_wp2_with fail
    refine (HL.out _).mono ?_
    rintro e w3 ⟨rfl, hb⟩
    have HB3 := Lib.hid (Kt.bthen HB2.out hb)
    have HA3 := Lib.hid (Kt.row_on hb HA2.out)
    clear hb HB2 HA2
    have q := fun i => cell_of_row _ _ i _ _ _ HA3.out
    have HG := Lib.hid (give_calls size l _ p _ (HV.out.on HB3.out) (Nat.le_trans HLB.out (by decide +kernel)))
    go_wp2_with fail
    refine HG.out.mono ?_
    rintro e w5 ⟨hg, hb⟩
    rcases give_two hg with ⟨n, hn, rfl⟩ | ⟨k, m, A2, c2, hm, hm64, rfl, hs2, hc2, hrl⟩
    · have HB6 := Lib.hid (Kt.balloc (Kt.bthen HB3.out hb) (.cells #[.int .i64 0, .slice none 0 0] 24))
      have b1 : (n != 0) = true := by rw [bne_iff_ne]; exact hn
      clear hb hg HG HB3 HA3 q hn
      go_wp2_with fail
      go_ret
      exact ⟨rfl, HB6.out⟩
    · have hba := Kt.balloc (Below.refl _ w5) (.cells #[.int .i64 size, .slice A2 m c2] 24)
      have HB6 := Lib.hid (Kt.bthen (Kt.bthen HB3.out hb) hba)
      have HA6 := Lib.hid (Kt.row_on hba (Kt.row_on hb HA3.out))
      have HC6 := Lib.hid (heap_alloc_new w5 (.cells #[.int .i64 size, .slice A2 m c2] 24))
      have hs6 := (Kt.Ar.of_sl hs2).on hba
      rw [← hrl] at hs6
      have HRA := Lib.hid (rarena_ok size (rem l k) _ _ hs6 hc2)
      rw [hrl] at HRA
      have hlm : (l.length : Int) = (m : Int) + 1 := by omega
      have hm64' : (m : Int) < 64 := by omega
      clear hb hg HG HB3 HA3 q hs6 hs2 hc2 hrl hba hm hm64
      go_wp2_with fail
      refine HRA.out.mono ?_
      rintro e w7 ⟨rfl, hb⟩
      have q := fun i => cell_of_row _ _ i _ _ _ (Kt.row_on hb HA6.out)
      have q2 := fun i => cell_of_row _ _ i _ _ _ (Kt.row_on hb HC6.out)
      have HB7 := Lib.hid (Kt.bthen HB6.out hb)
      have hlm' : (l.length : Int) - 1 = m := by omega
      clear hb HRA HB6 HA6 HC6 hlm
      go_wp2_with fail
      go_ret
      exact ⟨rfl, HB7.out⟩
  · have hba := Kt.balloc (Below.refl _ w1) (.cells #[.int .i64 size, .slice A (l.length + 1) c] 24)
    have HB2 := Lib.hid (Kt.bthen HB1.out hba)
    have HA2 := Lib.hid (Kt.row_on hba HA1.out)
    have HC2 := Lib.hid (heap_alloc_new w1 (.cells #[.int .i64 size, .slice A (l.length + 1) c] 24))
    obtain ⟨hc', hil⟩ := okT_ins hok
    have hsv := Lib.hid ((Kt.Ar.of_sl hs).on hba)
    have HRB := Lib.hid (fun W (h : Below (w1.alloc (.cells #[.int .i64 size, .slice A (l.length + 1) c] 24)).heap.size (w1.alloc (.cells #[.int .i64 size, .slice A (l.length + 1) c] 24)) W) => rarena_n size (ins l a z) _ hil _ W (hsv.out.on h) hc')
    have HCB := Lib.hid (fun W (h : Below (w1.alloc (.cells #[.int .i64 size, .slice A (l.length + 1) c] 24)).heap.size (w1.alloc (.cells #[.int .i64 size, .slice A (l.length + 1) c] 24)) W) => scontains_n (a, z) (ins l a z) _ hil _ W (hsv.out.on h) (by rw [hil]; have := hok.2.2.1; omega) (ins_mem l a z))
    obtain ⟨o1, o2, o3, o4, o5, o6, o7, o8⟩ := hok
    obtain ⟨z1, z2, al1, al2⟩ := args_pos o2
    have hsz := (chk_ok o1).2.1
    have er : a.tmod al = 0 := by rw [Int.tmod_eq_emod_of_nonneg o4]; exact Int.emod_eq_zero_of_dvd o5
    have e1 : wrap64 (a.tdiv 4096) = a / 4096 := quo_is o4 (by omega)
    have e2 : wrap64 ((a + z - 1).tdiv 4096) = (a + z - 1) / 4096 := quo_is (by omega) (by omega)
    have fq : (a / 4096 == (a + z - 1) / 4096) = true := by rw [beq_iff_eq]; exact o7.1
    have HQ := Lib.hid (And.intro er (And.intro e1 (And.intro e2 fq)))
    have HZ := Lib.hid (And.intro o4 (And.intro o6 (And.intro z1 (And.intro z2 (And.intro al1 hsz)))))
    clear ht hs hba HB1 HA1 hc' hil hsv o1 o2 o3 o4 o5 o6 o7 o8 z1 z2 al1 al2 hsz er e1 e2 fq
    go_wp2_with fail
    refine (HL.out _).mono ?_
    rintro e w3 ⟨rfl, hb⟩
    have HB3 := Lib.hid (Kt.bthen HB2.out hb)
    have HA3 := Lib.hid (Kt.row_on hb HA2.out)
    have HC3 := Lib.hid (Kt.row_on hb HC2.out)
    have HRB3 := Lib.hid (HRB.out w3 hb)
    have q := fun i => cell_of_row _ _ i _ _ _ HC3.out
    have HH := Lib.hid hb
    clear hb HB2 HA2 HC2 HRB
    go_wp2_with fail
    refine HRB3.out.mono ?_
    rintro e w4 ⟨rfl, hb⟩
    have HB4 := Lib.hid (Kt.bthen HB3.out hb)
    have HA4 := Lib.hid (Kt.row_on hb HA3.out)
    have HC4 := Lib.hid (Kt.row_on hb HC3.out)
    have HCB4 := Lib.hid (HCB.out w4 (HH.out.trans (hb.mono HH.out.size)))
    clear q HB3 HA3 HC3 HCB HRB3 hb HH
    have q := fun i => cell_of_row _ _ i _ _ _ HC4.out
    go_wp2_with fail
    refine HCB4.out.mono ?_
    rintro e w5 ⟨rfl, hb⟩
    have HB3 := Lib.hid (Kt.bthen HB4.out hb)
    have HA3 := Lib.hid (Kt.row_on hb HA4.out)
    clear q HB4 HA4 HC4 HCB4 hb
    obtain ⟨er, e1, e2, fq⟩ := HQ.out
    obtain ⟨y1, y2, y3, y4, y5, y6⟩ := HZ.out
    go_upto_region 4 with (fail)
    clear er e1 e2 fq y1 y2 y3 y4 y5 y6
    have q := fun i => cell_of_row _ _ i _ _ _ HA3.out
    have HG := Lib.hid (give_calls size l _ p _ (HV.out.on HB3.out) (Nat.le_trans HLB.out (by decide +kernel)))
    go_wp2_with fail
    refine HG.out.mono ?_
    rintro e w5 ⟨hg, hb⟩
    rcases give_two hg with ⟨n, hn, rfl⟩ | ⟨k, m, A2, c2, hm, hm64, rfl, hs2, hc2, hrl⟩
    · have HB6 := Lib.hid (Kt.balloc (Kt.bthen HB3.out hb) (.cells #[.int .i64 0, .slice none 0 0] 24))
      have b1 : (n != 0) = true := by rw [bne_iff_ne]; exact hn
      clear hb hg HG HB3 HA3 q hn
      go_wp2_with fail
      go_ret
      exact ⟨rfl, HB6.out⟩
    · have hba := Kt.balloc (Below.refl _ w5) (.cells #[.int .i64 size, .slice A2 m c2] 24)
      have HB6 := Lib.hid (Kt.bthen (Kt.bthen HB3.out hb) hba)
      have HA6 := Lib.hid (Kt.row_on hba (Kt.row_on hb HA3.out))
      have HC6 := Lib.hid (heap_alloc_new w5 (.cells #[.int .i64 size, .slice A2 m c2] 24))
      have hs6 := (Kt.Ar.of_sl hs2).on hba
      rw [← hrl] at hs6
      have HRA := Lib.hid (rarena_ok size (rem l k) _ _ hs6 hc2)
      rw [hrl] at HRA
      have hlm : (l.length : Int) = (m : Int) + 1 := by omega
      have hm64' : (m : Int) < 64 := by omega
      clear hb hg HG HB3 HA3 q hs6 hs2 hc2 hrl hba hm hm64
      go_wp2_with fail
      refine HRA.out.mono ?_
      rintro e w7 ⟨rfl, hb⟩
      have q := fun i => cell_of_row _ _ i _ _ _ (Kt.row_on hb HA6.out)
      have q2 := fun i => cell_of_row _ _ i _ _ _ (Kt.row_on hb HC6.out)
      have HB7 := Lib.hid (Kt.bthen HB6.out hb)
      have hlm' : (l.length : Int) - 1 = m := by omega
      clear hb HRA HB6 HA6 HC6 hlm
      go_wp2_with fail
      go_ret
      exact ⟨rfl, HB7.out⟩
end Go.Proofs.Ytdckakjfplhanaa
