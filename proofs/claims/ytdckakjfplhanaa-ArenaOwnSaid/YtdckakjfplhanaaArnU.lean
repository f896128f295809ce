/- ArenaCount walked. -/
import Derived.Test.YtdckakjfplhanaaArnB
namespace Go.Proofs.Ytdckakjfplhanaa
open Go.RowKit Go.Proofs.Ytdckakjfplhanaa.Arn
theorem eg16 : ∀ args w, (callFunc 16 args).run Try.prog w = .ok (.enter 16 args) w := enters_of Try.func16 (by kernel_rfl) rfl
theorem cnt_calls (a : Int) (s : Int × Int) (b : Nat) (w : World) (hb : w.heap[b]? = some (.cells #[.int .i64 a] 3 (0, 0))) :
    Calls Try.prog 16 #[.agg #[.int .i64 s.1, .int .i64 s.2], .pointer (some ⟨b, 0, none⟩)] w fun e w' => e = .returned (.bool (s.1 == a)) ∧ Below w.heap.size w w' := by
  have HB := Lib.hid (Kt.balloc (Below.refl _ w) (.cells #[.int .i64 s.1, .int .i64 s.2] 30))
  have HN := Lib.hid (heap_alloc_new w (.cells #[.int .i64 s.1, .int .i64 s.2] 30))
  have HBX := Lib.hid (Kt.row_on (Kt.balloc (Below.refl _ w) (.cells #[.int .i64 s.1, .int .i64 s.2] 30)) hb)
  obtain ⟨x, y⟩ := s
  dsimp only at *
  have q1 := fun i => cell_of_row _ _ i _ _ _ HN.out
  have q2 := fun i => cell_of_row _ _ i _ _ _ HBX.out
  clear hb
  go_enter Try.func16, Try.ntmps16
  go_wp2_with fail
  go_ret
  exact ⟨rfl, HB.out⟩
theorem give_one {B : Nat} {size : Int} {l : List (Int × Int)} {a : Int} {e : Ending} {w' : World} (hc : chk size l = 0) (h : GiveIs B size l a e w') :
    (∃ n, n ≠ 0 ∧ e = .returned (.tuple #[.agg #[.int .i64 0, .slice none 0 0], .int .i64 n])) ∨ ∃ (k m : Nat) (A : Option Addr) (c : Nat) (y : Int), l.length = m + 1 ∧ (∃ h : k < l.length, (l[k]'h).1 = a ∧ (l[k]'h).2 = y) ∧ (∀ j (h : j < l.length), j < k → (l[j]'h).1 ≠ a) ∧ e = .returned (.tuple #[.agg #[.int .i64 size, .slice A m c], .int .i64 0]) ∧ Kt.Sl w' B 30 2 (.slice A m c) m (spv (rem l k)) ∧ chk size (rem l k) = 0 ∧ sum (rem l k) = sum l - y ∧ (rem l k).length = m := by
  rcases h with ⟨n, hn, h, _⟩ | ⟨_, k, m, A, c, hm, ⟨hk, h1⟩, h2, h, h3⟩
  · exact .inl ⟨n, hn, h⟩
  · obtain ⟨s1, s2, s3, s4⟩ := chk_ok hc
    have e1 := sum_rem l k hk
    have e2 := rem_len l k hk
    exact .inr ⟨k, m, A, c, (l[k]'hk).2, hm, ⟨hk, h1, rfl⟩, h2, h, h3, chk_of s1 s2 (by omega) (okS_rem size l k 0 s4), by omega, by omega⟩
theorem first_is {l : List (Int × Int)} {a r : Int} {k : Nat} (h : FirstP (fun s => s.1 == a) l r) (hk : ∃ h : k < l.length, (l[k]'h).1 = a) (hl : ∀ j (h : j < l.length), j < k → (l[j]'h).1 ≠ a) : r = k := by
  obtain ⟨hk, h1⟩ := hk
  rcases h with ⟨_, h⟩ | ⟨k2, rfl, ⟨g1, g2⟩, g3⟩
  · have := h _ (List.getElem_mem hk); simp [h1] at this
  · have g4 : (l[k2]'g1).1 = a := by simpa using g2
    by_cases c1 : k < k2
    · have := g3 k hk c1; simp [h1] at this
    · by_cases c2 : k2 < k
      · exact absurd g4 (hl k2 g1 c2)
      · have : k2 = k := by omega
        rw [this]
set_option maxRecDepth 100000 in
set_option maxHeartbeats 3200000 in
theorem count_walk (v0 v1 v2 v3 : Value) (w : World) (r0 : Fr.RdV w reachBytes arTy v0) (r1 : Fr.RdV w reachBytes (.int .i64) v1) (r2 : Fr.RdV w reachBytes (.int .i64) v2) (r3 : Fr.RdV w reachBytes (.int .i64) v3) :
    Calls Try.prog 6 #[v0, v1, v2, v3] w fun e w' => e = .returned (.bool true) ∧ Below w.heap.size w w' := by
  obtain ⟨size, l, A0, c0, rfl, hv, hl⟩ := ar_arena r0
  obtain ⟨z, e1, _⟩ := r1
  obtain ⟨al, e2, _⟩ := r2
  obtain ⟨p, e3, _⟩ := r3
  cases e1; cases e2; cases e3
  clear r0
  have hb0 := Kt.balloc (Kt.balloc (Below.refl _ w) (.cells #[.int .i64 size, .slice A0 l.length c0] 24)) (.cells #[.int .i64 p] 3)
  have HB0 := Lib.hid hb0
  have hp0 := heap_alloc_new (w.alloc (.cells #[.int .i64 size, .slice A0 l.length c0] 24)) (.cells #[.int .i64 p] 3)
  rw [World.size_alloc] at hp0
  have HP0 := Lib.hid hp0
  have HA0 := Lib.hid ((Below.heap_alloc (w.alloc (.cells #[.int .i64 size, .slice A0 l.length c0] 24)) (.cells #[.int .i64 p] 3) w.heap.size (by rw [World.size_alloc]; omega)).trans (heap_alloc_new w _))
  have HF := Lib.hid (free_calls size l _ _ (hv.on hb0) (Nat.le_trans hl (by decide +kernel)))
  have HV := Lib.hid hv
  have HLB := Lib.hid hl
  have HL := Lib.hid (lives_calls)
  have q := fun i => cell_of_row _ _ i _ _ _ HA0.out
  clear hv hl hb0 hp0
  by_cases hc : chk size l = 0
  · obtain ⟨s1, s2, s3, ho⟩ := chk_ok hc
    have hsum := okS_sum size l 0 ho (by omega)
    have HO := Lib.hid ho
    have HC := Lib.hid (And.intro hc (And.intro s1 (And.intro s2 (And.intro s3 hsum))))
    rw [if_pos hc, hc] at HF
    obtain ⟨S, hS⟩ : ∃ S, sum l = S := ⟨_, rfl⟩
    have HS := Lib.hid hS
    rw [hS] at HF hsum
    clear hc ho hS s3
    go_enter Try.func6, Try.ntmps6
    go_wp2_with fail
    refine HF.out.mono ?_
    rintro e w1 ⟨rfl, hb⟩
    have HB1 := Lib.hid (Kt.bthen HB0.out hb)
    have HA1 := Lib.hid (Kt.row_on hb HA0.out)
    have HP1 := Lib.hid (Kt.row_on hb HP0.out)
    clear hb HF HB0 HA0 HP0 q
    go_wp2_with fail
    refine (HL.out _).mono ?_
    rintro e w2 ⟨rfl, hb⟩
    have HB2 := Lib.hid (Kt.bthen HB1.out hb)
    have HA2 := Lib.hid (Kt.row_on hb HA1.out)
    have HP2 := Lib.hid (Kt.row_on hb HP1.out)
    have HT := Lib.hid (take_calls size l _ z al w2 (HV.out.on HB2.out) (Nat.le_trans HLB.out (by decide +kernel)))
    have q := fun i => cell_of_row _ _ i _ _ _ HA2.out
    clear hb HB1 HA1 HP1
    go_wp2_with fail
    refine HT.out.mono ?_
    rintro e w3 ⟨ht, hb⟩
    rcases take_two ht with ⟨n, hn, rfl⟩ | ⟨a, A, c, hok, rfl, hs⟩
    · have hba := Kt.balloc (Below.refl _ w3) (.cells #[.int .i64 0, .slice none 0 0] 24)
      have HB4 := Lib.hid ((Kt.bthen (Kt.bthen HB2.out hb) hba))
      have HA4 := Lib.hid (Kt.row_on hba (Kt.row_on hb HA2.out))
      have HP4 := Lib.hid (Kt.row_on hba (Kt.row_on hb HP2.out))
      have b0 : (n == 0) = false := by rw [beq_eq_false_iff_ne]; exact hn
      clear hb ht HT HB2 HA2 HP2 hba hn q
      have q := fun i => cell_of_row _ _ i _ _ _ HA4.out
      have qp := fun i => cell_of_row _ _ i _ _ _ HP4.out
      have HG := Lib.hid (give_calls size l _ p _ (HV.out.on HB4.out) (Nat.le_trans HLB.out (by decide +kernel)))
      go_wp2_with fail
      refine HG.out.mono ?_
      rintro e w5 ⟨hg, hb⟩
      rcases give_one HC.out.1 hg with ⟨n, hn, rfl⟩ | ⟨k, m, A2, c2, y, hm, ⟨hk, h1, h2⟩, hlow, rfl, hs2, hc2, hsm, hrl⟩
      · have HB6 := Lib.hid (Kt.balloc (Kt.bthen HB4.out hb) (.cells #[.int .i64 0, .slice none 0 0] 24))
        have b1 : (n != 0) = true := by rw [bne_iff_ne]; exact hn
        clear hb hg HG HB4 HA4 HP4 q qp hn
        go_wp2_with fail
        go_ret
        exact ⟨rfl, HB6.out⟩
      · have hba := Kt.balloc (Below.refl _ w5) (.cells #[.int .i64 size, .slice A2 m c2] 24)
        have HB6 := Lib.hid (Kt.balloc (Kt.bthen HB4.out hb) (.cells #[.int .i64 size, .slice A2 m c2] 24))
        have HA6 := Lib.hid (Kt.row_on hba (Kt.row_on hb HA4.out))
        have HP6 := Lib.hid (Kt.row_on hba (Kt.row_on hb HP4.out))
        have HD6 := Lib.hid (heap_alloc_new w5 (.cells #[.int .i64 size, .slice A2 m c2] 24))
        have hd : Kt.Ar (w5.alloc (.cells #[.int .i64 size, .slice A2 m c2] 24)) (.slice A2 m c2) 2 (rem l k).length (spv (rem l k)) := by rw [hrl]; exact (Kt.Ar.of_sl hs2).on hba
        have HF2 := Lib.hid (free_calls size (rem l k) _ _ hd (by rw [hrl]; have := HC.out.2.2.2.1; omega))
        have hb2 := okS_bounds size l 0 HO.out (l[k]'hk) (List.getElem_mem hk)
        rw [h2] at hb2
        have e7 : size - (S - y) = size - S + y := by omega
        have ew5 : wrap64 (size - S + y) = size - S + y := by have := HC.out.2.2.1; have := HC.out.2.1; have := HC.out.2.2.2.2; rw [HS.out] at this; unfold wrap64; omega
        rw [if_pos hc2, hc2, hsm, HS.out, e7] at HF2
        have q6 := fun i => cell_of_row _ _ i _ _ _ HD6.out
        have HK := Lib.hid hk
        have H1 : Hid (∃ h : k < l.length, (l[k]'h).1 = p) := Lib.hid ⟨hk, h1⟩
        have HLO := Lib.hid hlow
        have H2 : Hid ((l[k]'hk).2 = y) := Lib.hid h2
        clear hb hg HG HB4 HA4 HP4 q qp hba hs2 hc2 hsm hrl hd e7 hb2 hm h1 h2 hlow
        go_wp2_with fail
        refine HF2.out.mono ?_
        rintro e w7 ⟨rfl, hb⟩
        have HB7 := Lib.hid (Kt.bthen HB6.out hb)
        have HA7 := Lib.hid (Kt.row_on hb HA6.out)
        have HP7 := Lib.hid (Kt.row_on hb HP6.out)
        have HIX := Lib.hid (index_calls (fun s => s.1 == p) 16 #[.pointer (some ⟨w.heap.size + 1, 0, none⟩)] l _ w7 (HV.out.on HB7.out) (Nat.le_trans HC.out.2.2.2.1 (by decide)) eg16 (fun s W hW => cnt_calls p s _ W (Kt.row_on hW HP7.out)))
        have q7 := fun i => cell_of_row _ _ i _ _ _ HA7.out
        clear hb HB6 HA6 HP6 HD6 HF2 q6
        go_wp2_with fail
        refine HIX.out.mono ?_
        rintro e w8 ⟨r, rfl, hr, hb⟩
        obtain rfl := first_is hr H1.out HLO.out
        have HB8 := Lib.hid (Kt.bthen HB7.out hb)
        have HA8 := Lib.hid (Kt.row_on hb HA7.out)
        have q8 := fun i => cell_of_row _ _ i _ _ _ HA8.out
        obtain ⟨bb, o, c, hve, hb0, x0, x1⟩ := Kt.Ar.span (w' := w8) (HV.out.on HB8.out) k hk
        cases hve
        rw [H2.out] at x1
        have ek : (k : Int) < l.length := by omega
        have ek0 : (0 : Int) ≤ k := by omega
        clear hb hr HB7 HA7 HP7 HIX q7 x0
        go_wp2_with fail
        go_ret
        exact ⟨rfl, HB8.out⟩
    · have hba := Kt.balloc (Below.refl _ w3) (.cells #[.int .i64 size, .slice A (l.length + 1) c] 24)
      have HB3 := Lib.hid ((Kt.bthen (Kt.bthen HB2.out hb) hba))
      have HA3 := Lib.hid (Kt.row_on hba (Kt.row_on hb HA2.out))
      have HP3 := Lib.hid (Kt.row_on hba (Kt.row_on hb HP2.out))
      have HD3 := Lib.hid (heap_alloc_new w3 (.cells #[.int .i64 size, .slice A (l.length + 1) c] 24))
      have hd : Kt.Ar (w3.alloc (.cells #[.int .i64 size, .slice A (l.length + 1) c] 24)) (.slice A (l.length + 1) c) 2 (ins l a z).length (spv (ins l a z)) := by rw [(okT_ins hok).2]; exact (Kt.Ar.of_sl hs).on hba
      have HF2 := Lib.hid (free_calls size (ins l a z) _ _ hd (by rw [(okT_ins hok).2]; have := hok.2.2.1; omega))
      have e7 : size - (S + z) = size - S - z := by omega
      have ew : wrap64 (size - S - z) = size - S - z := by have := HC.out.2.2.1; have := HC.out.2.1; have := hok.2.1.1; have := hok.2.1.2.1; unfold wrap64; omega
      rw [if_pos (okT_ins hok).1, (okT_ins hok).1, sum_ins, HS.out, e7] at HF2
      have q3 := fun i => cell_of_row _ _ i _ _ _ HD3.out
      clear hb ht HT HB2 HA2 HP2 hba q hd hs hok e7 HD3
      go_wp2_with fail
      refine HF2.out.mono ?_
      rintro e w4 ⟨rfl, hb⟩
      have HB4 := Lib.hid (Kt.bthen HB3.out hb)
      have HA4 := Lib.hid (Kt.row_on hb HA3.out)
      have HP4 := Lib.hid (Kt.row_on hb HP3.out)
      clear hb HB3 HA3 HP3 HF2 q3
      have q := fun i => cell_of_row _ _ i _ _ _ HA4.out
      have qp := fun i => cell_of_row _ _ i _ _ _ HP4.out
      have HG := Lib.hid (give_calls size l _ p _ (HV.out.on HB4.out) (Nat.le_trans HLB.out (by decide +kernel)))
      go_wp2_with fail
      refine HG.out.mono ?_
      rintro e w5 ⟨hg, hb⟩
      rcases give_one HC.out.1 hg with ⟨n, hn, rfl⟩ | ⟨k, m, A2, c2, y, hm, ⟨hk, h1, h2⟩, hlow, rfl, hs2, hc2, hsm, hrl⟩
      · have HB6 := Lib.hid (Kt.balloc (Kt.bthen HB4.out hb) (.cells #[.int .i64 0, .slice none 0 0] 24))
        have b1 : (n != 0) = true := by rw [bne_iff_ne]; exact hn
        clear hb hg HG HB4 HA4 HP4 q qp hn
        go_wp2_with fail
        go_ret
        exact ⟨rfl, HB6.out⟩
      · have hba := Kt.balloc (Below.refl _ w5) (.cells #[.int .i64 size, .slice A2 m c2] 24)
        have HB6 := Lib.hid (Kt.balloc (Kt.bthen HB4.out hb) (.cells #[.int .i64 size, .slice A2 m c2] 24))
        have HA6 := Lib.hid (Kt.row_on hba (Kt.row_on hb HA4.out))
        have HP6 := Lib.hid (Kt.row_on hba (Kt.row_on hb HP4.out))
        have HD6 := Lib.hid (heap_alloc_new w5 (.cells #[.int .i64 size, .slice A2 m c2] 24))
        have hd : Kt.Ar (w5.alloc (.cells #[.int .i64 size, .slice A2 m c2] 24)) (.slice A2 m c2) 2 (rem l k).length (spv (rem l k)) := by rw [hrl]; exact (Kt.Ar.of_sl hs2).on hba
        have HF2 := Lib.hid (free_calls size (rem l k) _ _ hd (by rw [hrl]; have := HC.out.2.2.2.1; omega))
        have hb2 := okS_bounds size l 0 HO.out (l[k]'hk) (List.getElem_mem hk)
        rw [h2] at hb2
        have e7 : size - (S - y) = size - S + y := by omega
        have ew5 : wrap64 (size - S + y) = size - S + y := by have := HC.out.2.2.1; have := HC.out.2.1; have := HC.out.2.2.2.2; rw [HS.out] at this; unfold wrap64; omega
        rw [if_pos hc2, hc2, hsm, HS.out, e7] at HF2
        have q6 := fun i => cell_of_row _ _ i _ _ _ HD6.out
        have HK := Lib.hid hk
        have H1 : Hid (∃ h : k < l.length, (l[k]'h).1 = p) := Lib.hid ⟨hk, h1⟩
        have HLO := Lib.hid hlow
        have H2 : Hid ((l[k]'hk).2 = y) := Lib.hid h2
        clear hb hg HG HB4 HA4 HP4 q qp hba hs2 hc2 hsm hrl hd e7 hb2 hm h1 h2 hlow
        go_wp2_with fail
        refine HF2.out.mono ?_
        rintro e w7 ⟨rfl, hb⟩
        have HB7 := Lib.hid (Kt.bthen HB6.out hb)
        have HA7 := Lib.hid (Kt.row_on hb HA6.out)
        have HP7 := Lib.hid (Kt.row_on hb HP6.out)
        have HIX := Lib.hid (index_calls (fun s => s.1 == p) 16 #[.pointer (some ⟨w.heap.size + 1, 0, none⟩)] l _ w7 (HV.out.on HB7.out) (Nat.le_trans HC.out.2.2.2.1 (by decide)) eg16 (fun s W hW => cnt_calls p s _ W (Kt.row_on hW HP7.out)))
        have q7 := fun i => cell_of_row _ _ i _ _ _ HA7.out
        clear hb HB6 HA6 HP6 HD6 HF2 q6
        go_wp2_with fail
        refine HIX.out.mono ?_
        rintro e w8 ⟨r, rfl, hr, hb⟩
        obtain rfl := first_is hr H1.out HLO.out
        have HB8 := Lib.hid (Kt.bthen HB7.out hb)
        have HA8 := Lib.hid (Kt.row_on hb HA7.out)
        have q8 := fun i => cell_of_row _ _ i _ _ _ HA8.out
        obtain ⟨bb, o, c, hve, hb0, x0, x1⟩ := Kt.Ar.span (w' := w8) (HV.out.on HB8.out) k hk
        cases hve
        rw [H2.out] at x1
        have ek : (k : Int) < l.length := by omega
        have ek0 : (0 : Int) ≤ k := by omega
        clear hb hr HB7 HA7 HP7 HIX q7 x0
        go_wp2_with fail
        go_ret
        exact ⟨rfl, HB8.out⟩
  · have b0 : (chk size l != 0) = true := by rw [bne_iff_ne]; exact hc
    rw [if_neg hc] at HF
    generalize chk size l = n at *
    clear hc
    go_enter Try.func6, Try.ntmps6
    go_wp2_with fail
    refine HF.out.mono ?_
    rintro e w1 ⟨rfl, hb⟩
    have HB1 := Lib.hid (Kt.bthen HB0.out hb)
    clear hb HF HB0 HA0 HP0 q
    go_wp2_with fail
    refine (HL.out _).mono ?_
    rintro e w2 ⟨rfl, hb⟩
    have HB2 := Lib.hid (Kt.bthen HB1.out hb)
    clear hb HB1
    go_wp2_with fail
    refine (HL.out _).mono ?_
    rintro e w3 ⟨rfl, hb⟩
    have HB3 := Lib.hid (Kt.bthen HB2.out hb)
    clear hb HB2
    go_wp2_with fail
    go_ret
    exact ⟨rfl, HB3.out⟩
end Go.Proofs.Ytdckakjfplhanaa
