/- ArenaBack walked. -/
import Derived.Test.YtdckakjfplhanaaArnN
namespace Go.Proofs.Ytdckakjfplhanaa
open Go.RowKit Go.Proofs.Ytdckakjfplhanaa.Arn
theorem ins_at (l : List (Int × Int)) (a z : Int) : (ins l a z)[pos l a]? = some (a, z) := by
  have h := pos_le l a
  rw [ins_eq, List.getElem?_append_right (by rw [List.length_take]; omega), List.length_take, Nat.min_eq_left h, Nat.sub_self]
  rfl
theorem ins_low (l : List (Int × Int)) (a z : Int) (j : Nat) (hj : j < (ins l a z).length) (h : j < pos l a) : ((ins l a z)[j]'hj).1 < a := by
  have hp := pos_le l a
  have e : (ins l a z)[j]? = l[j]? := by
    rw [ins_eq, List.getElem?_append_left (by rw [List.length_take]; omega), List.getElem?_take_of_lt h]
  rw [List.getElem?_eq_getElem hj, List.getElem?_eq_getElem (show j < l.length by omega)] at e
  rw [Option.some.inj e]
  exact pos_low l a j (by omega) h
theorem first_ins (l : List (Int × Int)) (a z : Int) (k : Nat) (hk : k < (ins l a z).length) (h1 : ((ins l a z)[k]'hk).1 = a) (h2 : ∀ j (h : j < (ins l a z).length), j < k → ((ins l a z)[j]'h).1 ≠ a) : k = pos l a := by
  have hp := pos_le l a
  have hl := ins_len l a z
  by_cases c1 : k < pos l a
  · have := ins_low l a z k hk c1; omega
  · by_cases c2 : pos l a < k
    · have hq : pos l a < (ins l a z).length := by omega
      have e := ins_at l a z
      rw [List.getElem?_eq_getElem hq] at e
      exact absurd (by rw [Option.some.inj e]) (h2 _ hq c2)
    · omega
theorem rem_ins (l : List (Int × Int)) (a z : Int) : rem (ins l a z) (pos l a) = l := by
  have h := pos_le l a
  have hl : (l.take (pos l a)).length = pos l a := by rw [List.length_take]; omega
  unfold rem
  rw [ins_eq, List.take_left' hl, ← List.drop_drop, List.drop_left' hl]
  exact List.take_append_drop _ _
/-- where Take finds a place -/
def OkT (size : Int) (l : List (Int × Int)) (z al a : Int) : Prop := chk size l = 0 ∧ argsOk z al ∧ l.length < 64 ∧ 0 ≤ a ∧ al ∣ a ∧ a + z ≤ size ∧ fit l z a ∧ ∀ b, 0 ≤ b → b < a → al ∣ b → ¬ fit l z b
theorem take_two {B : Nat} {size : Int} {l : List (Int × Int)} {z al : Int} {e : Ending} {w' : World} (h : TakeIs B size l z al e w') :
    (∃ n, n ≠ 0 ∧ e = .returned (.tuple #[.agg #[.int .i64 0, .slice none 0 0], .int .i64 0, .int .i64 n])) ∨ ∃ a A c, OkT size l z al a ∧ e = .returned (.tuple #[.agg #[.int .i64 size, .slice A (l.length + 1) c], .int .i64 a, .int .i64 0]) ∧ Kt.Sl w' B 30 2 (.slice A (l.length + 1) c) (l.length + 1) (spv (ins l a z)) := by
  rcases h with ⟨n, hn, h, _⟩ | ⟨hc, ha, h1, a, A, c, a1, a2, a3, a4, a5, h, a6⟩
  · exact .inl ⟨n, hn, h⟩
  · exact .inr ⟨a, A, c, ⟨hc, ha, h1, a1, a2, a3, a4, a5⟩, h, a6⟩
theorem take_again {B : Nat} {size : Int} {l : List (Int × Int)} {z al a : Int} {e : Ending} {w' : World} (o : OkT size l z al a) (h : TakeIs B size l z al e w') :
    ∃ A c, e = .returned (.tuple #[.agg #[.int .i64 size, .slice A (l.length + 1) c], .int .i64 a, .int .i64 0]) ∧ Kt.Sl w' B 30 2 (.slice A (l.length + 1) c) (l.length + 1) (spv (ins l a z)) := by
  obtain ⟨o1, o2, o3, o4, o5, o6, o7, o8⟩ := o
  rcases h with ⟨n, hn, _, h | ⟨_, ⟨h, _⟩ | ⟨_, _, h | ⟨_, h⟩⟩⟩⟩ | ⟨_, _, _, b, A, c, a1, a2, a3, a4, a5, rfl, a6⟩
  · exact absurd (h.symm.trans o1) hn
  · exact absurd o2 h
  · exact absurd h (by omega)
  · exact absurd o7 (h a o4 o6 o5)
  · obtain rfl : a = b := by
      by_cases h1 : a < b
      · exact absurd o7 (a5 a o4 h1 o5)
      · by_cases h2 : b < a
        · exact absurd a4 (o8 b a1 h2 a2)
        · omega
    exact ⟨A, c, rfl, a6⟩
theorem okT_ins {size : Int} {l : List (Int × Int)} {z al a : Int} (o : OkT size l z al a) : chk size (ins l a z) = 0 ∧ (ins l a z).length = l.length + 1 := by
  obtain ⟨o1, o2, o3, o4, o5, o6, o7, o8⟩ := o
  obtain ⟨s1, s2, s3, s4⟩ := chk_ok o1
  exact ⟨chk_of s1 s2 (by rw [ins_len]; omega) (okS_ins size a z o2.1 o6 l 0 s4 o4 o7.2), ins_len l a z⟩
/-- what was taken is given back -/
theorem give_back {B : Nat} {size : Int} {l : List (Int × Int)} {z al a : Int} {e : Ending} {w' : World} (o : OkT size l z al a) (h : GiveIs B size (ins l a z) a e w') :
    ∃ A c, e = .returned (.tuple #[.agg #[.int .i64 size, .slice A l.length c], .int .i64 0]) ∧ Kt.Sl w' B 30 2 (.slice A l.length c) l.length (spv l) := by
  obtain ⟨c1, c2⟩ := okT_ins o
  rcases h with ⟨n, hn, _, h | ⟨_, _, h⟩⟩ | ⟨_, k, m, A, c, hm, ⟨hk, h1⟩, h2, rfl, h3⟩
  · exact absurd (h.symm.trans c1) hn
  · exact absurd rfl (h (a, z) (ins_mem l a z))
  · have e := first_ins l a z k hk h1 h2
    subst e
    rw [rem_ins] at h3
    obtain rfl : m = l.length := by omega
    exact ⟨A, c, rfl, h3⟩
set_option maxRecDepth 100000 in
set_option maxHeartbeats 3200000 in
theorem back_walk (v0 v1 v2 : Value) (w : World) (r0 : Fr.RdV w reachBytes arTy v0) (r1 : Fr.RdV w reachBytes (.int .i64) v1) (r2 : Fr.RdV w reachBytes (.int .i64) v2) :
    Calls Try.prog 4 #[v0, v1, v2] w fun e w' => e = .returned (.bool true) ∧ Below w.heap.size w w' := by
  obtain ⟨size, l, A0, c0, rfl, hv, hl⟩ := ar_arena r0
  obtain ⟨z, e1, _⟩ := r1
  obtain ⟨al, e2, _⟩ := r2
  cases e1; cases e2
  clear r0
  have HB0 := Lib.hid (Kt.balloc (Below.refl _ w) (.cells #[.int .i64 size, .slice A0 l.length c0] 24))
  have HA0 := Lib.hid (heap_alloc_new w (.cells #[.int .i64 size, .slice A0 l.length c0] 24))
  have HT := Lib.hid (take_calls size l _ z al _ (hv.on HB0.out) (Nat.le_trans hl (by decide +kernel)))
  have HV := Lib.hid hv
  have HL := Lib.hid (lives_calls)
  have q := fun i => cell_of_row _ _ i _ _ _ HA0.out
  clear hv hl
  go_enter Try.func4, Try.ntmps4
  go_wp2_with fail
  refine HT.out.mono ?_
  rintro e w1 ⟨ht, hb⟩
  rcases take_two ht with ⟨n, hn, rfl⟩ | ⟨a, A, c, hok, rfl, hs⟩
  · have HB1 := Lib.hid (Kt.bthen HB0.out hb)
    have HB2 := Lib.hid (Kt.balloc HB1.out (.cells #[.int .i64 0, .slice none 0 0] 24))
    have b0 : (n != 0) = true := by rw [bne_iff_ne]; exact hn
    clear hb ht HT HB0 HA0 q HB1 hn
    go_wp2_with fail
    refine (HL.out _).mono ?_
    rintro e w3 ⟨rfl, hb⟩
    have HB3 := Lib.hid (Kt.bthen HB2.out hb)
    clear hb HB2
    go_wp2_with fail
    refine (HL.out _).mono ?_
    rintro e w4 ⟨rfl, hb⟩
    have HB4 := Lib.hid (Kt.bthen HB3.out hb)
    clear hb HB3
    go_wp2_with fail
    go_ret
    exact ⟨rfl, HB4.out⟩
  · have HOK := Lib.hid hok
    have HB1 := Lib.hid (Kt.bthen HB0.out hb)
    have HB2 := Lib.hid (Kt.balloc HB1.out (.cells #[.int .i64 size, .slice A (l.length + 1) c] 24))
    have hba := Kt.balloc (Below.refl _ w1) (.cells #[.int .i64 size, .slice A (l.length + 1) c] 24)
    have HA2 := Lib.hid (Kt.row_on hba (Kt.row_on hb HA0.out))
    have HC2 := Lib.hid (heap_alloc_new w1 (.cells #[.int .i64 size, .slice A (l.length + 1) c] 24))
    have hs1 : Kt.Ar (w1.alloc (.cells #[.int .i64 size, .slice A (l.length + 1) c] 24)) (.slice A (l.length + 1) c) 2 (ins l a z).length (spv (ins l a z)) := by rw [(okT_ins hok).2]; exact (Kt.Ar.of_sl hs).on hba
    have HS2 := Lib.hid hs1
    clear hb ht HT HB0 HA0 q HB1 hs hok hba hs1
    go_wp2_with fail
    refine (HL.out _).mono ?_
    rintro e w3 ⟨rfl, hb⟩
    have HB3 := Lib.hid (Kt.bthen HB2.out hb)
    have HA3 := Lib.hid (Kt.row_on hb HA2.out)
    have HC3 := Lib.hid (Kt.row_on hb HC2.out)
    have HS3 := Lib.hid (HS2.out.on hb)
    have q := fun i => cell_of_row _ _ i _ _ _ HC3.out
    have HG := Lib.hid (give_calls size (ins l a z) (.slice A (l.length + 1) c) a w3 HS3.out (by rw [(okT_ins HOK.out).2]; have := HOK.out.2.2.1; omega))
    clear hb HB2 HA2 HC2 HS2
    go_wp2_with fail
    refine HG.out.mono ?_
    rintro e w4 ⟨hg, hb⟩
    obtain ⟨A2, c2, rfl, hs2⟩ := give_back HOK.out hg
    have hba := Kt.balloc (Below.refl _ w4) (.cells #[.int .i64 size, .slice A2 l.length c2] 24)
    have HB5 := Lib.hid (Kt.balloc (Kt.bthen HB3.out hb) (.cells #[.int .i64 size, .slice A2 l.length c2] 24))
    have HA5 := Lib.hid (Kt.row_on hba (Kt.row_on hb HA3.out))
    have HC5 := Lib.hid (Kt.row_on hba (Kt.row_on hb HC3.out))
    have HD5 := Lib.hid (heap_alloc_new w4 (.cells #[.int .i64 size, .slice A2 l.length c2] 24))
    have HS5 := Lib.hid ((HS3.out.on hb).on hba)
    have HT5 := Lib.hid ((Kt.Ar.of_sl hs2).on hba)
    have q5 := fun i => cell_of_row _ _ i _ _ _ HD5.out
    have HT := Lib.hid (take_calls size l (.slice A2 l.length c2) z al _ HT5.out (by have := HOK.out.2.2.1; omega))
    clear hb hg hs2 hba q HB3 HA3 HC3 HS3 HG
    go_wp2_with fail
    refine HT.out.mono ?_
    rintro e w6 ⟨ht, hb⟩
    obtain ⟨A3, c3, rfl, hs3⟩ := take_again HOK.out ht
    have hba := Kt.balloc (Below.refl _ w6) (.cells #[.int .i64 size, .slice A3 (l.length + 1) c3] 24)
    have HB7 := Lib.hid (Kt.balloc (Kt.bthen HB5.out hb) (.cells #[.int .i64 size, .slice A3 (l.length + 1) c3] 24))
    have HA7 := Lib.hid (Kt.row_on hba (Kt.row_on hb HA5.out))
    have HC7 := Lib.hid (Kt.row_on hba (Kt.row_on hb HC5.out))
    have HD7 := Lib.hid (Kt.row_on hba (Kt.row_on hb HD5.out))
    have HE7 := Lib.hid (heap_alloc_new w6 (.cells #[.int .i64 size, .slice A3 (l.length + 1) c3] 24))
    have HS7 := Lib.hid ((HS5.out.on hb).on hba)
    have HT7 := Lib.hid ((HT5.out.on hb).on hba)
    have hu : Kt.Ar (w6.alloc (.cells #[.int .i64 size, .slice A3 (l.length + 1) c3] 24)) (.slice A3 (l.length + 1) c3) 2 (ins l a z).length (spv (ins l a z)) := by rw [(okT_ins HOK.out).2]; exact (Kt.Ar.of_sl hs3).on hba
    have HU7 := Lib.hid hu
    have HQ1 := Lib.hid (same_calls size size l l _ _ _ HT7.out (HV.out.on HB7.out) (by have := HOK.out.2.2.1; omega))
    have q6 := fun i => cell_of_row _ _ i _ _ _ HD7.out
    have q7 := fun i => cell_of_row _ _ i _ _ _ HA7.out
    clear hb ht hs3 hba hu q5 HB5 HA5 HC5 HD5 HS5 HT5 HT
    go_wp2_with fail
    refine HQ1.out.mono ?_
    rintro e w8 ⟨r, rfl, hr, hb⟩
    obtain rfl : r = true := hr.2 (by simp)
    have HB8 := Lib.hid (Kt.bthen HB7.out hb)
    have HQ2 := Lib.hid (same_calls size size (ins l a z) (ins l a z) _ _ _ (HU7.out.on hb) (HS7.out.on hb) (by rw [(okT_ins HOK.out).2]; have := HOK.out.2.2.1; omega))
    have HC8 := Lib.hid (Kt.row_on hb HC7.out)
    have HE8 := Lib.hid (Kt.row_on hb HE7.out)
    have q8 := fun i => cell_of_row _ _ i _ _ _ HC8.out
    have q9 := fun i => cell_of_row _ _ i _ _ _ HE8.out
    clear hb hr q6 q7 HB7 HA7 HC7 HD7 HE7 HS7 HT7 HU7 HQ1
    go_wp2_with fail
    refine HQ2.out.mono ?_
    rintro e w9 ⟨r, rfl, hr, hb⟩
    obtain rfl : r = true := hr.2 (by simp)
    have HB9 := Lib.hid (Kt.bthen HB8.out hb)
    clear hb hr HQ2 HB8 q8 q9
    go_wp2_with fail
    go_ret
    exact ⟨rfl, HB9.out⟩
end Go.Proofs.Ytdckakjfplhanaa
