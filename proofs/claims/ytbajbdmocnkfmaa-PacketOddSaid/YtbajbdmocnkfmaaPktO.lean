/- The laws of packets, walked: an odd number of turned bits. -/
import Derived.Test.YtbajbdmocnkfmaaPktF
import Derived.Test.YtbajbdmocnkfmaaOdd
namespace Go.Proofs.Ytbajbdmocnkfmaa
open Go.RowKit Go.Proofs.Ytbajbdmocnkfmaa.CrcP Go.Proofs.Ytbajbdmocnkfmaa.PktP
set_option maxHeartbeats 1600000 in
theorem odd_bad (k a e f : Int) (d : ByteArray) (M : ByteArray) (x : Int) (T : ByteArray) (W1 : Hid (∀ W : World, Calls Try.prog 10 #[.agg #[.int .i64 k, .int .i64 a, .int .i64 e, .int .i64 f, .string d]] W fun en w' => en = .returned (.tuple #[.string T, .int .i64 x]) ∧ Below W.heap.size W w'))
    (c : ((x != 0) = true) ∨ ((x != 0) = false ∧ (k != 3) = true ∧ (k != 11) = true)) (w : World) :
    Calls Try.prog 8 #[.agg #[.int .i64 k, .int .i64 a, .int .i64 e, .int .i64 f, .string d], .string M] w fun en w' => en = .returned (.bool true) ∧ Below w.heap.size w w' := by
  rcases c with c1 | ⟨c1, c2, c3⟩
  all_goals
    go_enter Try.func8, Try.ntmps8
    go_wp2_with fail
    refine (W1.out _).mono ?_; rintro en w1 ⟨rfl, hb1⟩
    obtain ⟨hc1, hf1⟩ := Kt.bcell hb1
    have hz1 : w.heap.size < w1.heap.size := by have := hb1.size; simp at this; omega
    go_wp2_with fail
    refine (lives_calls _).mono ?_; rintro en w2 ⟨rfl, hb2⟩
    obtain ⟨hc2, hf2⟩ := Kt.bcell hb2
    have hz2 : w.heap.size < w2.heap.size := by have := hb2.size; omega
    go_wp2_with fail
    refine (lives_calls _).mono ?_; rintro en w3 ⟨rfl, hb3⟩
    go_wp2
    go_ret
    exact ⟨rfl, Kt.bthen (Kt.bthen (Kt.bthen (Kt.balloc (Below.refl _ w) _) hb1) hb2) hb3⟩
/-- behind j bytes of the mask -/
def OddRel (w wr : World) (g : Nat) (c : UInt8) (r : List UInt8) (M : ByteArray) (j : Nat) : Prop :=
  j ≤ r.length ∧ j ≤ M.size ∧ Kt.Byt wr g (c :: Od.od r M.data.toList j) ∧ Below w.heap.size w wr
set_option maxHeartbeats 3200000 in
theorem odd_good (k a e f : Int) (d : ByteArray) (M : ByteArray) (hM : M.size ≤ 140737488351232) (T : ByteArray) (c : UInt8) (r : List UInt8) (hT : T.data.toList = c :: r) (hT2 : T.size ≤ 100) (W1 : Hid (∀ W : World, Calls Try.prog 10 #[.agg #[.int .i64 k, .int .i64 a, .int .i64 e, .int .i64 f, .string d]] W fun en w' => en = .returned (.tuple #[.string T, .int .i64 0]) ∧ Below W.heap.size W w'))
    (hk : k = 3 ∨ k = 11) (hlaw : ∀ r2 : List UInt8, r2.length = r.length → six r2 ≠ six r → (rd (c :: r2)).2 = 5) (w : World) :
    Calls Try.prog 8 #[.agg #[.int .i64 k, .int .i64 a, .int .i64 e, .int .i64 f, .string d], .string M] w fun en w' => en = .returned (.bool true) ∧ Below w.heap.size w w' := by
  have hk0 := fun wx : World => run_bytes_of_string (P := Try.prog) wx 9 34 5 T Try.underlying9 Try.underlying34 Try.underlying5
  have HLAW := Lib.hid hlaw; clear hlaw
  have hrl : T.size = r.length + 1 := by rw [← len_size, hT]; rfl
  have HT := Lib.hid hT; clear hT
  have HRL := Lib.hid hrl
  rcases hk with rfl | rfl
  all_goals
    go_enter Try.func8, Try.ntmps8
    go_wp2_with fail
    refine (W1.out _).mono ?_; rintro en w1 ⟨rfl, hb1⟩
    obtain ⟨hc1, hf1⟩ := Kt.bcell hb1
    have hz1 : w.heap.size < w1.heap.size := by have := hb1.size; simp at this; omega
    go_wp2_with fail
    refine (lives_calls _).mono ?_; rintro en w2 ⟨rfl, hb2⟩
    obtain ⟨hc2, hf2⟩ := Kt.bcell hb2
    have hz2 : w.heap.size < w2.heap.size := by have := hb2.size; omega
    have hB2 := Kt.bthen (Kt.bthen (Kt.balloc (Below.refl _ w) _) hb1) hb2
    have hby := (Kt.Byt.of_string w2 T (grownCap w2 T.size 0 5) 5).drew
    have hbel := (Kt.balloc hB2 (.cells (bytesRow T (grownCap w2 T.size 0 5)) 5 ((bytesRow T (grownCap w2 T.size 0 5)).size, (bytesRow T (grownCap w2 T.size 0 5)).size + 1))).drew
    have hg : w.heap.size ≤ w2.heap.size := hB2.size
    clear hB2 hb1 hb2
    rw [hrl] at hby hbel
    go_wp2_with fail
    clear hk0 hc1 hf1 hz1 hc2 hf2 hz2
    generalize grownCap w2 (r.length + 1) 0 5 = cap at *
    generalize w2.heap.size = g at *
    generalize (w2.alloc (.cells (bytesRow T cap) 5 ((bytesRow T cap).size, (bytesRow T cap).size + 1))).drew = w3 at *
    rw [HT.out] at hby
    go_loopw [8, 9] (fun x n wr => ∃ (j : Nat), n = .int .i64 ((j : Int) + 1) ∧ x = .int .i64 (Od.ct M.data.toList j : Nat) ∧ OddRel w wr g c r M j) (fun _ n _ => r.length + 1 - (intOf n).toNat)
    case atStart => exact ⟨0, rfl, by rw [Od.ct_zero]; rfl, by omega, by omega, by rw [Od.od_zero]; exact hby, hbel⟩
    case round =>
      clear hby hbel
      obtain ⟨j, rfl, rfl, hj1, hj2, hby, hbel⟩ := hrel
      have hml := len_size M
      have hol := Od.od_len r M.data.toList j hj1 (by omega)
      have hcl := Od.ct_le M.data.toList j
      have hr98 : r.length ≤ 99 := by omega
      by_cases h1 : j < r.length
      · by_cases h2 : j < M.size
        · have hcell := hby.1 (j + 1) (by rw [List.length_cons]; omega)
          have hfz := hby.2 (j + 1) (by rw [List.length_cons]; omega)
          have hx : (c :: Od.od r M.data.toList j)[j + 1]'(by rw [List.length_cons]; omega) = r[j] := by
            rw [List.getElem_cons_succ]; exact Od.od_get r M.data.toList j h1 (by omega)
          rw [hx] at hcell
          have hgl := get_list M j h2
          have HS := Lib.hid (Od.od_succ r M.data.toList j h1 (by omega))
          have HC := Lib.hid (Od.ct_succ M.data.toList j (by omega))
          rw [← hgl] at HS HC
          have hxor := CrcN.xor8 r[j] M[j]
          have hpop := pop_le (M[j]).toNat
          rw [← pop_eq] at HC
          have hmb := (M[j]).toNat_lt
          generalize r[j] = xr at *
          have HY := Lib.hid hby; clear hby hx hgl hml hol
          generalize Od.ct M.data.toList j = cj at *
          have hw1 : IntKind.i64.wrap (j : Int) = (j : Int) := IntWalk.i64_in _ (by omega)
          have hi0 : (0 : Int) ≤ (j : Int) + 1 := by omega
          have hi1 : (j : Int) + 1 < (r.length : Int) + 1 := by omega
          have hi2 : (j : Int) < (M.size : Int) := by omega
          have hi3 : ((j : Int) + 1).toNat = j + 1 := by omega
          go_wp2_with fail
          refine wp_region_still_tail 10 (by kernel_rfl) (by kernel_rfl) ?_
          simp only [List.take_succ_cons, List.take_zero, List.drop_succ_cons, List.drop_zero]
          change wpStill _ _ wr.drew _ _ _
          iterate 10 still_step
          refine wpStill_nil ?_
          change wpList _ _ _ _ _ wr.drew
          have hcell2 : wr.drew.cell? ⟨g, j + 1, none⟩ = some (.int .u8 (xr.toNat : Int)) := hcell
          have hfz2 : wr.drew.frozen? ⟨g, j + 1, none⟩ = false := hfz
          have HY2 : Hid (Kt.Byt wr.drew g (c :: Od.od r M.data.toList j)) := HY
          have hbel2 : Below w.heap.size w wr.drew := hbel.drew
          clear hcell hfz HY hbel
          generalize wr.drew = w4 at *
          go_wp2_with fail
          have hB4 := hbel2.setCell (p := ⟨g, j + 1, none⟩) hg (.int .u8 ((xr.toNat ^^^ M[j].toNat : Nat) : Int))
          have hY5 : Kt.Byt (w4.setCell ⟨g, j + 1, none⟩ (.int .u8 ((xr.toNat ^^^ M[j].toNat : Nat) : Int))) g (c :: Od.od r M.data.toList (j + 1)) := by
            have h5 := HY2.out.set (j + 1) (by rw [List.length_cons, Od.od_len r M.data.toList j hj1 (by rw [len_size]; omega)]; omega) (xr ^^^ M[j])
            rw [UInt8.toNat_xor] at h5
            rw [HS.out]; exact h5
          have HY5 := Lib.hid hY5; clear hY5 HY2 hbel2 hcell2 hfz2
          generalize (w4.setCell ⟨g, j + 1, none⟩ (.int .u8 ((xr.toNat ^^^ M[j].toNat : Nat) : Int))) = w5 at *
          refine (ones_calls _ M[j].toNat rfl (by omega) _).mono ?_; rintro en w6 ⟨rfl, rfl⟩
          go_wp2
          go_roundw
          case rel => exact ⟨j + 1, by go_num, by rw [HC.out]; go_num, by omega, by omega, HY5.out, hB4⟩
          case measure => simp [intOf]; omega
        · have hge : ¬ ((j : Int) + 1 ≤ (M.size : Int)) := by omega
          have hc := hby.back (P := Try.prog) 34 9 5 (r.length + 1) cap (by rw [List.length_cons, hol]) Try.underlying34 Try.underlying5 Try.underlying9
          have hlaw2 := Lib.hid (fun hodd => HLAW.out _ hol (Od.odd_law r M.data.toList j hj1 (by omega) hodd))
          have hsz : (c :: Od.od r M.data.toList j).length ≤ 100 := by rw [List.length_cons, hol]; omega
          clear hby hol hml
          generalize Od.ct M.data.toList j = cj at *
          generalize c :: Od.od r M.data.toList j = l2 at *
          go_wp2_with fail
          refine (read_calls ⟨l2.toArray⟩ (by unfold maxLen; show l2.toArray.size ≤ _; simp; omega) _).mono ?_; rintro en w5 ⟨rfl, hb5⟩
          have hE : (⟨l2.toArray⟩ : ByteArray).data.toList = l2 := by simp
          rw [hE]
          clear hE
          have hB5 : Below w.heap.size w w5 := Kt.bthen hbel hb5
          rcases Nat.mod_two_eq_zero_or_one cj with hp | hp
          · have hp2 : ((cj : Int) % 2 == 0) = true := by rw [beq_iff_eq]; omega
            generalize (rd l2) = pp at *
            unfold rdV
            clear hc hb5 hp
            go_wp2
            go_ret
            exact ⟨rfl, hB5⟩
          · have hrd := hlaw2.out hp
            have hp2 : ((cj : Int) % 2 == 0) = false := by rw [beq_eq_false_iff_ne]; omega
            generalize (rd l2).1 = p1 at *
            unfold rdV
            rw [hrd]
            clear hc hb5 hrd hp
            go_wp2
            go_ret
            exact ⟨rfl, hB5⟩
      · have hge : ¬ ((j : Int) + 1 < (r.length : Int) + 1) := by omega
        have hc := hby.back (P := Try.prog) 34 9 5 (r.length + 1) cap (by rw [List.length_cons, hol]) Try.underlying34 Try.underlying5 Try.underlying9
        have hlaw2 := Lib.hid (fun hodd => HLAW.out _ hol (Od.odd_law r M.data.toList j hj1 (by omega) hodd))
        have hsz : (c :: Od.od r M.data.toList j).length ≤ 100 := by rw [List.length_cons, hol]; omega
        clear hby hol hml
        generalize Od.ct M.data.toList j = cj at *
        generalize c :: Od.od r M.data.toList j = l2 at *
        go_wp2_with fail
        refine (read_calls ⟨l2.toArray⟩ (by unfold maxLen; show l2.toArray.size ≤ _; simp; omega) _).mono ?_; rintro en w5 ⟨rfl, hb5⟩
        have hE : (⟨l2.toArray⟩ : ByteArray).data.toList = l2 := by simp
        rw [hE]
        clear hE
        have hB5 : Below w.heap.size w w5 := Kt.bthen hbel hb5
        rcases Nat.mod_two_eq_zero_or_one cj with hp | hp
        · have hp2 : ((cj : Int) % 2 == 0) = true := by rw [beq_iff_eq]; omega
          generalize (rd l2) = pp at *
          unfold rdV
          clear hc hb5 hp
          go_wp2
          go_ret
          exact ⟨rfl, hB5⟩
        · have hrd := hlaw2.out hp
          have hp2 : ((cj : Int) % 2 == 0) = false := by rw [beq_eq_false_iff_ne]; omega
          generalize (rd l2).1 = p1 at *
          unfold rdV
          rw [hrd]
          clear hc hb5 hrd hp
          go_wp2
          go_ret
          exact ⟨rfl, hB5⟩
theorem odd_walk (v0 v1 : Value) (w : World) (r0 : Fr.RdV w reachBytes (.cat 1 (.int .i64) (.cat 1 (.int .i64) (.cat 1 (.int .i64) (.cat 1 (.int .i64) (.cat 1 .string .nil))))) v0) (r1 : Fr.RdV w reachBytes .string v1) :
    Calls Try.prog 8 #[v0, v1] w fun e w' => e = .returned (.bool true) ∧ Below w.heap.size w w' := by
  obtain ⟨k, a, e, f, d, rfl, _⟩ := parg r0
  obtain ⟨M, e1, hM⟩ := r1; cases e1
  by_cases h : Okp ⟨k, a, e, f, d.data.toList⟩
  · have hl := text_len _ h
    have hs : (⟨(text ⟨k, a, e, f, d.data.toList⟩).toArray⟩ : ByteArray).size = (text ⟨k, a, e, f, d.data.toList⟩).length := by show Array.size _ = _; simp
    have hW := Lib.hid (write_good k a e f d h)
    by_cases hk : isData k
    · exact odd_good k a e f d M hM _ (head k.toNat) (rest ⟨k, a, e, f, d.data.toList⟩) (by simp [text]) (by rw [hs]; omega) hW hk (fun r2 h1 h2 => data_rd ⟨k, a, e, f, d.data.toList⟩ h hk r2 h1 h2) w
    · exact odd_bad k a e f d M 0 _ hW (Or.inr ⟨rfl, by rw [bne_iff_ne]; unfold isData at hk; omega, by rw [bne_iff_ne]; unfold isData at hk; omega⟩) w
  · exact odd_bad k a e f d M _ ByteArray.empty (Lib.hid (write_bad k a e f d h)) (Or.inl (by rw [bne_iff_ne]; unfold chk; rw [if_neg h]; split <;> decide)) w
end Go.Proofs.Ytbajbdmocnkfmaa
