/- The walks of package slots: Check. -/
import Derived.Test.YtidcbboonjenhaaSltW
namespace Go.Proofs.Ytidcbboonjenhaa
open Go.RowKit Classical Go.Proofs.Ytidcbboonjenhaa.Slt
theorem Bx.slot {b : Nat} {l : List Int} {w : World} (h : Bx 43 b l w) (i : Nat) : w.rangeAt b (i * 66) (Kt.ia .i64 (at_ l i)).toList := by
  have h2 := World.rangeAt_of_block h (i * 66) 66
  rw [Kt.ia_extract, Nat.add_sub_cancel_left] at h2
  exact h2
theorem Bx.drewN {t : TypeId} {b : Nat} {l : List Int} {w : World} (h : Bx t b l w) (n : Nat) : Bx t b l (w.drewN n) := h
theorem at_size (l : List Int) (hl : l.length = 594) (i : Nat) (hi : i < 9) : (Try.prog.info? 40).map (·.size) = some (Kt.ia .i64 (at_ l i)).toList.length := by
  rw [Kt.ia_list, List.length_map, at_len l hl i hi]; exact size_slot
theorem none_iff (l : List Int) (hl : l.length = 594) : at_ l 0 = 0 :: zs ↔ ∀ j, j < 66 → G l j = 0 := by
  have h := zero_iff (at_ l 0) (at_len l hl 0 (by omega))
  have e : ∀ j, j < 66 → G (at_ l 0) j = G l j := fun j hj => by rw [G_at l 0 j hj, Nat.zero_mul, Nat.zero_add]
  constructor
  · intro a j hj
    by_cases h0 : j = 0
    · subst h0; rw [← e 0 (by omega), a]; rfl
    · rw [← e j hj, a]
      unfold G zs
      obtain ⟨k, rfl⟩ : ∃ k, j = k + 1 := ⟨j - 1, by omega⟩
      rw [List.getD_eq_getElem?_getD, List.getElem?_cons_succ, List.getElem?_replicate, if_pos (by omega)]; rfl
  · intro a
    have b := h.2 fun j h1 h2 => by rw [e j h2, a j h2]
    rw [e 0 (by omega), a 0 (by omega)] at b
    exact b
def ChkIs (l : List Int) (w : World) (e : Ending) (w' : World) : Prop := e = .returned (.int .i64 (chk l)) ∧ Below w.heap.size w w'
/-- the slots below i are right -/
def Upto (l : List Int) (i : Nat) : Prop := ∀ j, 1 ≤ j → j < i → SlotOk (at_ l j) ∧ ∀ k, 1 ≤ k → k < j → G l (j * 66 + 1) = 0 ∨ G l (j * 66 + 1) ≠ G l (k * 66 + 1)
/-- its address is none of those of the slots below k -/
def Other (l : List Int) (i k : Nat) : Prop := ∀ j, 1 ≤ j → j < k → G l (i * 66 + 1) = 0 ∨ G l (i * 66 + 1) ≠ G l (j * 66 + 1)
theorem Upto.one (l : List Int) : Upto l 1 := fun j h1 h2 => absurd h2 (by omega)
theorem Other.one (l : List Int) (i : Nat) : Other l i 1 := fun j h1 h2 => absurd h2 (by omega)
theorem Upto.next {l : List Int} {i : Nat} (h : Upto l i) (hs : SlotOk (at_ l i)) (ho : Other l i i) : Upto l (i + 1) := fun j h1 h2 => by
  by_cases e : j = i
  · subst e; exact ⟨hs, ho⟩
  · exact h j h1 (by omega)
theorem Other.next {l : List Int} {i k : Nat} (h : Other l i k) (hk : G l (i * 66 + 1) = 0 ∨ G l (i * 66 + 1) ≠ G l (k * 66 + 1)) : Other l i (k + 1) := fun j h1 h2 => by
  by_cases e : j = k
  · subst e; exact hk
  · exact h j h1 (by omega)
theorem ok_of {l : List Int} (h0 : ∀ j, j < 66 → G l j = 0) (h : Upto l 9) : Ok l := ⟨h0, fun i h1 h2 => (h i h1 h2).1, fun i k h1 h2 h3 => (h i (by omega) h3).2 k h1 h2⟩
theorem next_i {k n : Nat} (h : k < n) : (n - (intOf (.int .i64 ((k : Int) + 1))).toNat : Nat) < n - (intOf (.int .i64 (k : Int))).toNat := by
  simp only [intOf]
  omega
theorem wrap_i {k : Nat} (h : k < 1000) : wrap64 ((k : Int) + 1) = ((k + 1 : Nat) : Int) := by unfold wrap64; omega
theorem next_w {k n : Nat} (h : k < n) (hn : n < 1000) : (n - (intOf (.int .i64 (wrap64 ((k : Int) + 1)))).toNat : Nat) < n - (intOf (.int .i64 (k : Int))).toNat := by
  rw [wrap_i (by omega)]
  simp only [intOf]
  omega
set_option maxHeartbeats 1600000 in
theorem check_calls (l : List Int) (hl : l.length = 594) (w : World) : Calls Try.prog 33 #[.agg (Kt.ia .i64 l)] w (ChkIs l w) := by
  have hb : Bx 43 w.heap.size l (w.alloc (.cells (Kt.ia .i64 l) 43)) := heap_alloc_new w _
  have hr0 := hb.slot 0
  have hs0 := at_size l hl 0 (by omega)
  have HB := Lib.hid hb
  have Z0 := zero_slot
  have Z1 := ia_ne 0
  have Z2 := ia_st 0
  have EG := fun x y a b w => guard_slot .neq x y a b w
  by_cases h0 : at_ l 0 = 0 :: zs
  · have EQ := fun w => ((eq_slot (at_ l 0) (0 :: zs) (at_len l hl 0 (by omega)) (by rw [List.length_cons, zs_len])).1 h0 w).2
    have H0 := Lib.hid ((none_iff l hl).1 h0)
    generalize at_ l 0 = s0 at *
    clear h0 hb
    go_enter Try.func33, Try.ntmps33
    go_wp2_with (refine wpList_load_mid rfl 40 (.tmp 6) rfl w.heap.size 0 rfl _ _ hr0 Try.underlying40 rfl hs0 ?_)
    clear hr0 hs0 EQ Z0 Z1 Z2 EG
    go_loopw [3, 4] (fun i _ wr => ∃ n : Nat, Hid (1 ≤ n ∧ n ≤ 9) ∧ i = .int .i64 n ∧ Hid (Upto l n) ∧ Hid (Bx 43 w.heap.size l wr) ∧ Hid (Below w.heap.size w wr)) (fun i _ _ => 9 - (intOf i).toNat)
    case atStart => exact ⟨1, Lib.hid ⟨by omega, by omega⟩, rfl, Lib.hid (Upto.one l), HB, Lib.hid (Kt.balloc (Below.refl _ w) _)⟩
    case round =>
      clear HB
      obtain ⟨n, HK, rfl, HU, HB, HW⟩ := hrel
      by_cases hlt : n < 9
      · have hlt' : (n : Int) < 9 := by omega
        have hr := HB.out.slot n
        have hs := at_size l hl n hlt
        have HS := Lib.hid (fun W => slot_calls (at_ l n) (at_len l hl n hlt) W)
        by_cases hok : SlotOk (at_ l n)
        · have HOK := Lib.hid hok
          rw [decide_eq_true hok] at HS
          clear hok
          generalize at_ l n = s at hr hs HS
          go_wp2_with (refine wpList_load_mid rfl 40 (.tmp 16) rfl w.heap.size (n * 66) rfl _ _ hr Try.underlying40 rfl hs ?_)
          refine (HS.out _).mono ?_
          rintro en w2 ⟨rfl, hb2⟩
          have HB2 := Lib.hid (HB.out.on hb2)
          have HW2 := Lib.hid (Kt.bthen HW.out hb2)
          clear hr hs HS hb2 HB HW
          go_wp2_with fail
          go_loopw [4] (fun i wr => ∃ k : Nat, Hid (1 ≤ k ∧ k ≤ n) ∧ i = .int .i64 k ∧ Hid (Other l n k) ∧ Hid (Bx 43 w.heap.size l wr) ∧ Hid (Below w.heap.size w wr)) (fun i _ => n - (intOf i).toNat)
          case atStart => exact ⟨1, Lib.hid ⟨by omega, HK.out.1⟩, rfl, Lib.hid (Other.one l n), HB2, HW2⟩
          case round =>
            clear HB2 HW2
            obtain ⟨k, HK2, rfl, HO, HB, HW⟩ := hrel
            by_cases hkn : k < n
            · have hkn' : (k : Int) < n := by omega
              have hk9 : (k : Int) < 9 := by omega
              have c1 := HB.out.cell (n * 66 + 1) (by omega)
              have c2 := HB.out.cell (k * 66 + 1) (by omega)
              have HNX := Lib.hid (HO.out.next (l := l) (i := n) (k := k))
              have HNO := Lib.hid (fun (h : ¬ (G l (n * 66 + 1) = 0 ∨ G l (n * 66 + 1) ≠ G l (k * 66 + 1))) => chk_bad (l := l) fun a => h (a.two n k HK2.out.1 hkn hlt))
              generalize G l (n * 66 + 1) = x at *
              generalize G l (k * 66 + 1) = y at *
              by_cases hx : x = 0
              · have f1 : (x != 0) = false := by rw [hx]; rfl
                have HR := Lib.hid (HNX.out (.inl hx))
                clear hx HNX HNO
                go_upto_region 11 with (fail)
                go_quiet (fail)
                go_wp2_with fail
                exact ⟨⟨k + 1, Lib.hid ⟨by omega, by omega⟩, rfl, HR, Lib.hid (HB.out.drewN _), Lib.hid (bdrewN HW.out _)⟩, next_i hkn⟩
              · have f1 : (x != 0) = true := bne_iff_ne.2 hx
                by_cases hxy : x = y
                · have f2 : (x == y) = true := beq_iff_eq.2 hxy
                  have HN := Lib.hid (HNO.out (by rintro (a | a) <;> contradiction))
                  clear hx hxy HNX HNO
                  go_upto_region 11 with (fail)
                  go_quiet (fail)
                  go_wp2_with fail
                  go_ret
                  exact ⟨congrArg (fun x => Ending.returned (.int .i64 x)) HN.out.symm, bdrewN HW.out _⟩
                · have f2 : (x == y) = false := beq_eq_false_iff_ne.2 hxy
                  have HR := Lib.hid (HNX.out (.inr hxy))
                  clear hx hxy HNX HNO
                  go_upto_region 11 with (fail)
                  go_quiet (fail)
                  go_wp2_with fail
                  exact ⟨⟨k + 1, Lib.hid ⟨by omega, by omega⟩, rfl, HR, Lib.hid (HB.out.drewN _), Lib.hid (bdrewN HW.out _)⟩, next_i hkn⟩
            · have hkn' : ¬ (k : Int) < n := by omega
              obtain rfl : k = n := by have := HK2.out; omega
              have HUN := Lib.hid (HU.out.next HOK.out HO.out)
              go_wp2_with fail
              exact ⟨⟨k + 1, Lib.hid ⟨by omega, by omega⟩, rfl, HUN, HB, HW⟩, next_i hlt⟩
        · have HN := Lib.hid (chk_bad (l := l) fun a => hok (a.slot n HK.out.1 hlt))
          rw [decide_eq_false hok] at HS
          clear hok
          generalize at_ l n = s at hr hs HS
          go_wp2_with (refine wpList_load_mid rfl 40 (.tmp 16) rfl w.heap.size (n * 66) rfl _ _ hr Try.underlying40 rfl hs ?_)
          refine (HS.out _).mono ?_
          rintro en w2 ⟨rfl, hb2⟩
          go_wp2_with fail
          go_ret
          exact ⟨congrArg (fun x => Ending.returned (.int .i64 x)) HN.out.symm, Kt.bthen HW.out hb2⟩
      · have hlt' : ¬ (n : Int) < 9 := by omega
        have HN := Lib.hid (chk_ok (ok_of H0.out (by obtain rfl : n = 9 := by have := HK.out; omega
                                                     exact HU.out)))
        go_wp2_with fail
        go_ret
        exact ⟨congrArg (fun x => Ending.returned (.int .i64 x)) HN.out.symm, HW.out⟩
  · have EQ := fun w => ((eq_slot (at_ l 0) (0 :: zs) (at_len l hl 0 (by omega)) (by rw [List.length_cons, zs_len])).2 h0 w).2
    have HN := Lib.hid (chk_bad (l := l) fun k => h0 ((none_iff l hl).2 k.none))
    generalize at_ l 0 = s0 at *
    clear h0 hb
    go_enter Try.func33, Try.ntmps33
    go_wp2_with (refine wpList_load_mid rfl 40 (.tmp 6) rfl w.heap.size 0 rfl _ _ hr0 Try.underlying40 rfl hs0 ?_)
    go_ret
    exact ⟨congrArg (fun x => Ending.returned (.int .i64 x)) HN.out.symm, Kt.balloc (Below.refl _ w) _⟩
end Go.Proofs.Ytidcbboonjenhaa
