/- typist: Check, shift, put walked. -/
import Derived.Test.YtndkaehbmdiofaaDoorTypC
import Derived.Test.YtndkaehbmdiofaaDoorUpd
namespace Go.Proofs.YtndkaehbmdiofaaDoor
open Go.RowKit Go.Proofs.YtndkaehbmdiofaaDoor.Typ
/-- the machine's box -/
def Mx (g : Nat) (t : St) (w : World) : Prop := w.heap[g]? = some (.cells t.cs 55 (0, 0))
theorem Mx.on {g : Nat} {t : St} {w w' : World} (h : Mx g t w) (hb : Below w.heap.size w w') : Mx g t w' := Kt.row_on hb h
theorem Mx.lt {g : Nat} {t : St} {w : World} (h : Mx g t w) : g < w.heap.size := (Array.getElem?_eq_some_iff.1 h).1
theorem Mx.text {g : Nat} {t : St} {w : World} (h : Mx g t w) (s : ByteArray) : Mx g { t with text := s } (w.setCell ⟨g, 8, none⟩ (.string s)) := heap_setCell_same _ _ _ _ _ _ h
theorem Mx.wait {g : Nat} {t : St} {w : World} (h : Mx g t w) (n : Int) : Mx g { t with wait := n } (w.setCell ⟨g, 7, none⟩ (.int .i64 n)) := heap_setCell_same _ _ _ _ _ _ h
theorem Mx.last {g : Nat} {t : St} {w : World} (h : Mx g t w) (n : Int) : Mx g { t with last := n } (w.setCell ⟨g, 6, none⟩ (.int .i64 n)) := heap_setCell_same _ _ _ _ _ _ h
theorem Mx.dead {g : Nat} {t : St} {w : World} (h : Mx g t w) (n : Int) : Mx g { t with dead := n } (w.setCell ⟨g, 5, none⟩ (.int .i64 n)) := heap_setCell_same _ _ _ _ _ _ h
theorem Mx.caps {g : Nat} {t : St} {w : World} (h : Mx g t w) (b : Bool) : Mx g { t with caps := b } (w.setCell ⟨g, 4, none⟩ (.bool b)) := heap_setCell_same _ _ _ _ _ _ h
set_option maxHeartbeats 1600000 in
theorem shift_calls (t : St) (g : Nat) (w : World) (h : Mx g t w) : Calls Tryd.prog 37 #[.pointer (some ⟨g, 0, none⟩)] w fun e w' => e = .returned (.bool (shiftP t)) ∧ Below w.heap.size w w' := by
  have HM := Lib.hid h
  have HC := Lib.hid (fun W => thas_calls t.held 225 (by decide) W)
  have HD := Lib.hid (fun W => thas_calls t.held 229 (by decide) W)
  have HS : Hid (shiftP t = (t.held.has 225 || t.held.has 229)) := Lib.hid rfl
  unfold Mx St.cs at h
  have q := fun i => cell_of_row _ _ i _ _ _ h
  clear h
  go_enter Tryd.func37, Tryd.ntmps37
  go_wp2_with fail
  refine (HC.out _).mono ?_; rintro en w1 ⟨rfl, hb⟩
  have hm := (HM.out.on hb)
  have HB := Lib.hid hb
  unfold Mx St.cs at hm
  have q := fun i => cell_of_row _ _ i _ _ _ hm
  clear hb hm
  generalize t.held.has 225 = b1 at *
  cases b1
  · go_wp2_with fail
    refine (HD.out _).mono ?_; rintro en w2 ⟨rfl, hb⟩
    go_wp2_with fail
    go_ret
    exact ⟨by rw [HS.out]; rfl, Kt.bthen HB.out hb⟩
  · go_wp2_with fail
    go_ret
    exact ⟨by rw [HS.out]; rfl, HB.out⟩
set_option maxHeartbeats 1600000 in
theorem put_calls (t : St) (s : ByteArray) (g : Nat) (w : World) (h : Mx g t w) (h1 : t.text.size ≤ 4096) (h2 : s.size ≤ 4096) :
    Calls Tryd.prog 35 #[.pointer (some ⟨g, 0, none⟩), .string s] w fun e w' => e = .returned (.tuple #[]) ∧ Mx g (putP t s) w' ∧ Upd g w w' := by
  have HM := Lib.hid h
  unfold Mx St.cs at h
  have q := fun i => cell_of_row _ _ i _ _ _ h
  have qf := fun i => frozen_of_row _ _ i _ _ h
  have hx : IntKind.i64.wrap ((t.text.size : Int) + (s.size : Int)) = ((t.text.size + s.size : Nat) : Int) := by have := IntWalk.i64_in ((t.text.size : Int) + (s.size : Int)) (by omega); rw [this]; omega
  obtain ⟨k, hk⟩ : ∃ k, t.text.size + s.size = k := ⟨_, rfl⟩
  have hns : ¬ 9223372036854775807 < t.text.size + s.size := by omega
  rw [hk] at hx
  by_cases hc : k ≤ 4096
  · have hc' : (k : Int) ≤ 4096 := by omega
    have HP : Hid (putP t s = { t with text := t.text ++ s }) := Lib.hid (by unfold putP; rw [hk, if_pos hc])
    rw [HP.out]
    clear h h1 h2 hk hc
    go_enter Tryd.func35, Tryd.ntmps35
    go_wp2_with fail
    go_end0
    exact ⟨rfl, HM.out.text _, (Upd.refl g w).set _ _⟩
  · have hc' : ¬ (k : Int) ≤ 4096 := by omega
    have HP : Hid (putP t s = t) := Lib.hid (by unfold putP; rw [hk, if_neg hc])
    rw [HP.out]
    clear h h1 h2 hk hc
    go_enter Tryd.func35, Tryd.ntmps35
    go_wp2_with fail
    go_end0
    exact ⟨rfl, HM.out, Upd.refl g w⟩
theorem and_low (x : UInt64) : (bits BinOp.and IntKind.u64 (x.toNat : Int) 15 != 0) = !(x.toNat % 16 == 0) := by
  have h := x.toNat_lt
  rw [show (15 : Int) = ((15 : Nat) : Int) from rfl, u64_and_nat _ _ (by omega) (by omega), show (15 : Nat) = 2 ^ 4 - 1 from rfl, Nat.and_two_pow_sub_one_eq_mod]
  show (((x.toNat % 16 : Nat) : Int) != 0) = _
  rw [Bool.eq_iff_iff, bne_iff_ne, Bool.not_eq_true', beq_eq_false_iff_ne]
  omega
theorem prints_in {c : Int} (h : prints c = true) : 4 ≤ c ∧ c ≤ 55 := by
  unfold prints signs at h
  rw [Bool.or_eq_true, beq_iff_eq, decide_eq_true_iff] at h
  omega
/-- t.Last is 0 with t.Wait, or stands in order -/
theorem lastB_cases (t : St) : (t.last = 0 ∧ t.wait = 0 ∧ lastB t = true) ∨ ((t.last = 0 → t.wait ≠ 0) ∧ ((prints t.last = false ∧ lastB t = false) ∨
    (prints t.last = true ∧ t.held.has t.last.toNat = false ∧ lastB t = false) ∨ (prints t.last = true ∧ t.held.has t.last.toNat = true ∧ t.wait < 1 ∧ lastB t = false) ∨
    (prints t.last = true ∧ t.held.has t.last.toNat = true ∧ 1 ≤ t.wait ∧ 20 < t.wait ∧ lastB t = false) ∨ (prints t.last = true ∧ t.held.has t.last.toNat = true ∧ 1 ≤ t.wait ∧ t.wait ≤ 20 ∧ lastB t = true))) := by
  unfold lastB
  by_cases h0 : t.last = 0 ∧ t.wait = 0
  · exact .inl ⟨h0.1, h0.2, by rw [h0.1, h0.2]; rfl⟩
  · have e : (t.last == 0 && t.wait == 0) = false := by rw [Bool.and_eq_false_iff, beq_eq_false_iff_ne, beq_eq_false_iff_ne]; omega
    rw [e]
    refine .inr ⟨by omega, ?_⟩
    cases prints t.last
    · exact .inl ⟨rfl, rfl⟩
    · cases t.held.has t.last.toNat
      · exact .inr (.inl ⟨rfl, rfl, rfl⟩)
      · by_cases h1 : 1 ≤ t.wait
        · by_cases h2 : t.wait ≤ 20
          · exact .inr (.inr (.inr (.inr ⟨rfl, rfl, h1, h2, by simp [h1, h2]⟩)))
          · exact .inr (.inr (.inr (.inl ⟨rfl, rfl, h1, by omega, by simp [h2]⟩)))
        · exact .inr (.inr (.inl ⟨rfl, rfl, by omega, by simp [h1]⟩))
def ChkMid (t : St) (w0 : World) (v : Value) (wx : World) : Prop := v = .bool (lastB t) ∧ Hid (wx.heap[w0.heap.size]? = some (.cells t.cs 37 (0, 0)) ∧ Below w0.heap.size w0 wx)
set_option maxRecDepth 100000 in
set_option maxHeartbeats 3200000 in
theorem chk_calls (t : St) (w0 : World) : Calls Tryd.prog 13 #[t.v] w0 fun e w' => e = .returned (.int .i64 (chkP t)) ∧ Below w0.heap.size w0 w' := by
  have HR0 := Lib.hid (heap_alloc_new w0 (.cells t.cs 37))
  have HB0 := Lib.hid (Kt.balloc (Below.refl _ w0) (.cells t.cs 37))
  obtain ⟨Cv, hCv⟩ : ∃ C, chkP t = C := ⟨_, rfl⟩
  rw [hCv]
  have HCV := Lib.hid hCv
  clear hCv
  unfold St.v
  go_enter Tryd.func13, Tryd.ntmps13
  go_upto_region 1 with (fail)
  refine Kt.fold (fun X => Hid (X.heap[w0.heap.size]? = some (.cells t.cs 37 (0, 0)) ∧ Below w0.heap.size w0 X)) (Lib.hid ⟨HR0.out, HB0.out⟩) (fun W HW => ?_)
  clear HR0 HB0
  go_cut [3] from 4 to 33 (fun v wx => ChkMid t w0 v wx)
  case first =>
    have hr := HW.out.1
    unfold St.cs at hr
    have q := fun i => cell_of_row _ _ i _ _ _ hr
    clear hr
    have HPR := Lib.hid (fun X => prints_calls t.last X)
    rcases lastB_cases t with ⟨h1, h2, hl⟩ | ⟨hne, hcs⟩
    · have h1' : (t.last == 0) = true := by rw [beq_iff_eq]; exact h1
      have h2' : (t.wait == 0) = true := by rw [beq_iff_eq]; exact h2
      have HL := Lib.hid hl
      clear h1 h2 hl HPR
      go_wp2_with fail
      go_meet
      exact ⟨by rw [HL.out], HW⟩
    · rcases hcs with ⟨hp, hl⟩ | hcs
      · have HL := Lib.hid hl
        rw [hp] at HPR
        clear hp hl
        by_cases h0 : t.last = 0
        · have h2' : (t.wait == 0) = false := by rw [beq_eq_false_iff_ne]; exact hne h0
          have h1' : (t.last == 0) = true := by rw [beq_iff_eq]; exact h0
          clear hne h0
          go_wp2_with fail
          refine (HPR.out _).mono ?_; rintro en w1 ⟨rfl, hb⟩
          have HW1 := Lib.hid (⟨Kt.row_on hb HW.out.1, Kt.bthen HW.out.2 hb⟩ : w1.heap[w0.heap.size]? = some (.cells t.cs 37 (0, 0)) ∧ Below w0.heap.size w0 w1)
          clear hb
          have hr := HW1.out.1
          unfold St.cs at hr
          have q := fun i => cell_of_row _ _ i _ _ _ hr
          clear hr
          go_wp2_with fail
          go_meet
          exact ⟨by rw [HL.out], HW1⟩
        · have h1' : (t.last == 0) = false := by rw [beq_eq_false_iff_ne]; exact h0
          clear hne h0
          go_wp2_with fail
          refine (HPR.out _).mono ?_; rintro en w1 ⟨rfl, hb⟩
          have HW1 := Lib.hid (⟨Kt.row_on hb HW.out.1, Kt.bthen HW.out.2 hb⟩ : w1.heap[w0.heap.size]? = some (.cells t.cs 37 (0, 0)) ∧ Below w0.heap.size w0 w1)
          clear hb
          have hr := HW1.out.1
          unfold St.cs at hr
          have q := fun i => cell_of_row _ _ i _ _ _ hr
          clear hr
          go_wp2_with fail
          go_meet
          exact ⟨by rw [HL.out], HW1⟩
      · have hp : prints t.last = true := by
          rcases hcs with ⟨h, _⟩ | ⟨h, _⟩ | ⟨h, _⟩ | ⟨h, _⟩ <;> exact h
        obtain ⟨p1, p2⟩ := prints_in hp
        rw [hp] at HPR
        have h1' : (t.last == 0) = false := by rw [beq_eq_false_iff_ne]; omega
        have HHS : Hid (∀ X : World, Calls Tryd.prog 22 #[t.held.v, .int .i64 t.last] X fun e w' => e = .returned (.bool (t.held.has t.last.toNat)) ∧ Below X.heap.size X w') := Lib.hid fun X => by
          have := thas_calls t.held t.last.toNat (by omega) X
          rw [show ((t.last.toNat : Nat) : Int) = t.last by omega] at this
          exact this
        unfold Hd.v Hd.vs at HHS
        clear p1 p2 hne hp
        rcases hcs with ⟨_, hh, hl⟩ | ⟨_, hh, h3, hl⟩ | ⟨_, hh, h3, h4, hl⟩ | ⟨_, hh, h3, h4, hl⟩
        · have HL := Lib.hid hl
          rw [hh] at HHS
          clear hl hh
          go_wp2_with fail
          refine (HPR.out _).mono ?_; rintro en w1 ⟨rfl, hb⟩
          have HW1 := Lib.hid (⟨Kt.row_on hb HW.out.1, Kt.bthen HW.out.2 hb⟩ : w1.heap[w0.heap.size]? = some (.cells t.cs 37 (0, 0)) ∧ Below w0.heap.size w0 w1)
          clear hb
          have hr := HW1.out.1
          unfold St.cs at hr
          have q := fun i => cell_of_row _ _ i _ _ _ hr
          clear hr
          go_wp2_with fail
          refine (HHS.out _).mono ?_; rintro en w2 ⟨rfl, hb⟩
          have HW2 := Lib.hid (⟨Kt.row_on hb HW1.out.1, Kt.bthen HW1.out.2 hb⟩ : w2.heap[w0.heap.size]? = some (.cells t.cs 37 (0, 0)) ∧ Below w0.heap.size w0 w2)
          clear hb
          have hr := HW2.out.1
          unfold St.cs at hr
          have q := fun i => cell_of_row _ _ i _ _ _ hr
          clear hr
          go_wp2_with fail
          go_meet
          exact ⟨by rw [HL.out]; try (simp; omega), HW2⟩
        · have HL := Lib.hid hl
          rw [hh] at HHS
          clear hl hh
          go_wp2_with fail
          refine (HPR.out _).mono ?_; rintro en w1 ⟨rfl, hb⟩
          have HW1 := Lib.hid (⟨Kt.row_on hb HW.out.1, Kt.bthen HW.out.2 hb⟩ : w1.heap[w0.heap.size]? = some (.cells t.cs 37 (0, 0)) ∧ Below w0.heap.size w0 w1)
          clear hb
          have hr := HW1.out.1
          unfold St.cs at hr
          have q := fun i => cell_of_row _ _ i _ _ _ hr
          clear hr
          go_wp2_with fail
          refine (HHS.out _).mono ?_; rintro en w2 ⟨rfl, hb⟩
          have HW2 := Lib.hid (⟨Kt.row_on hb HW1.out.1, Kt.bthen HW1.out.2 hb⟩ : w2.heap[w0.heap.size]? = some (.cells t.cs 37 (0, 0)) ∧ Below w0.heap.size w0 w2)
          clear hb
          have hr := HW2.out.1
          unfold St.cs at hr
          have q := fun i => cell_of_row _ _ i _ _ _ hr
          clear hr
          go_wp2_with fail
          go_meet
          exact ⟨by rw [HL.out]; try (simp; omega), HW2⟩
        · have HL := Lib.hid hl
          rw [hh] at HHS
          clear hl hh
          go_wp2_with fail
          refine (HPR.out _).mono ?_; rintro en w1 ⟨rfl, hb⟩
          have HW1 := Lib.hid (⟨Kt.row_on hb HW.out.1, Kt.bthen HW.out.2 hb⟩ : w1.heap[w0.heap.size]? = some (.cells t.cs 37 (0, 0)) ∧ Below w0.heap.size w0 w1)
          clear hb
          have hr := HW1.out.1
          unfold St.cs at hr
          have q := fun i => cell_of_row _ _ i _ _ _ hr
          clear hr
          go_wp2_with fail
          refine (HHS.out _).mono ?_; rintro en w2 ⟨rfl, hb⟩
          have HW2 := Lib.hid (⟨Kt.row_on hb HW1.out.1, Kt.bthen HW1.out.2 hb⟩ : w2.heap[w0.heap.size]? = some (.cells t.cs 37 (0, 0)) ∧ Below w0.heap.size w0 w2)
          clear hb
          have hr := HW2.out.1
          unfold St.cs at hr
          have q := fun i => cell_of_row _ _ i _ _ _ hr
          clear hr
          go_wp2_with fail
          go_meet
          exact ⟨by rw [HL.out]; try (simp; omega), HW2⟩
        · have HL := Lib.hid hl
          rw [hh] at HHS
          clear hl hh
          go_wp2_with fail
          refine (HPR.out _).mono ?_; rintro en w1 ⟨rfl, hb⟩
          have HW1 := Lib.hid (⟨Kt.row_on hb HW.out.1, Kt.bthen HW.out.2 hb⟩ : w1.heap[w0.heap.size]? = some (.cells t.cs 37 (0, 0)) ∧ Below w0.heap.size w0 w1)
          clear hb
          have hr := HW1.out.1
          unfold St.cs at hr
          have q := fun i => cell_of_row _ _ i _ _ _ hr
          clear hr
          go_wp2_with fail
          refine (HHS.out _).mono ?_; rintro en w2 ⟨rfl, hb⟩
          have HW2 := Lib.hid (⟨Kt.row_on hb HW1.out.1, Kt.bthen HW1.out.2 hb⟩ : w2.heap[w0.heap.size]? = some (.cells t.cs 37 (0, 0)) ∧ Below w0.heap.size w0 w2)
          clear hb
          have hr := HW2.out.1
          unfold St.cs at hr
          have q := fun i => cell_of_row _ _ i _ _ _ hr
          clear hr
          go_wp2_with fail
          go_meet
          exact ⟨by rw [HL.out]; try (simp; omega), HW2⟩
  case rest =>
    obtain ⟨rfl, HW2⟩ := hcut
    clear HW
    have hr := HW2.out.1
    unfold St.cs at hr
    have q := fun i => cell_of_row _ _ i _ _ _ hr
    have hx := and_low t.held.a
    clear hr
    have hcs : (t.held.a.toNat % 16 == 0) = false ∨ ((t.held.a.toNat % 16 == 0) = true ∧ t.dead < 0) ∨ ((t.held.a.toNat % 16 == 0) = true ∧ 0 ≤ t.dead ∧ 2 < t.dead) ∨ ((t.held.a.toNat % 16 == 0) = true ∧ 0 ≤ t.dead ∧ t.dead ≤ 2) := by
      cases (t.held.a.toNat % 16 == 0)
      · exact .inl rfl
      · refine .inr ?_
        rcases Int.lt_or_le t.dead 0 with h | h
        · exact .inl ⟨rfl, h⟩
        · rcases Int.lt_or_le 2 t.dead with h2 | h2
          · exact .inr (.inl ⟨rfl, h, h2⟩)
          · exact .inr (.inr ⟨rfl, h, h2⟩)
    rcases hcs with h1 | ⟨h1, h2⟩ | ⟨h1, h2, h3⟩ | ⟨h1, h2, h3⟩
    · have HF : Hid (chkP t = 4) := Lib.hid (by unfold chkP formB; rw [h1]; rfl)
      rw [h1] at hx
      obtain rfl : Cv = 4 := by rw [← HCV.out, HF.out]
      clear h1
      go_wp2_with fail
      go_ret
      exact ⟨rfl, HW2.out.2⟩
    · have HF : Hid (chkP t = 4) := Lib.hid (by unfold chkP formB; rw [h1, decide_eq_false (p := 0 ≤ t.dead) (by omega)]; rfl)
      rw [h1] at hx
      obtain rfl : Cv = 4 := by rw [← HCV.out, HF.out]
      clear h1
      go_wp2_with fail
      go_ret
      exact ⟨rfl, HW2.out.2⟩
    · have HF : Hid (chkP t = 4) := Lib.hid (by unfold chkP formB; rw [h1, decide_eq_false (p := t.dead ≤ 2) (by omega), Bool.and_false]; rfl)
      rw [h1] at hx
      obtain rfl : Cv = 4 := by rw [← HCV.out, HF.out]
      clear h1
      go_wp2_with fail
      go_ret
      exact ⟨rfl, HW2.out.2⟩
    · have HF0 : formB t = lastB t := by unfold formB; rw [h1, decide_eq_true h2, decide_eq_true h3]; rfl
      have HF : Hid (chkP t = if lastB t = false then 4 else if 4096 < t.text.size then 2 else 0) := Lib.hid (by unfold chkP; rw [HF0])
      rw [h1] at hx
      rw [HCV.out] at HF
      clear h1 HF0 HCV
      generalize lastB t = b at *
      cases b
      · obtain rfl : Cv = 4 := HF.out
        go_wp2_with fail
        go_ret
        exact ⟨rfl, HW2.out.2⟩
      · by_cases hs : 4096 < t.text.size
        · have hs' : (4096 : Int) < t.text.size := by omega
          obtain rfl : Cv = 2 := by have := HF.out; rw [if_neg (by decide), if_pos hs] at this; exact this
          go_wp2_with fail
          go_ret
          exact ⟨rfl, HW2.out.2⟩
        · have hs' : ¬ (4096 : Int) < t.text.size := by omega
          obtain rfl : Cv = 0 := by have := HF.out; rw [if_neg (by decide), if_neg hs] at this; exact this
          go_wp2_with fail
          go_ret
          exact ⟨rfl, HW2.out.2⟩
end Go.Proofs.YtndkaehbmdiofaaDoor
