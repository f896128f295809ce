/- typist: down walked. -/
import Derived.Test.YtndkaehbmdiofaaDoorTypT
namespace Go.Proofs.YtndkaehbmdiofaaDoor
open Go.RowKit Go.Proofs.YtndkaehbmdiofaaDoor.Typ
theorem put_text (t : St) (s : ByteArray) (h : t.text.size ≤ 4096) : (putP t s).text.size ≤ 4096 := by
  unfold putP
  split
  · show (t.text ++ s).size ≤ 4096
    rw [ByteArray.size_append]; assumption
  · exact h
theorem put_dead (t : St) (s : ByteArray) : (putP t s).dead = t.dead := by unfold putP; split <;> rfl
theorem put_held (t : St) (s : ByteArray) : (putP t s).held = t.held := by unfold putP; split <;> rfl
theorem put_last (t : St) (s : ByteArray) : (putP t s).last = t.last := by unfold putP; split <;> rfl
theorem put_wait (t : St) (s : ByteArray) : (putP t s).wait = t.wait := by unfold putP; split <;> rfl
theorem typed_dead (t : St) (c : Int) : (typedP t c).dead = 0 := by unfold typedP; split <;> (try split) <;> rfl
theorem typed_held (t : St) (c : Int) : (typedP t c).held = t.held := by
  unfold typedP; split
  · split <;> rfl
  · exact put_held _ _
theorem typed_last (t : St) (c : Int) : (typedP t c).last = t.last := by
  unfold typedP; split
  · split <;> rfl
  · exact put_last _ _
theorem typed_wait (t : St) (c : Int) : (typedP t c).wait = t.wait := by
  unfold typedP; split
  · split <;> rfl
  · exact put_wait _ _
theorem typed_text (t : St) (c : Int) (h : t.text.size ≤ 4096) : (typedP t c).text.size ≤ 4096 := by
  unfold typedP; split
  · split
    · show (t.text.extract 0 _).size ≤ 4096
      rw [ByteArray.size_extract]; omega
    · exact h
  · exact put_text _ _ h
theorem prints_caps : prints 57 = false ∧ prints 47 = false := by decide
set_option maxRecDepth 100000 in
set_option maxHeartbeats 3200000 in
theorem down_calls (t : St) (c : Int) (g : Nat) (w : World) (h : Mx g t w) (h1 : t.text.size ≤ 4096) (hd : t.dead = 0 ∨ t.dead = 1 ∨ t.dead = 2) (hT : Tb g w) :
    Calls Tryd.prog 29 #[.pointer (some ⟨g, 0, none⟩), .int .i64 c] w fun e w' => e = .returned (.tuple #[]) ∧ Mx g (downP t c) w' ∧ Upd g w w' := by
  have HM := Lib.hid h
  have HT := Lib.hid hT
  have HPR := Lib.hid (fun W => prints_calls c W)
  have hlt := Mx.lt h
  by_cases hp : prints c = true
  · have HP : Hid (downP t c = { typedP t c with last := c, wait := 20 }) := Lib.hid (by unfold downP; rw [if_pos hp])
    rw [hp] at HPR
    have HTY := Lib.hid (fun W (h2 : Mx g t W) (h3 : Tb g W) => typed_calls t c hp g W h2 h1 hd h3)
    clear h hT hp h1 hd
    go_enter Tryd.func29, Tryd.ntmps29
    go_wp2_with fail
    refine (HPR.out _).mono ?_; rintro en w1 ⟨rfl, hb⟩
    have HM1 := Lib.hid (HM.out.on hb)
    have HU1 := Lib.hid (Upd.of_below hb hlt)
    clear hb HM HPR
    go_wp2_with fail
    refine (HTY.out _ HM1.out (HT.out.on HU1.out.below)).mono ?_; rintro en w2 ⟨rfl, hm, hu⟩
    have HM2 := Lib.hid hm
    have HU2 := Lib.hid (HU1.out.trans hu)
    have hr := hm
    unfold Mx St.cs at hr
    have q := fun i => cell_of_row _ _ i _ _ _ hr
    have qf := fun i => frozen_of_row _ _ i _ _ hr
    clear hr hm hu HM1 HU1 HTY
    go_wp2_with fail
    go_end0
    refine ⟨rfl, ?_, (HU2.out.set _ _).set _ _⟩
    rw [HP.out]
    exact (HM2.out.last c).wait 20
  · have hp' : prints c = false := by simpa using hp
    rw [hp'] at HPR
    by_cases h57 : c = 57
    · subst h57
      have HP : Hid (downP t 57 = { t with caps := !t.caps }) := Lib.hid (by unfold downP; rw [if_neg hp, if_pos rfl])
      clear h hT hp hp' h1 hd
      go_enter Tryd.func29, Tryd.ntmps29
      go_wp2_with fail
      refine (HPR.out _).mono ?_; rintro en w1 ⟨rfl, hb⟩
      have HM1 := Lib.hid (HM.out.on hb)
      have HU1 := Lib.hid (Upd.of_below hb hlt)
      have hr := HM1.out
      unfold Mx St.cs at hr
      have q := fun i => cell_of_row _ _ i _ _ _ hr
      have qf := fun i => frozen_of_row _ _ i _ _ hr
      clear hr hb HM HPR
      go_wp2_with fail
      go_end0
      refine ⟨rfl, ?_, HU1.out.set _ _⟩
      rw [HP.out]
      exact HM1.out.caps _
    · have h57' : (c == 57) = false := by rw [beq_eq_false_iff_ne]; exact h57
      by_cases h47 : c = 47
      · subst h47
        obtain ⟨sh, hsh⟩ : ∃ b, shiftP t = b := ⟨_, rfl⟩
        have HP : Hid (downP t 47 = { putP t (accP t.dead) with dead := if sh then 2 else 1, last := 0, wait := 0 }) := Lib.hid (by unfold downP; rw [if_neg hp, if_neg (by decide), if_pos rfl, hsh])
        have HS : Hid (shiftP { putP t (accP t.dead) with dead := 1 } = sh) := Lib.hid (by rw [← hsh]; unfold shiftP; show ((putP t _).held.has 225 || (putP t _).held.has 229) = _; rw [put_held])
        have HAC := Lib.hid (fun W => accent_calls t.dead hd W)
        have HPU := Lib.hid (fun W (h2 : Mx g t W) => put_calls t (accP t.dead) g W h2 h1 (by have := acc_size t.dead; omega))
        clear h hT hp hp' h1 hd hsh
        go_enter Tryd.func29, Tryd.ntmps29
        go_wp2_with fail
        refine (HPR.out _).mono ?_; rintro en w1 ⟨rfl, hb⟩
        have HM1 := Lib.hid (HM.out.on hb)
        have HU1 := Lib.hid (Upd.of_below hb hlt)
        have hr := HM1.out
        unfold Mx St.cs at hr
        have q := fun i => cell_of_row _ _ i _ _ _ hr
        clear hr hb HM HPR
        go_wp2_with fail
        refine (HAC.out _).mono ?_; rintro en w2 ⟨rfl, hb⟩
        have HM2 := Lib.hid (HM1.out.on hb)
        have HU2 := Lib.hid (HU1.out.trans (Upd.of_below hb HM1.out.lt))
        clear hb HM1 HU1 HAC q
        go_wp2_with fail
        refine (HPU.out _ HM2.out).mono ?_; rintro en w3 ⟨rfl, hm, hu⟩
        have HM3 := Lib.hid hm
        have HU3 := Lib.hid (HU2.out.trans hu)
        have hr := hm
        unfold Mx St.cs at hr
        have q := fun i => cell_of_row _ _ i _ _ _ hr
        have qf := fun i => frozen_of_row _ _ i _ _ hr
        clear hr hm hu HM2 HU2 HPU
        go_wp2_with fail
        refine (shift_calls { putP t (accP t.dead) with dead := 1 } g _ (HM3.out.dead 1)).mono ?_
        rw [HS.out]
        rintro en w4 ⟨rfl, hb⟩
        have HM4 := Lib.hid ((HM3.out.dead 1).on hb)
        have HU4 := Lib.hid ((HU3.out.set 5 (.int .i64 1)).trans (Upd.of_below hb (HM3.out.dead 1).lt))
        have hr := HM4.out
        unfold Mx St.cs at hr
        have q := fun i => cell_of_row _ _ i _ _ _ hr
        have qf := fun i => frozen_of_row _ _ i _ _ hr
        clear hr hb HM3 HU3
        cases sh
        · go_wp2_with fail
          go_end0
          refine ⟨rfl, ?_, (HU4.out.set _ _).set _ _⟩
          rw [HP.out]
          exact (HM4.out.last 0).wait 0
        · go_wp2_with fail
          go_end0
          refine ⟨rfl, ?_, ((HU4.out.set _ _).set _ _).set _ _⟩
          rw [HP.out]
          exact ((HM4.out.dead 2).last 0).wait 0
      · have h47' : (c == 47) = false := by rw [beq_eq_false_iff_ne]; exact h47
        have HP : Hid (downP t c = t) := Lib.hid (by unfold downP; rw [if_neg hp, if_neg h57, if_neg h47])
        clear h hT hp hp' h1 hd
        go_enter Tryd.func29, Tryd.ntmps29
        go_wp2_with fail
        refine (HPR.out _).mono ?_; rintro en w1 ⟨rfl, hb⟩
        have HM1 := Lib.hid (HM.out.on hb)
        have HU1 := Lib.hid (Upd.of_below hb hlt)
        clear hb HM HPR
        go_wp2_with fail
        go_end0
        rw [HP.out]
        exact ⟨rfl, HM1.out, HU1.out⟩
end Go.Proofs.YtndkaehbmdiofaaDoor
