/- The laws ReportBack and ReportJoins, walked. -/
import Derived.Test.YtinhnlfhgfmagaaRepV
namespace Go.Proofs.Ytinhnlfhgfmagaa
open Go.RowKit Go.Proofs.Ytinhnlfhgfmagaa.Rep
theorem its_cut (l : List (Int × Int)) (i : Nat) (h : i < l.length) : ((its l).drop (i * 2)).take 2 = [.int .i64 l[i].1, .int .i64 l[i].2] := by
  induction l generalizing i with
  | nil => simp at h
  | cons x l ih =>
    cases i with
    | zero => rfl
    | succ i =>
      have := ih i (by simpa using h)
      rw [show (i + 1) * 2 = i * 2 + 2 by omega]
      exact this
theorem its_cl (l : List (Int × Int)) (i : Nat) (h : i < l.length) : Fr.Cl itTy (((its l).drop (i * 2)).take 2) := by
  rw [its_cut l i h]
  exact ⟨by simp, ⟨_, rfl⟩, by simp, ⟨_, rfl⟩, rfl⟩
theorem its_inj : ∀ (l m : List (Int × Int)), its l = its m → l = m
  | [], [], _ => rfl
  | [], _ :: _, h => by cases h
  | _ :: _, [], h => by cases h
  | x :: l, y :: m, h => by
    obtain ⟨a1, a2⟩ := x
    obtain ⟨b1, b2⟩ := y
    have h2 : Value.int .i64 a1 :: .int .i64 a2 :: its l = .int .i64 b1 :: .int .i64 b2 :: its m := h
    simp only [List.cons.injEq, Value.int.injEq, true_and] at h2
    obtain ⟨rfl, rfl, h3⟩ := h2
    rw [its_inj l m h3]
theorem items_of {w : World} {B : Nat} : ∀ (els : List (List Value)), (∀ x ∈ els, x.length = 2 ∧ Fr.Rd w B itTy x) → ∃ l : List (Int × Int), l.length = els.length ∧ els.flatten = its l
  | [], _ => ⟨[], rfl, rfl⟩
  | x :: els, h => by
    obtain ⟨l, h1, h2⟩ := items_of els (fun y hy => h y (by simp [hy]))
    obtain ⟨hl, _, ⟨a, ha, _⟩, _, ⟨b, hb, _⟩, _⟩ := h x (by simp)
    refine ⟨(a, b) :: l, by simp [h1], ?_⟩
    have e : x = [.int .i64 a, .int .i64 b] := by
      match x, hl with
      | [p, q], _ =>
        simp only [List.take_succ_cons, List.take_zero, List.drop_succ_cons, List.drop_zero, List.cons.injEq, and_true] at ha hb
        rw [ha, hb]
    rw [List.flatten_cons, h2, e]; rfl
theorem ar_items {w : World} {B : Nat} {v : Value} (r : Fr.RdV w B (.slice 2 itTy) v) : ∃ l : List (Int × Int), l.length ≤ B ∧ Kt.Ar w v 2 l.length (its l) := by
  obtain ⟨els, h1, h2, h3⟩ := Kt.ar_open r (by omega)
  obtain ⟨l, n1, n2⟩ := items_of els h1
  rw [← n1, n2] at h3
  exact ⟨l, by omega, h3⟩
/-- Items of what Write wrote -/
theorem its_wr {l m : List (Int × Int)} {t : ByteArray} {n : Int} (h : WrR l t 0) (g : ItsR t.data.toList m n) : n = 0 ∧ m = l ∧ l.length ≤ 200 := by
  rcases h with ⟨_, h1, h2, h3, h4⟩ | ⟨h, _⟩
  · rw [h3] at g
    have hr := reads_encs l h2
    rcases g with ⟨rfl, _, g2, _⟩ | ⟨rfl, rfl, g⟩ | ⟨rfl, rfl, g⟩
    · exact ⟨rfl, g2.one hr, h1⟩
    · rcases g with g | g
      · omega
      · have := g _ hr; omega
    · exact absurd hr (g l)
  · exact absurd rfl h
/-- what was read is written -/
theorem wr_its {s : List UInt8} {m : List (Int × Int)} {t : ByteArray} {n : Int} (g : ItsR s m 0) (h : WrR m t n) : n = 0 ∧ t.data.toList.length ≤ s.length := by
  rcases g with ⟨_, g1, g2, g3⟩ | ⟨h, _⟩ | ⟨h, _⟩
  · have hle := encs_le g2
    rcases h with ⟨rfl, _, _, h3, _⟩ | ⟨_, _, h⟩
    · exact ⟨rfl, by rw [h3]; exact hle⟩
    · exfalso
      rcases h with h | ⟨x, hx, h⟩ | h
      · omega
      · exact h (g2.ok x hx)
      · omega
  · cases h
  · cases h
theorem its_bad {s : List UInt8} {m : List (Int × Int)} {n : Int} (g : ItsR s m n) (h : n ≠ 0) : m = [] := by
  rcases g with ⟨rfl, _⟩ | ⟨_, rfl, _⟩ | ⟨_, rfl, _⟩
  · exact absurd rfl h
  · rfl
  · rfl
theorem its_few {s : List UInt8} {m : List (Int × Int)} {n : Int} (g : ItsR s m n) : m.length ≤ 200 := by
  rcases g with ⟨_, _, _, h⟩ | ⟨_, rfl, _⟩ | ⟨_, rfl, _⟩
  · exact h
  · simp
  · simp
set_option maxRecDepth 100000 in
set_option maxHeartbeats 3200000 in
theorem back_walk (v0 v1 : Value) (w : World) (r0 : Fr.RdV w reachBytes (.slice 2 itTy) v0) (r1 : Fr.RdV w reachBytes .string v1) :
    Calls Try.prog 6 #[v0, v1] w fun e w' => e = .returned (.bool true) ∧ Below w.heap.size w w' := by
  obtain ⟨l, _, ha⟩ := ar_items r0
  obtain ⟨s, e, _⟩ := r1; cases e
  obtain ⟨A0, c0, rfl, _, _⟩ := ha.form
  have HA := Lib.hid ha
  clear ha r0
  go_enter Try.func6, Try.ntmps6
  go_wp2_with fail
  refine (write_calls l _ _ HA.out).mono ?_
  rintro en w1 ⟨t, n, rfl, hb, hr⟩
  have HB := Lib.hid hb
  have HW := Lib.hid hr
  clear hb hr
  go_upto_if 20 with (fail)
  go_cut [7, 8] from 21 to 33 (fun _ _ wx => Hid (Below w.heap.size w wx))
  case first =>
    by_cases hn : n = 0
    · subst hn
      go_wp2_with fail
      refine (items_calls t _).mono ?_
      rintro en w2 ⟨m, A, c, n2, rfl, hs, hb, hr⟩
      obtain ⟨rfl, hm, h200⟩ := its_wr HW.out hr
      subst hm
      have HB2 := Lib.hid (Kt.bthen HB.out hb)
      have HS := Lib.hid hs
      clear hb hs hr
      go_wp2_with fail
      refine (eqi_calls _ _ m.length m.length (its m) (its m) _ (Kt.Ar.of_sl HS.out) (HA.out.on HB2.out) (its_cl m) (its_cl m) (by omega)).mono ?_
      rintro en w3 ⟨b, rfl, hq, hb⟩
      obtain rfl : b = true := hq.2 rfl
      have HB3 := Lib.hid (Kt.bthen HB2.out hb)
      clear hb hq
      go_wp2_with fail
      go_meet
      exact HB3
    · have e0 : (n == 0) = false := beq_eq_false_iff_ne.2 hn
      clear hn
      go_wp2_with fail
      go_meet
      exact HB
  case rest =>
    have HB := hcut
    go_wp2_with fail
    refine (items_calls s _).mono ?_
    rintro en w2 ⟨m, A, c, n2, rfl, hs, hb, hr⟩
    have HB2 := Lib.hid (Kt.bthen HB.out hb)
    have HS := Lib.hid hs
    have HR := Lib.hid hr
    have h200 := its_few hr
    clear hb hs hr
    go_wp2_with fail
    refine (lives_calls _).mono ?_
    rintro en w3 ⟨rfl, hb⟩
    have HB3 := Lib.hid (Kt.bthen HB2.out hb)
    have HS3 := Lib.hid (HS.out.on hb)
    clear hb HB2 HS
    by_cases hn : n2 = 0
    · subst hn
      go_wp2_with fail
      refine (write_calls m _ _ (Kt.Ar.of_sl HS3.out)).mono ?_
      rintro en w4 ⟨t4, n4, rfl, hb, hr⟩
      obtain ⟨rfl, hlen⟩ := wr_its HR.out hr
      have HB4 := Lib.hid (Kt.bthen HB3.out hb)
      have HS4 := Lib.hid (HS3.out.on hb)
      have HW4 := Lib.hid hr
      clear hb hr
      go_wp2_with fail
      refine (items_calls t4 _).mono ?_
      rintro en w5 ⟨m5, A5, c5, n5, rfl, hs, hb, hr⟩
      obtain ⟨rfl, hm, _⟩ := its_wr HW4.out hr
      subst hm
      have HB5 := Lib.hid (Kt.bthen HB4.out hb)
      have HS5 := Lib.hid (HS4.out.on hb)
      have HT := Lib.hid hs
      have hle : (t4.size : Int) ≤ s.size := by
        have : t4.data.size ≤ s.data.size := by simpa using hlen
        show (t4.data.size : Int) ≤ s.data.size
        omega
      clear hb hr hs hlen
      go_wp2_with fail
      refine (eqi_calls _ _ m5.length m5.length (its m5) (its m5) _ (Kt.Ar.of_sl HS5.out) (Kt.Ar.of_sl HT.out) (its_cl m5) (its_cl m5) (by omega)).mono ?_
      rintro en w6 ⟨b, rfl, hq, hb⟩
      obtain rfl : b = true := hq.2 rfl
      have HB6 := Lib.hid (Kt.bthen HB5.out hb)
      clear hb hq
      go_wp2_with fail
      go_ret
      exact ⟨rfl, HB6.out⟩
    · obtain rfl := its_bad HR.out hn
      have e0 : (n2 != 0) = true := by rw [bne_iff_ne]; exact hn
      clear hn
      go_wp2_with fail
      refine (lives_calls _).mono ?_
      rintro en w4 ⟨rfl, hb⟩
      have HB4 := Lib.hid (Kt.bthen HB3.out hb)
      clear hb
      go_wp2_with fail
      go_ret
      exact ⟨rfl, HB4.out⟩
end Go.Proofs.Ytinhnlfhgfmagaa
