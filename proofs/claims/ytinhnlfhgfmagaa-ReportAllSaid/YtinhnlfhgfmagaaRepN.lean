/- The law ReportJoins, walked. -/
import Derived.Test.YtinhnlfhgfmagaaRepB
import Derived.Test.YtinhnlfhgfmagaaApd
namespace Go.Proofs.Ytinhnlfhgfmagaa
open Go.RowKit Go.Proofs.Ytinhnlfhgfmagaa.Rep
theorem its_one (l : List (Int × Int)) : ∀ u ∈ its l, u.oneCell' = true := by
  intro u hu
  simp only [its, List.mem_flatMap] at hu
  obtain ⟨x, _, hx⟩ := hu
  simp at hx
  rcases hx with rfl | rfl <;> rfl
theorem its_app (l m : List (Int × Int)) : its (l ++ m) = its l ++ its m := by simp [its]
theorem its_join {s t : List UInt8} {a b c : List (Int × Int)} {n : Int} (h1 : ItsR s a 0) (h2 : ItsR t b 0) (h3 : ItsR (s ++ t) c n) : (n = 0 ∧ c = a ++ b) ∨ (n = 2 ∧ (200 < a.length + b.length ∨ 512 < s.length + t.length)) := by
  rcases h1 with ⟨_, p1, p2, p3⟩ | ⟨h, _⟩ | ⟨h, _⟩
  · rcases h2 with ⟨_, q1, q2, q3⟩ | ⟨h, _⟩ | ⟨h, _⟩
    · have hr := p2.append q2
      rcases h3 with ⟨rfl, _, h, _⟩ | ⟨rfl, rfl, h | h⟩ | ⟨_, _, h⟩
      · exact .inl ⟨rfl, h.one hr⟩
      · rw [List.length_append] at h; exact .inr ⟨rfl, .inr h⟩
      · have := h _ hr
        rw [List.length_append] at this; exact .inr ⟨rfl, .inl this⟩
      · exact absurd hr (h _)
    · cases h
    · cases h
  · cases h
  · cases h
set_option maxRecDepth 100000 in
set_option maxHeartbeats 3200000 in
theorem joins_walk (v0 v1 : Value) (w : World) (r0 : Fr.RdV w reachBytes .string v0) (r1 : Fr.RdV w reachBytes .string v1) :
    Calls Try.prog 7 #[v0, v1] w fun e w' => e = .returned (.bool true) ∧ Below w.heap.size w w' := by
  obtain ⟨s, e, hs1⟩ := r0; cases e
  obtain ⟨t, e, ht1⟩ := r1; cases e
  have hst : s.size + t.size ≤ 9223372036854775807 := by unfold reachBytes at *; omega
  clear hs1 ht1
  go_enter Try.func7, Try.ntmps7
  go_wp2_with fail
  refine (items_calls s _).mono ?_
  rintro en w1 ⟨a, A1, c1, n1, rfl, hs, hb, hr⟩
  have HB1 := Lib.hid hb
  have HS1 := Lib.hid hs
  have HR1 := Lib.hid hr
  have ha := its_few hr
  clear hb hs hr
  go_wp2_with fail
  refine (items_calls t _).mono ?_
  rintro en w2 ⟨b, A2, c2, n2, rfl, hs, hb, hr⟩
  have HB2 := Lib.hid (Kt.bthen HB1.out hb)
  have HS12 := Lib.hid (HS1.out.on hb)
  have HS2 := Lib.hid hs
  have HR2 := Lib.hid hr
  have hb1 := its_few hr
  clear hb hs hr HS1 HB1
  go_wp2_with fail
  refine (items_calls (s ++ t) _).mono ?_
  rintro en w3 ⟨c, A3, c3, n3, rfl, hs, hb, hr⟩
  have HB3 := Lib.hid (Kt.bthen HB2.out hb)
  have HS13 := Lib.hid (HS12.out.on hb)
  have HS23 := Lib.hid (HS2.out.on hb)
  have HS3 := Lib.hid hs
  have HR3 := Lib.hid hr
  have hc1 := its_few hr
  clear hb hs hr HS12 HS2 HB2
  go_wp2_with fail
  refine (lives_calls _).mono ?_
  rintro en w4 ⟨rfl, hb⟩
  have HB4 := Lib.hid (Kt.bthen HB3.out hb)
  have HS14 := Lib.hid (HS13.out.on hb)
  have HS24 := Lib.hid (HS23.out.on hb)
  have HS34 := Lib.hid (HS3.out.on hb)
  clear hb HS13 HS23 HS3 HB3
  by_cases hn1 : n1 = 0
  rotate_left
  · have e0 : (n1 != 0) = true := by rw [bne_iff_ne]; exact hn1
    clear hn1 hst
    go_wp2_with fail
    refine (lives_calls _).mono ?_
    rintro en w5 ⟨rfl, hb⟩
    have HB5 := Lib.hid (Kt.bthen HB4.out hb)
    clear hb
    go_wp2_with fail
    go_ret
    exact ⟨rfl, HB5.out⟩
  by_cases hn2 : n2 = 0
  rotate_left
  · have e0 : (n2 != 0) = true := by rw [bne_iff_ne]; exact hn2
    subst hn1
    clear hn2 hst
    go_wp2_with fail
    refine (lives_calls _).mono ?_
    rintro en w5 ⟨rfl, hb⟩
    have HB5 := Lib.hid (Kt.bthen HB4.out hb)
    clear hb
    go_wp2_with fail
    go_ret
    exact ⟨rfl, HB5.out⟩
  subst hn1 hn2
  rcases its_join HR1.out HR2.out (by rw [← Kt.str_app]; exact HR3.out) with ⟨rfl, hc⟩ | ⟨rfl, h⟩
  · have HC := Lib.hid hc
    clear hc
    go_wp2_with fail
    refine (clonei_calls _ a.length (its a) _ (Kt.Ar.of_sl HS14.out) (its_one a) (by omega)).mono ?_
    rintro en w5 ⟨A5, c5, rfl, hs, hb⟩
    have HB5 := Lib.hid (Kt.bthen HB4.out hb)
    have HS25 := Lib.hid (HS24.out.on hb)
    have HS35 := Lib.hid (HS34.out.on hb)
    have HS5 := Lib.hid hs
    have hw45 : w4.heap.size ≤ w5.heap.size := hb.size
    have HB45 := Lib.hid hb
    clear hb hs
    go_wp2_with
      (refine Kt.append_ar (by rfl) (.tmp 63) (.tmp 64) 22 rfl w4.heap.size 32 (.agg #[.int .i64 0, .int .i64 0]) 2 16 item_info Try.underlying22 rfl (by decide) _ _ _ rfl HS5.out _ _ _ rfl (Kt.Ar.of_sl HS25.out) (its_one b) (by unfold maxLen; omega) (by omega) hw45 ?_
       intro A6 c6 w6 hs6 hb6 hz6 hk6 ho6)
    have HB46 := Lib.hid (HB45.out.trans hb6)
    have HS36 := Lib.hid (HS34.out.on HB46.out)
    have HB6 := Lib.hid (Kt.bthen HB4.out HB46.out)
    have HS6 := Lib.hid hs6
    clear hs6 hb6 hz6 hk6 ho6
    refine (eqi_calls _ _ c.length (a.length + b.length) (its c) (its a ++ its b) _ (Kt.Ar.of_sl HS36.out) (Kt.Ar.of_sl HS6.out) (its_cl c) (by rw [← its_app, ← List.length_append]; exact its_cl (a ++ b)) (by omega)).mono ?_
    rintro en w7 ⟨q, rfl, hq, hb⟩
    obtain rfl : q = true := hq.2 (by rw [HC.out]; exact its_app a b)
    have HB7 := Lib.hid (Kt.bthen HB6.out hb)
    clear hb hq
    go_wp2_with fail
    go_ret
    exact ⟨rfl, HB7.out⟩
  · have hss : s.data.toList.length = s.size := by simp
    have htt : t.data.toList.length = t.size := by simp
    rw [hss, htt] at h
    clear hss htt
    by_cases h1 : 200 < a.length + b.length
    · have e1 : decide ((a.length : Int) + b.length > 200) = true := decide_eq_true (by omega)
      clear h h1
      go_wp2_with fail
      go_ret
      exact ⟨rfl, HB4.out⟩
    · have e1 : decide ((a.length : Int) + b.length > 200) = false := decide_eq_false (by omega)
      have e2 : decide ((s.size : Int) + t.size > 512) = true := decide_eq_true (by omega)
      clear h h1
      go_wp2_with fail
      go_ret
      exact ⟨rfl, HB4.out⟩
end Go.Proofs.Ytinhnlfhgfmagaa
