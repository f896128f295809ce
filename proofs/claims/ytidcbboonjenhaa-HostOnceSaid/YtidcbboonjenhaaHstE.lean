/- host: New, Submit walked. -/
import Derived.Test.YtidcbboonjenhaaHstD
import Derived.Test.YtidcbboonjenhaaFv
namespace Go.Proofs.Ytidcbboonjenhaa
open Go.RowKit Classical Go.Proofs.Ytidcbboonjenhaa.Slt
def newM (C : Value) (a : Nat) (E : Value) (b : Nat) : Mv := ⟨C, newR a, E, newR b, zb⟩
def NwIs (a b : Int) (w : World) (en : Ending) (w' : World) : Prop := Below w.heap.size w w' ∧ (((a < 3 ∨ 64 < a ∨ b < 3 ∨ 64 < b) ∧ ∃ n : Int, n ≠ 0 ∧ en = .returned (.tuple #[.agg (mA zM), .int .i64 n])) ∨ ((3 ≤ a ∧ a ≤ 64 ∧ 3 ≤ b ∧ b ≤ 64) ∧ ∃ C E, en = .returned (.tuple #[.agg (mA (newM C a.toNat E b.toNat)), .int .i64 0]) ∧ MO w' w.heap.size (newM C a.toNat E b.toNat)))
theorem sl_one {w : World} {B e sz n : Nat} {v : Value} {xs : List Value} (h : Kt.Sl w B e sz v n xs) : v.oneCell' = true := by
  obtain ⟨A, c, rfl, _, _⟩ := h.form; rfl
theorem mA_build (C : Value) (r : Rg) (E : Value) (v : Rg) : ((((((((((((mA zM).setIfInBounds 0 C).setIfInBounds 1 (.int .i64 r.pa)).setIfInBounds 2 (.int .i64 r.pb)).setIfInBounds 3 (.int .i64 r.ga)).setIfInBounds 4 (.int .i64 r.gb)).setIfInBounds 5 (.int .i64 r.sn)).setIfInBounds 6 E).setIfInBounds 7 (.int .i64 v.pa)).setIfInBounds 8 (.int .i64 v.pb)).setIfInBounds 9 (.int .i64 v.ga)).setIfInBounds 10 (.int .i64 v.gb)).setIfInBounds 11 (.int .i64 v.sn) = mA ⟨C, r, E, v, zb⟩ := by
  simp [mA, mc, rc, zM, zr]
set_option maxRecDepth 100000 in
set_option maxHeartbeats 6400000 in
theorem new_calls (a b : Int) (w : World) : Calls Try.prog 24 #[.int .i64 a, .int .i64 b] w (NwIs a b w) := by
  have Z0 := zero_machine
  have HB := Lib.hid (Kt.balloc (Below.refl _ w) (.cells (mA zM) 45))
  have HR := Lib.hid (show Mb w.heap.size zM (w.alloc (.cells (mA zM) 45)) from heap_alloc_new w _)
  by_cases ha : a < 3 ∨ 64 < a
  · have HC := Lib.hid (fun W => new_bad a W ha)
    have HX := Lib.hid (show a < 3 ∨ 64 < a ∨ b < 3 ∨ 64 < b by omega)
    clear ha
    go_enter Try.func24, Try.ntmps24
    go_upto_region 1 with (fail)
    refine Kt.fold (fun W => Mb w.heap.size zM W ∧ Below w.heap.size w W) ⟨HR.out, HB.out⟩ ?_
    clear HR HB
    rintro W1 ⟨hr, hb⟩
    have HR := Lib.hid hr; have HB := Lib.hid hb
    clear hr hb
    go_wp2_with fail
    refine (HC.out W1).mono ?_
    rintro _ W2 ⟨n, hn, rfl, hb⟩
    have HB2 := Lib.hid (Kt.bthen HB.out hb)
    have HR2 := Lib.hid (HR.out.on hb)
    have HNN := Lib.hid hn
    clear hb HB HR
    unfold zeroR rgV
    go_upto_region 3 with (fail)
    have b3 := HR2.out.on (Kt.balloc (Below.refl _ W2) (.cells #[.slice none 0 0, .int .i64 0, .int .i64 0, .int .i64 0, .int .i64 0, .int .i64 0] 37))
    have HB3 := Lib.hid (Kt.balloc HB2.out (.cells #[.slice none 0 0, .int .i64 0, .int .i64 0, .int .i64 0, .int .i64 0, .int .i64 0] 37))
    clear HR2 HB2 hn
    generalize W2.alloc (.cells #[.slice none 0 0, .int .i64 0, .int .i64 0, .int .i64 0, .int .i64 0, .int .i64 0] 37) = W3 at *
    go_wp2_with (first
      | (refine wpList_plain rfl fun _ hK => Kt.wp_run (.agg (mA zM)) _ (by kernel_rfl) (hK _ _ ?_))
      | (refine store_mb rfl (.tmp 4) (.tmp 16) rfl w.heap.size rfl zM rfl zM_ok zM b3 zM_ok ?_
         intro W5 hW5 hU5))
    refine bodyPost_ret (v := .tuple #[.agg (mA zM), .int .i64 n]) (by simp [results, Try.results24, asAddr, ld_mb hW5 zM_ok Try.underlying45]) rfl ?_
    exact ⟨HB3.out.trans (hU5.below), .inl ⟨HX.out, n, HNN.out, rfl⟩⟩
  · obtain ⟨x, hx⟩ : ∃ x : Nat, a = (x : Int) := ⟨a.toNat, by omega⟩
    have hx3 : 3 ≤ x := by omega
    have hx64 : x ≤ 64 := by omega
    have HC := Lib.hid (fun W => new_ok x W hx3 hx64)
    have HXA := Lib.hid (And.intro hx3 hx64)
    subst hx
    clear ha hx3 hx64
    go_enter Try.func24, Try.ntmps24
    go_upto_region 1 with (fail)
    refine Kt.fold (fun W => Mb w.heap.size zM W ∧ Below w.heap.size w W) ⟨HR.out, HB.out⟩ ?_
    clear HR HB
    rintro W1 ⟨hr, hb⟩
    have HR := Lib.hid hr; have HB := Lib.hid hb
    clear hr hb
    go_wp2_with fail
    refine (HC.out W1).mono ?_
    rintro _ W2 ⟨V, rfl, ⟨C, rfl, hC⟩, hb⟩
    have HB2 := Lib.hid (Kt.bthen HB.out hb)
    have HR2 := Lib.hid (HR.out.on hb)
    obtain ⟨r, hr⟩ : ∃ r, r = newR x := ⟨_, rfl⟩
    rw [← hr] at hC ⊢
    obtain ⟨CA, cc, hce, _, _⟩ := hC.form
    subst hce
    have HSC := Lib.hid (hC.mono (B' := w.heap.size + 1) HR.out.lt)
    have HC1 := Lib.hid (sl_one hC)
    obtain ⟨n, hn⟩ : ∃ n, n = r.cs.length := ⟨_, rfl⟩
    rw [← hn] at HSC HC1 ⊢
    have HNN := Lib.hid hn
    clear hn
    have HRX := Lib.hid hr
    clear hb HB HR hC hr
    unfold rgV
    go_upto_region 4 with (fail)
    refine Kt.fold (fun W => Mb w.heap.size zM W ∧ Below w.heap.size w W ∧ Kt.Sl W (w.heap.size + 1) 96 3 (.slice CA n cc) n (cvs r.cs) ∧ W.heap[W2.heap.size]? = some (.cells #[.slice CA n cc, .int .i64 r.pa, .int .i64 r.pb, .int .i64 r.ga, .int .i64 r.gb, .int .i64 r.sn] 37 (0, 0))) ⟨HR2.out.on (Kt.balloc (Below.refl _ W2) _), Kt.balloc HB2.out _, HSC.out.alloc _, heap_alloc_new W2 _⟩ ?_
    obtain ⟨K, hK⟩ : ∃ K, K = W2.heap.size := ⟨_, rfl⟩
    rw [← hK]
    clear HR2 HB2 HSC hK
    rintro W3 ⟨hr, hb, hs, hrow⟩
    have HR3 := Lib.hid hr; have HB3 := Lib.hid hb; have HS3 := Lib.hid hs; have HRW := Lib.hid hrow
    clear hr hb hs hrow
    by_cases hb : b < 3 ∨ 64 < b
    · have HCB := Lib.hid (fun W => new_bad b W hb)
      have HX : Hid ((x : Int) < 3 ∨ 64 < (x : Int) ∨ b < 3 ∨ 64 < b) := Lib.hid (by omega)
      clear hb
      go_wp2_with fail
      refine (HCB.out W3).mono ?_
      rintro _ W4 ⟨nn, hn, rfl, hb⟩
      have HB4 := Lib.hid (Kt.bthen HB3.out hb)
      have HR4 := Lib.hid (HR3.out.on hb)
      have HN0 := Lib.hid hn
      clear hb HB3 HR3 HS3 HRW
      unfold zeroR rgV
      go_upto_region 6 with (fail)
      have b3 := HR4.out.on (Kt.balloc (Below.refl _ W4) (.cells #[.slice none 0 0, .int .i64 0, .int .i64 0, .int .i64 0, .int .i64 0, .int .i64 0] 37))
      have HB5 := Lib.hid (Kt.balloc HB4.out (.cells #[.slice none 0 0, .int .i64 0, .int .i64 0, .int .i64 0, .int .i64 0, .int .i64 0] 37))
      clear HR4 HB4 hn
      generalize W4.alloc (.cells #[.slice none 0 0, .int .i64 0, .int .i64 0, .int .i64 0, .int .i64 0, .int .i64 0] 37) = W5 at *
      go_wp2_with (first
        | (refine wpList_plain rfl fun _ hK => Kt.wp_run (.agg (mA zM)) _ (by kernel_rfl) (hK _ _ ?_))
        | (refine store_mb rfl (.tmp 4) (.tmp 25) rfl w.heap.size rfl zM rfl zM_ok zM b3 zM_ok ?_
           intro W6 hW6 hU6))
      refine bodyPost_ret (v := .tuple #[.agg (mA zM), .int .i64 nn]) (by simp [results, Try.results24, asAddr, ld_mb hW6 zM_ok Try.underlying45]) rfl ?_
      exact ⟨HB5.out.trans (hU6.below), .inl ⟨HX.out, nn, HN0.out, rfl⟩⟩
    · obtain ⟨y, hy⟩ : ∃ y : Nat, b = (y : Int) := ⟨b.toNat, by omega⟩
      have hy3 : 3 ≤ y := by omega
      have hy64 : y ≤ 64 := by omega
      have HCB := Lib.hid (fun W => new_ok y W hy3 hy64)
      have HYB := Lib.hid (And.intro hy3 hy64)
      subst hy
      clear hb hy3 hy64
      go_wp2_with fail
      refine (HCB.out W3).mono ?_
      rintro _ W4 ⟨V, rfl, ⟨E, rfl, hE⟩, hb⟩
      have HB4 := Lib.hid (Kt.bthen HB3.out hb)
      have HR4 := Lib.hid (HR3.out.on hb)
      have HS4 := Lib.hid (HS3.out.on hb)
      have HRW4 := Lib.hid (Kt.row_on hb HRW.out)
      obtain ⟨v, hv⟩ : ∃ v, v = newR y := ⟨_, rfl⟩
      rw [← hv] at hE ⊢
      obtain ⟨EA, ec, hee, _, _⟩ := hE.form
      subst hee
      have HSE := Lib.hid (hE.mono (B' := w.heap.size + 1) HR3.out.lt)
      have HE1 := Lib.hid (sl_one hE)
      obtain ⟨m, hm⟩ : ∃ m, m = v.cs.length := ⟨_, rfl⟩
      rw [← hm] at HSE HE1 ⊢
      have HMM := Lib.hid hm
      clear hm
      have HVX := Lib.hid hv
      clear hb HB3 HR3 HS3 HRW hE hv
      unfold rgV
      go_upto_region 7 with (fail)
      refine Kt.fold (fun W => Mb w.heap.size zM W ∧ Below w.heap.size w W ∧ Kt.Sl W (w.heap.size + 1) 96 3 (.slice CA n cc) n (cvs r.cs) ∧ W.heap[K]? = some (.cells #[.slice CA n cc, .int .i64 r.pa, .int .i64 r.pb, .int .i64 r.ga, .int .i64 r.gb, .int .i64 r.sn] 37 (0, 0)) ∧ Kt.Sl W (w.heap.size + 1) 96 3 (.slice EA m ec) m (cvs v.cs) ∧ W.heap[W4.heap.size]? = some (.cells #[.slice EA m ec, .int .i64 v.pa, .int .i64 v.pb, .int .i64 v.ga, .int .i64 v.gb, .int .i64 v.sn] 37 (0, 0))) ⟨HR4.out.on (Kt.balloc (Below.refl _ W4) _), Kt.balloc HB4.out _, HS4.out.alloc _, Kt.row_on (Kt.balloc (Below.refl _ W4) _) HRW4.out, HSE.out.alloc _, heap_alloc_new W4 _⟩ ?_
      clear HB4 HR4 HS4 HRW4 HSE
      rintro W5 ⟨hr, hb, hs, hrow, hse, hrow2⟩
      have HB5 := Lib.hid hb; have HS5 := Lib.hid hs; have HE5 := Lib.hid hse
      clear hb hs hse
      have hk : Mk ⟨.slice CA n cc, r, .slice EA m ec, v, zb⟩ := ⟨zb_len, HC1.out, HE1.out⟩
      iterate 1 (first | go_skip | go_guarded | go_step | go_upon)
      refine wpList_load_row rfl 37 (.tmp 6) rfl K rfl 37 #[.slice CA n cc, .int .i64 r.pa, .int .i64 r.pb, .int .i64 r.ga, .int .i64 r.gb, .int .i64 r.sn] (0, 0) _ hrow Try.underlying37 rfl (by kernel_rfl) ?_
      refine wpList_load_row rfl 37 (.tmp 8) rfl W4.heap.size rfl 37 #[.slice EA m ec, .int .i64 v.pa, .int .i64 v.pb, .int .i64 v.ga, .int .i64 v.gb, .int .i64 v.sn] (0, 0) _ hrow2 Try.underlying37 rfl (by kernel_rfl) ?_
      refine wpList_plain rfl fun K hK => Kt.wp_run (.agg (mA ⟨.slice CA n cc, r, .slice EA m ec, v, zb⟩)) W5 (by kernel_rfl) (hK _ _ ?_)
      clear hK K
      try simp only [Act.put, List.setIfInBounds_toArray, List.set_cons_zero, List.set_cons_succ]
      clear hrow hrow2
      go_wp2_with (refine store_mb rfl (.tmp 4) (.tmp 29) rfl w.heap.size rfl ⟨.slice CA n cc, r, .slice EA m ec, v, zb⟩ rfl hk zM hr zM_ok ?_
                   intro W6 hW6 hU6)
      refine bodyPost_ret (v := .tuple #[.agg (mA ⟨.slice CA n cc, r, .slice EA m ec, v, zb⟩), .int .i64 0]) (by simp [results, Try.results24, asAddr, ld_mb hW6 hk Try.underlying45]) rfl ?_
      have hnr : n = r.cs.length := HNN.out
      have hmv : m = v.cs.length := HMM.out
      have kS : ∀ {V : Value} {n : Nat} {xs : List Value}, Kt.Sl W5 (w.heap.size + 1) 96 3 V n xs → Kt.Sl W6 w.heap.size 96 3 V n xs := fun h => (h.keep fun k hk => hU6.other k (by have := (h.lt k hk).1; omega) (h.lt k hk).2).mono (by omega)
      refine ⟨HB5.out.trans hU6.below, .inr ⟨⟨by have := HXA.out.1; omega, by have := HXA.out.2; omega, by have := HYB.out.1; omega, by have := HYB.out.2; omega⟩, .slice CA n cc, .slice EA m ec, ?_, ?_⟩⟩
      · rw [HRX.out, HVX.out]; rfl
      · have k1 := kS HS5.out
        have k2 := kS HE5.out
        rw [hnr] at k1 hk
        rw [hmv] at k2 hk
        rw [hnr, hmv]
        rw [HRX.out] at k1 hk ⊢
        rw [HVX.out] at k2 hk ⊢
        exact ⟨hk, k1, k2⟩
end Go.Proofs.Ytidcbboonjenhaa
