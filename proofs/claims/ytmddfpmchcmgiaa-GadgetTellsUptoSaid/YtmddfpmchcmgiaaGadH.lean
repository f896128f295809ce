/- has walked. -/
import Derived.Test.YtmddfpmchcmgiaaGadD
import Derived.Test.YtmddfpmchcmgiaaDscL
namespace Go.Proofs.Ytmddfpmchcmgiaa
open Go.RowKit Go.Proofs.Ytmddfpmchcmgiaa.Dsc Go.Proofs.Ytmddfpmchcmgiaa.Gad
theorem any_take {α : Type} (p : α → Bool) (l : List α) (k : Nat) (h : k < l.length) (h1 : (l.take k).any p = false) (h2 : p l[k] = false) : (l.take (k + 1)).any p = false := by
  rw [List.take_succ_eq_append_getElem h, List.any_append, h1]
  simp [h2]
set_option maxRecDepth 100000 in
set_option maxHeartbeats 3200000 in
theorem has_calls (s : Sh) (F T : Value) (g : Gd) (e : Int) (b : Nat) (w : World) (hr : w.heap[b]? = some (.cells (thR s F T g) 99 (0, 0)))
    (hc : CRd w (.agg #[.int .i64 s.cfg.va, .int .i64 s.cfg.nm, .int .i64 s.cfg.at_, .int .i64 s.cfg.pw, F]) s.cfg) (hok : cfgC s.cfg = 0) :
    Calls Try.prog 70 #[.pointer (some ⟨b, 0, none⟩), .int .i64 e] w fun e' w' => e' = .returned (.bool (has s e)) ∧ Below w.heap.size w w' := by
  have HOK := Lib.hid (cfgC_ok hok)
  obtain ⟨F', css, hF', hF, hcl, hcr⟩ := hc
  injection hF' with hF'
  have e5 : F = F' := by
    have := congrArg (fun a : Array Value => a[4]?) hF'
    simpa using this
  subst e5
  have HF := Lib.hid hF
  have HCL := Lib.hid hcl
  have HCR := Lib.hid hcr
  obtain ⟨FA, fc, rfl, _, _⟩ := hF.form
  have q := fun i => cell_of_row _ _ i _ _ _ hr
  unfold thR at q
  clear hF hF' hcl hcr hok hr
  by_cases c0 : e = 0
  · have HD : Hid (has s e = true) := Lib.hid (by subst c0; rfl)
    have e0 : (e == 0) = true := by rw [beq_iff_eq]; exact c0
    clear c0
    go_enter Try.func70, Try.ntmps70
    go_wp2_with fail
    go_ret
    rw [HD.out]
    exact ⟨rfl, Below.refl _ _⟩
  · have e0 : (e == 0) = false := by rw [beq_eq_false_iff_ne]; exact c0
    by_cases c1 : e = 128
    · have HD : Hid (has s e = true) := Lib.hid (by subst c1; rfl)
      have e1 : (e == 128) = true := by rw [beq_iff_eq]; exact c1
      clear c0 c1
      go_enter Try.func70, Try.ntmps70
      go_wp2_with fail
      go_ret
      rw [HD.out]
      exact ⟨rfl, Below.refl _ _⟩
    · have e1 : (e == 128) = false := by rw [beq_eq_false_iff_ne]; exact c1
      have HD : Hid (has s e = s.cfg.fs.any fun f => f.es.any fun x => endN x == e) := Lib.hid (by unfold has; rw [e0, e1]; rfl)
      clear c0 c1
      go_enter Try.func70, Try.ntmps70
      go_wp2_with fail
      go_loopw [23] (fun vi wr => ∃ i : Nat, i ≤ s.cfg.fs.length ∧ vi = .int .i64 i ∧ Hid ((s.cfg.fs.take i).any (fun f => f.es.any fun x => endN x == e) = false) ∧ Hid (Below w.heap.size w wr)) (fun vi _ => s.cfg.fs.length - (intOf vi).toNat)
      case atStart => exact ⟨0, Nat.zero_le _, rfl, Lib.hid rfl, Lib.hid (Below.refl _ _)⟩
      case round =>
        obtain ⟨i, hi, rfl, HA, HBW⟩ := hrel
        by_cases hlt : i < s.cfg.fs.length
        · obtain ⟨f, hf⟩ : ∃ f, s.cfg.fs[i] = f := ⟨_, rfl⟩
          obtain ⟨X, E, hcs, hX, hE⟩ := HCR.out i hlt (by rw [HCL.out]; exact hlt)
          have HOF := Lib.hid (HOK.out.2.2 _ (List.getElem_mem hlt))
          have HL4 := Lib.hid HOK.out.2.1
          rw [hf] at hcs hX hE HOF
          obtain ⟨_, _, hfe, _, hfx⟩ := HF.out.form
          injection hfe with hfe1 _ hfe2
          subst hfe1 hfe2
          obtain ⟨fb, fo, rfl, hfb, hfc⟩ := hfx (Nat.lt_of_le_of_lt (Nat.zero_le _) hlt)
          have hcell : ∀ j u, [Value.int .i64 f.cl, .int .i64 f.su, .int .i64 f.pr, .int .i64 f.nm, X, E][j]? = some u → wr.cell? ⟨fb, fo + i * 6 + j, none⟩ = some u := fun j u hj => by
            have hl6 : ∀ x ∈ css, x.length = 6 := fun x hx => by
              obtain ⟨i, hi, rfl⟩ := List.getElem_of_mem hx
              obtain ⟨_, _, he, _, _⟩ := HCR.out i (by rw [← HCL.out]; exact hi) hi
              rw [he]; rfl
            have hj6 : j < 6 := (List.getElem?_eq_some_iff.1 hj).1
            have h1 := flat_get css hl6 i (by rw [HCL.out]; exact hlt) j hj6
            rw [hcs, hj] at h1
            obtain ⟨h2, h3⟩ := List.getElem?_eq_some_iff.1 h1
            rw [Nat.add_assoc]
            exact (HBW.out.cell (p := ⟨fb, fo + (i * 6 + j), none⟩) hfb).trans ((hfc _ h2).trans (by rw [h3]))
          have k0 : wr.cell? ⟨fb, fo + i * 6, none⟩ = some (.int .i64 f.cl) := hcell 0 _ rfl
          have k1 : wr.cell? ⟨fb, fo + i * 6 + 1, none⟩ = some (.int .i64 f.su) := hcell 1 _ rfl
          have k2 : wr.cell? ⟨fb, fo + i * 6 + 2, none⟩ = some (.int .i64 f.pr) := hcell 2 _ rfl
          have k3 : wr.cell? ⟨fb, fo + i * 6 + 3, none⟩ = some (.int .i64 f.nm) := hcell 3 _ rfl
          have k4 : wr.cell? ⟨fb, fo + i * 6 + 4, none⟩ = some X := hcell 4 _ rfl
          have k5 : wr.cell? ⟨fb, fo + i * 6 + 5, none⟩ = some E := hcell 5 _ rfl
          obtain ⟨XA, xc, rfl, _, _⟩ := hX.form
          obtain ⟨EA, ec, rfl, _, hex⟩ := hE.form
          have HEX := Lib.hid hex
          have HFE := Lib.hid hf
          have HB1 := Lib.hid (Kt.balloc HBW.out (.cells #[.int .i64 f.cl, .int .i64 f.su, .int .i64 f.pr, .int .i64 f.nm, .slice XA f.ex.length xc, .slice EA f.es.length ec] 32))
          clear hcell hcs hX hE hex hf hfb hfc hfx
          go_wp2_with fail
          go_loopw [30] (fun vk wr => ∃ k : Nat, k ≤ f.es.length ∧ vk = .int .i64 k ∧ Hid ((f.es.take k).any (fun x => endN x == e) = false) ∧ Hid (Below w.heap.size w wr)) (fun vk _ => f.es.length - (intOf vk).toNat)
          case atStart => exact ⟨0, Nat.zero_le _, rfl, Lib.hid rfl, HB1⟩
          case round =>
            obtain ⟨k, hk, rfl, HK, HBV⟩ := hrel
            by_cases hk2 : k < f.es.length
            · obtain ⟨x, hx⟩ : ∃ x, f.es[k] = x := ⟨_, rfl⟩
              have HXE := Lib.hid hx
              obtain ⟨eb, eo, rfl, heb, hec⟩ := HEX.out (Nat.lt_of_le_of_lt (Nat.zero_le _) hk2)
              have hok := HOF.out.es f.es[k] (List.getElem_mem hk2)
              rw [hx] at hok
              have hcc : ∀ j u, (ec1 x)[j]? = some u → wr.cell? ⟨eb, eo + k * 5 + j, none⟩ = some u := fun j u hj => by
                have hj5 : j < 5 := (List.getElem?_eq_some_iff.1 hj).1
                have h1 := flat_get (f.es.map ec1) (fun y hy => by obtain ⟨z, _, rfl⟩ := List.mem_map.1 hy; rfl) k (by rw [List.length_map]; exact hk2) j hj5
                rw [List.getElem_map, hx, hj, ← List.flatMap_def] at h1
                obtain ⟨h2, h3⟩ := List.getElem?_eq_some_iff.1 h1
                rw [Nat.add_assoc]
                exact (HBV.out.cell (p := ⟨eb, eo + (k * 5 + j), none⟩) heb).trans ((hec _ h2).trans (by rw [← h3]; rfl))
              obtain ⟨ad, inn, ki, mx, iv⟩ := x
              have m0 : wr.cell? ⟨eb, eo + k * 5, none⟩ = some (.int .i64 ad) := hcc 0 _ rfl
              have m1 : wr.cell? ⟨eb, eo + k * 5 + 1, none⟩ = some (.bool inn) := hcc 1 _ rfl
              have m2 : wr.cell? ⟨eb, eo + k * 5 + 2, none⟩ = some (.int .i64 ki) := hcc 2 _ rfl
              have m3 : wr.cell? ⟨eb, eo + k * 5 + 3, none⟩ = some (.int .i64 mx) := hcc 3 _ rfl
              have m4 : wr.cell? ⟨eb, eo + k * 5 + 4, none⟩ = some (.int .i64 iv) := hcc 4 _ rfl
              have hw1 : wrap64 (ad + 128) = ad + 128 := by
                have h1 := hok.1
                have h2 := hok.2.1
                dsimp only at h1 h2
                unfold wrap64
                omega
              have hk4 : wrap64 ((k : Int) + 1) = ((k + 1 : Nat) : Int) := next_k hk2 HOF.out.ne
              have HWK := Lib.hid hk4
              have HB2 := Lib.hid (Kt.balloc HBV.out (.cells #[.int .i64 ad, .bool inn, .int .i64 ki, .int .i64 mx, .int .i64 iv] 43))
              clear hcc hx heb hec hok hk4 k0 k1 k2 k3 k4 k5
              cases inn with
              | true =>
                by_cases hq : (ad + 128 == e) = true
                · have HY : Hid (has s e = true) := Lib.hid (by
                    rw [HD.out, List.any_eq_true]
                    exact ⟨f, HFE.out ▸ List.getElem_mem _, List.any_eq_true.2 ⟨⟨ad, true, ki, mx, iv⟩, HXE.out ▸ List.getElem_mem _, hq⟩⟩)
                  go_wp2_with fail
                  go_ret
                  rw [HY.out]
                  exact ⟨rfl, HB2.out⟩
                · have hq2 : (ad + 128 == e) = false := by simpa using hq
                  have HNX := Lib.hid (any_take (fun x => endN x == e) f.es k hk2 HK.out (by rw [HXE.out]; exact hq2))
                  clear hq
                  go_wp2_with fail
                  go_roundw
                  case rel => exact ⟨k + 1, hk2, congrArg _ (by first | exact HWK.out | rfl), HNX, HB2⟩
                  case measure => (try rw [HWK.out]); exact Nat.sub_lt_sub_left hk2 (Nat.lt_succ_self k)
              | false =>
                have h0 : ad + 0 = ad := Int.add_zero ad
                by_cases hq : (ad + 0 == e) = true
                · have HY : Hid (has s e = true) := Lib.hid (by
                    rw [HD.out, List.any_eq_true]
                    exact ⟨f, HFE.out ▸ List.getElem_mem _, List.any_eq_true.2 ⟨⟨ad, false, ki, mx, iv⟩, HXE.out ▸ List.getElem_mem _, hq⟩⟩)
                  go_wp2_with fail
                  go_ret
                  rw [HY.out]
                  exact ⟨rfl, HB2.out⟩
                · have hq2 : (ad + 0 == e) = false := by simpa using hq
                  have HNX := Lib.hid (any_take (fun x => endN x == e) f.es k hk2 HK.out (by rw [HXE.out]; exact hq2))
                  clear hq
                  go_wp2_with fail
                  go_roundw
                  case rel => exact ⟨k + 1, hk2, congrArg _ (by first | exact HWK.out | rfl), HNX, HB2⟩
                  case measure => (try rw [HWK.out]); exact Nat.sub_lt_sub_left hk2 (Nat.lt_succ_self k)
            · obtain rfl : f.es.length = k := Nat.le_antisymm (Nat.not_lt.1 hk2) hk
              have HNX := Lib.hid (any_take (fun f : Fa => f.es.any fun x => endN x == e) s.cfg.fs i hlt HA.out (by rw [HFE.out]; have := HK.out; rwa [List.take_length] at this))
              have hwk := next_k hlt HL4.out
              have HWK := Lib.hid hwk
              clear hwk
              go_wp2_with fail
              go_roundw
              case rel => exact ⟨i + 1, hlt, congrArg _ (by first | exact HWK.out | rfl), HNX, HBV⟩
              case measure => (try rw [HWK.out]); exact Nat.sub_lt_sub_left hlt (Nat.lt_succ_self i)
        · obtain rfl : s.cfg.fs.length = i := Nat.le_antisymm (Nat.not_lt.1 hlt) hi
          have HE : Hid (has s e = false) := Lib.hid (by rw [HD.out]; have := HA.out; rwa [List.take_length] at this)
          go_wp2_with fail
          go_ret
          rw [HE.out]
          exact ⟨rfl, HBW.out⟩
end Go.Proofs.Ytmddfpmchcmgiaa
