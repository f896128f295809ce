/- slices.Clone and slices.Equal of texts, walked. -/
import Derived.Test.YtafiedhjjnapoaaStc
import Derived.Deep.QuietTactic
import Derived.BigQuiet
import Derived.Outline
namespace Go.Proofs.Ytafiedhjjnapoaa
open Go.RowKit
theorem str_ne {x y : ByteArray} (h : x ≠ y) : (x.toList == y.toList) = false := by
  rw [beq_eq_false_iff_ne, ByteArray.toList_eq, ByteArray.toList_eq]
  intro e
  exact h (Kt.bytes_eq e)
theorem eq_lists {ls ms : List ByteArray} (hl : ls.length = ms.length) : decide (ls = ms) = true ↔ ∀ j (h1 : j < ls.length) (h2 : j < ms.length), ls[j] = ms[j] := by
  rw [decide_eq_true_iff]
  constructor
  · rintro rfl j _ _; rfl
  · intro h; exact List.ext_getElem hl h
set_option maxHeartbeats 800000 in
theorem equal_len (u v : Value) (ls ms : List ByteArray) (w : World) (ha : Kt.Ar w u 1 ls.length (sts ls)) (hb : Kt.Ar w v 1 ms.length (sts ms)) (hl : ((ls.length : Int) != ms.length) = true) :
    Calls Try.prog 12 #[u, v] w fun e w' => e = .returned (.bool false) ∧ Below w.heap.size w w' := by
  obtain ⟨A, c, rfl, _, _⟩ := ha.form
  obtain ⟨A', c', rfl, _, _⟩ := hb.form
  go_enter Try.func12, Try.ntmps12
  go_wp2_with fail
  go_ret
  exact ⟨rfl, Below.refl _ _⟩
set_option maxHeartbeats 800000 in
theorem equal_same (u v : Value) (ls ms : List ByteArray) (w : World) (ha : Kt.Ar w u 1 ls.length (sts ls)) (hb : Kt.Ar w v 1 ls.length (sts ms)) (hl : ls.length = ms.length) (hm : ls.length ≤ 140737488355328) :
    Calls Try.prog 12 #[u, v] w fun e w' => e = .returned (.bool (decide (ls = ms))) ∧ Below w.heap.size w w' := by
  obtain ⟨A, c, rfl, _, hxa⟩ := ha.form
  obtain ⟨A', c', rfl, _, hxb⟩ := hb.form
  have HL := Lib.hid hl
  have HM := Lib.hid hm
  generalize hn : ls.length = n at *
  have HN := Lib.hid hn; clear hn hl ha hb
  go_enter Try.func12, Try.ntmps12
  go_wp2_with fail
  go_loopw [13] (fun i wr => ∃ k : Nat, k ≤ n ∧ i = .int .i64 k ∧ (∀ j (h1 : j < ls.length) (h2 : j < ms.length), j < k → ls[j] = ms[j]) ∧ Below w.heap.size w wr) (fun i _ => n - (intOf i).toNat)
  case atStart => exact ⟨0, Nat.zero_le _, rfl, fun j _ _ h => absurd h (by omega), Below.refl _ _⟩
  case round =>
    obtain ⟨k, hk, rfl, hpre, hbel⟩ := hrel
    have HP := Lib.hid hpre; clear hpre
    have hkm : k ≤ 140737488355328 := by have := HM.out; omega
    by_cases hlt : k < n
    · obtain ⟨b, o, rfl, hb, hc⟩ := hxa (by omega)
      obtain ⟨b', o', rfl, hb', hc'⟩ := hxb (by omega)
      have h1 : k < ls.length := by have := HN.out; omega
      have h2 : k < ms.length := by have := HN.out; have := HL.out; omega
      have hcell : wr.cell? ⟨b, o + k, none⟩ = some (.string ls[k]) := (hbel.cell (p := ⟨b, o + k, none⟩) hb).trans ((hc k (by rw [sts_len]; exact h1)).trans (by simp [sts]))
      have hcell' : wr.cell? ⟨b', o' + k, none⟩ = some (.string ms[k]) := (hbel.cell (p := ⟨b', o' + k, none⟩) hb').trans ((hc' k (by rw [sts_len]; exact h2)).trans (by simp [sts]))
      clear hxa hxb hc hc'
      generalize hx : ls[k] = x at *
      generalize hy : ms[k] = y at *
      have HX := Lib.hid hx; have HY := Lib.hid hy; clear hx hy
      have b1 : (0 : Int) ≤ k := by omega
      have b2 : (k : Int) < n := by omega
      by_cases he : x = y
      · subst he
        go_wp2_with fail
        go_quiet (fail)
        go_wp2
        go_roundw
        case rel =>
          refine ⟨k + 1, by omega, by go_num, fun j a b hj => ?_, bdrewN hbel _⟩
          by_cases hjk : j = k
          · subst hjk; exact HX.out.trans HY.out.symm
          · exact HP.out j a b (by omega)
        case measure => simp [intOf]; omega
      · have e0 := str_ne he
        have HNE := Lib.hid he; clear he
        go_wp2_with fail
        go_quiet (fail)
        go_wp2
        go_ret
        refine ⟨?_, bdrewN hbel _⟩
        have : decide (ls = ms) = false := by
          rw [decide_eq_false_iff_not]
          rintro rfl
          exact HNE.out (HX.out.symm.trans HY.out)
        rw [this]; rfl
    · obtain rfl : k = n := by omega
      go_wp2
      go_ret
      have : decide (ls = ms) = true := (eq_lists (HN.out.trans HL.out)).2 fun j a b => HP.out j a b (by have := HN.out; omega)
      rw [this]
      exact ⟨rfl, hbel⟩
end Go.Proofs.Ytafiedhjjnapoaa
