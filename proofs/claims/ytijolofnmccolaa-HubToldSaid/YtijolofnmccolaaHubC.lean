/- The walks of package hub: Check. -/
import Derived.Test.YtijolofnmccolaaHubW
import Derived.Test.YtijolofnmccolaaIa
import Derived.Outline
namespace Go.Proofs.Ytijolofnmccolaa
open Go.RowKit Classical
def portTy : Fr.Ty := .cat 1 (.int .i64) (.cat 1 (.int .i64) .nil)
def hubTy : Fr.Ty := .cat 1 (.int .i64) (.cat 32 (.arr 16 2 portTy) .nil)
theorem fit_hub : Fr.fits Try.prog 12 26 hubTy = true := by kernel_rfl
theorem ok_hub : Fr.eqOk Try.prog 12 26 = true := by kernel_rfl
theorem fit_port : Fr.fits Try.prog 12 23 portTy = true := by kernel_rfl
theorem ok_port : Fr.eqOk Try.prog 12 23 = true := by kernel_rfl
theorem cells_port : Try.prog.cellsOf 23 = 2 := by kernel_rfl
theorem size_hub : (Try.prog.info? 26).map (·.size) = some 33 := by kernel_rfl
theorem size_ports : (Try.prog.info? 24).map (·.size) = some 32 := by kernel_rfl
/-- the hub with the count c and the ports ps -/
def HV (c : Int) (ps : List Int) : Value := .agg (Kt.ia .i64 (c :: ps))
theorem port_index (l : List Int) (hl : l.length = 32) (i : Nat) (hi : i < 16) (w : World) : (Instr.index 24 (.agg (Kt.ia .i64 l)) (.int .i64 i)).run Try.prog w = .ok (.agg #[.int .i64 (l[i * 2]'(by omega)), .int .i64 (l[i * 2 + 1]'(by omega))]) w := by
  have h := Kt.run_index_ia (P := Try.prog) .i64 .i64 24 23 16 portTy 12 Try.underlying24 fit_port ok_port rfl rfl rfl cells_port l hl i hi w
  rw [h]
  have e : (l.drop (i * Kt.tsz portTy)).take (Kt.tsz portTy) = [l[i * 2]'(by omega), l[i * 2 + 1]'(by omega)] := by
    show (l.drop (i * 2)).take 2 = _
    rw [← List.getElem_cons_drop (show i * 2 < l.length by omega), ← List.getElem_cons_drop (show i * 2 + 1 < l.length by omega)]
    rfl
  rw [e]
  rfl
/-- a port of a right hub -/
def okAt (c : Int) (ps : List Int) (i : Nat) : Prop := rightP (ps.getD (i * 2) 0) (ps.getD (i * 2 + 1) 0) ∧ ((i = 0 ∨ c < i) → ps.getD (i * 2) 0 = 0 ∧ ps.getD (i * 2 + 1) 0 = 0)
structure RightH (c : Int) (ps : List Int) : Prop where
  c1 : 1 ≤ c
  c2 : c ≤ 15
  ok : ∀ i, i < 16 → okAt c ps i
/-- numbers of the machine -/
def Fit (l : List Int) : Prop := ∀ x ∈ l, x < 9223372036854775808
/-- the box of a hub -/
def HBox (b : Nat) (c : Int) (ps : List Int) (w : World) : Prop := w.heap[b]? = some (.cells (Kt.ia .i64 (c :: ps)) 26 (0, 0))
theorem HBox.count {b : Nat} {c : Int} {ps : List Int} {w : World} (h : HBox b c ps w) : w.cell? ⟨b, 0, none⟩ = some (.int .i64 c) := (cell_of_row _ _ 0 _ _ _ h).trans (Kt.ia_at _ _ _ (by simp))
theorem HBox.ports {b : Nat} {c : Int} {ps : List Int} {w : World} (h : HBox b c ps w) (hl : ps.length = 32) : w.rangeAt b 1 (Kt.ia .i64 ps).toList := by
  have h2 := World.rangeAt_of_block h 1 32
  rw [Kt.ia_extract] at h2
  have e : ((c :: ps).drop 1).take (1 + 32 - 1) = ps := by
    rw [List.drop_succ_cons, List.drop_zero]; exact List.take_of_length_le (by omega)
  rw [e] at h2
  exact h2
theorem HBox.on {b : Nat} {c : Int} {ps : List Int} {w w' : World} (h : HBox b c ps w) (hb : Below w.heap.size w w') : HBox b c ps w' := Kt.row_on hb h
theorem ports_size (ps : List Int) (hl : ps.length = 32) : (Try.prog.info? 24).map (·.size) = some (Kt.ia .i64 ps).toList.length := by
  rw [Kt.ia_list, List.length_map, hl]; exact size_ports
/-- the number that Check tells -/
noncomputable def chk (c : Int) (ps : List Int) : Int := if c < 1 ∨ 15 < c then 1 else if RightH c ps then 0 else 4
theorem chk_one {c : Int} {ps : List Int} (h : c < 1 ∨ 15 < c) : chk c ps = 1 := by unfold chk; rw [if_pos h]
theorem chk_ok {c : Int} {ps : List Int} (h : RightH c ps) : chk c ps = 0 := by unfold chk; rw [if_neg (by have := h.c1; have := h.c2; omega), if_pos h]
theorem chk_four {c : Int} {ps : List Int} (h1 : 1 ≤ c) (h2 : c ≤ 15) (h : ¬ RightH c ps) : chk c ps = 4 := by unfold chk; rw [if_neg (by omega), if_neg h]
theorem chk_zero {c : Int} {ps : List Int} : chk c ps = 0 ↔ RightH c ps := by
  constructor
  · intro h
    unfold chk at h
    split at h
    · cases h
    · split at h
      · assumption
      · cases h
  · exact chk_ok
def ChkN (c : Int) (ps : List Int) (n : Int) : Prop := (n = 0 ↔ RightH c ps) ∧ n = chk c ps
def HubChk (c : Int) (ps : List Int) (w : World) (e : Ending) (w' : World) : Prop := ∃ n : Int, e = .returned (.int .i64 n) ∧ ChkN c ps n ∧ Below w.heap.size w w'
theorem check_arg (c : Int) (ps : List Int) (w : World) (h : c < 1 ∨ (1 ≤ c ∧ 15 < c)) : Calls Try.prog 15 #[HV c ps] w (HubChk c ps w) := by
  have hc0 := HBox.count (heap_alloc_new w (.cells (Kt.ia .i64 (c :: ps)) 26))
  have HN := Lib.hid (show ¬ RightH c ps from fun r => by have := r.c1; have := r.c2; omega)
  unfold HV
  rcases h with h | ⟨h, h2⟩
  all_goals
    go_enter Try.func15, Try.ntmps15
    go_wp2_with fail
    go_ret
    exact ⟨1, rfl, ⟨⟨fun h => absurd h (by omega), fun h => absurd h HN.out⟩, (chk_one (by omega)).symm⟩, Kt.balloc (Below.refl _ w) _⟩
set_option maxHeartbeats 1600000 in
theorem check_main (c : Int) (ps : List Int) (hl : ps.length = 32) (hfit : Fit ps) (w : World) (h1 : 1 ≤ c) (h2 : c ≤ 15) : Calls Try.prog 15 #[HV c ps] w (HubChk c ps w) := by
  have hbox0 : HBox w.heap.size c ps (w.alloc (.cells (Kt.ia .i64 (c :: ps)) 26)) := heap_alloc_new w _
  have hc0 := hbox0.count
  have hr0 := hbox0.ports hl
  have hs0 := ports_size ps hl
  have HBX := Lib.hid hbox0; clear hbox0
  have HIX := Lib.hid (port_index ps hl)
  unfold HV
  have d1 : decide (c < 1) = false := decide_eq_false (by omega)
  have d2 : decide (15 < c) = false := decide_eq_false (by omega)
  go_enter Try.func15, Try.ntmps15
  go_wp2_with (refine wpList_load_mid rfl 24 (.tmp 13) rfl w.heap.size 1 rfl _ _ hr0 Try.underlying24 rfl hs0 ?_)
  go_loopw [15] (fun i wr => ∃ k : Nat, k ≤ 16 ∧ i = .int .i64 k ∧ Hid (∀ j, j < k → okAt c ps j) ∧ HBox w.heap.size c ps wr ∧ Below w.heap.size w wr) (fun i _ => 16 - (intOf i).toNat)
  case atStart => exact ⟨0, by omega, rfl, Lib.hid fun j h => absurd h (by omega), HBX.out, Kt.balloc (Below.refl _ w) _⟩
  case round =>
    clear hc0 hr0 hs0
    obtain ⟨k, hk, rfl, HF, hbox, hbel⟩ := hrel
    by_cases hlt : k < 16
    · have hix := HIX.out k hlt
      have HS := Lib.hid (show ps.getD (k * 2) 0 = ps[k * 2]'(by omega) ∧ ps.getD (k * 2 + 1) 0 = ps[k * 2 + 1]'(by omega) by
        rw [List.getD_eq_getElem?_getD, List.getD_eq_getElem?_getD, List.getElem?_eq_getElem (show k * 2 < ps.length by omega), List.getElem?_eq_getElem (show k * 2 + 1 < ps.length by omega)]; exact ⟨rfl, rfl⟩)
      have hs1 := hfit _ (List.getElem_mem (show k * 2 < ps.length by omega))
      have ht1 := hfit _ (List.getElem_mem (show k * 2 + 1 < ps.length by omega))
      generalize ps[k * 2]'(by omega) = s at *
      generalize ps[k * 2 + 1]'(by omega) = t at *
      have hc := hbox.count
      have hsz : w.heap.size < wr.heap.size := (Array.getElem?_eq_some_iff.1 hbox).1
      have hcA : (wr.alloc (.cells #[.int .i64 s, .int .i64 t] 23)).cell? ⟨w.heap.size, 0, none⟩ = some (.int .i64 c) := (World.cell?_alloc_lt _ _ _ hsz).trans hc
      have hboxA : HBox w.heap.size c ps (wr.alloc (.cells #[.int .i64 s, .int .i64 t] 23)) := (Below.heap_alloc _ _ _ hsz).trans hbox
      have hbelA : Below w.heap.size w (wr.alloc (.cells #[.int .i64 s, .int .i64 t] 23)) := Kt.balloc hbel _
      have HBXA := Lib.hid hboxA; clear hboxA hbox
      have HNO := Lib.hid (show ¬ okAt c ps k → ¬ RightH c ps from fun a b => a (b.ok k hlt))
      have HOK := Lib.hid (show okAt c ps k ↔ (rightP s t ∧ ((k = 0 ∨ c < k) → s = 0 ∧ t = 0)) by unfold okAt; rw [HS.out.1, HS.out.2])
      by_cases hk0 : k = 0
      · have HOUT : Hid (k = 0 ∨ c < k) := Lib.hid (.inl hk0)
        have e1 : ((k : Int) == 0) = true := by rw [hk0]; rfl
        clear hk0
        by_cases hs0 : s = 0
        · subst hs0
          by_cases ht0 : t = 0
          · subst ht0
            have HP : Hid (rightP 0 0) := Lib.hid ⟨.inl rfl, .inl rfl⟩
            have HNX := Lib.hid (show ∀ j, j < k + 1 → okAt c ps j from fun j hj => by
              by_cases e : j = k
              · subst e; exact HOK.out.2 ⟨HP.out, fun _ => ⟨rfl, rfl⟩⟩
              · exact HF.out j (by omega))
            go_wp2_with fail
            refine (port_true _ _ _ HP.out).mono ?_
            rintro en w2 ⟨rfl, hb2⟩
            go_wp2_with fail
            go_roundw
            case rel => exact ⟨k + 1, by omega, by go_num, HNX, HBXA.out.on hb2, Kt.bthen hbelA hb2⟩
            case measure => (simp [intOf] <;> omega)
          · have e5 : (t == 0) = false := beq_eq_false_iff_ne.2 ht0
            have HN := Lib.hid (HNO.out fun a => ht0 ((HOK.out.1 a).2 HOUT.out).2)
            clear ht0
            go_wp2_with fail
            go_ret
            refine ⟨4, rfl, ⟨⟨fun h => absurd h (by omega), fun h => absurd h HN.out⟩, (chk_four h1 h2 HN.out).symm⟩, ?_⟩
            repeat (first | with_reducible exact hbelA | with_reducible refine Kt.balloc ?_ _ | with_reducible refine Kt.bset ?_ (by simp; omega) _)
        · have e5 : (s == 0) = false := beq_eq_false_iff_ne.2 hs0
          have HN := Lib.hid (HNO.out fun a => hs0 ((HOK.out.1 a).2 HOUT.out).1)
          clear hs0
          go_wp2_with fail
          go_ret
          refine ⟨4, rfl, ⟨⟨fun h => absurd h (by omega), fun h => absurd h HN.out⟩, (chk_four h1 h2 HN.out).symm⟩, ?_⟩
          repeat (first | with_reducible exact hbelA | with_reducible refine Kt.balloc ?_ _ | with_reducible refine Kt.bset ?_ (by simp; omega) _)
      · have e1 : ((k : Int) == 0) = false := by rw [beq_eq_false_iff_ne]; omega
        by_cases hck : c < k
        · have HOUT : Hid (k = 0 ∨ c < k) := Lib.hid (.inr hck)
          have e2 : decide (c < (k : Int)) = true := decide_eq_true hck
          clear hk0
          by_cases hs0 : s = 0
          · subst hs0
            by_cases ht0 : t = 0
            · subst ht0
              have HP : Hid (rightP 0 0) := Lib.hid ⟨.inl rfl, .inl rfl⟩
              have HNX := Lib.hid (show ∀ j, j < k + 1 → okAt c ps j from fun j hj => by
                by_cases e : j = k
                · subst e; exact HOK.out.2 ⟨HP.out, fun _ => ⟨rfl, rfl⟩⟩
                · exact HF.out j (by omega))
              go_wp2_with fail
              refine (port_true _ _ _ HP.out).mono ?_
              rintro en w2 ⟨rfl, hb2⟩
              go_wp2_with fail
              go_roundw
              case rel => exact ⟨k + 1, by omega, by go_num, HNX, HBXA.out.on hb2, Kt.bthen hbelA hb2⟩
              case measure => (simp [intOf] <;> omega)
            · have e5 : (t == 0) = false := beq_eq_false_iff_ne.2 ht0
              have HN := Lib.hid (HNO.out fun a => ht0 ((HOK.out.1 a).2 HOUT.out).2)
              clear ht0
              go_wp2_with fail
              go_ret
              refine ⟨4, rfl, ⟨⟨fun h => absurd h (by omega), fun h => absurd h HN.out⟩, (chk_four h1 h2 HN.out).symm⟩, ?_⟩
              repeat (first | with_reducible exact hbelA | with_reducible refine Kt.balloc ?_ _ | with_reducible refine Kt.bset ?_ (by simp; omega) _)
          · have e5 : (s == 0) = false := beq_eq_false_iff_ne.2 hs0
            have HN := Lib.hid (HNO.out fun a => hs0 ((HOK.out.1 a).2 HOUT.out).1)
            clear hs0
            go_wp2_with fail
            go_ret
            refine ⟨4, rfl, ⟨⟨fun h => absurd h (by omega), fun h => absurd h HN.out⟩, (chk_four h1 h2 HN.out).symm⟩, ?_⟩
            repeat (first | with_reducible exact hbelA | with_reducible refine Kt.balloc ?_ _ | with_reducible refine Kt.bset ?_ (by simp; omega) _)
        · have HOUT : Hid (¬ (k = 0 ∨ c < k)) := Lib.hid (by omega)
          have e2 : decide (c < (k : Int)) = false := decide_eq_false hck
          have hck2 : (k : Int) ≤ c := by omega
          clear hk0 hck
          by_cases hp : rightP s t
          · have HP := Lib.hid hp
            clear hp
            have HNX := Lib.hid (show ∀ j, j < k + 1 → okAt c ps j from fun j hj => by
              by_cases e : j = k
              · subst e; exact HOK.out.2 ⟨HP.out, fun a => absurd a HOUT.out⟩
              · exact HF.out j (by omega))
            go_wp2_with fail
            refine (port_true _ _ _ HP.out).mono ?_
            rintro en w2 ⟨rfl, hb2⟩
            go_wp2_with fail
            go_roundw
            case rel => exact ⟨k + 1, by omega, by go_num, HNX, HBXA.out.on hb2, Kt.bthen hbelA hb2⟩
            case measure => (simp [intOf] <;> omega)
          · have HN := Lib.hid (HNO.out fun a => hp (HOK.out.1 a).1)
            have HPF := Lib.hid (fun w => port_false s t w hs1 ht1 hp)
            clear hp
            go_wp2_with fail
            refine (HPF.out _).mono ?_
            rintro en w2 ⟨rfl, hb2⟩
            go_wp2_with fail
            go_ret
            exact ⟨4, rfl, ⟨⟨fun h => absurd h (by omega), fun h => absurd h HN.out⟩, (chk_four h1 h2 HN.out).symm⟩, Kt.bthen hbelA hb2⟩
    · obtain rfl : k = 16 := by omega
      have HR := Lib.hid (show RightH c ps from ⟨h1, h2, HF.out⟩)
      go_wp2_with fail
      go_ret
      exact ⟨0, rfl, ⟨⟨fun _ => HR.out, fun _ => rfl⟩, (chk_ok HR.out).symm⟩, hbel⟩
theorem check_calls (c : Int) (ps : List Int) (hl : ps.length = 32) (hfit : Fit ps) (w : World) : Calls Try.prog 15 #[HV c ps] w (HubChk c ps w) := by
  by_cases h1 : c < 1
  · exact check_arg c ps w (.inl h1)
  by_cases h2 : 15 < c
  · exact check_arg c ps w (.inr ⟨by omega, h2⟩)
  exact check_main c ps hl hfit w (by omega) (by omega)
end Go.Proofs.Ytijolofnmccolaa
