/- Sheets that came in; asks by their bytes; gadgetLives. -/
import Derived.Test.YtmddfpmchcmgiaaGadG
import Derived.Test.YtmddfpmchcmgiaaDsc3
import Derived.Test.YtmddfpmchcmgiaaGen
namespace Go.Proofs.Ytmddfpmchcmgiaa
open Go.RowKit Go.Proofs.Ytmddfpmchcmgiaa.Dsc Go.Proofs.Ytmddfpmchcmgiaa.Gad Go.Proofs.Ytmddfpmchcmgiaa.SetP
/-- a load of a whole box, guarded too -/
theorem Kt.load_row_g {P : Program} {ops : Array Oper} {rest : List Oper} {o : Oper} {a : Act} {w : World} {Q : Exit → Act → World → Prop} (hgd : Region.wanted o (yielded ops a.tmps) = true) (ty : TypeId) (x : Operand) (ho : o.op = .load ty x)
    (g : Nat) (hx : a.eval x = .pointer (some ⟨g, 0, none⟩)) (t : TypeId) (cs : Array Value) (d : TypeDesc) (hg : w.heap[g]? = some (.cells cs t (0, 0)))
    (hu : P.underlying ty = some d) (hd : (match d with | .struct _ | .array _ _ => true | _ => false) = true) (hi : (P.info? ty).map (·.size) = some cs.size)
    (h : wpList P ops Q rest (a.put o.dst (.agg cs)) w) : wpList P ops Q (o :: rest) a w :=
  BigFrame.wpList_want hgd fun _K hK => wp_load_row ty x ho g hx t cs (0, 0) d hg hu hd hi (hK _ _ h)
theorem rows_apart : ∀ (k j : Fin 15) (r q : Nat × Nat), (rowN k.val).map (fun x => (x.a, x.b)) = some r → (rowN j.val).map (fun x => (x.a, x.b)) = some q → r = q → k = j := by
  have h : ∀ (k j : Fin 15), (rowN k.val).map (fun x => (x.a, x.b)) ≠ none → (rowN k.val).map (fun x => (x.a, x.b)) = (rowN j.val).map (fun x => (x.a, x.b)) → k = j := by decide +kernel
  intro k j r q hk hj e
  exact h k j (by rw [hk]; simp) (by rw [hk, hj, e])
theorem txt_two (A B : Nat) (v i l : Int) : (txt A B v i l).data.toList.take 2 = [UInt8.ofNat A, UInt8.ofNat B] := rfl
theorem hit_unique {s : ByteArray} {k j : Int} (h : Hit s k) (g : Hit s j) : k = j := by
  obtain ⟨r, hr, _, e1⟩ := h
  obtain ⟨q, hq, _, e2⟩ := g
  have hb1 := row_facts hr
  have hb2 := row_facts hq
  have k1 := row_range hr
  have k2 := row_range hq
  have e : [UInt8.ofNat r.a, UInt8.ofNat r.b] = [UInt8.ofNat q.a, UInt8.ofNat q.b] := by
    rw [← txt_two r.a r.b (wordAt s 2) (wordAt s 4) (wordAt s 6), ← txt_two q.a q.b (wordAt s 2) (wordAt s 4) (wordAt s 6), e1, e2]
  simp only [List.cons.injEq, and_true] at e
  have ha : r.a = q.a := by have := congrArg UInt8.toNat e.1; simp at this; omega
  have hb : r.b = q.b := by have := congrArg UInt8.toNat e.2; simp at this; omega
  obtain ⟨n, rfl⟩ := Int.eq_ofNat_of_zero_le (show 0 ≤ k by omega)
  obtain ⟨m, rfl⟩ := Int.eq_ofNat_of_zero_le (show 0 ≤ j by omega)
  unfold rowI at hr hq
  rw [if_pos (by omega)] at hr hq
  have := rows_apart ⟨n, by omega⟩ ⟨m, by omega⟩ (r.a, r.b) (q.a, q.b) (by rw [show rowN n = some r from hr]; rfl) (by rw [show rowN m = some q from hq]; rfl) (by rw [ha, hb])
  have := congrArg Fin.val this
  simp only at this
  rw [this]
theorem txt_words (A B : Nat) (v i l : Int) (hv : 0 ≤ v ∧ v ≤ 65535) (hi : 0 ≤ i ∧ i ≤ 65535) (hl : 0 ≤ l ∧ l ≤ 65535) : wordAt (txt A B v i l) 2 = v ∧ wordAt (txt A B v i l) 4 = i ∧ wordAt (txt A B v i l) 6 = l := by
  have key (n : Int) (h : 0 ≤ n ∧ n ≤ 65535) : ((UInt8.ofNat (n % 256).toNat).toNat : Int) + 256 * ((UInt8.ofNat (n / 256 % 256).toNat).toNat : Int) = n := by
    simp; omega
  refine ⟨?_, ?_, ?_⟩
  · unfold wordAt; rw [dif_pos (by rw [txt_size]; omega)]; exact key v hv
  · unfold wordAt; rw [dif_pos (by rw [txt_size]; omega)]; exact key i hi
  · unfold wordAt; rw [dif_pos (by rw [txt_size]; omega)]; exact key l hl
/-- an ask that can be written, by its bytes -/
theorem txt_rd {k v i l : Int} {r : Row} (hr : rowI k = some r) (h : Okw k v i l) (hl : 0 ≤ l) : RdA (txt r.a r.b v i l) (some (k, v, i, l)) := by
  obtain ⟨r', hr', h1, h2, h3⟩ := id h
  rw [hr] at hr'; cases hr'
  have hf := row_facts hr
  have b3 : l ≤ 65535 := by
    rcases h3 with h3 | ⟨_, h3⟩
    · omega
    · have := can_bd h3; omega
  obtain ⟨w1, w2, w3⟩ := txt_words r.a r.b v i l (can_bd h1) (can_bd h2) ⟨hl, b3⟩
  have hk := row_range hr
  obtain ⟨n, rfl⟩ := Int.eq_ofNat_of_zero_le (show 0 ≤ k by omega)
  have hh : Hit (txt r.a r.b v i l) n := ⟨r, hr, by rw [w1, w2, w3]; exact h, by rw [w1, w2, w3]⟩
  have := rdA_some (txt r.a r.b v i l) n (by omega) (by omega) hh (txt_size _ _ _ _ _) (fun j h1 h2 g => by have := hit_unique hh g; omega)
  rw [w1, w2, w3] at this
  exact this
/-- what asked tells -/
def askS (k v i l : Int) (S : ByteArray) : Prop := ∀ w : World, Calls Try.prog 28 #[.int .i64 k, .int .i64 v, .int .i64 i, .int .i64 l] w fun e w' => e = .returned (.string S) ∧ Below w.heap.size w w'
theorem askS_of {k v i l : Int} {S : ByteArray} {c : Int} (HW : Hid (Wr k v i l S c)) : askS k v i l S := by
  intro w
  go_enter Try.func28, Try.ntmps28
  go_wp2_with fail
  refine (HW.out _).mono ?_
  rintro en w1 ⟨rfl, hb⟩
  go_wp2_with fail
  go_ret
  exact ⟨rfl, hb⟩
theorem asked_ok {k v i l : Int} (h : Okw k v i l) (hl : 0 ≤ l) : ∃ S, askS k v i l S ∧ RdA S (some (k, v, i, l)) := by
  rcases write_split k v i l with ⟨hno, _⟩ | ⟨_, r, hr, hw⟩
  · exact absurd h hno
  · exact ⟨_, askS_of (Lib.hid hw), txt_rd hr h hl⟩
theorem asked_any (k v i l : Int) (hl : 0 ≤ l) : ∃ S r, askS k v i l S ∧ RdA S r ∧ (r = some (k, v, i, l) ∧ Okw k v i l ∨ r = none ∧ ¬ Okw k v i l) := by
  rcases write_split k v i l with ⟨hno, hw⟩ | ⟨hok, r, hr, hw⟩
  · exact ⟨_, none, askS_of (Lib.hid hw), rdA_none _ (.inl (by decide)), .inr ⟨rfl, hno⟩⟩
  · exact ⟨_, _, askS_of (Lib.hid hw), txt_rd hr hok hl, .inl ⟨rfl, hok⟩⟩
-- sheets that came in
def gdS : Fr.Ty := .cat 1 (.int .i64) (.cat 1 (.int .i64) (.cat 1 (.int .i64) .nil))
def shS : Fr.Ty := .cat 12 devS (.cat 5 cfgS (.cat 1 (.slice 1 .string) .nil))
theorem gd_rd {v : Value} {w : World} {B : Nat} (h : Fr.RdV w B gdS v) : ∃ g : Gd, v = gdV g := by
  obtain ⟨cs, rfl, _, ⟨a0, h0, _⟩, _, ⟨a1, h1, _⟩, _, ⟨a2, h2, _⟩, hend⟩ := h
  generalize hx : cs.toList = x at *
  have e0 := (List.take_append_drop 1 x).symm
  have e1 := (List.take_append_drop 1 (x.drop 1)).symm
  have e2 := (List.take_append_drop 1 ((x.drop 1).drop 1)).symm
  rw [h2, hend] at e2
  rw [h1, e2] at e1
  rw [h0, e1] at e0
  refine ⟨⟨a0, a1, a2⟩, ?_⟩
  have : cs = #[.int .i64 a0, .int .i64 a1, .int .i64 a2] := by
    rw [← Array.toList_inj, hx, e0]; rfl
  rw [this]
  rfl
theorem sh_rd {v : Value} {w : World} {B : Nat} (h : Fr.RdV w B shS v) : ∃ s : Sh, ShRd w v s ∧ ∀ t ∈ s.tx, t.length ≤ B := by
  obtain ⟨cs, rfl, _, hd, hl5, hc, hl1, hT, hend⟩ := h
  generalize hx : cs.toList = x at *
  obtain ⟨d, hd'⟩ := dev_rd (v := .agg (x.take 12).toArray) ⟨_, rfl, hd⟩
  obtain ⟨c, hc', _⟩ := cfg_rd (v := .agg ((x.drop 12).take 5).toArray) ⟨_, rfl, hc⟩
  obtain ⟨T, hT1⟩ : ∃ T, ((x.drop 12).drop 5).take 1 = [T] := by
    cases hq : (x.drop 12).drop 5 with
    | nil => rw [hq] at hl1; exact absurd hl1 (by decide)
    | cons q r => exact ⟨q, rfl⟩
  rw [hT1] at hT
  obtain ⟨tx, _, htb, htx⟩ := exs_rd hT
  obtain ⟨F, css, hF, hr⟩ := id hc'
  refine ⟨⟨d, c, tx⟩, ⟨F, T, ?_, ?_, htx⟩, htb⟩
  · have e0 := (List.take_append_drop 12 x).symm
    have e1 := (List.take_append_drop 5 (x.drop 12)).symm
    have e2 := (List.take_append_drop 1 ((x.drop 12).drop 5)).symm
    rw [hT1, hend] at e2
    injection hF with hF
    injection hd' with hd'
    have hF := congrArg Array.toList hF
    have hd' := congrArg Array.toList hd'
    dsimp only at hF hd'
    rw [e2, hF] at e1
    rw [e1, hd'] at e0
    refine congrArg Value.agg ?_
    rw [← Array.toList_inj, hx, e0]
    rfl
  · rw [← hF]
    exact hc'
-- '==' of gadgets
theorem fit_gd : Fr.fits Try.prog 12 55 gdS = true := by kernel_rfl
theorem ok_gd : Fr.eqOk Try.prog 12 55 = true := by kernel_rfl
theorem guard_gd : Program.eqGuardType Try.prog Try.prog.depth 55 = false := by kernel_rfl
theorem gd_cl (a b c : Int) : Fr.Cl gdS [.int .i64 a, .int .i64 b, .int .i64 c] := ⟨by simp, ⟨_, rfl⟩, by simp, ⟨_, rfl⟩, by simp, ⟨_, rfl⟩, rfl⟩
theorem eq_gd (g h : Gd) (w : World) : (binOp .eql 55 (gdV g) (gdV h)).run Try.prog w = .ok (.bool (decide (g = h))) w := by
  have := (Fr.eql_agg (P := Try.prog) w 55 gdS 12 (by omega) fit_gd ok_gd rfl #[.int .i64 g.st, .int .i64 g.ad, .int .i64 g.ha] #[.int .i64 h.st, .int .i64 h.ad, .int .i64 h.ha] (gd_cl _ _ _) (gd_cl _ _ _) rfl rfl).1
  refine this.trans ?_
  refine congrArg (fun b => Result.ok (Value.bool b) w) ?_
  cases g; cases h
  simp
def bare : Sh := ⟨⟨0, 0, 0, 0, 8, 0, 0, 0, 0, 0, 0, 1⟩, ⟨1, 0, 0, 0, []⟩, []⟩
theorem bare_chk : chk bare = 0 := by decide +kernel
theorem bare_ctl : ctl bare ⟨0, 0, 0⟩ (some (4, 7, 0, 0)) = (⟨1, 7, 0⟩, [], 0) := by decide +kernel
theorem bare_rd (w : World) : ShRd w (.agg (shCs bare (.slice none 0 0) (.slice none 0 0))) bare :=
  ⟨.slice none 0 0, .slice none 0 0, rfl, ⟨.slice none 0 0, [], rfl, ⟨rfl, none, 0, rfl, Nat.le_refl _, fun h => absurd h (Nat.lt_irrefl _)⟩, rfl, fun i h => absurd h (Nat.not_lt_zero i)⟩, rfl, none, 0, rfl, Nat.le_refl _, fun h => absurd h (Nat.lt_irrefl _)⟩
theorem bare_ask : RdA ⟨#[0, 5, 7, 0, 0, 0, 0, 0]⟩ (some (4, 7, 0, 0)) := by
  have h := txt_rd (k := 4) (v := 7) (i := 0) (l := 0) (r := ⟨0, 5, 4, 0, 0⟩) rfl ⟨⟨0, 5, 4, 0, 0⟩, rfl, by show canP 4 7; unfold canP; omega, by show canP 0 0; unfold canP; omega, .inl rfl⟩ (by omega)
  exact h
set_option maxRecDepth 100000 in
set_option maxHeartbeats 1600000 in
theorem glives_calls (w : World) : Calls Try.prog 24 #[] w fun e w' => e = .returned (.bool true) ∧ Below w.heap.size w w' := by
  have HCT := Lib.hid (fun W => control_calls wdev bare _ ⟨0, 0, 0⟩ _ _ W (bare_rd W) (by simp [bare]) bare_ask)
  rw [bare_ctl] at HCT
  dsimp only at HCT
  rw [show bs' [] = ⟨#[]⟩ from rfl] at HCT
  have HCK := Lib.hid (fun W => check_calls wdev bare _ W (bare_rd W) (by simp [bare]))
  rw [bare_chk] at HCK
  have HR0 := Lib.hid (heap_alloc_new w (.cells (shCs bare (.slice none 0 0) (.slice none 0 0)) 53))
  have HB0 := Lib.hid (Kt.balloc (Below.refl _ w) (.cells (shCs bare (.slice none 0 0) (.slice none 0 0)) 53))
  go_enter Try.func24, Try.ntmps24
  go_upto_region 2 with (fail)
  refine Kt.fold (fun W => W.heap[w.heap.size]? = some (.cells (shCs bare (.slice none 0 0) (.slice none 0 0)) 53 (0, 0)) ∧ Below w.heap.size w W) ⟨HR0.out, HB0.out⟩ ?_
  clear HR0 HB0
  rintro w0 ⟨r0, hb0⟩
  have HR0 := Lib.hid r0; have HB0 := Lib.hid hb0
  clear r0 hb0
  unfold gdV at HCT
  go_wp2_with (refine Kt.load_row_g (by rfl) 53 (.tmp 1) rfl w.heap.size rfl 53 (shCs bare (.slice none 0 0) (.slice none 0 0)) _ HR0.out Try.underlying53 rfl (by kernel_rfl) ?_)
  refine (HCT.out w0).mono ?_
  rintro e w1 ⟨rfl, hb1⟩
  have HR1 := Lib.hid ((Below.heap_alloc _ (.cells #[.int .i64 1, .int .i64 7, .int .i64 0] 55) _ (Nat.lt_of_lt_of_le (Array.getElem?_eq_some_iff.1 HR0.out).1 hb1.size)).trans (Kt.row_on hb1 HR0.out)); have HB1 := Lib.hid (Kt.balloc (Kt.bthen HB0.out hb1) (.cells #[.int .i64 1, .int .i64 7, .int .i64 0] 55))
  clear hb1
  have EG := fun p q (a b : Array Value) w => run_eqGuard_agg (P := Try.prog) w .eql 55 p q a b guard_gd
  have EQ := fun w => eq_gd ⟨1, 7, 0⟩ ⟨1, 7, 0⟩ w
  unfold gdV at EQ
  go_wp2_with (refine Kt.load_row_g (by rfl) 53 (.tmp 1) rfl w.heap.size rfl 53 (shCs bare (.slice none 0 0) (.slice none 0 0)) _ HR1.out Try.underlying53 rfl (by kernel_rfl) ?_)
  refine (HCK.out _).mono ?_
  rintro e w2 ⟨rfl, hb2⟩
  have HB2 := Lib.hid (Kt.bthen HB1.out hb2)
  clear hb2
  go_wp2_with fail
  go_ret
  exact ⟨rfl, HB2.out⟩
end Go.Proofs.Ytmddfpmchcmgiaa
