/- The law ScsiKeeps, walked. -/
import Derived.Test.YtfhndjccghchjaaScsN
import Derived.Test.YtfhndjccghchjaaFr
namespace Go.Proofs.Ytfhndjccghchjaa
open Go.RowKit Go.Proofs.Ytfhndjccghchjaa.Scs
theorem eqs_true (A A' : Option Addr) (cap cap' : Nat) (bs : List ByteArray) (w : World) (h : DkA w A cap bs) (h' : DkA w A' cap' bs) (hn : bs.length ≤ 140737488355328) :
    Calls Try.prog 17 #[.slice A bs.length cap, .slice A' bs.length cap'] w fun e w' => e = .returned (.bool true) ∧ Below w.heap.size w w' := by
  obtain ⟨B, c, e, _, hx⟩ := h.form
  obtain ⟨B', c', e', _, hx'⟩ := h'.form
  cases e; cases e'
  by_cases h0 : bs.length = 0
  · rw [h0]
    exact (Try.slices_Equal_string_empty A A' cap 0 cap' w (by decide)).mono fun e w' h => ⟨by simpa using h.1, h.2 ▸ Below.refl _ _⟩
  · obtain ⟨b, o, rfl, _, hc⟩ := hx (by omega)
    obtain ⟨b', o', rfl, _, hc'⟩ := hx' (by omega)
    refine (Try.slices_Equal_string b o bs.length cap b' o' bs.length cap' bs bs w (Nat.le_refl _) (Nat.le_refl _) (by omega) (by omega) (fun j hj => ?_) (fun j hj => ?_)).mono fun e w' h => ?_
    · rw [hc j (by rw [sts_len]; exact hj)]; simp [sts, hj]
    · rw [hc' j (by rw [sts_len]; exact hj)]; simp [sts, hj]
    · obtain ⟨rfl, q, rfl⟩ := h
      exact ⟨by simp, bdrewN (Below.refl _ _) q⟩
set_option maxRecDepth 100000 in
set_option maxHeartbeats 3200000 in
theorem keeps_calls (bs : List ByteArray) (s : Int) (c d : ByteArray) (A : Option Addr) (cap : Nat) (w : World) (h : DkA w A cap bs) (hn : bs.length ≤ 8796093022208) :
    Calls Try.prog 4 #[dkV A cap bs s, .string c, .string d] w fun e w' => e = .returned (.bool true) ∧ Below w.heap.size w w' := by
  have HA := Lib.hid h
  have HN := Lib.hid hn
  have HK := Lib.hid (did_keeps bs s c d)
  clear h hn
  unfold dkV
  go_enter Try.func4, Try.ntmps4
  go_wp2_with fail
  refine (Do_calls bs s c d A cap _ (HA.out.on ?_) HN.out).mono ?_
  · exact Kt.balloc (Below.refl _ w) _
  rintro e w2 ⟨A2, cap2, rfl, hl, hs, hb⟩
  obtain ⟨b, t, o, code, hd⟩ : ∃ b t o code, did bs s c d = (b, t, o, code) := ⟨_, _, _, _, rfl⟩
  rw [hd] at hl hs HK ⊢
  have hl' : b.length = bs.length := hl
  have HB := Lib.hid (Kt.bthen (Kt.balloc (Below.refl _ w) _) hb)
  have HA2 : Hid (Kt.Ar w2 (.slice A2 b.length cap2) 1 b.length (sts b)) := Lib.hid (by rw [hl']; exact Kt.Ar.of_sl hs)
  have HR := Lib.hid (Kt.box1 hb)
  clear hl hs hb hd
  unfold dkV
  go_wp2_with fail
  refine (slives_calls _).mono ?_
  rintro e w3 ⟨rfl, hb⟩
  have HR2 := Lib.hid (Kt.box1 hb)
  have hal := Kt.bthen (Kt.balloc (Below.refl _ w2) _) hb
  have HRd := Lib.hid (Kt.row_on hal HR.out)
  have HB3 := Lib.hid (Kt.bthen HB.out hal)
  have HA3 := Lib.hid (HA2.out.on hal)
  have q := fun i => cell_of_row _ _ i _ _ _ HRd.out
  have q2 := fun i => cell_of_row _ _ i _ _ _ HR2.out
  have HAd := Lib.hid (HA.out.on HB3.out)
  clear hb hal HR HB HA2 HA
  by_cases hc0 : code = 0
  · subst hc0
    have hcs : c.size ≠ 0 := fun e => HK.out.1 ⟨rfl, e⟩
    have hne := not_empty c (by omega)
    have hc1 : (0 : Int) < c.size := by omega
    clear hcs
    by_cases h42 : bt c 0 = 42
    · have b0 := bt_get c 0 (by omega)
      have f42 : (((c[0]'(by omega)).toNat : Int) == 42) = true := by rw [beq_iff_eq, ← b0]; omega
      clear h42 b0
      go_wp2_with fail
      go_ret
      exact ⟨rfl, HB3.out⟩
    · have hbs : b = bs := by rcases HK.out.2.2 with h | h; exact absurd h.2 h42; exact h
      subst hbs
      have b0 := bt_get c 0 (by omega)
      have f42 : (((c[0]'(by omega)).toNat : Int) == 42) = false := by rw [beq_eq_false_iff_ne, ← b0]; omega
      clear h42 b0
      go_wp2_with fail
      refine (eqs_true A2 A cap2 cap b w3 HA3.out HAd.out (by have := HN.out; omega)).mono ?_
      rintro e w4 ⟨rfl, hb⟩
      have HB4 := Lib.hid (Kt.bthen HB3.out hb)
      clear hb
      go_wp2_with fail
      go_ret
      exact ⟨rfl, HB4.out⟩
  · have ho := HK.out.2.1 hc0
    have hbs : b = bs := by rcases HK.out.2.2 with h | h; exact absurd h.1 hc0; exact h
    subst hbs ho
    have f0 : (code == 0) = false := by rw [beq_eq_false_iff_ne]; exact hc0
    have f1 : (code != 0) = true := by rw [bne_iff_ne]; exact hc0
    clear hc0
    go_wp2_with fail
    refine (eqs_true A2 A cap2 cap b w3 HA3.out HAd.out (by have := HN.out; omega)).mono ?_
    rintro e w4 ⟨rfl, hb⟩
    have HB4 := Lib.hid (Kt.bthen HB3.out hb)
    clear hb
    go_wp2_with fail
    go_ret
    exact ⟨rfl, HB4.out⟩
theorem dk_of {w : World} {B : Nat} {v : Value} (r : Fr.RdV w B (.cat 1 (.slice 1 .string) (.cat 1 (.int .i64) .nil)) v) : ∃ A cap bs s, v = dkV A cap bs s ∧ DkA w A cap bs := by
  obtain ⟨cs, rfl, r⟩ := r
  obtain ⟨l3, _, a3, e3, r3, q3⟩ := Fr.cat_open r
  obtain ⟨_, _, a1, _, ⟨s, rfl, _⟩, q1⟩ := Fr.cat_open q3
  obtain ⟨L, rfl⟩ : ∃ L, l3 = [L] := by
    match l3, e3 with
    | [x], _ => exact ⟨x, rfl⟩
  obtain ⟨ls, hl, _, hL⟩ := Kt.ar_strs (v := L) r3
  have q5 : _ = [] := q1
  rw [a1, q5] at a3
  obtain ⟨A, c, rfl, _, _⟩ := hL.form
  exact ⟨A, c, ls, s, by rw [Fr.arr_of a3]; rfl, hL⟩
theorem keeps_walk (v0 v1 v2 : Value) (w : World) (r0 : Fr.RdV w reachBytes (.cat 1 (.slice 1 .string) (.cat 1 (.int .i64) .nil)) v0) (r1 : Fr.RdV w reachBytes .string v1) (r2 : Fr.RdV w reachBytes .string v2)
    (m1 : ∀ (cs : Array Value) a l c, v0 = .agg cs → (cs.toList.drop 0).take 1 = [.slice a l c] → l * Try.prog.bytesOf 9 ≤ reachBytes) :
    Calls Try.prog 4 #[v0, v1, v2] w fun e w' => e = .returned (.bool true) ∧ Below w.heap.size w w' := by
  obtain ⟨A, cap, bs, s, rfl, hd⟩ := dk_of r0
  obtain ⟨c, e1, _⟩ := r1; cases e1
  obtain ⟨d, e2, _⟩ := r2; cases e2
  have hby : Try.prog.bytesOf 9 = 16 := by kernel_rfl
  have hR : reachBytes ≤ 140737488355328 := by unfold reachBytes; omega
  have b1 := m1 _ A bs.length cap rfl rfl
  rw [hby] at b1
  exact keeps_calls bs s c d A cap w hd (by omega)
end Go.Proofs.Ytfhndjccghchjaa
