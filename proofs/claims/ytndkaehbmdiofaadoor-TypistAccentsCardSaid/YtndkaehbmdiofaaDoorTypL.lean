/- typist: press, typistLives walked. -/
import Derived.Test.YtndkaehbmdiofaaDoorTypY
import Derived.Test.YtndkaehbmdiofaaDoorApd
namespace Go.Proofs.YtndkaehbmdiofaaDoor
open Go.RowKit Go.Proofs.YtndkaehbmdiofaaDoor.Typ
/-- keys that are pressed and let go -/
def pressL (l : List Int) : List Sk := l.flatMap fun c => [⟨1, c, true, 0⟩, ⟨1, c, false, 0⟩]
theorem pressL_len (l : List Int) : (pressL l).length = l.length * 2 := by
  induction l with
  | nil => rfl
  | cons x l ih => simp only [pressL, List.flatMap_cons, List.length_append, List.length_cons, List.length_nil] at ih ⊢; omega
theorem pressL_app (a b : List Int) : pressL (a ++ b) = pressL a ++ pressL b := by simp [pressL]
theorem sks_app (a b : List Sk) : sks (a ++ b) = sks a ++ sks b := by simp [sks]
theorem sks_one (l : List Sk) : ∀ u ∈ sks l, u.oneCell' = true := by
  intro u hu
  unfold sks at hu
  rw [List.mem_flatMap] at hu
  obtain ⟨s, _, hu⟩ := hu
  simp only [Sk.cs, List.mem_cons, List.not_mem_nil, or_false] at hu
  rcases hu with rfl | rfl | rfl | rfl <;> rfl
theorem infoK : (Tryd.prog.info? 31).map (fun i => (i.zero, i.size, i.bytes)) = some (some (.agg #[.int .i64 0, .int .i64 0, .bool false, .int .i64 0]), 4, 32) := by kernel_rfl
def ints (l : List Int) : List Value := l.map (Value.int .i64)
set_option maxRecDepth 100000 in
set_option maxHeartbeats 3200000 in
theorem press_calls (l : List Int) (A : Option Addr) (cap : Nat) (w0 : World) (hv : Kt.Ar w0 (.slice A l.length cap) 1 l.length (ints l)) (hl : l.length ≤ 1099511627776) :
    Calls Tryd.prog 11 #[.slice A l.length cap] w0 fun e w' => ∃ A' c', e = .returned (.slice A' (l.length * 2) c') ∧ Kt.Sl w' w0.heap.size 31 4 (.slice A' (l.length * 2) c') (l.length * 2) (sks (pressL l)) ∧ Below w0.heap.size w0 w' := by
  have HV := Lib.hid hv
  have HL := Lib.hid hl
  clear hv hl
  go_enter Tryd.func11, Tryd.ntmps11
  go_wp2_with fail
  go_loopw [3, 8] (fun V ii wr => ∃ (k : Nat) (A' : Option Addr) (c' : Nat), ii = .int .i64 k ∧ V = .slice A' (k * 2) c' ∧ Hid (k ≤ l.length) ∧ Hid (Kt.Sl wr w0.heap.size 31 4 (.slice A' (k * 2) c') (k * 2) (sks (pressL (l.take k))) ∧ Below w0.heap.size w0 wr)) (fun _ ii _ => l.length - (intOf ii).toNat)
  case atStart => exact ⟨0, none, 0, rfl, rfl, Lib.hid (Nat.zero_le _), Lib.hid ⟨Kt.Sl.nil _ _ _ _, Below.refl _ _⟩⟩
  case round =>
    obtain ⟨k, A', c', rfl, rfl, HK, HWR⟩ := hrel
    by_cases hk : k < l.length
    · have hk' : (k : Int) < l.length := by omega
      obtain ⟨A0, c0, e0, _, hcl⟩ := HV.out.form
      cases e0
      obtain ⟨b, o, rfl, hb0, hc1⟩ := hcl (by omega)
      have x0 : wr.cell? ⟨b, o + k, none⟩ = some (.int .i64 l[k]) := (HWR.out.2.cell (p := ⟨b, o + k, none⟩) hb0).trans (by rw [hc1 k (by unfold ints; rw [List.length_map]; exact hk)]; simp [ints])
      have hw1 : wrap64 ((k : Int) + 1) = ((k + 1 : Nat) : Int) := by have := HL.out; unfold wrap64; omega
      have HTK : Hid (pressL (l.take (k + 1)) = pressL (l.take k) ++ [⟨1, l[k], true, 0⟩, ⟨1, l[k], false, 0⟩]) := Lib.hid (by rw [List.take_succ_eq_append_getElem hk, pressL_app]; rfl)
      have HH := Lib.hid (And.intro hk hw1)
      generalize l[k] = c at *
      clear hc1 hcl hk hw1
      have hal := Kt.balloc (Below.refl _ wr) (.cells #[.int .i64 1, .int .i64 c, .bool true, .int .i64 0, .int .i64 1, .int .i64 c, .bool false, .int .i64 0] 31)
      have HAR := Lib.hid (Kt.Ar.new wr #[.int .i64 1, .int .i64 c, .bool true, .int .i64 0, .int .i64 1, .int .i64 c, .bool false, .int .i64 0] 31 2 4 rfl)
      have HS2 := Lib.hid (HWR.out.1.on hal)
      have HB2 := Lib.hid (Kt.bthen HWR.out.2 hal)
      clear hal
      have hw1 := HH.out.2
      go_wp2_with (
        refine Kt.append_ar (by rfl) (.tmp 12) (.tmp 19) 26 rfl w0.heap.size 31 (.agg #[.int .i64 0, .int .i64 0, .bool false, .int .i64 0]) 4 32 infoK Tryd.underlying26 rfl (by decide) _ _ _ rfl HS2.out _ _ _ rfl HAR.out (by intro u hu; simp only [List.mem_cons, List.not_mem_nil, or_false] at hu; rcases hu with rfl | rfl | rfl | rfl | rfl | rfl | rfl | rfl <;> rfl) (by have := HL.out; have := HH.out.1; unfold maxLen; omega) (by have := HL.out; have := HH.out.1; omega) HB2.out.size ?_
        intro A4 c4 w4 hs4 hb4 hz4 hk4 hl4)
      refine ⟨⟨k + 1, A4, c4, by rw [hw1], by rw [show (k + 1) * 2 = k * 2 + 2 by omega], Lib.hid HH.out.1, Lib.hid ⟨?_, HB2.out.trans hb4⟩⟩, by rw [hw1]; exact nxm HH.out.1⟩
      rw [HTK.out, sks_app, show (k + 1) * 2 = k * 2 + 2 by omega]
      exact hs4
    · have hk' : ¬ (k : Int) < l.length := by omega
      have hkk : k = l.length := by have := HK.out; omega
      subst hkk
      go_wp2_with fail
      go_ret
      refine ⟨A', c', rfl, ?_, HWR.out.2⟩
      have := HWR.out.1
      rw [List.take_length] at this
      exact this
def cafe : ByteArray := ⟨#[99, 97, 102, 195, 169]⟩
theorem lives_plain : (typeP St.zero (pressL [6, 4, 9, 47, 8])).2 = 0 ∧ (typeP St.zero (pressL [6, 4, 9, 47, 8])).1.text = cafe := by
  constructor <;> decide +kernel
set_option maxRecDepth 100000 in
set_option maxHeartbeats 3200000 in
theorem tlives_calls (w0 : World) (hT : ∀ W, Below w0.heap.size w0 W → Lib.Utf8Tabs 0 1 W) : Calls Tryd.prog 9 #[] w0 fun e w' => e = .returned (.bool true) ∧ Below w0.heap.size w0 w' := by
  have HT := Lib.hid hT
  have hal := Kt.balloc (Below.refl _ w0) (.cells #[.int .i64 6, .int .i64 4, .int .i64 9, .int .i64 47, .int .i64 8] 3)
  have HP := Lib.hid (press_calls [6, 4, 9, 47, 8] (some ⟨w0.heap.size, 0, none⟩) 5 _ (Kt.Ar.new w0 #[.int .i64 6, .int .i64 4, .int .i64 9, .int .i64 47, .int .i64 8] 3 5 1 rfl) (by decide))
  have HB := Lib.hid hal
  clear hT hal
  go_enter Tryd.func9, Tryd.ntmps9
  go_wp2_with fail
  refine HP.out.mono ?_
  rintro e w1 ⟨A1, c1, rfl, hs, hb⟩
  have HB1 := Lib.hid (Kt.bthen HB.out hb)
  have HS1 := Lib.hid hs
  clear hs hb HB HP
  go_wp2_with fail
  refine (type_calls St.zero (pressL [6, 4, 9, 47, 8]) A1 c1 _ (Kt.Ar.of_sl HS1.out) (fun W hW => HT.out W (Kt.bthen HB1.out hW))).mono ?_
  obtain ⟨T, E, hT⟩ : ∃ T E, typeP St.zero (pressL [6, 4, 9, 47, 8]) = (T, E) := ⟨_, _, rfl⟩
  have hp := lives_plain
  rw [hT] at hp ⊢
  obtain ⟨he, ht⟩ := hp
  change E = 0 at he
  change T.text = cafe at ht
  subst he
  rintro e w2 ⟨rfl, hb⟩
  have HB2 := Lib.hid (Kt.bthen HB1.out hb)
  clear hb hT HB1 HS1
  unfold St.v St.cs
  rw [ht]
  unfold cafe
  go_wp2_with fail
  go_ret
  exact ⟨rfl, Kt.balloc HB2.out _⟩
end Go.Proofs.YtndkaehbmdiofaaDoor
