/- The laws of package strike, walked: Front. -/
import Derived.Test.YtfkbphfmchjacaaStkR
namespace Go.Proofs.Ytfkbphfmchjacaa
open Go.RowKit
theorem fated_of {fs : List Int} (h : fs.all (fun f => decide (1 ≤ f ∧ f ≤ 5)) = true) : ∀ k (hk : k < fs.length), fated fs[k] := fun k hk => by
  have := List.all_eq_true.1 h fs[k] (List.getElem_mem hk)
  simpa [fated] using this
theorem ar_new {w' : World} {cs : Array Value} {e : TypeId} {n : Nat} {b c : Nat} (hw : w'.heap[b]? = some (.cells cs e (0, 0))) (hn : cs.size = n) (hc : n ≤ c) : Kt.Ar w' (.slice (some ⟨b, 0, none⟩) n c) 1 n cs.toList := by
  subst hn
  refine ⟨by simp, _, c, rfl, hc, fun _ => ⟨b, 0, rfl, (Array.getElem?_eq_some_iff.1 hw).1, fun j hj => ?_⟩⟩
  rw [cell_of_row w' b (0 + j) cs e (0, 0) hw]
  simp at hj
  simp [hj]
theorem lives_ok : OkArgs ⟨#[97, 98, 99]⟩ 2 [3, 1, 1, 5] := ⟨by decide, by decide, by decide, by decide, by decide, fated_of (by decide)⟩
theorem lives_val : carOf (chop (2 : Int).toNat ⟨#[97, 98, 99]⟩) (carF (p0 (chop (2 : Int).toNat ⟨#[97, 98, 99]⟩)) 0 0 [3, 1, 1, 5]) = carV 0 [97, 98, 99] 3 3 := by kernel_rfl
set_option maxHeartbeats 1600000 in
theorem lives_calls (w : World) : Calls Try.prog 9 #[] w fun e w' => e = .returned (.bool true) ∧ Below w.heap.size w w' := by
  go_enter Try.func9, Try.ntmps9
  go_wp2_with fail
  have a0 := ar_new (heap_alloc_new w (.cells #[.int .i64 3, .int .i64 1, .int .i64 1, .int .i64 5] 3)) rfl (Nat.le_refl 4)
  refine (carry_calls _ 2 [3, 1, 1, 5] _ _ a0).mono ?_
  rintro en w1 (⟨_, rfl, hb⟩ | ⟨hno, _⟩)
  · rw [lives_val]
    unfold carV
    go_wp2_with fail
    go_ret
    exact ⟨rfl, Kt.balloc (Kt.bthen (Kt.balloc (Below.refl _ w) _) hb) _⟩
  · exact absurd lives_ok hno
/-- what Carry told, as the walk wants it -/
structure Told (t : ByteArray) (s : Nat) (fs : List Int) (code : Int) (got : ByteArray) (done used : Nat) : Prop where
  pre : Lib.hasPrefix t.data.toList got.data.toList = true
  le : done ≤ got.size
  ge : got.size ≤ done + s
  un : used ≤ fs.length
  ok : code = 0 → got = t ∧ done = t.size
theorem told_of {t : ByteArray} {s : Int} {fs : List Int} (h : OkArgs t s fs) : ∃ code got done used, carOf (chop s.toNat t) (carF (p0 (chop s.toNat t)) 0 0 fs) = .agg #[.int .i64 code, .string got, .int .i64 (done : Nat), .int .i64 (used : Nat)] ∧ Told t s.toNat fs code got done used := by
  have hs : 1 ≤ s.toNat := by have := h.s1; omega
  have hr := car_res hs t fs
  obtain ⟨told, g, hI⟩ := hr.inv
  obtain ⟨b1, b2, b3, b4⟩ := told_bytes hI (chop_le hs t)
  rw [chop_cat hs] at b1 b4
  have hz : (⟨(cat (carF (p0 (chop s.toNat t)) 0 0 fs).2.1.gs).toArray⟩ : ByteArray).size = (cat (carF (p0 (chop s.toNat t)) 0 0 fs).2.1.gs).length := by
    show (cat _).toArray.size = _; rw [List.size_toArray]
  refine ⟨_, _, _, _, rfl, ?_, by rw [hz]; exact b2, by rw [hz]; exact b3, by have := hr.hi; omega, fun hc => ?_⟩
  · show List.isPrefixOf _ _ = true
    rw [List.isPrefixOf_iff_prefix]
    show cat _ <+: _
    rw [b1]; exact List.take_prefix _ _
  · obtain ⟨e1, e2⟩ := b4 (hr.ok hc)
    refine ⟨?_, by rw [e2, blen]⟩
    apply Kt.bytes_eq
    exact e1
set_option maxHeartbeats 1600000 in
theorem front_walk (v0 v1 v2 : Value) (w : World) (r0 : Fr.RdV w reachBytes .string v0) (r1 : Fr.RdV w reachBytes (.int .i64) v1) (r2 : Fr.RdV w reachBytes (.slice 1 (.int .i64)) v2) :
    Calls Try.prog 6 #[v0, v1, v2] w fun e w' => e = .returned (.bool true) ∧ Below w.heap.size w w' := by
  obtain ⟨t, e, ht⟩ := r0; cases e
  obtain ⟨s, e, hs⟩ := r1; cases e
  obtain ⟨fs, hfl, _, hU⟩ := Kt.ar_ints r2
  have HC := Lib.hid (carry_calls t s fs v2 w hU)
  obtain ⟨UA, uc, rfl, _, _⟩ := hU.form
  have h62 : fs.length ≤ 140737488355328 := Nat.le_trans hfl (by decide)
  clear hU
  go_enter Try.func6, Try.ntmps6
  go_wp2_with fail
  refine HC.out.mono ?_
  rintro en w1 (⟨hok, rfl, hb⟩ | ⟨hno, n, hn, rfl, hb⟩)
  · obtain ⟨code, got, done, used, e, hT⟩ := told_of hok
    rw [e]
    have s1 := hok.s1
    have s2 := hok.s2
    have htz : got.size ≤ 4096 := by
      have h1 := List.isPrefixOf_iff_prefix.1 (show List.isPrefixOf got.data.toList t.data.toList = true from hT.pre)
      have := h1.length_le
      rw [blen, blen] at this
      have := hok.tz; omega
    have HT := Lib.hid hT
    have t1 := hT.le
    have t2 : got.size ≤ done + s.toNat := hT.ge
    have t3 := hT.un
    have hpre := hT.pre
    clear hT e hok
    go_wp2_with fail
    refine (lives_calls _).mono ?_
    rintro en w2 ⟨rfl, hb2⟩
    have hrow := Kt.box1 hb2
    have hc := fun i => cell_of_row _ _ i _ _ _ hrow
    have HP := Try.strings_HasPrefix t got w2
    rw [hpre] at HP
    have HPP := Lib.hid HP
    have d1 : (done : Int) ≤ got.size := by omega
    have d2 : (got.size : Int) ≤ done + s := by omega
    have d3 : (used : Int) ≤ fs.length := by omega
    have e1 : decide (done ≤ got.size) = true := decide_eq_true t1
    have e2 : decide (used ≤ fs.length) = true := decide_eq_true t3
    have hbb := Kt.bthen (Kt.balloc hb _) hb2
    clear HP hpre t1 t2 t3 hb2 hrow hb
    by_cases h0 : code = 0
    · obtain ⟨rfl, rfl⟩ := HT.out.ok h0
      subst h0
      go_wp2_with fail
      refine HPP.out.mono ?_
      rintro en w3 ⟨rfl, rfl⟩
      go_wp2_with fail
      go_ret
      exact ⟨rfl, hbb⟩
    · have h1 : (code != 0) = true := by rw [bne_iff_ne]; exact h0
      clear h0
      go_wp2_with fail
      refine HPP.out.mono ?_
      rintro en w3 ⟨rfl, rfl⟩
      go_wp2_with fail
      go_ret
      exact ⟨rfl, hbb⟩
  · have hne : (n != 0) = true := by rw [bne_iff_ne]; exact hn
    clear hn
    unfold carV
    go_wp2_with fail
    refine (lives_calls _).mono ?_
    rintro en w2 ⟨rfl, hb2⟩
    have hrow := Kt.box1 hb2
    have hc := fun i => cell_of_row _ _ i _ _ _ hrow
    have hbb := Kt.bthen (Kt.balloc hb _) hb2
    have hz : w1.heap.size < w2.heap.size := by have := hb2.size; rw [World.size_alloc] at this; omega
    clear hb2
    go_wp2_with fail
    refine (lives_calls _).mono ?_
    rintro en w3 ⟨rfl, hb3⟩
    have hrow3 := Kt.row_on hb3 hrow
    have hc3 := fun i => cell_of_row _ _ i _ _ _ hrow3
    clear hc
    go_wp2_with fail
    go_ret
    exact ⟨rfl, Kt.bthen hbb hb3⟩
end Go.Proofs.Ytfkbphfmchjacaa
