/- arena: slices.IndexFunc, ContainsFunc at spans, whatever the predicate; free. -/
import Derived.Test.YtdckakjfplhanaaArnW
import Derived.Shelf.Abstract
namespace Go.Proofs.Ytdckakjfplhanaa
open Go.RowKit Go.Shelf Go.Proofs.Ytdckakjfplhanaa.Arn
/-- the first span of which p holds -/
def FirstP (p : Int × Int → Bool) (l : List (Int × Int)) (r : Int) : Prop := (r = -1 ∧ ∀ s ∈ l, p s = false) ∨ ∃ k : Nat, r = (k : Int) ∧ (∃ h : k < l.length, p l[k] = true) ∧ ∀ j (h : j < l.length), j < k → p l[j] = false
set_option maxRecDepth 100000 in
set_option maxHeartbeats 1600000 in
theorem index_calls (p : Int × Int → Bool) (f : FuncId) (lb : Array Value) (l : List (Int × Int)) (V : Value) (w : World) (hv : Kt.Ar w V 2 l.length (spv l)) (hm : l.length ≤ 1099511627776)
    (eg : ∀ args w, (callFunc f args).run Try.prog w = .ok (.enter f args) w)
    (hf : ∀ (s : Int × Int) (W : World), Below w.heap.size w W → Calls Try.prog f (#[.agg #[.int .i64 s.1, .int .i64 s.2]] ++ lb) W fun e w' => e = .returned (.bool (p s)) ∧ Below W.heap.size W w') :
    Calls Try.prog 15 #[V, .func (.func f) #[] lb] w fun e w' => ∃ r, e = .returned (.int .i64 r) ∧ FirstP p l r ∧ Below w.heap.size w w' := by
  obtain ⟨A0, c0, rfl, _, _⟩ := hv.form
  have HV := Lib.hid hv
  have HM := Lib.hid hm
  have HF := Lib.hid hf
  clear hv hm hf
  go_enter Try.func15, Try.ntmps15
  go_wp2_with fail
  go_loopw [8] (fun i wr => ∃ (k : Nat), k ≤ l.length ∧ i = .int .i64 k ∧ Hid (∀ j (h : j < l.length), j < k → p l[j] = false) ∧ Hid (Below w.heap.size w wr)) (fun i _ => l.length - (intOf i).toNat)
  case atStart => exact ⟨0, Nat.zero_le _, rfl, Lib.hid (fun j h hj => absurd hj (by omega)), Lib.hid (Below.refl _ _)⟩
  case round =>
    obtain ⟨k, hk, rfl, HP, HB⟩ := hrel
    by_cases hlt : k < l.length
    · obtain ⟨b, o, c, hve, hb0, x0, x1⟩ := Kt.Ar.span (w' := w) (HV.out.on HB.out) k hlt
      cases hve
      have HC := Lib.hid (HF.out (l[k]'hlt) wr HB.out)
      have HPK : Hid (∀ q, p (l[k]'hlt) = q → ∃ h : k < l.length, p (l[k]'h) = q) := Lib.hid (fun q h => ⟨hlt, h⟩)
      have ek : (k : Int) < l.length := by omega
      have ek0 : (0 : Int) ≤ k := by omega
      have HK := Lib.hid hlt
      obtain ⟨q, hq⟩ : ∃ q, p (l[k]'hlt) = q := ⟨_, rfl⟩
      have HQ := Lib.hid hq
      rw [hq] at HC
      have HC2 : Hid (Calls Try.prog f (#[.agg #[.int .i64 (l[k]'hlt).1, .int .i64 (l[k]'hlt).2]] ++ lb) wr fun e w' => e = .returned (.bool q) ∧ Below wr.heap.size wr w') := HC
      clear hq HC
      generalize hL1 : (l[k]'hlt).1 = at_ at *
      generalize hL2 : (l[k]'hlt).2 = sz at *
      clear hL1 hL2 hk
      cases q with
      | true =>
        go_wp2_with fail
        refine HC2.out.mono ?_
        rintro e w1 ⟨rfl, hb⟩
        have HB1 := Lib.hid (Kt.bthen HB.out hb)
        clear hb HC2
        go_wp2_with fail
        go_ret
        exact ⟨_, rfl, .inr ⟨k, rfl, HPK.out _ HQ.out, HP.out⟩, HB1.out⟩
      | false =>
        go_wp2_with fail
        refine HC2.out.mono ?_
        rintro e w1 ⟨rfl, hb⟩
        have HB1 := Lib.hid (Kt.bthen HB.out hb)
        clear hb HC2
        go_wp2_with fail
        have hm := HM.out
        have hk := HK.out
        go_roundw
        case rel => exact ⟨k + 1, by omega, by rw [show wrap64 ((k : Int) + 1) = ((k + 1 : Nat) : Int) by unfold wrap64; omega], Lib.hid (fun j h hj => by
          by_cases e : j = k
          · subst e; exact HQ.out
          · exact HP.out j h (by omega)), HB1⟩
        case measure =>
          rw [show wrap64 ((k : Int) + 1) = ((k + 1 : Nat) : Int) by unfold wrap64; omega]
          simp [intOf] <;> omega
    · obtain rfl : k = l.length := by omega
      go_wp2_with fail
      go_ret
      exact ⟨_, rfl, .inl ⟨rfl, fun s hs => by
        obtain ⟨j, hj, rfl⟩ := List.mem_iff_getElem.1 hs
        exact HP.out j hj hj⟩, HB.out⟩
theorem contains_calls (p : Int × Int → Bool) (f : FuncId) (lb : Array Value) (l : List (Int × Int)) (V : Value) (w : World) (hv : Kt.Ar w V 2 l.length (spv l)) (hm : l.length ≤ 1099511627776)
    (eg : ∀ args w, (callFunc f args).run Try.prog w = .ok (.enter f args) w)
    (hf : ∀ (s : Int × Int) (W : World), Below w.heap.size w W → Calls Try.prog f (#[.agg #[.int .i64 s.1, .int .i64 s.2]] ++ lb) W fun e w' => e = .returned (.bool (p s)) ∧ Below W.heap.size W w') :
    Calls Try.prog 27 #[V, .func (.func f) #[] lb] w fun e w' => ∃ q, e = .returned (.bool q) ∧ (q = true ↔ ∃ s ∈ l, p s = true) ∧ Below w.heap.size w w' := by
  have HI := Lib.hid (index_calls p f lb l V w hv hm eg hf)
  obtain ⟨A0, c0, rfl, _, _⟩ := hv.form
  clear hv hm hf eg
  go_enter Try.func27, Try.ntmps27
  go_wp2_with fail
  refine HI.out.mono ?_
  rintro e w1 ⟨r, rfl, hr, hb⟩
  have HB := Lib.hid hb
  clear hb HI
  rcases hr with ⟨rfl, hall⟩ | ⟨k, rfl, ⟨hk, hp⟩, _⟩
  · have HA := Lib.hid hall
    clear hall
    go_wp2_with fail
    go_ret
    exact ⟨false, rfl, ⟨(fun h => by cases h), (fun ⟨s, hs, hp⟩ => by rw [HA.out s hs] at hp; cases hp)⟩, HB.out⟩
  · have HA := Lib.hid (show ∃ s ∈ l, p s = true from ⟨_, List.getElem_mem hk, hp⟩)
    have hk0 : (0 : Int) ≤ (k : Int) := by omega
    clear hk hp
    go_wp2_with fail
    go_ret
    exact ⟨true, rfl, ⟨fun _ => HA.out, fun _ => rfl⟩, HB.out⟩
/-- does a span meet the one at a of z units? (as the machine reckons) -/
def hits (a z : Int) (s : Int × Int) : Bool := decide (s.1 < wrap64 (a + z)) && decide (a < wrap64 (s.1 + s.2))
theorem eg28 : ∀ args w, (callFunc 28 args).run Try.prog w = .ok (.enter 28 args) w := enters_of Try.func28 (by kernel_rfl) rfl
set_option maxHeartbeats 800000 in
theorem hits_calls (a z : Int) (s : Int × Int) (b : Nat) (w : World) (hb : w.heap[b]? = some (.cells #[.int .i64 a, .int .i64 z] 30 (0, 0))) :
    Calls Try.prog 28 #[.agg #[.int .i64 s.1, .int .i64 s.2], .pointer (some ⟨b, 0, none⟩)] w fun e w' => e = .returned (.bool (hits a z s)) ∧ Below w.heap.size w w' := by
  have HB := Lib.hid (Kt.balloc (Below.refl _ w) (.cells #[.int .i64 s.1, .int .i64 s.2] 30))
  have HN := Lib.hid (heap_alloc_new w (.cells #[.int .i64 s.1, .int .i64 s.2] 30))
  have HBX := Lib.hid (Kt.row_on (Kt.balloc (Below.refl _ w) (.cells #[.int .i64 s.1, .int .i64 s.2] 30)) hb)
  have HH : Hid (hits a z s = (decide (s.1 < wrap64 (a + z)) && decide (a < wrap64 (s.1 + s.2)))) := Lib.hid rfl
  obtain ⟨x, y⟩ := s
  dsimp only at *
  have q1 := fun i => cell_of_row _ _ i _ _ _ HN.out
  have q2 := fun i => cell_of_row _ _ i _ _ _ HBX.out
  clear hb
  by_cases c1 : x < wrap64 (a + z)
  · rw [decide_eq_true c1, Bool.true_and] at HH
    go_enter Try.func28, Try.ntmps28
    go_wp2_with fail
    go_ret
    exact ⟨by rw [HH.out]; rfl, HB.out⟩
  · rw [decide_eq_false c1, Bool.false_and] at HH
    have c2 : wrap64 (a + z) ≤ x := by omega
    go_enter Try.func28, Try.ntmps28
    go_wp2_with fail
    go_ret
    exact ⟨by rw [HH.out]; rfl, HB.out⟩
theorem hits_is {size : Int} {l : List (Int × Int)} (hs : size ≤ 65536) (ho : okS size 0 l) {a z : Int} (ha : 0 ≤ a) (hz : 1 ≤ z) (hz2 : z ≤ 65536) (haz : a + z ≤ size) {q : Bool} (hq : q = true ↔ ∃ s ∈ l, hits a z s = true) : (!q) = true ↔ Arn.free l a z := by
  have e1 : wrap64 (a + z) = a + z := by unfold wrap64; omega
  have key : ∀ s ∈ l, hits a z s = true ↔ (s.1 < a + z ∧ a < s.1 + s.2) := fun s hs' => by
    have := okS_bounds size l 0 ho s hs'
    unfold hits
    rw [e1, show wrap64 (s.1 + s.2) = s.1 + s.2 by unfold wrap64; omega]
    simp
  constructor
  · intro h s hs' hc
    have : q = true := hq.2 ⟨s, hs', (key s hs').2 hc⟩
    rw [this] at h
    cases h
  · intro h
    cases q with
    | false => rfl
    | true =>
      obtain ⟨s, hs', hh⟩ := hq.1 rfl
      exact absurd ((key s hs').1 hh) (h s hs')
set_option maxHeartbeats 800000 in
theorem isfree_calls (size : Int) (l : List (Int × Int)) (V : Value) (a z : Int) (w : World) (hv : Kt.Ar w V 2 l.length (spv l)) (hs : size ≤ 65536) (hl : l.length ≤ 64) (ho : okS size 0 l) (ha : 0 ≤ a) (hz : 1 ≤ z) (hz2 : z ≤ 65536) (haz : a + z ≤ size) :
    Calls Try.prog 20 #[.agg #[.int .i64 size, V], .agg #[.int .i64 a, .int .i64 z]] w fun e w' => ∃ q, e = .returned (.bool q) ∧ (q = true ↔ Arn.free l a z) ∧ Below w.heap.size w w' := by
  obtain ⟨A0, c0, rfl, _, _⟩ := hv.form
  have HIS : Hid (∀ q : Bool, (q = true ↔ ∃ s ∈ l, hits a z s = true) → ((!q) = true ↔ Arn.free l a z)) := Lib.hid (fun q hq => hits_is hs ho ha hz hz2 haz hq)
  have HB := Lib.hid (Kt.balloc (Kt.balloc (Below.refl _ w) (.cells #[.int .i64 size, .slice A0 l.length c0] 24)) (.cells #[.int .i64 a, .int .i64 z] 30))
  have HR : Hid (((w.alloc (.cells #[.int .i64 size, .slice A0 l.length c0] 24)).alloc (.cells #[.int .i64 a, .int .i64 z] 30)).heap[w.heap.size + 1]? = some (.cells #[.int .i64 a, .int .i64 z] 30 (0, 0))) := Lib.hid (by
    have := heap_alloc_new (w.alloc (.cells #[.int .i64 size, .slice A0 l.length c0] 24)) (.cells #[.int .i64 a, .int .i64 z] 30)
    rw [World.size_alloc] at this
    exact this)
  have HC := Lib.hid (contains_calls (hits a z) 28 #[.pointer (some ⟨w.heap.size + 1, 0, none⟩)] l (.slice A0 l.length c0) ((w.alloc (.cells #[.int .i64 size, .slice A0 l.length c0] 24)).alloc (.cells #[.int .i64 a, .int .i64 z] 30)) (hv.on HB.out) (by omega) eg28 (fun s W hW => hits_calls a z s _ W (Kt.row_on hW HR.out)))
  clear hv hs hl ho ha hz hz2 haz
  go_enter Try.func20, Try.ntmps20
  go_wp2_with fail
  refine HC.out.mono ?_
  rintro e w1 ⟨q, rfl, hq, hb⟩
  have HQ := Lib.hid (HIS.out q hq)
  have HB1 := Lib.hid (Kt.bthen HB.out hb)
  clear hq hb HC
  go_wp2_with fail
  go_ret
  exact ⟨!q, rfl, HQ.out, HB1.out⟩
end Go.Proofs.Ytdckakjfplhanaa
