/- The laws LaneLong, LaneRuns. -/
import Derived.Test.YtjjpnbelahcfiaaDoorLanR
import Derived.Lib.IndexMore
namespace Go.Proofs.YtjjpnbelahcfiaaDoor
open Go.RowKit Go.Proofs.YtjjpnbelahcfiaaDoor.Lan
theorem stuff_le : ∀ (l : List UInt8) (n : Nat), n < 6 → (stuff n l).length ≤ l.length + (n + l.length) / 6
  | [], n, h => by simp [stuff]
  | a :: l, n, h => by
    by_cases h6 : nxt n a = 6
    · have e : stuff n (a :: l) = a :: 48 :: stuff 0 l := if_pos h6
      have ih := stuff_le l 0 (by omega)
      have hn : n = 5 := by unfold nxt at h6; split at h6 <;> omega
      rw [e]
      simp only [List.length_cons]
      omega
    · have e : stuff n (a :: l) = a :: stuff (nxt n a) l := if_neg h6
      have hk : nxt n a ≤ n + 1 := by unfold nxt; split <;> omega
      have ih := stuff_le l (nxt n a) (by omega)
      rw [e]
      simp only [List.length_cons]
      omega
theorem stuff_ones : ∀ (l : List UInt8) (n : Nat), n < 6 → (∀ b ∈ l, b ≠ 48) → (stuff n l).length = l.length + (n + l.length) / 6
  | [], n, h, _ => by simp [stuff]; omega
  | a :: l, n, h, hb => by
    have ha := hb a List.mem_cons_self
    have hb2 := fun x hx => hb x (List.mem_cons_of_mem a hx)
    have hk : nxt n a = n + 1 := if_neg ha
    by_cases h6 : nxt n a = 6
    · have e : stuff n (a :: l) = a :: 48 :: stuff 0 l := if_pos h6
      have ih := stuff_ones l 0 (by omega) hb2
      rw [e]
      simp only [List.length_cons]
      omega
    · have e : stuff n (a :: l) = a :: stuff (nxt n a) l := if_neg h6
      have ih := stuff_ones l (nxt n a) (by omega) hb2
      rw [e]
      simp only [List.length_cons]
      omega
theorem stuff_count : ∀ (l : List UInt8) (n : Nat), (stuff n l).count 49 = l.count 49
  | [], _ => rfl
  | a :: l, n => by
    by_cases h6 : nxt n a = 6
    · have e : stuff n (a :: l) = a :: 48 :: stuff 0 l := if_pos h6
      rw [e, List.count_cons, List.count_cons, List.count_cons, stuff_count l 0]
      rfl
    · have e : stuff n (a :: l) = a :: stuff (nxt n a) l := if_neg h6
      rw [e, List.count_cons, List.count_cons, stuff_count l _]
/-- no seven ones in a row, n of them ahead -/
def ok7 : Nat → List UInt8 → Bool
  | _, [] => true
  | n, b :: l => if b = 48 then ok7 0 l else decide (n < 6) && ok7 (n + 1) l
theorem ok7_stuff : ∀ (l : List UInt8) (n : Nat), n < 6 → ok7 n (stuff n l) = true
  | [], _, _ => rfl
  | a :: l, n, h => by
    by_cases h6 : nxt n a = 6
    · have e : stuff n (a :: l) = a :: 48 :: stuff 0 l := if_pos h6
      have ih := ok7_stuff l 0 (by omega)
      have ha : ¬ a = 48 := by intro ha; unfold nxt at h6; rw [if_pos ha] at h6; omega
      rw [e]
      show (if a = 48 then ok7 0 (48 :: stuff 0 l) else decide (n < 6) && ok7 (n + 1) (48 :: stuff 0 l)) = true
      rw [if_neg ha, decide_eq_true h, Bool.true_and]
      exact ih
    · have e : stuff n (a :: l) = a :: stuff (nxt n a) l := if_neg h6
      have hk : nxt n a ≤ n + 1 := by unfold nxt; split <;> omega
      have ih := ok7_stuff l (nxt n a) (by omega)
      rw [e]
      show (if a = 48 then ok7 0 (stuff (nxt n a) l) else decide (n < 6) && ok7 (n + 1) (stuff (nxt n a) l)) = true
      by_cases ha : a = 48
      · have hn : nxt n a = 0 := if_pos ha
        rw [hn] at ih ⊢
        rw [if_pos ha]; exact ih
      · have hn : nxt n a = n + 1 := if_neg ha
        rw [hn] at ih ⊢
        rw [if_neg ha, decide_eq_true h, Bool.true_and]; exact ih
theorem ok7_step {n : Nat} {b : UInt8} {l : List UInt8} (hb : b ≠ 48) (h : ok7 (n + 1) l = false ∨ 6 ≤ n) : ok7 n (b :: l) = false := by
  show (if b = 48 then ok7 0 l else decide (n < 6) && ok7 (n + 1) l) = false
  rw [if_neg hb]
  rcases h with h | h
  · rw [h, Bool.and_false]
  · rw [decide_eq_false (by omega), Bool.false_and]
/-- m letters in a row that are no zero, behind n: seven together -/
theorem ok7_many : ∀ (m n : Nat) (l : List UInt8), 7 ≤ n + m → 0 < m → m ≤ l.length → (∀ b ∈ l.take m, b ≠ 48) → ok7 n l = false
  | m + 1, n, [], _, _, hl, _ => by simp at hl
  | m + 1, n, b :: l, h, _, hl, hb => by
    refine ok7_step (hb b (by simp)) ?_
    by_cases h6 : 6 ≤ n
    · exact .inr h6
    · exact .inl (ok7_many m (n + 1) l (by omega) (by omega) (by simpa using hl) (fun x hx => hb x (by simp [hx])))
theorem ok7_later : ∀ (x : List UInt8) (l : List UInt8), (∀ n, ok7 n l = false) → ∀ n, ok7 n (x ++ l) = false
  | [], _, h, n => h n
  | b :: x, l, h, n => by
    have ih := ok7_later x l h
    show (if b = 48 then ok7 0 (x ++ l) else decide (n < 6) && ok7 (n + 1) (x ++ l)) = false
    rw [ih 0, ih (n + 1), Bool.and_false, ite_self]
theorem contains_cut {s sub : List UInt8} (h : Lib.contains s sub = true) : ∃ x y, s = x ++ sub ++ y := by
  have h0 : 0 ≤ Lib.index s sub := of_decide_eq_true h
  rcases Lib.index_spec s sub with ⟨h1, _⟩ | ⟨i, _, _, ho, _⟩
  · omega
  · obtain ⟨y, hy⟩ := List.isPrefixOf_iff_prefix.1 ho
    refine ⟨s.take i, y, ?_⟩
    rw [List.append_assoc, hy, List.take_append_drop]
theorem runs_bits (l : List UInt8) : Lib.contains (stuff 0 l) [49, 49, 49, 49, 49, 49, 49] = false := by
  cases hc : Lib.contains (stuff 0 l) [49, 49, 49, 49, 49, 49, 49] with
  | false => rfl
  | true =>
    obtain ⟨x, y, h⟩ := contains_cut hc
    have h1 := ok7_stuff l 0 (by omega)
    rw [h, List.append_assoc] at h1
    rw [ok7_later x _ (fun n => ok7_many 7 n _ (by omega) (by omega) (by simp) (by intro b hb; simp at hb; rw [hb]; decide)) 0] at h1
    exact absurd h1 (by decide)
/-- a level that stays: its bit is no zero -/
theorem lvl_same {v b : UInt8} (hv : isLv v) (h : lvl v b = v) : b ≠ 48 := by
  intro hb
  unfold lvl oth at h
  rw [if_pos hb] at h
  rcases hv with rfl | rfl
  · exact absurd h (by decide)
  · exact absurd h (by decide)
theorem turn_same : ∀ (m : Nat) (v : UInt8) (l y : List UInt8), isLv v → turn v l = List.replicate m v ++ y → m ≤ l.length ∧ ∀ b ∈ l.take m, b ≠ 48
  | 0, _, _, _, _, _ => ⟨Nat.zero_le _, by simp⟩
  | m + 1, v, [], y, _, h => by simp [turn, List.replicate_succ] at h
  | m + 1, v, b :: l, y, hv, h => by
    have h2 : lvl v b :: turn (lvl v b) l = v :: (List.replicate m v ++ y) := by
      have : turn v (b :: l) = lvl v b :: turn (lvl v b) l := rfl
      rw [← this, h, List.replicate_succ]; rfl
    injection h2 with h3 h4
    rw [h3] at h4
    have ih := turn_same m v l y hv h4
    refine ⟨by simp only [List.length_cons]; omega, fun x hx => ?_⟩
    simp only [List.take_succ_cons, List.mem_cons] at hx
    rcases hx with rfl | hx
    · exact lvl_same hv h3
    · exact ih.2 x hx
theorem turn_eight : ∀ (x : List UInt8) (v c : UInt8) (l y : List UInt8), isLv v → v :: turn v l = x ++ List.replicate 8 c ++ y → ∀ n, ok7 n l = false
  | [], v, c, l, y, hv, h, n => by
    have h2 : v :: turn v l = c :: (List.replicate 7 c ++ y) := h
    injection h2 with h3 h4
    subst h3
    obtain ⟨h5, h6⟩ := turn_same 7 v l y hv h4
    exact ok7_many 7 n l (by omega) (by omega) h5 h6
  | a :: x, v, c, [], y, hv, h, n => by
    have := congrArg List.length h
    simp [turn] at this
  | a :: x, v, c, b :: l, y, hv, h, n => by
    have h2 : v :: (lvl v b :: turn (lvl v b) l) = a :: (x ++ List.replicate 8 c ++ y) := h
    injection h2 with _ h4
    have ih := turn_eight x (lvl v b) c l y (lvl_is hv) h4
    exact ok7_later [b] l ih n
theorem runs_levels (l : List UInt8) (v c : UInt8) (hv : isLv v) : Lib.contains (v :: turn v (stuff 0 l)) [c, c, c, c, c, c, c, c] = false := by
  cases hc : Lib.contains (v :: turn v (stuff 0 l)) [c, c, c, c, c, c, c, c] with
  | false => rfl
  | true =>
    obtain ⟨x, y, h⟩ := contains_cut hc
    have h1 := ok7_stuff l 0 (by omega)
    rw [turn_eight x v c _ y hv h 0] at h1
    exact absurd h1 (by decide)
theorem count_calls (s : ByteArray) (w : World) : Calls Tryd.prog 18 #[.string s, .string ⟨#[49]⟩] w fun e w' => e = .returned (.int .i64 (s.data.toList.count 49 : Nat)) ∧ w' = w := Tryd.strings_Count_one s 49 w
set_option maxHeartbeats 1600000 in
theorem long_calls (s : ByteArray) (w : World) (hs : s.size ≤ 1048576) :
    Calls Tryd.prog 9 #[.string s] w fun e w' => e = .returned (.bool true) ∧ Below w.heap.size w w' := by
  have hl : s.data.toList.length = s.size := by simp
  by_cases hok : okL [48, 49] s.data.toList = true
  · have hst := stuff_bit s.data.toList 0 ((ok_bit _).1 hok)
    have H1 := Lib.hid (fun W : World => stuff_good s W (by omega) (by omega) hok)
    have hlo := (stuff_mem s.data.toList 0).2
    have hhi := stuff_le s.data.toList 0 (by omega)
    have H2 := Lib.hid (fun W : World => count_calls ⟨(stuff 0 s.data.toList).toArray⟩ W)
    rw [show ((⟨(stuff 0 s.data.toList).toArray⟩ : ByteArray).data.toList) = stuff 0 s.data.toList from rfl, stuff_count] at H2
    have H3 := Lib.hid (fun W : World => count_calls s W)
    have H4 := Lib.hid (fun W : World => Tryd.strings_Contains_one s 48 W)
    have hsz : (⟨(stuff 0 s.data.toList).toArray⟩ : ByteArray).size = (stuff 0 s.data.toList).length := by
      show (stuff 0 s.data.toList).toArray.size = _
      exact List.size_toArray
    have HZ : Hid (decide (0 ≤ Lib.indexByte s.data.toList 48) = true ∨ (decide (0 ≤ Lib.indexByte s.data.toList 48) = false ∧ (stuff 0 s.data.toList).length = s.size + s.size / 6)) := Lib.hid (by
      by_cases h0 : (48 : UInt8) ∈ s.data.toList
      · left
        rw [← Lib.contains_iff_indexByte]
        simpa using h0
      · right
        refine ⟨?_, ?_⟩
        · rw [← Lib.contains_iff_indexByte]
          simpa using h0
        · have := stuff_ones s.data.toList 0 (by omega) (fun b hb h => h0 (h ▸ hb))
          rw [this, hl]
          simp)
    rw [hl] at hlo hhi
    generalize (⟨(stuff 0 s.data.toList).toArray⟩ : ByteArray) = A at *
    generalize (stuff 0 s.data.toList).length = m at *
    generalize List.count 49 s.data.toList = cn at *
    generalize decide (0 ≤ Lib.indexByte s.data.toList 48) = z at *
    obtain ⟨d, rfl⟩ : ∃ d, m = s.size + d := ⟨m - s.size, by omega⟩
    have hd : d ≤ s.size / 6 := by omega
    clear hlo hhi hst hok hl
    generalize hq : s.size / 6 = q at *
    have e6 : (s.size : Int) / 6 = q := by omega
    have e7 : wrap64 (q : Int) = q := by unfold wrap64; omega
    have hq9 : q ≤ s.size := by omega
    clear hq
    go_enter Tryd.func9, Tryd.ntmps9
    go_wp2_with fail
    refine (H1.out _).mono ?_
    rintro e w1 ⟨rfl, hb⟩
    have HB1 := Lib.hid hb
    clear hb H1
    go_wp2_with fail
    refine (lives_calls _).mono ?_
    rintro e w2 ⟨rfl, hb⟩
    have HB2 := Lib.hid (Kt.bthen HB1.out hb)
    clear hb
    go_wp2_with fail
    refine (H2.out _).mono ?_
    rintro e w3 ⟨rfl, rfl⟩
    go_wp2_with fail
    refine (H3.out _).mono ?_
    rintro e w4 ⟨rfl, rfl⟩
    go_wp2_with fail
    refine (H4.out _).mono ?_
    rintro e w5 ⟨rfl, rfl⟩
    rcases HZ.out with rfl | ⟨rfl, he⟩
    · go_wp2_with fail
      go_ret
      exact ⟨rfl, HB2.out⟩
    · obtain rfl : d = q := by omega
      clear he
      go_wp2_with fail
      go_ret
      refine ⟨Kt.ret_true ?_, HB2.out⟩
      simp
      omega
  · have HS := Lib.hid (fun W : World => stuff_bad s W (by omega) (by simpa using hok))
    clear hok hl hs
    go_enter Tryd.func9, Tryd.ntmps9
    go_wp2_with fail
    refine (HS.out _).mono ?_
    rintro e w1 ⟨rfl, hb⟩
    have HB1 := Lib.hid hb
    clear hb HS
    go_wp2_with fail
    refine (lives_calls _).mono ?_
    rintro e w2 ⟨rfl, hb⟩
    have HB2 := Lib.hid (Kt.bthen HB1.out hb)
    clear hb
    go_wp2_with fail
    refine (lives_calls _).mono ?_
    rintro e w3 ⟨rfl, hb⟩
    have HB3 := Lib.hid (Kt.bthen HB2.out hb)
    clear hb
    go_wp2_with fail
    go_ret
    exact ⟨rfl, HB3.out⟩
theorem long_walk (v0 : Value) (w : World) (r0 : Fr.RdV w 1048576 .string v0) :
    Calls Tryd.prog 9 #[v0] w fun e w' => e = .returned (.bool true) ∧ Below w.heap.size w w' := by
  obtain ⟨s, rfl, hs⟩ := str_rd r0
  exact long_calls s w hs
end Go.Proofs.YtjjpnbelahcfiaaDoor
