/- The law RouteUnder: texts of ways, plainly; and walked. -/
import Derived.Test.YteekckglpinkpaaDoorRouN
namespace Go.Proofs.YteekckglpinkpaaDoor
open Go.RowKit Go.Proofs.YteekckglpinkpaaDoor.Rou
def tk (n : Nat) : List UInt8 := if n < 10 then [UInt8.ofNat (48 + n)] else [UInt8.ofNat (48 + n / 10), UInt8.ofNat (48 + n % 10)]
theorem tk_inj : ∀ p < 16, ∀ q < 16, tk p = tk q → p = q := by decide +kernel
theorem tk_dot : ∀ p < 16, (46 : UInt8) ∉ tk p := by decide +kernel
theorem dec_tk {p : Int} (h2 : p ≤ 15) : (dec p).data.toList = tk p.toNat := by
  show (Lib.decDigits p.toNat).toArray.toList = _
  rw [List.toList_toArray]
  unfold tk
  by_cases h : p.toNat < 10
  · rw [Lib.decDigits_one h, if_pos h]
  · rw [Lib.decDigits_two h (by omega), if_neg h]
theorem split_dot : ∀ (x y r r' : List UInt8), (46 : UInt8) ∉ x → (46 : UInt8) ∉ y → (x ++ 46 :: r) <+: (y ++ 46 :: r') → x = y ∧ r <+: r'
  | [], [], r, r', _, _, h => ⟨rfl, (List.cons_prefix_cons.1 h).2⟩
  | [], b :: y, r, r', _, h2, h => absurd (List.cons_prefix_cons.1 h).1 (fun e => h2 (by rw [e]; exact List.mem_cons_self ..))
  | a :: x, [], r, r', h1, _, h => absurd (List.cons_prefix_cons.1 h).1 (fun e => h1 (by rw [← e]; exact List.mem_cons_self ..))
  | a :: x, b :: y, r, r', h1, h2, h => by
    obtain ⟨e, h3⟩ := List.cons_prefix_cons.1 h
    obtain ⟨e2, h4⟩ := split_dot x y r r' (fun q => h1 (List.mem_cons_of_mem _ q)) (fun q => h2 (List.mem_cons_of_mem _ q)) h3
    exact ⟨by rw [e, e2], h4⟩
def enc (l : List Int) : List UInt8 := l.flatMap fun p => tk p.toNat ++ [46]
def okm (l : List Int) : Prop := ∀ p ∈ l, 1 ≤ p ∧ p ≤ 15
theorem okm_of {l : List Int} (h : okP l) : okm l := fun p hp => by
  obtain ⟨j, hj, rfl⟩ := List.mem_iff_getElem.1 hp
  exact h j hj
theorem enc_prefix : ∀ (a b : List Int), okm a → okm b → (enc b <+: enc a ↔ b <+: a)
  | a, [], _, _ => by simp [enc]
  | [], y :: b, _, _ => by simp [enc]
  | x :: a, y :: b, ha, hb => by
    have hx := ha x (List.mem_cons_self ..)
    have hy := hb y (List.mem_cons_self ..)
    have ih := enc_prefix a b (fun p hp => ha p (List.mem_cons_of_mem _ hp)) (fun p hp => hb p (List.mem_cons_of_mem _ hp))
    have e1 : enc (x :: a) = tk x.toNat ++ 46 :: enc a := by simp [enc]
    have e2 : enc (y :: b) = tk y.toNat ++ 46 :: enc b := by simp [enc]
    rw [e1, e2, List.cons_prefix_cons, ← ih]
    constructor
    · intro h
      obtain ⟨h1, h2⟩ := split_dot _ _ _ _ (tk_dot _ (by omega)) (tk_dot _ (by omega)) h
      have := tk_inj _ (by omega) _ (by omega) h1
      exact ⟨by omega, h2⟩
    · rintro ⟨rfl, h⟩
      exact (List.prefix_append_right_inj _).2 (List.cons_prefix_cons.2 ⟨rfl, h⟩)
theorem enc_show : ∀ (l : List Int), l ≠ [] → okm l → (showS l).data.toList ++ [46] = enc l
  | [], h, _ => absurd rfl h
  | [x], _, h => by
    show (Lib.join [(dec x).data.toList] (⟨#[46]⟩ : ByteArray).data.toList).toArray.toList ++ [46] = _
    rw [List.toList_toArray, Lib.join_one, dec_tk (h x (List.mem_cons_self ..)).2]
    simp [enc]
  | x :: y :: l, _, h => by
    have ih := enc_show (y :: l) (by simp) (fun p hp => h p (List.mem_cons_of_mem _ hp))
    have e : (showS (x :: y :: l)).data.toList = (dec x).data.toList ++ 46 :: (showS (y :: l)).data.toList := by
      show (List.intercalate (⟨#[46]⟩ : ByteArray).data.toList _).toArray.toList = _ ++ 46 :: (List.intercalate (⟨#[46]⟩ : ByteArray).data.toList _).toArray.toList
      rw [List.toList_toArray, List.toList_toArray, List.map_cons, List.map_cons, List.map_cons, List.map_cons, List.intercalate_cons_cons]
      simp
    rw [e, List.append_assoc, List.cons_append, ih, dec_tk (h x (List.mem_cons_self ..)).2]
    simp [enc]
/-- one text begins as the other -/
theorem show_under {a b : List Int} (ha : chk a = 0) (hb : chk b = 0) : Lib.hasPrefix (showS a ++ ⟨#[46]⟩ : ByteArray).data.toList (showS b ++ ⟨#[46]⟩ : ByteArray).data.toList = decide (b <+: a) := by
  obtain ⟨a1, _, a3⟩ := chk_zero ha
  obtain ⟨b1, _, b3⟩ := chk_zero hb
  have ea := enc_show a (by intro e; rw [e] at a1; exact absurd a1 (by decide)) (okm_of a3)
  have eb := enc_show b (by intro e; rw [e] at b1; exact absurd b1 (by decide)) (okm_of b3)
  rw [ByteArray.data_append, ByteArray.data_append, Array.toList_append, Array.toList_append]
  show Lib.hasPrefix ((showS a).data.toList ++ [46]) ((showS b).data.toList ++ [46]) = _
  rw [ea, eb]
  unfold Lib.hasPrefix
  rw [Bool.eq_iff_iff, List.isPrefixOf_iff_prefix, decide_eq_true_iff, enc_prefix a b (okm_of a3) (okm_of b3)]
theorem show_small {l : List Int} (h : chk l = 0) : ¬ 9223372036854775807 < (showS l).size + 1 := by
  obtain ⟨_, h2, h3⟩ := chk_zero h
  have := show_le h2 h3
  have e : (showS l).size = (Lib.join ((l.map dec).map (·.data.toList)) (⟨#[46]⟩ : ByteArray).data.toList).length := by
    show (showS l).data.size = _
    rw [← Array.length_toList]
    show (Lib.join _ _).toArray.toList.length = _
    rw [List.toList_toArray]
  omega
theorem meet_is (a b : List Int) : decide (a.take (cp a b) = b) = decide (b <+: a) := by
  rw [Bool.eq_iff_iff, decide_eq_true_iff, decide_eq_true_iff]
  constructor
  · intro h; rw [← h]; exact List.take_prefix _ _
  · intro h
    rw [(cp_all a b).2 h, ← List.prefix_iff_eq_take.1 h]
set_option maxRecDepth 100000 in
set_option maxHeartbeats 1600000 in
theorem runder_calls (a : List Int) (b : List Int) (A : Option Addr) (ka : Nat) (B : Option Addr) (kb : Nat) (w : World) (ha : Wy w A ka a) (hb : Wy w B kb b) (ma : a.length ≤ 17592186044416) (mb : b.length ≤ 17592186044416) :
    Calls Tryd.prog 6 #[.slice A a.length ka, .slice B b.length kb] w fun e w' => e = .returned (.bool true) ∧ Below w.heap.size w w' := by
  have Qa := Lib.hid ha
  have hba : a.length ≤ big := Nat.le_trans ma (by decide)
  have Ma := Lib.hid hba
  have Qb := Lib.hid hb
  have hbb : b.length ≤ big := Nat.le_trans mb (by decide)
  have Mb := Lib.hid hbb
  have B0 := Lib.hid (Below.refl w.heap.size w)
  clear ha hba hb hbb
  obtain ⟨S, hS⟩ : ∃ S, (if chk a = 0 then showS a else ⟨#[]⟩ : ByteArray) = S := ⟨_, rfl⟩
  obtain ⟨T, hT⟩ : ∃ S, (if chk b = 0 then showS b else ⟨#[]⟩ : ByteArray) = S := ⟨_, rfl⟩
  have HSa := Lib.hid hS
  have HSb := Lib.hid hT
  clear hS hT
  go_enter Tryd.func6, Tryd.ntmps6
  go_wp2_with fail
  have hc := show_calls a _ _ _ (Qa.out.on B0.out)
  rw [HSa.out] at hc
  refine hc.mono ?_
  rintro e w1 ⟨rfl, hb⟩
  have B1 := Lib.hid (Kt.bthen B0.out hb)
  clear hb hc
  go_wp2_with fail
  have hc := show_calls b _ _ _ (Qb.out.on B1.out)
  rw [HSb.out] at hc
  refine hc.mono ?_
  rintro e w2 ⟨rfl, hb⟩
  have B2 := Lib.hid (Kt.bthen B1.out hb)
  clear hb hc
  by_cases ca : chk a = 0
  · by_cases cb : chk b = 0
    · have SA : S = showS a := by rw [← HSa.out, if_pos ca]
      have SB : T = showS b := by rw [← HSb.out, if_pos cb]
      have s1 : ¬ 9223372036854775807 < S.size + 1 := by rw [SA]; exact show_small ca
      have s2 : ¬ 9223372036854775807 < T.size + 1 := by rw [SB]; exact show_small cb
      have HP := Tryd.strings_HasPrefix (S ++ ⟨#[46]⟩) (T ++ ⟨#[46]⟩)
      have hsu : Lib.hasPrefix (S ++ ⟨#[46]⟩ : ByteArray).data.toList (T ++ ⟨#[46]⟩ : ByteArray).data.toList = decide (b <+: a) := by rw [SA, SB]; exact show_under ca cb
      rw [hsu] at HP
      have HHP := Lib.hid HP
      have HMI := Lib.hid (meet_is a b)
      have HST : Hid (a = b → S = T) := Lib.hid (fun e => by rw [SA, SB, e])
      have hml : (a.take (cp a b)).length ≤ big := by rw [List.length_take]; unfold big; omega
      have Mm := Lib.hid hml
      rw [ca, cb]
      clear SA SB HP hsu hml HSa HSb ca cb
      go_wp2_with fail
      refine (rlives_calls _).mono ?_
      rintro e w3 ⟨rfl, hb⟩
      have B3 := Lib.hid (Kt.bthen B2.out hb)
      clear hb
      go_wp2_with fail
      have hc := under_calls a b _ _ _ _ _ (Qa.out.on B3.out) (Qb.out.on B3.out) Ma.out Mb.out
      refine hc.mono ?_
      rintro e w4 ⟨rfl, hb⟩
      have B4 := Lib.hid (Kt.bthen B3.out hb)
      clear hb hc
      obtain ⟨m, hm⟩ : ∃ m, a.take (cp a b) = m := ⟨_, rfl⟩
      rw [hm] at Mm HMI
      have HM1 := Lib.hid hm
      clear hm
      by_cases p : b <+: a
      · skip
        have D := Lib.hid (decide_eq_true p : decide (b <+: a) = true)
        have d0 := D.out
        rw [D.out] at HHP HMI ⊢
        go_wp2_with fail
        refine (HHP.out _).mono ?_
        rintro e w5 ⟨rfl, rfl⟩
        have B5 := B4
        go_wp2_with fail
        have hc := meet_calls a b _ _ _ _ _ (Qa.out.on B5.out) (Qb.out.on B5.out) ma Mb.out
        rw [HM1.out] at hc
        refine hc.mono ?_
        rintro e w6 ⟨A1, A1c, rfl, hy, hb⟩
        have B6 := Lib.hid (Kt.bthen B5.out hb)
        have YA1 := Lib.hid hy
        clear hb hc hy
        go_wp2_with fail
        have hc := ieq_calls m b _ _ _ _ _ YA1.out (Qb.out.on B6.out) Mm.out Mb.out
        rw [HMI.out] at hc
        refine hc.mono ?_
        rintro e w7 ⟨rfl, hb⟩
        have B7 := Lib.hid (Kt.bthen B6.out hb)
        clear hb hc
        go_wp2_with fail
        have hc := under_calls b a _ _ _ _ _ (Qb.out.on B7.out) (Qa.out.on B7.out) Mb.out Ma.out
        by_cases p2 : a <+: b
        · have e : a = b := p2.eq_of_length (Nat.le_antisymm p2.length_le p.length_le)
          have est := HST.out e
          rw [decide_eq_true p2] at hc
          refine hc.mono ?_
          rintro e w8 ⟨rfl, hb⟩
          have B8 := Lib.hid (Kt.bthen B7.out hb)
          clear hb hc
          subst est
          go_wp2_with fail
          go_ret
          exact ⟨rfl, B8.out⟩
        · rw [decide_eq_false p2] at hc
          refine hc.mono ?_
          rintro e w8 ⟨rfl, hb⟩
          have B8 := Lib.hid (Kt.bthen B7.out hb)
          clear hb hc
          go_wp2_with fail
          go_ret
          exact ⟨rfl, B8.out⟩
      · skip
        have D := Lib.hid (decide_eq_false p : decide (b <+: a) = false)
        have d0 := D.out
        rw [D.out] at HHP HMI ⊢
        go_wp2_with fail
        refine (HHP.out _).mono ?_
        rintro e w5 ⟨rfl, rfl⟩
        have B5 := B4
        go_wp2_with fail
        have hc := meet_calls a b _ _ _ _ _ (Qa.out.on B5.out) (Qb.out.on B5.out) ma Mb.out
        rw [HM1.out] at hc
        refine hc.mono ?_
        rintro e w6 ⟨A1, A1c, rfl, hy, hb⟩
        have B6 := Lib.hid (Kt.bthen B5.out hb)
        have YA1 := Lib.hid hy
        clear hb hc hy
        go_wp2_with fail
        have hc := ieq_calls m b _ _ _ _ _ YA1.out (Qb.out.on B6.out) Mm.out Mb.out
        rw [HMI.out] at hc
        refine hc.mono ?_
        rintro e w7 ⟨rfl, hb⟩
        have B7 := Lib.hid (Kt.bthen B6.out hb)
        clear hb hc
        go_wp2_with fail
        go_ret
        exact ⟨rfl, B7.out⟩
    · have f1 : (chk b != 0) = true := by rw [bne_iff_ne]; exact cb
      rw [ca]
      clear ca cb
      go_wp2_with fail
      refine (rlives_calls _).mono ?_
      rintro e w3 ⟨rfl, hb⟩
      have B3 := Lib.hid (Kt.bthen B2.out hb)
      clear hb
      go_wp2_with fail
      refine (rlives_calls _).mono ?_
      rintro e w4 ⟨rfl, hb⟩
      have B4 := Lib.hid (Kt.bthen B3.out hb)
      clear hb
      go_wp2_with fail
      go_ret
      exact ⟨rfl, B4.out⟩
  · have f1 : (chk a != 0) = true := by rw [bne_iff_ne]; exact ca
    clear ca
    go_wp2_with fail
    refine (rlives_calls _).mono ?_
    rintro e w3 ⟨rfl, hb⟩
    have B3 := Lib.hid (Kt.bthen B2.out hb)
    clear hb
    go_wp2_with fail
    refine (rlives_calls _).mono ?_
    rintro e w4 ⟨rfl, hb⟩
    have B4 := Lib.hid (Kt.bthen B3.out hb)
    clear hb
    go_wp2_with fail
    go_ret
    exact ⟨rfl, B4.out⟩
theorem runder_walk (v0 v1 : Value) (w : World) (r0 : Fr.RdV w reachBytes (.slice 1 (.int .i64)) v0) (r1 : Fr.RdV w reachBytes (.slice 1 (.int .i64)) v1)
    (m0 : ∀ a l c, v0 = .slice a l c → l * Tryd.prog.bytesOf 3 ≤ reachBytes) (m1 : ∀ a l c, v1 = .slice a l c → l * Tryd.prog.bytesOf 3 ≤ reachBytes) :
    Calls Tryd.prog 6 #[v0, v1] w fun e w' => e = .returned (.bool true) ∧ Below w.heap.size w w' := by
  obtain ⟨A0, c0, l0, rfl, h0, b0⟩ := wy_of r0 m0
  obtain ⟨A1, c1, l1, rfl, h1, b1⟩ := wy_of r1 m1
  exact runder_calls l0 l1 A0 c0 A1 c1 w h0 h1 b0 b1
end Go.Proofs.YteekckglpinkpaaDoor
