/- The law ReportAll. -/
import Derived.Test.YtinhnlfhgfmagaaRepX
namespace Go.Proofs.Ytinhnlfhgfmagaa
open Go.RowKit Go.Proofs.Ytinhnlfhgfmagaa.Rep
/-- a field's values are alike just if its bits are -/
theorem get_same {f : Fld} {s t : ByteArray} {A m : Nat} (h : FldOk f s A m) (g : FldOk f t A m) : getV f s = getV f t ↔ ∀ i, i < m + 1 → bt s (A + i) = bt t (A + i) := by
  constructor
  · intro e i hi
    rw [← h.vb i hi, ← g.vb i hi, e]
  · intro e
    rw [h.get, g.get, raw_same s t A (m + 1) e]
/-- fields one behind the other cover all bits -/
theorem Til.cover : ∀ (l : List Fld) (a : Nat) (b : Int), Til a l b → ∀ k : Nat, (a : Int) ≤ k → (k : Int) < b → ∃ f ∈ l, f.at_ ≤ k ∧ (k : Int) < f.at_ + f.bits
  | [], a, b, h, k, h1, h2 => by
    have h : (a : Int) = b := h
    omega
  | f :: l, a, b, h, k, h1, h2 => by
    obtain ⟨e1, e2, e3, e4, h5⟩ := h
    by_cases hk : (k : Int) < a + f.bits
    · exact ⟨f, List.mem_cons_self, by omega, by omega⟩
    · obtain ⟨n, hn⟩ : ∃ n : Nat, f.bits = n := ⟨f.bits.toNat, by omega⟩
      have e : (a : Int) + f.bits = ((a + n : Nat) : Int) := by omega
      rw [e] at h5
      obtain ⟨g, g1, g2⟩ := Til.cover l (a + n) b h5 k (by omega) h2
      exact ⟨g, List.mem_cons_of_mem _ g1, g2⟩
theorem Til.all : ∀ (l : List Fld) (a : Nat) (b : Int), Til a l b → ∀ f ∈ l, (a : Int) ≤ f.at_ ∧ 1 ≤ f.bits ∧ f.bits ≤ 32 ∧ f.at_ + f.bits ≤ b
  | [], _, _, _, f, hf => by cases hf
  | g :: l, a, b, h, f, hf => by
    obtain ⟨e1, e2, e3, e4, h5⟩ := h
    obtain ⟨n, hn⟩ : ∃ n : Nat, g.bits = n := ⟨g.bits.toNat, by omega⟩
    have e : (a : Int) + g.bits = ((a + n : Nat) : Int) := by omega
    rw [e] at h5
    have hle : ((a + n : Nat) : Int) ≤ b := by
      have := Til.end l _ b h5
      have key : ∀ (l : List Fld) (a b : Int), Til a l b → a ≤ b := by
        intro l
        induction l with
        | nil => intro a b h; have h : a = b := h; omega
        | cons x l ih => intro a b h; have := ih _ _ h.2.2.2.2; have := h.2.1; omega
      exact key l _ b h5
    rcases List.mem_cons.1 hf with rfl | hf
    · exact ⟨by omega, e2, e3, by omega⟩
    · obtain ⟨k1, k2, k3, k4⟩ := Til.all l (a + n) b h5 f hf
      exact ⟨by omega, k2, k3, k4⟩
theorem all_same {m : List Fld} {T : Int} (h : Til 0 m T) (hT : T ≤ 512) {a b : ByteArray} (ha : T ≤ 8 * (a.size : Int)) (hb : T ≤ 8 * (b.size : Int)) : (∀ f ∈ m, chkF f a.size = 0 ∧ chkF f b.size = 0) ∧ ((∀ f ∈ m, getV f a = getV f b) ↔ ∀ k : Nat, (k : Int) < T → bt a k = bt b k) := by
  have h0 : Til ((0 : Nat) : Int) m T := h
  have hall := Til.all m 0 T h0
  have hc : ∀ f ∈ m, chkF f a.size = 0 ∧ chkF f b.size = 0 := by
    intro f hf
    obtain ⟨h1, h2, h3, h4⟩ := hall f hf
    have key : ∀ n : Nat, T ≤ 8 * (n : Int) → chkF f n = 0 := by
      intro n hn
      unfold chkF
      rw [if_neg (show ¬ badF f by unfold badF; omega), if_neg (by omega)]
    exact ⟨key _ ha, key _ hb⟩
  refine ⟨hc, fun hv k hk => ?_, fun hk f hf => ?_⟩
  · obtain ⟨f, hf, h1, h2⟩ := Til.cover m 0 T h0 k (by omega) hk
    obtain ⟨c1, c2⟩ := hc f hf
    obtain ⟨A, n, ka⟩ := FldOk.of c1
    have kb : FldOk f b A n := by
      obtain ⟨B, n', kb⟩ := FldOk.of c2
      have e1 := ka.at_; have e2 := ka.bits; have e3 := kb.at_; have e4 := kb.bits
      obtain rfl : A = B := by omega
      obtain rfl : n = n' := by omega
      exact kb
    have := (get_same ka kb).1 (hv f hf) (k - A) (by have := ka.at_; have := ka.bits; omega)
    rwa [show A + (k - A) = k by have := ka.at_; omega] at this
  · obtain ⟨c1, c2⟩ := hc f hf
    obtain ⟨A, n, ka⟩ := FldOk.of c1
    have kb : FldOk f b A n := by
      obtain ⟨B, n', kb⟩ := FldOk.of c2
      have e1 := ka.at_; have e2 := ka.bits; have e3 := kb.at_; have e4 := kb.bits
      obtain rfl : A = B := by omega
      obtain rfl : n = n' := by omega
      exact kb
    refine (get_same ka kb).2 (fun i hi => hk _ ?_)
    have := hall f hf
    have := ka.at_
    have := ka.bits
    omega
theorem last_at {m : List Fld} {q : Nat} (hq : m.length = q + 1) (h : Til 0 m (posN m m.length)) : (m[q]'(by omega)).at_ + (m[q]'(by omega)).bits = posN m m.length ∧ 0 ≤ (m[q]'(by omega)).at_ ∧ 1 ≤ (m[q]'(by omega)).bits ∧ (m[q]'(by omega)).bits ≤ 32 := by
  obtain ⟨h1, h2, h3, h4, h5⟩ := Til.at m _ _ h q (by omega)
  obtain ⟨k1, k2, k3, k4⟩ := Til.all m 0 _ h (m[q]'(by omega)) (List.getElem_mem _)
  have e := congrArg (posN m) hq
  refine ⟨?_, by omega, h2, h3⟩
  omega
set_option maxRecDepth 100000 in
set_option maxHeartbeats 6400000 in
theorem all_walk (v0 v1 v2 : Value) (w : World) (r0 : Fr.RdV w reachBytes (.slice 2 itTy) v0) (r1 : Fr.RdV w reachBytes .string v1) (r2 : Fr.RdV w reachBytes .string v2) :
    Calls Try.prog 5 #[v0, v1, v2] w fun e w' => e = .returned (.bool true) ∧ Below w.heap.size w w' := by
  obtain ⟨l, _, ha⟩ := ar_items r0
  obtain ⟨a, e, hsa⟩ := r1; cases e
  obtain ⟨b, e, hsb⟩ := r2; cases e
  obtain ⟨A0, c0, rfl, _, _⟩ := ha.form
  have HF := Lib.hid (fields_calls l _ w ha)
  obtain ⟨r, hr⟩ : ∃ r, flds l = r := ⟨_, rfl⟩
  rw [hr] at HF
  have HR := Lib.hid hr
  have HGA := Lib.hid (fun f W => get_calls f a W hsa)
  have HGB := Lib.hid (fun f W => get_calls f b W hsb)
  have hsa2 : a.size ≤ 140737488351232 := by unfold reachBytes at hsa; omega
  clear ha r0 hr hsa hsb
  go_enter Try.func5, Try.ntmps5
  go_wp2_with fail
  refine HF.out.mono ?_
  rintro en w1 ⟨A, c, rfl, hs, hb⟩
  have HB := Lib.hid hb
  have HS := Lib.hid hs
  obtain ⟨m, n⟩ := r
  dsimp only at *
  clear hb hs HF
  go_wp2_with fail
  refine (lives_calls _).mono ?_
  rintro en w2 ⟨rfl, hb⟩
  have HB2 := Lib.hid (Kt.bthen HB.out hb)
  have HS2 := Lib.hid (HS.out.on hb)
  clear hb HB HS
  by_cases hn : n = 0
  rotate_left
  · have HM := flds_bad HR.out hn
    dsimp only at HM
    subst HM
    have e0 : (n != 0) = true := by rw [bne_iff_ne]; exact hn
    clear hn
    go_wp2_with fail
    refine (lives_calls _).mono ?_
    rintro en w3 ⟨rfl, hb⟩
    have HB3 := Lib.hid (Kt.bthen HB2.out hb)
    clear hb
    go_wp2_with fail
    go_ret
    exact ⟨rfl, HB3.out⟩
  subst hn
  by_cases hm0 : m.length = 0
  · obtain rfl := List.eq_nil_of_length_eq_zero hm0
    clear hm0
    go_wp2_with fail
    refine (lives_calls _).mono ?_
    rintro en w3 ⟨rfl, hb⟩
    have HB3 := Lib.hid (Kt.bthen HB2.out hb)
    clear hb
    go_wp2_with fail
    go_ret
    exact ⟨rfl, HB3.out⟩
  obtain ⟨q, hq⟩ : ∃ q, m.length = q + 1 := ⟨m.length - 1, by omega⟩
  have e1 : ((m.length : Int) == 0) = false := beq_eq_false_iff_ne.2 (by omega)
  by_cases hab : a.size = b.size
  rotate_left
  · have e2 : ((a.size : Int) != b.size) = true := by rw [bne_iff_ne]; omega
    clear hab hm0 hq
    go_wp2_with fail
    refine (lives_calls _).mono ?_
    rintro en w3 ⟨rfl, hb⟩
    have HB3 := Lib.hid (Kt.bthen HB2.out hb)
    clear hb
    go_wp2_with fail
    go_ret
    exact ⟨rfl, HB3.out⟩
  have e2 : ((a.size : Int) != b.size) = false := by rw [hab]; simp
  have HQ := Lib.hid hq
  clear hq hm0
  go_upto_region 4 with (fail)
  have hq := HQ.out
  obtain ⟨t1, t2, t3⟩ := flds_til HR.out
  obtain ⟨l1, l2, l3, l4⟩ := last_at hq t1
  obtain ⟨g, o, rfl, hg, hx⟩ := fld_cells HS2.out rfl q (by omega)
  obtain ⟨T, hT⟩ : ∃ T, posN m m.length = T := ⟨_, rfl⟩
  rw [hT] at l1 t1 t2
  obtain ⟨f, hf⟩ : ∃ f, m[q]'(by omega) = f := ⟨_, rfl⟩
  rw [hf] at hx l1 l2 l3 l4
  have HTL := Lib.hid t1
  obtain ⟨f0, f1, f2, f3, f4, f5, f6⟩ := f
  have x0 := hx 0 _ rfl
  have x1 := hx 1 _ rfl
  have x2 := hx 2 _ rfl
  have x3 := hx 3 _ rfl
  have x4 := hx 4 _ rfl
  have x5 := hx 5 _ rfl
  have x6 := hx 6 _ rfl
  rw [Nat.add_zero] at x0
  dsimp only at *
  obtain ⟨k, hk⟩ : ∃ k, m.length = k := ⟨_, rfl⟩
  have HK := Lib.hid hk
  rw [hk] at HS2 t3 hq ⊢
  have hk1 : (k : Int) - 1 = q := by omega
  have hkq : (q : Int) < k := by omega
  have hwq : wrap64 (q : Int) = q := IntWalk.wrap64_in _ (by omega)
  have hf0 : f0 ≤ 512 := by omega
  have HBX : Hid (BxF ⟨f0, f1, f2, f3, f4, f5, f6⟩ w2.heap.size (w2.alloc (.cells #[.int .i64 f0, .int .i64 f1, .int .i64 f2, .int .i64 f3, .int .i64 f4, .int .i64 f5, .bool f6] 29))) := Lib.hid (heap_alloc_new w2 _)
  have HB3 := Lib.hid (Kt.balloc HB2.out (.cells #[.int .i64 f0, .int .i64 f1, .int .i64 f2, .int .i64 f3, .int .i64 f4, .int .i64 f5, .bool f6] 29))
  have HS3 := Lib.hid (HS2.out.on (Kt.balloc (Below.refl _ w2) (.cells #[.int .i64 f0, .int .i64 f1, .int .i64 f2, .int .i64 f3, .int .i64 f4, .int .i64 f5, .bool f6] 29)))
  have HAB := Lib.hid (And.intro hab hsa2)
  subst l1
  clear hx hf hk hq HS2 HB2 hab hsa2 e1 e2
  have HL := Lib.hid (And.intro l2 (And.intro l3 (And.intro l4 (And.intro t2 (And.intro t3 hf0)))))
  clear t2 l2 l3 l4 hf0 t3
  go_upto_region 5 with (fail)
  obtain ⟨l2, l3, l4, t2, t3, hf0⟩ := HL.out
  by_cases hbig : (a.size : Int) < (f0 + f1 + 7) / 8
  · go_wp2_with fail
    go_ret
    exact ⟨rfl, HB3.out⟩
  have hfit : f0 + f1 ≤ 8 * (a.size : Int) := by omega
  have hbig2 : (f0 + f1 + 7) / 8 ≤ (a.size : Int) := by omega
  obtain ⟨ok1, ok2⟩ := all_same HTL.out t2 (a := a) (b := b) hfit (by rw [← HAB.out.1]; exact hfit)
  have HFIT := Lib.hid hfit
  have HOK := Lib.hid ok1
  have HEQ := Lib.hid ok2
  clear hbig ok1 ok2
  go_upto_region 7 with (fail)
  clear l2 l3 l4 t2 t3 hf0 hbig2 hfit x0 x1 x2 x3 x4 x5 x6 hg hk1 hkq hwq
  have hk256 : k ≤ 256 := HL.out.2.2.2.2.1
  have hbz2 : w2.heap.size < (w2.alloc (.cells #[.int .i64 f0, .int .i64 f1, .int .i64 f2, .int .i64 f3, .int .i64 f4, .int .i64 f5, .bool f6] 29)).heap.size := by rw [World.size_alloc]; omega
  generalize (w2.alloc (.cells #[.int .i64 f0, .int .i64 f1, .int .i64 f2, .int .i64 f3, .int .i64 f4, .int .i64 f5, .bool f6] 29)) = W3 at *
  generalize w2.heap.size = z at *
  go_wp2_with fail
  go_loopw [10, 89] (fun v i wr => ∃ (j : Nat) (s1 : Bool), j ≤ k ∧ i = .int .i64 j ∧ v = .bool s1 ∧ Hid (s1 = true ↔ ∀ f ∈ m.take j, getV f a = getV f b) ∧ Hid (BxF ⟨f0, f1, f2, f3, f4, f5, f6⟩ z wr) ∧ Hid (Below w.heap.size w wr) ∧ Hid (Below W3.heap.size W3 wr)) (fun _ i _ => k - (intOf i).toNat)
  case atStart => exact ⟨0, true, Nat.zero_le _, rfl, rfl, Lib.hid (by simp), HBX, HB3, Lib.hid (Below.refl _ _)⟩
  case round =>
    clear HBX HB3
    obtain ⟨j, s1, hj, rfl, rfl, HSM, HBX, HB4, HBK⟩ := hrel
    by_cases hlt : j < k
    · obtain ⟨g', o', hgo, hg, hx⟩ := fld_cells (HS3.out.on HBK.out) HK.out.symm j hlt
      injection hgo with hgo
      injection hgo with hgo1 hgo2
      subst hgo1 hgo2
      have hjm : j < m.length := by rw [HK.out]; exact hlt
      obtain ⟨f, hf⟩ : ∃ f, m[j]'hjm = f := ⟨_, rfl⟩
      rw [hf] at hx
      have HMF : Hid (f ∈ m ∧ m.take (j + 1) = m.take j ++ [f]) := Lib.hid ⟨by rw [← hf]; exact List.getElem_mem hjm, by rw [List.take_succ_eq_append_getElem hjm, hf]⟩
      have x0 := hx 0 _ rfl
      have x1 := hx 1 _ rfl
      have x2 := hx 2 _ rfl
      have x3 := hx 3 _ rfl
      have x4 := hx 4 _ rfl
      have x5 := hx 5 _ rfl
      have x6 := hx 6 _ rfl
      rw [Nat.add_zero] at x0
      have bx := BxF.new f wr
      have HGA1 := Lib.hid (HGA.out f)
      have HGB1 := Lib.hid (HGB.out f)
      have e3 : getR f a = (getV f a, 0) := if_pos (HOK.out f HMF.out.1).1
      have e4 : getR f b = (getV f b, 0) := if_pos (HOK.out f HMF.out.1).2
      rw [e3] at HGA1
      rw [e4] at HGB1
      dsimp only at HGA1 HGB1
      have HB5 := Lib.hid (Kt.balloc HB4.out (.cells #[.int .i64 f.at_, .int .i64 f.bits, .int .i64 f.page, .int .i64 f.usage, .int .i64 f.mn, .int .i64 f.mx, .bool f.pad] 29))
      have HBX5 : Hid (BxF ⟨f0, f1, f2, f3, f4, f5, f6⟩ z (wr.alloc (.cells #[.int .i64 f.at_, .int .i64 f.bits, .int .i64 f.page, .int .i64 f.usage, .int .i64 f.mn, .int .i64 f.mx, .bool f.pad] 29))) := Lib.hid (HBX.out.on (Kt.balloc (Below.refl _ wr) _))
      have HBK5 := Lib.hid (HBK.out.trans ((Kt.balloc (Below.refl _ wr) (.cells #[.int .i64 f.at_, .int .i64 f.bits, .int .i64 f.page, .int .i64 f.usage, .int .i64 f.mn, .int .i64 f.mx, .bool f.pad] 29)).mono HBK.out.size))
      have HVV : Hid ((∀ x ∈ m.take (j + 1), getV x a = getV x b) ↔ (∀ x ∈ m.take j, getV x a = getV x b) ∧ getV f a = getV f b) := Lib.hid (by
        rw [HMF.out.2]
        simp only [List.mem_append, List.mem_singleton]
        exact ⟨fun h => ⟨fun x hx => h x (.inl hx), h f (.inr rfl)⟩, fun h x hx => hx.elim (h.1 x) (fun e => e ▸ h.2)⟩)
      clear e3 e4 hx hf hjm HB4 HBX HBK HGA HGB HOK
      go_upto_region 11 with (fail)
      go_wp2_with (refine load_fld rfl (.tmp 12) rfl wr.heap.size rfl f bx ?_)
      refine (HGA1.out _).mono ?_
      rintro en w6 ⟨rfl, hb⟩
      have HB6 := Lib.hid (Kt.bthen HB5.out hb)
      have HBX6 := Lib.hid (HBX5.out.on hb)
      have HBK6 := Lib.hid (HBK5.out.trans (hb.mono HBK5.out.size))
      replace bx := bx.on hb
      clear hb x0 x1 x2 x3 x4 x5 x6
      go_wp2_with (refine load_fld rfl (.tmp 12) rfl wr.heap.size rfl f bx ?_)
      refine (HGB1.out _).mono ?_
      rintro en w7 ⟨rfl, hb⟩
      have HB7 := Lib.hid (Kt.bthen HB6.out hb)
      have HBX7 := Lib.hid (HBX6.out.on hb)
      have HBK7 := Lib.hid (HBK6.out.trans (hb.mono HBK6.out.size))
      clear hb bx
      generalize getV f a = va at *
      generalize getV f b = vb' at *
      cases s1 with
      | false =>
        go_wp2_with fail
        go_roundw
        case rel => exact ⟨j + 1, false, by omega, by go_num, rfl, Lib.hid (by rw [HVV.out, ← HSM.out]; simp), HBX7, HB7, HBK7⟩
        case measure => (simp [intOf] <;> omega)
      | true =>
        by_cases hvv : va = vb'
        · have HV := Lib.hid hvv
          have e5 : (va == vb') = true := by simp [hvv]
          clear hvv
          go_wp2_with fail
          go_roundw
          case rel => exact ⟨j + 1, true, by omega, by go_num, rfl, Lib.hid (by rw [HVV.out, ← HSM.out]; simp [HV.out]), HBX7, HB7, HBK7⟩
          case measure => (simp [intOf] <;> omega)
        · have HV := Lib.hid hvv
          have e5 : (va == vb') = false := by simp [hvv]
          clear hvv
          go_wp2_with fail
          go_roundw
          case rel => exact ⟨j + 1, false, by omega, by go_num, rfl, Lib.hid (by rw [HVV.out]; simp [HV.out]), HBX7, HB7, HBK7⟩
          case measure => (simp [intOf] <;> omega)
    · obtain rfl : j = k := by omega
      have HSA : Hid (s1 = true ↔ ∀ k : Nat, (k : Int) < f0 + f1 → bt a k = bt b k) := Lib.hid (by
        have h := HSM.out
        rw [List.take_of_length_le (by rw [HK.out]; exact Nat.le_refl _)] at h
        exact h.trans HEQ.out)
      have c1 := fun i => cell_of_row _ _ i _ _ _ HBX.out
      dsimp only at c1
      obtain ⟨l2, l3, l4, t2, t3, hf0⟩ := HL.out
      clear hlt hj HSM HBK HBX HGA HGB HOK HEQ
      go_upto_region 18 with (fail)
      obtain ⟨T, hT⟩ : ∃ T : Nat, f0 + f1 = T := ⟨(f0 + f1).toNat, by omega⟩
      have hT2 : T ≤ 512 := by omega
      have HFA : Hid (T ≤ 8 * a.size ∧ T ≤ 8 * b.size) := Lib.hid (by
        have h1 := HFIT.out
        have h2 := HAB.out.1
        omega)
      rw [hT] at HSA
      have hwT : wrap64 (f0 + f1) = T := by rw [hT]; exact IntWalk.wrap64_in _ (by omega)
      clear l2 l3 l4 t2 t3 hf0
      go_wp2_with fail
      clear hT hwT
      go_loopw [17, 123] (fun v i wq => ∃ (p : Nat) (s2 : Bool), p ≤ T ∧ i = .int .i64 p ∧ v = .bool s2 ∧ Hid (s2 = true ↔ ∀ k : Nat, k < p → bt a k = bt b k) ∧ Hid (Below w.heap.size w wq)) (fun _ i _ => T - (intOf i).toNat)
      case atStart => exact ⟨0, true, Nat.zero_le _, rfl, rfl, Lib.hid (by simp), HB4⟩
      case round =>
        clear HB4 c1
        obtain ⟨p, s2, hp, rfl, rfl, HSB, HB5⟩ := hrel
        by_cases hlt : p < T
        · cases s2 with
          | false =>
            go_wp2_with fail
            go_quiet (fail)
            go_wp2_with fail
            go_roundw
            case rel => exact ⟨p + 1, false, by omega, by go_num, rfl, Lib.hid ⟨fun h => (by cases h), fun h => HSB.out.2 (fun k hk => h k (by omega))⟩, Lib.hid (bdrewN HB5.out _)⟩
            case measure => (simp [intOf] <;> omega)
          | true =>
            have hp2 : p ≤ 600 := by omega
            obtain ⟨r, hr⟩ : ∃ r, p / 8 = r := ⟨_, rfl⟩
            have hrs : r < a.size := by have := HFA.out.1; omega
            have hrs' : r < b.size := by have := HFA.out.2; omega
            have hr1 : IntKind.i64.wrap ((p : Int) / 8) = r := by rw [IntKind.wrap_i64]; omega
            obtain ⟨e, he⟩ : ∃ e, p % 8 = e := ⟨_, rfl⟩
            have he1 : (p : Int).tmod 8 = e := by rw [Int.tmod_eq_emod_of_nonneg (by omega)]; omega
            have he7 : e ≤ 7 := by omega
            have FA := and_bt (a[r]'hrs).toNat e (a[r]'hrs).toNat_lt
            have FB := and_bt (b[r]'hrs').toNat e (b[r]'hrs').toNat_lt
            obtain ⟨ba, hba⟩ : ∃ x, (a[r]'hrs).toNat / 2 ^ e % 2 = x := ⟨_, rfl⟩
            obtain ⟨bb, hbb⟩ : ∃ x, (b[r]'hrs').toNat / 2 ^ e % 2 = x := ⟨_, rfl⟩
            have HBT : Hid (bt a p = ba ∧ bt b p = bb) := Lib.hid (by
              subst hr he
              exact ⟨(byte_bt a p hrs).trans hba, (byte_bt b p hrs').trans hbb⟩)
            rw [hba] at FA
            rw [hbb] at FB
            have hrs1 : (r : Int) < a.size := by omega
            have hrs2 : (r : Int) < b.size := by omega
            have HSP : Hid ((∀ k : Nat, k < p + 1 → bt a k = bt b k) ↔ ba = bb) := Lib.hid (by
              constructor
              · intro h
                have := h p (by omega)
                rwa [HBT.out.1, HBT.out.2] at this
              · intro h k hk
                by_cases e : k = p
                · subst e; rw [HBT.out.1, HBT.out.2, h]
                · exact HSB.out.1 rfl k (by omega))
            clear hr he hba hbb
            by_cases hq : ba = bb
            · have HQ1 := Lib.hid hq
              have e5 : ((ba : Int) == bb) = true := by simp [hq]
              clear hq
              go_wp2_with fail
              go_quiet (fail)
              go_wp2_with fail
              go_roundw
              case rel => exact ⟨p + 1, true, by omega, by go_num, rfl, Lib.hid ⟨fun _ => HSP.out.2 HQ1.out, fun _ => rfl⟩, Lib.hid (bdrewN HB5.out _)⟩
              case measure => (simp [intOf] <;> omega)
            · have HQ1 := Lib.hid hq
              have e5 : ((ba : Int) == bb) = false := by simp; omega
              clear hq
              go_wp2_with fail
              go_quiet (fail)
              go_wp2_with fail
              go_roundw
              case rel => exact ⟨p + 1, false, by omega, by go_num, rfl, Lib.hid ⟨fun h => (by cases h), fun h => absurd (HSP.out.1 h) HQ1.out⟩, Lib.hid (bdrewN HB5.out _)⟩
              case measure => (simp [intOf] <;> omega)
        · obtain rfl : p = T := by omega
          have HE : Hid (s1 = s2) := Lib.hid (by
            have h1 := HSA.out
            have h2 := HSB.out
            have h3 : (∀ k : Nat, (k : Int) < (p : Int) → bt a k = bt b k) ↔ ∀ k : Nat, k < p → bt a k = bt b k := ⟨fun h k hk => h k (by omega), fun h k hk => h k (by omega)⟩
            rw [h3, ← h2] at h1
            cases s1 <;> cases s2 <;> simp_all)
          clear hlt hp
          go_wp2_with fail
          go_ret
          rw [HE.out]
          exact ⟨by simp, HB5.out⟩
end Go.Proofs.Ytinhnlfhgfmagaa
