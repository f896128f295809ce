/- The law ReportBits. -/
import Derived.Test.YtinhnlfhgfmagaaRepS
import Derived.Test.YtinhnlfhgfmagaaRepO
namespace Go.Proofs.Ytinhnlfhgfmagaa
open Go.RowKit Go.Proofs.Ytinhnlfhgfmagaa.Rep
theorem bit_of (n k : Nat) : n / 2 ^ k % 2 = if n.testBit k then 1 else 0 := by
  rw [Nat.testBit_eq_decide_div_mod_eq]
  by_cases h : n / 2 ^ k % 2 = 1
  · simp [h]
  · have : n / 2 ^ k % 2 = 0 := by omega
    simp [this]
theorem raw_bit (s : ByteArray) (a : Nat) : ∀ n i, i < n → rawN s a n / 2 ^ i % 2 = bt s (a + i)
  | n + 1, i, h => by
    show (rawN s a n + bt s (a + n) * 2 ^ n) / 2 ^ i % 2 = _
    rw [Nat.add_comm, Nat.mul_comm, bit_of, Nat.testBit_two_pow_mul_add _ (raw_lt s a n)]
    by_cases e : i < n
    · rw [if_pos e, ← bit_of]; exact raw_bit s a n i e
    · obtain rfl : i = n := by omega
      rw [if_neg e, Nat.sub_self, ← bit_of]
      have := bt_lt s (a + i)
      rw [Nat.pow_zero, Nat.div_one]; omega
theorem raw_same (s t : ByteArray) (a : Nat) : ∀ n, (∀ i, i < n → bt s (a + i) = bt t (a + i)) → rawN s a n = rawN t a n
  | 0, _ => rfl
  | n + 1, h => by
    show rawN s a n + bt s (a + n) * 2 ^ n = rawN t a n + bt t (a + n) * 2 ^ n
    rw [raw_same s t a n (fun i hi => h i (by omega)), h n (by omega)]
theorem vb_nat (r i : Nat) : vb (r : Int) i = r / 2 ^ i % 2 := by
  unfold vb
  have e : (r : Int) / 2 ^ i = ((r / 2 ^ i : Nat) : Int) := by simp
  rw [e]; omega
theorem vb_neg (r N i : Nat) (h : i < N) : vb ((r : Int) - 2 ^ N) i = r / 2 ^ i % 2 := by
  rw [← vb_nat]
  unfold vb
  obtain ⟨d, rfl⟩ : ∃ d, N = i + 1 + d := ⟨N - i - 1, by omega⟩
  have e : (r : Int) - 2 ^ (i + 1 + d) = r + 2 ^ i * (-(2 * 2 ^ d)) := by
    rw [Int.pow_add, Int.pow_succ, Int.mul_neg, ← Int.mul_assoc, ← Int.sub_eq_add_neg]
  rw [e, Int.add_mul_ediv_left _ _ (Int.ne_of_gt (Int.pow_pos (by omega)))]
  omega
/-- the numbers of a field that reads -/
structure FldOk (f : Fld) (s : ByteArray) (A m : Nat) : Prop where
  at_ : f.at_ = A
  bits : f.bits = (m + 1 : Nat)
  m31 : m ≤ 31
  a512 : A ≤ 512
  fits : A + (m + 1) ≤ 8 * s.size
theorem FldOk.of {f : Fld} {s : ByteArray} (h : chkF f s.size = 0) : ∃ A m, FldOk f s A m := by
  obtain ⟨A, N, h1, h2, h3, h4, h5, h6⟩ := chk_zeroF h
  exact ⟨A, N - 1, h1, by rw [h2]; omega, by omega, h5, by omega⟩
theorem FldOk.low {f : Fld} {s : ByteArray} {A m : Nat} (h : FldOk f s A m) : lowF f = if f.mn < 0 then -2 ^ m else 0 := by
  unfold lowF; rw [h.bits]; rfl
theorem FldOk.high {f : Fld} {s : ByteArray} {A m : Nat} (h : FldOk f s A m) : highF f = if f.mn < 0 then 2 ^ m else 2 ^ (m + 1) := by
  unfold highF; rw [h.bits]; rfl
theorem FldOk.get {f : Fld} {s : ByteArray} {A m : Nat} (h : FldOk f s A m) : getV f s = if f.mn < 0 ∧ rawN s A (m + 1) / 2 ^ m = 1 then (rawN s A (m + 1) : Int) - 2 ^ (m + 1) else (rawN s A (m + 1) : Nat) := by
  unfold getV; rw [h.bits, h.at_]; rfl
theorem pow_cast (m : Nat) : ((2 ^ m : Nat) : Int) = 2 ^ m := by simp
/-- what is got is within the field's range -/
theorem FldOk.range {f : Fld} {s : ByteArray} {A m : Nat} (h : FldOk f s A m) : lowF f ≤ getV f s ∧ getV f s < highF f := by
  rw [h.low, h.high, h.get]
  have hr := raw_lt s A (m + 1)
  generalize rawN s A (m + 1) = r at *
  have hp : 2 ^ (m + 1) = 2 * 2 ^ m := by rw [Nat.pow_succ, Nat.mul_comm]
  have hp2 : (2 : Int) ^ (m + 1) = 2 * 2 ^ m := by rw [Int.pow_succ, Int.mul_comm]
  rw [hp] at hr
  rw [hp2, ← pow_cast m]
  have hpos : 0 < 2 ^ m := Nat.pow_pos (by omega)
  generalize 2 ^ m = p at *
  by_cases hn : f.mn < 0
  · rw [if_pos hn, if_pos hn]
    by_cases h1 : r / p = 1
    · rw [if_pos ⟨hn, h1⟩]
      have := Nat.div_mul_le_self r p
      rw [h1] at this
      omega
    · rw [if_neg (fun h => h1 h.2)]
      have : r < p := by
        rcases Nat.lt_or_ge r p with h | h
        · exact h
        · exfalso
          apply h1
          have e : r = (r - p) + 1 * p := by omega
          rw [e, Nat.add_mul_div_right _ _ hpos, Nat.div_eq_of_lt (by omega)]
      omega
  · rw [if_neg hn, if_neg hn, if_neg (fun h => hn h.1)]
    omega
/-- the value's bits are those that were read -/
theorem FldOk.vb {f : Fld} {s : ByteArray} {A m : Nat} (h : FldOk f s A m) (i : Nat) (hi : i < m + 1) : vb (getV f s) i = bt s (A + i) := by
  rw [h.get, ← raw_bit s A (m + 1) i hi]
  split
  · exact vb_neg _ _ _ hi
  · exact vb_nat _ _
theorem set_out {f : Fld} {s t : ByteArray} {v : Int} {A m : Nat} (h : FldOk f s A m) (hc : chkF f s.size = 0) (hs : setR f s v = (t, 0)) : lowF f ≤ v ∧ v < highF f ∧ t.data.toList = putN s.data.toList A v (m + 1) ∧ t.size = s.size := by
  unfold setR at hs
  rw [if_pos hc] at hs
  split at hs
  · cases hs
  rename_i hr
  obtain ⟨rfl, _⟩ := Prod.mk.inj hs
  refine ⟨by omega, by omega, ?_, ?_⟩
  · show putN _ _ _ _ = _
    rw [h.at_, h.bits]; rfl
  · show (putN _ _ _ _).toArray.size = _
    rw [List.size_toArray, putN_len]; simp
theorem set_get {f : Fld} {s t : ByteArray} {v : Int} (hc : chkF f s.size = 0) (hs : setR f s v = (t, 0)) : getR f t = (v, 0) ∧ t.size = s.size := by
  obtain ⟨A, m, h⟩ := FldOk.of hc
  obtain ⟨h1, h2, h3, h4⟩ := set_out h hc hs
  have ht : FldOk f t A m := ⟨h.at_, h.bits, h.m31, h.a512, by rw [h4]; exact h.fits⟩
  refine ⟨?_, h4⟩
  unfold getR
  rw [h4, if_pos hc]
  congr 1
  have hr := raw_put s.data.toList A v (m + 1) t h3 (by have := h.fits; simpa using this) (m + 1) (Nat.le_refl _)
  have hlt := raw_lt t A (m + 1)
  rw [h.low] at h1
  rw [h.high] at h2
  rw [ht.get]
  generalize rawN t A (m + 1) = r at *
  have hp : 2 ^ (m + 1) = 2 * 2 ^ m := by rw [Nat.pow_succ, Nat.mul_comm]
  have hp2 : (2 : Int) ^ (m + 1) = 2 * 2 ^ m := by rw [Int.pow_succ, Int.mul_comm]
  rw [hp] at hlt
  rw [hp2] at hr h2 ⊢
  rw [← pow_cast m] at hr h1 h2 ⊢
  have hpos : 0 < 2 ^ m := Nat.pow_pos (by omega)
  generalize 2 ^ m = p at *
  by_cases hn : f.mn < 0
  · rw [if_pos hn] at h1 h2
    by_cases hv : v < 0
    · have e : v % (2 * (p : Int)) = v + 2 * p := by
        have := Int.add_mul_emod_self_left (a := v) (b := 2 * (p : Int)) (c := 1)
        rw [Int.mul_one] at this
        rw [← this]
        exact Int.emod_eq_of_lt (by omega) (by omega)
      rw [e] at hr
      have hd : r / p = 1 := by
        have e2 : r = (r - p) + 1 * p := by omega
        rw [e2, Nat.add_mul_div_right _ _ hpos, Nat.div_eq_of_lt (by omega)]
      rw [if_pos ⟨hn, hd⟩]; omega
    · have e : v % (2 * (p : Int)) = v := Int.emod_eq_of_lt (by omega) (by omega)
      rw [e] at hr
      have hd : r / p = 0 := Nat.div_eq_of_lt (by omega)
      rw [if_neg (by rw [hd]; exact fun h => absurd h.2 (by decide))]
      exact hr
  · rw [if_neg hn] at h1 h2
    have e : v % (2 * (p : Int)) = v := Int.emod_eq_of_lt (by omega) (by omega)
    rw [e] at hr
    rw [if_neg (fun h => hn h.1)]
    exact hr
/-- what is set leaves all other fields -/
theorem set_other {f g : Fld} {s t : ByteArray} {v : Int} (hc : chkF f s.size = 0) (hs : setR f s v = (t, 0)) : (getR g s).2 = (getR g t).2 ∧ ((getR g s).2 = 0 → (g.at_ + g.bits ≤ f.at_ ∨ f.at_ + f.bits ≤ g.at_) → (getR g s).1 = (getR g t).1) := by
  obtain ⟨A, m, h⟩ := FldOk.of hc
  obtain ⟨h1, h2, h3, h4⟩ := set_out h hc hs
  unfold getR
  rw [h4]
  by_cases hg : chkF g s.size = 0
  · rw [if_pos hg, if_pos hg]
    refine ⟨rfl, fun _ hd => ?_⟩
    obtain ⟨B, n, k⟩ := FldOk.of hg
    have kt : FldOk g t B n := ⟨k.at_, k.bits, k.m31, k.a512, by rw [h4]; exact k.fits⟩
    show getV g s = getV g t
    have hraw : rawN s B (n + 1) = rawN t B (n + 1) := raw_same s t B (n + 1) (fun i hi => by
      rw [bt_l t, h3, btl_putN _ _ _ _ _ (by have := h.fits; simpa using this), if_neg ?_]
      · rfl
      · rw [k.at_, k.bits, h.at_, h.bits] at hd
        omega)
    rw [k.get, kt.get, hraw]
  · rw [if_neg hg, if_neg hg]
    exact ⟨rfl, fun h => absurd h hg⟩
/-- what was got, set again, leaves the report as it was -/
theorem set_again {f : Fld} {s t : ByteArray} {v : Int} (hc : chkF f s.size = 0) (hs : setR f s v = (t, 0)) : getR f s = (getV f s, 0) ∧ setR f t (getV f s) = (s, 0) := by
  obtain ⟨A, m, h⟩ := FldOk.of hc
  obtain ⟨h1, h2, h3, h4⟩ := set_out h hc hs
  refine ⟨by unfold getR; rw [if_pos hc], ?_⟩
  unfold setR
  rw [h4, if_pos hc]
  obtain ⟨r1, r2⟩ := h.range
  rw [if_neg (by omega)]
  congr 1
  apply Kt.bytes_eq
  show putN _ _ _ _ = _
  rw [h.at_, h.bits]
  show putN t.data.toList A (getV f s) (m + 1) = _
  have hl : t.data.toList.length = s.data.toList.length := by rw [h3, putN_len]
  have hf : A + (m + 1) ≤ 8 * t.data.toList.length := by rw [hl]; have := h.fits; simpa using this
  refine same_bits _ _ (by rw [putN_len, hl]) (fun j _ => ?_)
  rw [btl_putN _ _ _ _ _ hf]
  by_cases hj : A ≤ j ∧ j < A + (m + 1)
  · rw [if_pos hj, h.vb _ (by omega), bt_l, show A + (j - A) = j by omega]
  · rw [if_neg hj, h3, btl_putN _ _ _ _ _ (by rw [← hl]; exact hf), if_neg hj]
theorem field_in {w : World} {B : Nat} {v : Value} (r : Fr.RdV w B flTy v) : ∃ f : Fld, v = f.val := by
  obtain ⟨cs, rfl, h⟩ := r
  obtain ⟨l0, ⟨a0, h0, _⟩, l1, ⟨a1, h1, _⟩, l2, ⟨a2, h2, _⟩, l3, ⟨a3, h3, _⟩, l4, ⟨a4, h4, _⟩, l5, ⟨a5, h5, _⟩, l6, ⟨a6, h6⟩, hn⟩ := h
  refine ⟨⟨a0, a1, a2, a3, a4, a5, a6⟩, ?_⟩
  show Value.agg cs = .agg _
  congr 1
  apply Array.toList_inj.1
  generalize cs.toList = l at *
  match l, l0, l1, l2, l3, l4, l5, l6, h0, h1, h2, h3, h4, h5, h6, hn with
  | [x0, x1, x2, x3, x4, x5, x6], _, _, _, _, _, _, _, h0, h1, h2, h3, h4, h5, h6, _ =>
    simp only [List.take_succ_cons, List.take_zero, List.drop_succ_cons, List.drop_zero, List.cons.injEq, and_true] at h0 h1 h2 h3 h4 h5 h6
    rw [h0, h1, h2, h3, h4, h5, h6]
  | x0 :: x1 :: x2 :: x3 :: x4 :: x5 :: x6 :: x7 :: t, _, _, _, _, _, _, _, _, _, _, _, _, _, _, hn => exact absurd (show x7 :: t = [] from hn) (by simp)
theorem setR_bad {f : Fld} {s : ByteArray} {v : Int} (h : (setR f s v).2 ≠ 0) : (setR f s v).1 = ⟨#[]⟩ := by
  unfold setR at h ⊢
  split
  · rename_i hc
    rw [if_pos hc] at h
    split
    · rfl
    · rename_i hr
      rw [if_neg hr] at h
      exact absurd rfl h
  · rfl
theorem setR_ok {f : Fld} {s : ByteArray} {v : Int} (h : (setR f s v).2 = 0) : chkF f s.size = 0 := by
  unfold setR at h
  split at h
  · assumption
  · exact h
theorem getR_ok {f : Fld} {s : ByteArray} (h : (getR f s).2 = 0) : chkF f s.size = 0 := by
  unfold getR at h
  split at h
  · assumption
  · exact h
structure BitsOk (f g : Fld) (s t : ByteArray) (v x y n z : Int) : Prop where
  get : getR f t = (v, 0)
  size : t.size = s.size
  gs : getR g s = (x, n)
  gt : getR g t = (y, n)
  fs : getR f s = (z, 0)
  set : setR f t z = (s, 0)
  zb : -9223372036854775808 ≤ z ∧ z ≤ 9223372036854775807
  apart : n = 0 → x ≠ y → (0 ≤ g.at_ ∧ g.at_ ≤ 512 ∧ 1 ≤ g.bits ∧ g.bits ≤ 32 ∧ 0 ≤ f.at_ ∧ f.at_ ≤ 512 ∧ 1 ≤ f.bits ∧ f.bits ≤ 32) ∧ f.at_ < g.at_ + g.bits ∧ g.at_ < f.at_ + f.bits
theorem getV_bd {f : Fld} {s : ByteArray} {A m : Nat} (h : FldOk f s A m) : -9223372036854775808 ≤ getV f s ∧ getV f s ≤ 9223372036854775807 := by
  have hr := raw_lt s A (m + 1)
  have hm := h.m31
  have hp : 2 ^ (m + 1) ≤ 2 ^ 32 := Nat.pow_le_pow_right (by omega) (by omega)
  rw [h.get, ← pow_cast (m + 1)]
  generalize rawN s A (m + 1) = r at *
  generalize 2 ^ (m + 1) = p at *
  split <;> omega
theorem bits_ok {f g : Fld} {s t : ByteArray} {v : Int} (hs : setR f s v = (t, 0)) : ∃ x y n z, BitsOk f g s t v x y n z := by
  have hc := setR_ok (f := f) (s := s) (v := v) (by rw [hs])
  obtain ⟨a1, a2⟩ := set_get hc hs
  obtain ⟨b1, b2⟩ := set_other (g := g) hc hs
  obtain ⟨c1, c2⟩ := set_again hc hs
  obtain ⟨A, m, hf⟩ := FldOk.of hc
  refine ⟨(getR g s).1, (getR g t).1, (getR g s).2, getV f s, a1, a2, rfl, by rw [b1], c1, c2, getV_bd hf, fun hn hx => ?_⟩
  obtain ⟨B, k, hg⟩ := FldOk.of (getR_ok hn)
  have h1 := hf.at_
  have h2 := hf.bits
  have h3 := hf.m31
  have h4 := hf.a512
  have h5 := hg.at_
  have h6 := hg.bits
  have h7 := hg.m31
  have h8 := hg.a512
  refine ⟨by omega, ?_, ?_⟩
  · rcases Int.lt_or_le f.at_ (g.at_ + g.bits) with h | h
    · exact h
    · exact absurd (b2 hn (.inl h)) hx
  · rcases Int.lt_or_le g.at_ (f.at_ + f.bits) with h | h
    · exact h
    · exact absurd (b2 hn (.inr h)) hx
/-- a field's box, and how it stays -/
theorem BxF.on {f : Fld} {b : Nat} {W W' : World} (h : BxF f b W) (hb : Below W.heap.size W W') : BxF f b W' := Kt.row_on hb h
theorem BxF.new (f : Fld) (W : World) : BxF f W.heap.size (W.alloc (.cells #[.int .i64 f.at_, .int .i64 f.bits, .int .i64 f.page, .int .i64 f.usage, .int .i64 f.mn, .int .i64 f.mx, .bool f.pad] 29)) := heap_alloc_new W _
theorem load_fld {ops : Array Oper} {rest : List Oper} {o : Oper} {a : Act} {w : World} {Q : Exit → Act → World → Prop} (hgd : o.guard = none) (x : Operand) (ho : o.op = .load 29 x) (g : Nat) (hx : a.eval x = .pointer (some ⟨g, 0, none⟩)) (f : Fld) (hg : BxF f g w)
    (h : wpList Try.prog ops Q rest (a.put o.dst f.val) w) : wpList Try.prog ops Q (o :: rest) a w :=
  wpList_load_row hgd 29 x ho g hx 29 _ (0, 0) _ hg Try.underlying29 rfl sz_eqf_calls h
set_option maxRecDepth 100000 in
set_option maxHeartbeats 6400000 in
theorem bits_walk (v0 v1 v2 v3 : Value) (w : World) (r0 : Fr.RdV w reachBytes flTy v0) (r1 : Fr.RdV w reachBytes flTy v1) (r2 : Fr.RdV w reachBytes .string v2) (r3 : Fr.RdV w reachBytes (.int .i64) v3) :
    Calls Try.prog 8 #[v0, v1, v2, v3] w fun e w' => e = .returned (.bool true) ∧ Below w.heap.size w w' := by
  obtain ⟨f, rfl⟩ := field_in r0
  obtain ⟨g, rfl⟩ := field_in r1
  obtain ⟨s, e, hs⟩ := r2; cases e
  obtain ⟨v, e, hv⟩ := r3; cases e
  have hvb : -9223372036854775808 ≤ v ∧ v ≤ 9223372036854775807 := by
    simp [Lit.wf, IntKind.min, IntKind.max, IntKind.signed, IntKind.bits] at hv; omega
  have HSET := Lib.hid (fun W => set_calls f s v W hs hvb)
  have HGS := Lib.hid (fun W => get_calls g s W hs)
  have HFS := Lib.hid (fun W => get_calls f s W hs)
  have bf : BxF f w.heap.size ((w.alloc (.cells #[.int .i64 f.at_, .int .i64 f.bits, .int .i64 f.page, .int .i64 f.usage, .int .i64 f.mn, .int .i64 f.mx, .bool f.pad] 29)).alloc (.cells #[.int .i64 g.at_, .int .i64 g.bits, .int .i64 g.page, .int .i64 g.usage, .int .i64 g.mn, .int .i64 g.mx, .bool g.pad] 29)) := (BxF.new f w).on (Kt.balloc (Below.refl _ _) _)
  have bg : BxF g (w.heap.size + 1) ((w.alloc (.cells #[.int .i64 f.at_, .int .i64 f.bits, .int .i64 f.page, .int .i64 f.usage, .int .i64 f.mn, .int .i64 f.mx, .bool f.pad] 29)).alloc (.cells #[.int .i64 g.at_, .int .i64 g.bits, .int .i64 g.page, .int .i64 g.usage, .int .i64 g.mn, .int .i64 g.mx, .bool g.pad] 29)) := by
    have := BxF.new g (w.alloc (.cells #[.int .i64 f.at_, .int .i64 f.bits, .int .i64 f.page, .int .i64 f.usage, .int .i64 f.mn, .int .i64 f.mx, .bool f.pad] 29))
    rwa [World.size_alloc] at this
  have HB0 := Lib.hid (Kt.balloc (Kt.balloc (Below.refl _ w) (.cells #[.int .i64 f.at_, .int .i64 f.bits, .int .i64 f.page, .int .i64 f.usage, .int .i64 f.mn, .int .i64 f.mx, .bool f.pad] 29)) (.cells #[.int .i64 g.at_, .int .i64 g.bits, .int .i64 g.page, .int .i64 g.usage, .int .i64 g.mn, .int .i64 g.mx, .bool g.pad] 29))
  clear r0 r1 hv
  obtain ⟨r, hr⟩ : ∃ r, setR f s v = r := ⟨_, rfl⟩
  have HR := Lib.hid hr
  rw [hr] at HSET
  obtain ⟨t, n⟩ := r
  dsimp only at HSET
  clear hr
  unfold Fld.val
  go_enter Try.func8, Try.ntmps8
  go_wp2_with (refine load_fld rfl (.tmp 4) rfl w.heap.size rfl f bf ?_)
  refine (HSET.out _).mono ?_
  rintro en w1 ⟨rfl, hb⟩
  have HB1 := Lib.hid (Kt.bthen HB0.out hb)
  replace bf := bf.on hb
  replace bg := bg.on hb
  clear hb HB0 HSET
  go_wp2_with fail
  refine (lives_calls _).mono ?_
  rintro en w2 ⟨rfl, hb⟩
  have HB2 := Lib.hid (Kt.bthen HB1.out hb)
  replace bf := bf.on hb
  replace bg := bg.on hb
  clear hb HB1
  by_cases hn : n = 0
  rotate_left
  · obtain rfl : t = ⟨#[]⟩ := by
      have := setR_bad (f := f) (s := s) (v := v) (by rw [HR.out]; exact hn)
      rwa [HR.out] at this
    have e0 : (n != 0) = true := by rw [bne_iff_ne]; exact hn
    clear hn bf bg
    go_wp2_with fail
    refine (lives_calls _).mono ?_
    rintro en w3 ⟨rfl, hb⟩
    have HB3 := Lib.hid (Kt.bthen HB2.out hb)
    clear hb
    go_wp2_with fail
    go_ret
    exact ⟨rfl, HB3.out⟩
  subst hn
  obtain ⟨x, y, n, z, HOK'⟩ := bits_ok (g := g) HR.out
  have HOK := Lib.hid HOK'
  have hst : t.size = s.size := HOK'.size
  have ht : t.size ≤ reachBytes := by rw [hst]; exact hs
  have HFT := Lib.hid (fun W => get_calls f t W ht)
  have HGT := Lib.hid (fun W => get_calls g t W ht)
  have HST := Lib.hid (fun W => set_calls f t z W ht HOK'.zb)
  rw [HOK'.get] at HFT
  rw [HOK'.gt] at HGT
  rw [HOK'.gs] at HGS
  rw [HOK'.fs] at HFS
  rw [HOK'.set] at HST
  dsimp only at HFT HGT HGS HFS HST
  clear HOK' HR ht hs
  go_wp2_with (refine load_fld rfl (.tmp 4) rfl w.heap.size rfl f bf ?_)
  refine (HFT.out _).mono ?_
  rintro en w3 ⟨rfl, hb⟩
  have HB3 := Lib.hid (Kt.bthen HB2.out hb)
  replace bf := bf.on hb
  replace bg := bg.on hb
  clear hb HB2
  have e1 : ((t.size : Int) != s.size) = false := by rw [hst]; simp
  have e2 : (v != v) = false := by simp
  go_wp2_with (refine load_fld rfl (.tmp 5) rfl (w.heap.size + 1) rfl g bg ?_)
  refine (HGS.out _).mono ?_
  rintro en w4 ⟨rfl, hb⟩
  have HB4 := Lib.hid (Kt.bthen HB3.out hb)
  replace bf := bf.on hb
  replace bg := bg.on hb
  clear hb HB3
  go_wp2_with (refine load_fld rfl (.tmp 5) rfl (w.heap.size + 1) rfl g bg ?_)
  refine (HGT.out _).mono ?_
  rintro en w5 ⟨rfl, hb⟩
  have HB5 := Lib.hid (Kt.bthen HB4.out hb)
  replace bf := bf.on hb
  replace bg := bg.on hb
  clear hb HB4
  go_upto_region 9 with (fail)
  go_cut [98] from 67 to 97 (fun q wx => q = .bool false ∧ wx = w5)
  case first =>
    by_cases hn : n = 0
    · subst hn
      by_cases hxy : x = y
      · have e3 : (x != y) = false := by rw [hxy]; simp
        clear hxy
        go_wp2_with fail
        go_meet
        exact ⟨rfl, rfl⟩
      · have e3 : (x != y) = true := by rw [bne_iff_ne]; exact hxy
        obtain ⟨⟨b1, b2, b3, b4, b5, b6, b7, b8⟩, b9, b10⟩ := HOK.out.apart rfl hxy
        have c0 := fun i => cell_of_row _ _ i _ _ _ bf
        have c1 := fun i => cell_of_row _ _ i _ _ _ bg
        have e4 : decide (g.at_ + g.bits ≤ f.at_) = false := decide_eq_false (by omega)
        have e5 : decide (f.at_ + f.bits ≤ g.at_) = false := decide_eq_false (by omega)
        clear hxy b9 b10
        go_wp2_with fail
        go_meet
        exact ⟨rfl, rfl⟩
    · have e3 : (n == 0) = false := beq_eq_false_iff_ne.2 hn
      have e4 : (n != n) = false := by simp
      clear hn
      go_wp2_with fail
      go_meet
      exact ⟨rfl, rfl⟩
  obtain ⟨rfl, rfl⟩ := hcut
  go_wp2_with (refine load_fld rfl (.tmp 4) rfl w.heap.size rfl f bf ?_)
  refine (HFS.out _).mono ?_
  rintro en w6 ⟨rfl, hb⟩
  have HB6 := Lib.hid (Kt.bthen HB5.out hb)
  replace bf := bf.on hb
  clear hb HB5
  go_wp2_with (refine load_fld rfl (.tmp 4) rfl w.heap.size rfl f bf ?_)
  refine (HST.out _).mono ?_
  rintro en w7 ⟨rfl, hb⟩
  have HB7 := Lib.hid (Kt.bthen HB6.out hb)
  have e6 : (s.toList == s.toList) = true := by simp
  clear hb HB6
  go_wp2_with fail
  go_ret
  exact ⟨rfl, HB7.out⟩
end Go.Proofs.Ytinhnlfhgfmagaa
