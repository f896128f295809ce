/- The law ReportTiles: fields lie one behind the other. -/
import Derived.Test.YtinhnlfhgfmagaaRepB
namespace Go.Proofs.Ytinhnlfhgfmagaa
open Go.RowKit Go.Proofs.Ytinhnlfhgfmagaa.Rep
/-- fields from a on to b -/
def Til : Int → List Fld → Int → Prop
  | a, [], b => a = b
  | a, f :: l, b => f.at_ = a ∧ 1 ≤ f.bits ∧ f.bits ≤ 32 ∧ f.mn ≤ f.mx ∧ Til (a + f.bits) l b
theorem Til.snoc : ∀ (l : List Fld) (a b : Int) (f : Fld), Til a l b → f.at_ = b → 1 ≤ f.bits → f.bits ≤ 32 → f.mn ≤ f.mx → Til a (l ++ [f]) (b + f.bits)
  | [], a, b, f, h, h1, h2, h3, h4 => by
    have h : a = b := h
    subst h
    exact ⟨h1, h2, h3, h4, rfl⟩
  | g :: l, a, b, f, h, h1, h2, h3, h4 => ⟨h.1, h.2.1, h.2.2.1, h.2.2.2.1, Til.snoc l _ b f h.2.2.2.2 h1 h2 h3 h4⟩
def posN : List Fld → Nat → Int
  | _, 0 => 0
  | [], _ + 1 => 0
  | f :: l, n + 1 => f.bits + posN l n
theorem Til.at : ∀ (l : List Fld) (a b : Int), Til a l b → ∀ (k : Nat) (h : k < l.length), (l[k]).at_ = a + posN l k ∧ 1 ≤ (l[k]).bits ∧ (l[k]).bits ≤ 32 ∧ (l[k]).mn ≤ (l[k]).mx ∧ posN l (k + 1) = posN l k + (l[k]).bits
  | f :: l, a, b, h, 0, _ => ⟨by show f.at_ = a + 0; have := h.1; omega, h.2.1, h.2.2.1, h.2.2.2.1, by show f.bits + posN l 0 = 0 + f.bits; cases l <;> simp [posN]⟩
  | f :: l, a, b, h, k + 1, hk => by
    have hk' : k < l.length := by simpa using hk
    obtain ⟨h1, h2, h3, h4, h5⟩ := Til.at l _ b h.2.2.2.2 k hk'
    refine ⟨?_, h2, h3, h4, ?_⟩
    · show (l[k]).at_ = a + (f.bits + posN l k); omega
    · show f.bits + posN l (k + 1) = f.bits + posN l k + (l[k]).bits; omega
theorem Til.end : ∀ (l : List Fld) (a b : Int), Til a l b → b = a + posN l l.length
  | [], a, b, h => by have h : a = b := h; simp [posN, h]
  | f :: l, a, b, h => by
    have := Til.end l _ b h.2.2.2.2
    show b = a + (f.bits + posN l l.length); omega
theorem glob_same (s : RS) (k v : Int) : (glob s k v).1.out = s.out ∧ (glob s k v).1.bits = s.bits ∧ (glob s k v).1.us = s.us ∧ (glob s k v).1.dep = s.dep := by
  unfold glob
  split; exact ⟨rfl, rfl, rfl, rfl⟩
  split; exact ⟨rfl, rfl, rfl, rfl⟩
  split; exact ⟨rfl, rfl, rfl, rfl⟩
  split
  · split <;> exact ⟨rfl, rfl, rfl, rfl⟩
  split
  · split <;> exact ⟨rfl, rfl, rfl, rfl⟩
  split
  · split <;> exact ⟨rfl, rfl, rfl, rfl⟩
  split
  · split <;> exact ⟨rfl, rfl, rfl, rfl⟩
  exact ⟨rfl, rfl, rfl, rfl⟩
theorem feeds_til {s : RS} (v : Int) (h : Til 0 s.out s.bits) (h1 : 1 ≤ s.st.sz) (h2 : s.st.sz ≤ 32) (h3 : s.st.mn ≤ s.st.mx) : ∀ n, Til 0 (feeds s v n).out (feeds s v n).bits
  | 0 => h
  | n + 1 => by
    obtain ⟨e, _⟩ := feeds_is s v n
    exact Til.snoc _ _ _ (fldAt (feeds s v n) v n) (feeds_til v h h1 h2 h3 n) rfl (by show 1 ≤ (feeds s v n).st.sz; rw [e]; exact h1) (by show (feeds s v n).st.sz ≤ 32; rw [e]; exact h2) (by show (feeds s v n).st.mn ≤ (feeds s v n).st.mx; rw [e]; exact h3)
theorem inp_til {s : RS} (ok : s.Ok) (h : Til 0 s.out s.bits) (v : Int) : Til 0 (inp s v).1.out (inp s v).1.bits := by
  unfold inp
  split
  · exact h
  rename_i hn
  split
  · exact h
  · exact feeds_til v h (by have := ok.sz0; omega) ok.sz1 (by omega) _
theorem itm_til {s : RS} (ok : s.Ok) (h : Til 0 s.out s.bits) (k v : Int) : Til 0 (itm s k v).1.out (itm s k v).1.bits := by
  unfold itm
  split
  · split <;> exact h
  split
  · split <;> exact h
  split
  · split <;> exact h
  split
  · unfold tidy
    split <;> exact inp_til ok h v
  · obtain ⟨e1, e2, _⟩ := glob_same s k v
    rw [e1, e2]; exact h
theorem steps_til : ∀ (l : List (Int × Int)) (s : RS), s.Ok → Til 0 s.out s.bits → Til 0 (steps s l).1.out (steps s l).1.bits
  | [], _, _, h => h
  | x :: l, s, ok, h => by
    show Til 0 (if (itm s x.1 x.2).2 = 0 then steps (itm s x.1 x.2).1 l else itm s x.1 x.2).1.out (if (itm s x.1 x.2).2 = 0 then steps (itm s x.1 x.2).1 l else itm s x.1 x.2).1.bits
    split
    · exact steps_til l _ (itm_ok ok _ _) (itm_til ok h _ _)
    · exact itm_til ok h _ _
theorem flds_til {l : List (Int × Int)} {m : List Fld} (h : flds l = (m, 0)) : Til 0 m (posN m m.length) ∧ posN m m.length ≤ 512 ∧ m.length ≤ 256 := by
  unfold flds at h
  split at h
  · cases h
  unfold fin at h
  split at h
  · split at h
    · have h1 := steps_til l s0 s0_ok rfl
      have h2 := steps_ok l s0 s0_ok
      have h3 : (steps s0 l).1.out = m := congrArg Prod.fst h
      have h4 := Til.end _ _ _ h1
      rw [h3] at h1 h4
      have h5 : (steps s0 l).1.bits = posN m m.length := by omega
      rw [h5] at h1
      exact ⟨h1, by rw [← h5]; exact h2.b1, by rw [← h3]; exact h2.out⟩
    · cases h
  · rename_i hn
    exact absurd (congrArg Prod.snd h) hn
theorem flds_bad {l : List (Int × Int)} {r : List Fld × Int} (h : flds l = r) (hn : r.2 ≠ 0) : r.1 = [] := by
  subst h
  unfold flds at hn ⊢
  split
  · rfl
  rename_i hb
  rw [if_neg hb] at hn
  unfold fin at hn ⊢
  split
  · rename_i h2
    rw [if_pos h2] at hn
    split
    · rename_i h3
      rw [if_pos h3] at hn
      exact absurd rfl hn
    · rfl
  · rfl
theorem fcells_get (l : List Fld) (k : Nat) (h : k < l.length) (j : Nat) (u : Value) (hj : (l[k]).cells[j]? = some u) : (fcells l)[k * 7 + j]? = some u := by
  have h7 : j < 7 := (List.getElem?_eq_some_iff.1 hj).1
  rw [← fcells_at l k h, List.getElem?_take_of_lt h7, List.getElem?_drop] at hj
  exact hj
/-- a field's cells, wherever the list lies -/
theorem fld_cells {W : World} {B m : Nat} {A : Option Addr} {c : Nat} {l : List Fld} (h : Kt.Sl W B 29 7 (.slice A m c) m (fcells l)) (hm : m = l.length) (k : Nat) (hk : k < m) : ∃ g o, A = some ⟨g, o, none⟩ ∧ g < W.heap.size ∧ W.rangeAt g (o + k * 7) (l[k]'(hm ▸ hk)).cells := by
  subst hm
  obtain ⟨g, o, cap, hv, _, hg, _, _, hc, _⟩ := h.cells (by omega)
  injection hv with h1 _ _
  refine ⟨g, o, h1, hg, fun j u hj => ?_⟩
  have h2 := fcells_get l k hk j u hj
  obtain ⟨h3, h4⟩ := List.getElem?_eq_some_iff.1 h2
  rw [Nat.add_assoc, hc _ h3, h4]
set_option maxRecDepth 100000 in
set_option maxHeartbeats 3200000 in
theorem tiles_walk (v0 : Value) (w : World) (r0 : Fr.RdV w reachBytes (.slice 2 itTy) v0) :
    Calls Try.prog 3 #[v0] w fun e w' => e = .returned (.bool true) ∧ Below w.heap.size w w' := by
  obtain ⟨l, _, ha⟩ := ar_items r0
  obtain ⟨A0, c0, rfl, _, _⟩ := ha.form
  have HF := Lib.hid (fields_calls l _ w ha)
  obtain ⟨r, hr⟩ : ∃ r, flds l = r := ⟨_, rfl⟩
  rw [hr] at HF
  have HR := Lib.hid hr
  clear ha r0 hr
  go_enter Try.func3, Try.ntmps3
  go_wp2_with fail
  refine HF.out.mono ?_
  rintro en w1 ⟨A, c, rfl, hs, hb⟩
  have HB := Lib.hid hb
  have HS := Lib.hid hs
  obtain ⟨m, n⟩ := r
  dsimp only at *
  clear hb hs HF
  go_wp2_with fail
  refine (lives_calls _).mono ?_
  rintro en w2 ⟨rfl, hb⟩
  have HB2 := Lib.hid (Kt.bthen HB.out hb)
  have HS2 := Lib.hid (HS.out.on hb)
  clear hb HB HS
  by_cases hn : n = 0
  rotate_left
  · have HM := flds_bad HR.out hn
    dsimp only at HM
    subst HM
    have e0 : (n != 0) = true := by rw [bne_iff_ne]; exact hn
    clear hn
    go_wp2_with fail
    refine (lives_calls _).mono ?_
    rintro en w3 ⟨rfl, hb⟩
    have HB3 := Lib.hid (Kt.bthen HB2.out hb)
    clear hb
    go_wp2_with fail
    go_ret
    exact ⟨rfl, HB3.out⟩
  subst hn
  obtain ⟨t1, t2, t3⟩ := flds_til HR.out
  have HT := Lib.hid (Til.at _ _ _ t1)
  have hm : m.length ≤ 256 := t3
  have HE : Hid (posN m m.length ≤ 512) := Lib.hid t2
  obtain ⟨q, hq⟩ : ∃ q, m.length = q := ⟨_, rfl⟩
  rw [hq] at HS2 HE hm ⊢
  have HQ := Lib.hid hq
  clear t1 t2 t3 hq
  go_wp2_with fail
  go_loopw [5, 27] (fun a i wr => ∃ (k : Nat) (p : Int), k ≤ q ∧ i = .int .i64 (k : Nat) ∧ a = .int .i64 p ∧ Hid (posN m k = p) ∧ 0 ≤ p ∧ p ≤ 32 * k ∧ Hid (Below w.heap.size w wr) ∧ Hid (Below w2.heap.size w2 wr)) (fun _ i _ => q - (intOf i).toNat)
  case atStart => exact ⟨0, 0, by omega, rfl, rfl, Lib.hid (by cases m <;> rfl), by omega, by omega, HB2, Lib.hid (Below.refl _ _)⟩
  case round =>
    obtain ⟨k, p, hk, rfl, rfl, HP, hp0, hp1, HBW, HBK⟩ := hrel
    by_cases hlt : k < q
    · obtain ⟨g, o, rfl, hg, hx⟩ := fld_cells (HS2.out.on HBK.out) HQ.out.symm k hlt
      obtain ⟨f1, f2, f3, f4, f5⟩ := HT.out k (by have := HQ.out; omega)
      rw [HP.out] at f1 f5
      obtain ⟨f, hf⟩ : ∃ f, m[k]'(by have := HQ.out; omega) = f := ⟨_, rfl⟩
      rw [hf] at hx f1 f2 f3 f4 f5
      clear hf
      obtain ⟨a0, a1, a2, a3, a4, a5, a6⟩ := f
      have x0 := hx 0 _ rfl
      have x1 := hx 1 _ rfl
      have x2 := hx 2 _ rfl
      have x3 := hx 3 _ rfl
      have x4 := hx 4 _ rfl
      have x5 := hx 5 _ rfl
      have x6 := hx 6 _ rfl
      rw [Nat.add_zero] at x0
      dsimp only at *
      have HP2 := Lib.hid f5
      clear hx f5
      obtain rfl : a0 = p := by omega
      have e1 : (a0 != a0) = false := by simp
      clear f1
      go_wp2_with fail
      go_roundw
      case rel => exact ⟨k + 1, a0 + a1, by omega, by go_num, rfl, HP2, by omega, by omega, Lib.hid (Kt.balloc HBW.out _), Lib.hid (Kt.balloc HBK.out _)⟩
      case measure => (simp [intOf] <;> omega)
    · obtain rfl : k = q := by omega
      have hp2 := HE.out
      rw [HP.out] at hp2
      have e2 : decide ((k : Int) ≤ 256) = true := decide_eq_true (by omega)
      clear hlt hk
      go_wp2_with fail
      go_ret
      exact ⟨rfl, HBW.out⟩
end Go.Proofs.Ytinhnlfhgfmagaa
