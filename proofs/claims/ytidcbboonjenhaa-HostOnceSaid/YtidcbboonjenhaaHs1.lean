/- slices.IndexFunc, slices.ContainsFunc at deeds and at cells. -/
import Derived.Test.YtidcbboonjenhaaHstX
namespace Go.Proofs.Ytidcbboonjenhaa
open Go.RowKit Classical Go.Proofs.Ytidcbboonjenhaa.Slt
def FirstFD (p : Dd → Bool) (l : List (Dd)) (r : Int) : Prop := (r = -1 ∧ ∀ s ∈ l, p s = false) ∨ ∃ k : Nat, r = (k : Int) ∧ ∃ h : k < l.length, p l[k] = true
set_option maxRecDepth 100000 in
set_option maxHeartbeats 1600000 in
theorem indexFD (p : Dd → Bool) (f : FuncId) (lb : Array Value) (l : List (Dd)) (A0 : Option Addr) (c0 : Nat) (w : World) (hv : Kt.Ar w (.slice A0 l.length c0) 8 l.length (dvs l)) (hm : l.length ≤ 1000)
    (eg : ∀ args w, (callFunc f args).run Try.prog w = .ok (.enter f args) w)
    (hf : ∀ d ∈ l, ∀ (W : World), Below w.heap.size w W → Calls Try.prog f (#[.agg #[.int .i64 d.kd, .int .i64 d.k, .int .i64 d.s, .int .i64 d.e, .int .i64 d.a, .int .i64 d.n, .int .i64 d.sl, .int .i64 d.en]] ++ lb) W fun e w' => e = .returned (.bool (p d)) ∧ Below W.heap.size W w') :
    Calls Try.prog 32 #[.slice A0 l.length c0, .func (.func f) #[] lb] w fun e w' => ∃ r, e = .returned (.int .i64 r) ∧ FirstFD p l r ∧ Below w.heap.size w w' := by
  obtain ⟨A, c, hAc, _, hcells⟩ := hv.form
  injection hAc with h1 h2 h3
  subst h1 h3
  have HCELLS := Lib.hid hcells
  have HF := Lib.hid hf
  clear hv hf hcells h2
  go_enter Try.func32, Try.ntmps32
  go_wp2_with fail
  go_loopw [8] (fun i wr => ∃ (k : Nat), k ≤ l.length ∧ i = .int .i64 (k : Int) ∧ Hid (∀ j (h : j < l.length), j < k → p l[j] = false) ∧ Hid (Below w.heap.size w wr)) (fun i _ => l.length - (intOf i).toNat)
  case atStart => exact ⟨0, Nat.zero_le _, rfl, Lib.hid (fun j h hj => absurd hj (by omega)), Lib.hid (Below.refl _ _)⟩
  case round =>
    obtain ⟨k, hk, rfl, HP, HB⟩ := hrel
    by_cases hlt : k < l.length
    · obtain ⟨b, o, rfl, hg, hcell⟩ := HCELLS.out (by omega)
      obtain ⟨d, hd⟩ : ∃ d, l[k] = d := ⟨_, rfl⟩
      have hki : (k : Int) < (l.length : Int) := by omega
      have q : ∀ j (hj : j < 8), wr.cell? ⟨b, o + (k * 8 + j), none⟩ = (Dd.cs d)[j]? := fun j hj => by
        rw [HB.out.cell (p := ⟨b, o + (k * 8 + j), none⟩) hg, hcell (k * 8 + j) (by rw [dvs_len]; omega), ← List.getElem?_eq_getElem, dvs_get _ _ _ hj, List.getElem?_eq_getElem hlt, hd]; rfl
      have g0 : wr.cell? ⟨b, o + k * 8, none⟩ = some (.int .i64 d.kd) := q 0 (by omega)
      have g1 : wr.cell? ⟨b, o + k * 8 + 1, none⟩ = some (.int .i64 d.k) := q 1 (by omega)
      have g2 : wr.cell? ⟨b, o + k * 8 + 2, none⟩ = some (.int .i64 d.s) := q 2 (by omega)
      have g3 : wr.cell? ⟨b, o + k * 8 + 3, none⟩ = some (.int .i64 d.e) := q 3 (by omega)
      have g4 : wr.cell? ⟨b, o + k * 8 + 4, none⟩ = some (.int .i64 d.a) := q 4 (by omega)
      have g5 : wr.cell? ⟨b, o + k * 8 + 5, none⟩ = some (.int .i64 d.n) := q 5 (by omega)
      have g6 : wr.cell? ⟨b, o + k * 8 + 6, none⟩ = some (.int .i64 d.sl) := q 6 (by omega)
      have g7 : wr.cell? ⟨b, o + k * 8 + 7, none⟩ = some (.int .i64 d.en) := q 7 (by omega)
      clear hcell q
      have HC := Lib.hid (HF.out d (hd ▸ List.getElem_mem hlt) wr HB.out)
      obtain ⟨v, hv⟩ : ∃ v, p d = v := ⟨_, rfl⟩
      have HV := Lib.hid (show p l[k] = v by rw [hd]; exact hv)
      rw [hv] at HC
      clear hd hv
      cases v with
      | true =>
        go_wp2_with fail
        refine HC.out.mono ?_
        rintro e w1 ⟨rfl, hb⟩
        have HB1 := Lib.hid (Kt.bthen HB.out hb)
        clear hb HC
        go_wp2_with fail
        go_ret
        exact ⟨_, rfl, .inr ⟨k, rfl, hlt, HV.out⟩, HB1.out⟩
      | false =>
        go_wp2_with fail
        refine HC.out.mono ?_
        rintro e w1 ⟨rfl, hb⟩
        have HB1 := Lib.hid (Kt.bthen HB.out hb)
        clear hb HC
        go_wp2_with fail
        go_roundw
        case rel => exact ⟨k + 1, by omega, by go_num, Lib.hid (fun j h hj => by
          by_cases e : j = k
          · subst e; exact HV.out
          · exact HP.out j h (by omega)), HB1⟩
        case measure => simp [intOf]; omega
    · have ek : ¬ (k : Int) < l.length := fun h => hlt (Int.ofNat_lt.1 h)
      have HA : Hid (∀ s ∈ l, p s = false) := Lib.hid (fun s hs => by
        obtain ⟨j, hj, rfl⟩ := List.mem_iff_getElem.1 hs
        exact HP.out j hj (by omega))
      go_wp2_with fail
      go_ret
      exact ⟨_, rfl, .inl ⟨rfl, HA.out⟩, HB.out⟩
set_option maxRecDepth 100000 in
set_option maxHeartbeats 1600000 in
theorem containsFD (p : Dd → Bool) (f : FuncId) (lb : Array Value) (l : List (Dd)) (A0 : Option Addr) (c0 : Nat) (w : World) (hv : Kt.Ar w (.slice A0 l.length c0) 8 l.length (dvs l)) (hm : l.length ≤ 1000)
    (eg : ∀ args w, (callFunc f args).run Try.prog w = .ok (.enter f args) w)
    (hf : ∀ d ∈ l, ∀ (W : World), Below w.heap.size w W → Calls Try.prog f (#[.agg #[.int .i64 d.kd, .int .i64 d.k, .int .i64 d.s, .int .i64 d.e, .int .i64 d.a, .int .i64 d.n, .int .i64 d.sl, .int .i64 d.en]] ++ lb) W fun e w' => e = .returned (.bool (p d)) ∧ Below W.heap.size W w') :
    Calls Try.prog 17 #[.slice A0 l.length c0, .func (.func f) #[] lb] w fun e w' => e = .returned (.bool (l.any p)) ∧ Below w.heap.size w w' := by
  have HI := Lib.hid (indexFD p f lb l A0 c0 w hv hm eg hf)
  clear hv hm hf eg
  go_enter Try.func17, Try.ntmps17
  go_wp2_with fail
  refine HI.out.mono ?_
  rintro e w1 ⟨r, rfl, hr, hb⟩
  have HB := Lib.hid hb
  clear hb HI
  rcases hr with ⟨rfl, hall⟩ | ⟨k, rfl, hk, hp⟩
  · have HA : Hid (l.any p = false) := Lib.hid (by rw [List.any_eq_false]; exact fun x hx => by simp [hall x hx])
    clear hall
    go_wp2_with fail
    go_ret
    exact ⟨by rw [HA.out]; rfl, HB.out⟩
  · have HA : Hid (l.any p = true) := Lib.hid (by rw [List.any_eq_true]; exact ⟨_, List.getElem_mem hk, hp⟩)
    have hk0 : (0 : Int) ≤ (k : Int) := Int.natCast_nonneg k
    clear hk hp
    go_wp2_with fail
    go_ret
    exact ⟨by rw [HA.out]; rfl, HB.out⟩
def FirstFC (p : RC → Bool) (l : List (RC)) (r : Int) : Prop := (r = -1 ∧ ∀ s ∈ l, p s = false) ∨ ∃ k : Nat, r = (k : Int) ∧ ∃ h : k < l.length, p l[k] = true
set_option maxRecDepth 100000 in
set_option maxHeartbeats 1600000 in
theorem indexFC (p : RC → Bool) (f : FuncId) (lb : Array Value) (l : List (RC)) (A0 : Option Addr) (c0 : Nat) (w : World) (hv : Kt.Ar w (.slice A0 l.length c0) 3 l.length (cvs l)) (hm : l.length ≤ 1000)
    (eg : ∀ args w, (callFunc f args).run Try.prog w = .ok (.enter f args) w)
    (hf : ∀ d ∈ l, ∀ (W : World), Below w.heap.size w W → Calls Try.prog f (#[.agg #[.int .u64 d.1, .int .i64 d.2.1, .bool d.2.2]] ++ lb) W fun e w' => e = .returned (.bool (p d)) ∧ Below W.heap.size W w') :
    Calls Try.prog 52 #[.slice A0 l.length c0, .func (.func f) #[] lb] w fun e w' => ∃ r, e = .returned (.int .i64 r) ∧ FirstFC p l r ∧ Below w.heap.size w w' := by
  obtain ⟨A, c, hAc, _, hcells⟩ := hv.form
  injection hAc with h1 h2 h3
  subst h1 h3
  have HCELLS := Lib.hid hcells
  have HF := Lib.hid hf
  clear hv hf hcells h2
  go_enter Try.func52, Try.ntmps52
  go_wp2_with fail
  go_loopw [8] (fun i wr => ∃ (k : Nat), k ≤ l.length ∧ i = .int .i64 (k : Int) ∧ Hid (∀ j (h : j < l.length), j < k → p l[j] = false) ∧ Hid (Below w.heap.size w wr)) (fun i _ => l.length - (intOf i).toNat)
  case atStart => exact ⟨0, Nat.zero_le _, rfl, Lib.hid (fun j h hj => absurd hj (by omega)), Lib.hid (Below.refl _ _)⟩
  case round =>
    obtain ⟨k, hk, rfl, HP, HB⟩ := hrel
    by_cases hlt : k < l.length
    · obtain ⟨b, o, rfl, hg, hcell⟩ := HCELLS.out (by omega)
      obtain ⟨d, hd⟩ : ∃ d, l[k] = d := ⟨_, rfl⟩
      have hki : (k : Int) < (l.length : Int) := by omega
      have q : ∀ j (hj : j < 3), wr.cell? ⟨b, o + (k * 3 + j), none⟩ = (cv d)[j]? := fun j hj => by
        rw [HB.out.cell (p := ⟨b, o + (k * 3 + j), none⟩) hg, hcell (k * 3 + j) (by rw [cvs_len]; omega), ← List.getElem?_eq_getElem, cvs_get _ _ _ hj, List.getElem?_eq_getElem hlt, hd]; rfl
      have g0 : wr.cell? ⟨b, o + k * 3, none⟩ = some (.int .u64 d.1) := q 0 (by omega)
      have g1 : wr.cell? ⟨b, o + k * 3 + 1, none⟩ = some (.int .i64 d.2.1) := q 1 (by omega)
      have g2 : wr.cell? ⟨b, o + k * 3 + 2, none⟩ = some (.bool d.2.2) := q 2 (by omega)
      clear hcell q
      have HC := Lib.hid (HF.out d (hd ▸ List.getElem_mem hlt) wr HB.out)
      obtain ⟨v, hv⟩ : ∃ v, p d = v := ⟨_, rfl⟩
      have HV := Lib.hid (show p l[k] = v by rw [hd]; exact hv)
      rw [hv] at HC
      clear hd hv
      cases v with
      | true =>
        go_wp2_with fail
        refine HC.out.mono ?_
        rintro e w1 ⟨rfl, hb⟩
        have HB1 := Lib.hid (Kt.bthen HB.out hb)
        clear hb HC
        go_wp2_with fail
        go_ret
        exact ⟨_, rfl, .inr ⟨k, rfl, hlt, HV.out⟩, HB1.out⟩
      | false =>
        go_wp2_with fail
        refine HC.out.mono ?_
        rintro e w1 ⟨rfl, hb⟩
        have HB1 := Lib.hid (Kt.bthen HB.out hb)
        clear hb HC
        go_wp2_with fail
        go_roundw
        case rel => exact ⟨k + 1, by omega, by go_num, Lib.hid (fun j h hj => by
          by_cases e : j = k
          · subst e; exact HV.out
          · exact HP.out j h (by omega)), HB1⟩
        case measure => simp [intOf]; omega
    · have ek : ¬ (k : Int) < l.length := fun h => hlt (Int.ofNat_lt.1 h)
      have HA : Hid (∀ s ∈ l, p s = false) := Lib.hid (fun s hs => by
        obtain ⟨j, hj, rfl⟩ := List.mem_iff_getElem.1 hs
        exact HP.out j hj (by omega))
      go_wp2_with fail
      go_ret
      exact ⟨_, rfl, .inl ⟨rfl, HA.out⟩, HB.out⟩
set_option maxRecDepth 100000 in
set_option maxHeartbeats 1600000 in
theorem containsFC (p : RC → Bool) (f : FuncId) (lb : Array Value) (l : List (RC)) (A0 : Option Addr) (c0 : Nat) (w : World) (hv : Kt.Ar w (.slice A0 l.length c0) 3 l.length (cvs l)) (hm : l.length ≤ 1000)
    (eg : ∀ args w, (callFunc f args).run Try.prog w = .ok (.enter f args) w)
    (hf : ∀ d ∈ l, ∀ (W : World), Below w.heap.size w W → Calls Try.prog f (#[.agg #[.int .u64 d.1, .int .i64 d.2.1, .bool d.2.2]] ++ lb) W fun e w' => e = .returned (.bool (p d)) ∧ Below W.heap.size W w') :
    Calls Try.prog 41 #[.slice A0 l.length c0, .func (.func f) #[] lb] w fun e w' => e = .returned (.bool (l.any p)) ∧ Below w.heap.size w w' := by
  have HI := Lib.hid (indexFC p f lb l A0 c0 w hv hm eg hf)
  clear hv hm hf eg
  go_enter Try.func41, Try.ntmps41
  go_wp2_with fail
  refine HI.out.mono ?_
  rintro e w1 ⟨r, rfl, hr, hb⟩
  have HB := Lib.hid hb
  clear hb HI
  rcases hr with ⟨rfl, hall⟩ | ⟨k, rfl, hk, hp⟩
  · have HA : Hid (l.any p = false) := Lib.hid (by rw [List.any_eq_false]; exact fun x hx => by simp [hall x hx])
    clear hall
    go_wp2_with fail
    go_ret
    exact ⟨by rw [HA.out]; rfl, HB.out⟩
  · have HA : Hid (l.any p = true) := Lib.hid (by rw [List.any_eq_true]; exact ⟨_, List.getElem_mem hk, hp⟩)
    have hk0 : (0 : Int) ≤ (k : Int) := Int.natCast_nonneg k
    clear hk hp
    go_wp2_with fail
    go_ret
    exact ⟨by rw [HA.out]; rfl, HB.out⟩
end Go.Proofs.Ytidcbboonjenhaa
