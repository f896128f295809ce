/- Ways: right ones, and their texts: walked. -/
import Derived.Test.YteekckglpinkpaaDoorRouX
import Derived.Test.YteekckglpinkpaaDoorSlc
namespace Go.Proofs.YteekckglpinkpaaDoor
open Go.RowKit Go.Proofs.YteekckglpinkpaaDoor.Rou
def okP (l : List Int) : Prop := ∀ j (h : j < l.length), 1 ≤ l[j] ∧ l[j] ≤ 15
open Classical in
noncomputable def chk (l : List Int) : Int := if l.length = 0 then 1 else if 6 < l.length then 2 else if okP l then 0 else 1
theorem chk_zero {l : List Int} (h : chk l = 0) : 1 ≤ l.length ∧ l.length ≤ 6 ∧ okP l := by
  unfold chk at h
  split at h
  · cases h
  split at h
  · cases h
  split at h
  · next h1 h2 h3 => exact ⟨by omega, by omega, h3⟩
  · cases h
theorem chk_bad {l : List Int} {k : Nat} (h0 : l.length ≠ 0) (h6 : ¬ 6 < l.length) (hk : k < l.length) (h : ¬ (1 ≤ l[k] ∧ l[k] ≤ 15)) : chk l = 1 := by
  unfold chk
  rw [if_neg h0, if_neg h6, if_neg (fun q => h (q k hk))]
theorem chk_ok {l : List Int} (h0 : l.length ≠ 0) (h6 : ¬ 6 < l.length) (h : okP l) : chk l = 0 := by
  unfold chk
  rw [if_neg h0, if_neg h6, if_pos h]
theorem rcheck_calls (l : List Int) (A : Option Addr) (c : Nat) (w : World) (h : Wy w A c l) : Calls Tryd.prog 22 #[.slice A l.length c] w fun e w' => e = .returned (.int .i64 (chk l)) ∧ w = w' := by
  have HA := Lib.hid h
  clear h
  by_cases h0 : l.length = 0
  · have e : chk l = 1 := if_pos h0
    rw [e, h0]
    go_enter Tryd.func22, Tryd.ntmps22
    go_wp2_with fail
    go_ret
    exact ⟨rfl, rfl⟩
  · have f0 : ((l.length : Int) == 0) = false := by rw [beq_eq_false_iff_ne]; omega
    by_cases h6 : 6 < l.length
    · have e : chk l = 2 := by unfold chk; rw [if_neg h0, if_pos h6]
      rw [e]
      have f6 : (6 : Int) < l.length := by omega
      clear h0
      go_enter Tryd.func22, Tryd.ntmps22
      go_wp2_with fail
      go_ret
      exact ⟨rfl, rfl⟩
    · have f6 : ¬ (6 : Int) < l.length := by omega
      have H6 := Lib.hid (And.intro h0 h6)
      clear h0 h6
      go_enter Tryd.func22, Tryd.ntmps22
      go_wp2_with fail
      go_loopw [15] (fun ii wr => ∃ k : Nat, ii = .int .i64 k ∧ Hid (k ≤ l.length ∧ ∀ j (h : j < l.length), j < k → 1 ≤ l[j] ∧ l[j] ≤ 15) ∧ w = wr) (fun ii _ => l.length - (intOf ii).toNat)
      case atStart => exact ⟨0, rfl, Lib.hid ⟨Nat.zero_le _, fun j _ h => absurd h (Nat.not_lt_zero _)⟩, rfl⟩
      case round =>
        obtain ⟨k, rfl, HK, rfl⟩ := hrel
        by_cases hk : k < l.length
        · obtain ⟨b, o, rfl, _, c1⟩ := HA.out.cell k hk
          have hk' : (k : Int) < l.length := by omega
          have HH := Lib.hid hk
          by_cases hp : 1 ≤ l[k] ∧ l[k] ≤ 15
          · have p1 : ¬ l[k] < 1 := by omega
            have p2 : ¬ 15 < l[k] := by omega
            have HP := Lib.hid hp
            clear hp
            go_wp2_with fail
            exact ⟨⟨k + 1, by push_cast; rfl, Lib.hid ⟨Nat.succ_le_of_lt HH.out, fun j h hj => by
              by_cases e : j = k
              · subst e; exact HP.out
              · exact HK.out.2 j h (by omega)⟩, trivial⟩, next_up HH.out⟩
          · have HB := Lib.hid (chk_bad H6.out.1 H6.out.2 hk hp)
            have h2 : l[k] < 1 ∨ (¬ l[k] < 1 ∧ 15 < l[k]) := by omega
            clear hp
            rcases h2 with p1 | ⟨p1, p2⟩
            · go_wp2_with fail
              go_ret
              exact ⟨by rw [HB.out]; rfl, rfl⟩
            · go_wp2_with fail
              go_ret
              exact ⟨by rw [HB.out]; rfl, rfl⟩
        · have hk' : ¬ (k : Int) < l.length := by omega
          have HB := Lib.hid (chk_ok H6.out.1 H6.out.2 (fun j h => HK.out.2 j h (by omega)))
          clear hk
          go_wp2_with fail
          go_ret
          exact ⟨by rw [HB.out]; rfl, rfl⟩
/-- a number's text -/
def dec (p : Int) : ByteArray := ⟨(Lib.decDigits p.toNat).toArray⟩
def svs (l : List ByteArray) : List Value := l.map Value.string
theorem svs_len (l : List ByteArray) : (svs l).length = l.length := by simp [svs]
/-- a way's text -/
def showS (l : List Int) : ByteArray := ⟨(Lib.join ((l.map dec).map (·.data.toList)) (⟨#[46]⟩ : ByteArray).data.toList).toArray⟩
theorem join_le3 (sep : List UInt8) (hs : sep.length = 1) : ∀ L : List (List UInt8), (∀ x ∈ L, x.length ≤ 2) → (Lib.join L sep).length ≤ 3 * L.length
  | [], _ => by simp [Lib.join]
  | [x], h => by
    have := h x (List.mem_cons_self ..)
    rw [Lib.join_one, List.length_singleton]
    omega
  | x :: y :: l, h => by
    have ih := join_le3 sep hs (y :: l) (fun z hz => h z (List.mem_cons_of_mem _ hz))
    have := h x (List.mem_cons_self ..)
    show (List.intercalate sep (x :: y :: l)).length ≤ _
    rw [List.intercalate_cons_cons]
    simp only [Lib.join, List.length_append, List.length_cons] at ih ⊢
    omega
theorem dec_le {p : Int} (h1 : 1 ≤ p) (h2 : p ≤ 15) : (dec p).data.toList.length ≤ 2 := by
  show (Lib.decDigits p.toNat).toArray.toList.length ≤ 2
  rw [List.toList_toArray]
  by_cases h : p.toNat < 10
  · rw [Lib.decDigits_one h]; simp
  · rw [Lib.decDigits_two h (by omega)]; simp
theorem show_le {l : List Int} (h6 : l.length ≤ 6) (ho : okP l) : (Lib.join ((l.map dec).map (·.data.toList)) (⟨#[46]⟩ : ByteArray).data.toList).length ≤ 140737488355328 := by
  have h := join_le3 (⟨#[46]⟩ : ByteArray).data.toList rfl ((l.map dec).map (·.data.toList)) (fun x hx => by
    rw [List.map_map] at hx
    obtain ⟨p, hp, rfl⟩ := List.mem_map.1 hx
    obtain ⟨j, hj, rfl⟩ := List.mem_iff_getElem.1 hp
    exact dec_le (ho j hj).1 (ho j hj).2)
  rw [List.length_map, List.length_map] at h
  omega
theorem infoS : (Tryd.prog.info? 9).map (fun i => (i.zero, i.size, i.bytes)) = some (some (.string ByteArray.empty), 1, 16) := by kernel_rfl
set_option maxRecDepth 100000 in
set_option maxHeartbeats 1600000 in
theorem show_calls (l : List Int) (A : Option Addr) (c : Nat) (w : World) (h : Wy w A c l) : Calls Tryd.prog 14 #[.slice A l.length c] w fun e w' =>
    e = .returned (.tuple #[.string (if chk l = 0 then showS l else ⟨#[]⟩), .int .i64 (chk l)]) ∧ Below w.heap.size w w' := by
  have HA := Lib.hid h
  have HC := Lib.hid (rcheck_calls l A c w h)
  clear h
  by_cases h0 : chk l = 0
  · rw [if_pos h0]
    rw [h0] at HC ⊢
    have HO := Lib.hid (chk_zero h0)
    have hlen : ∀ k, k < l.length → k + 1 ≤ maxLen ∧ (k + 1) * 16 ≤ 140737488355328 := fun k hk => by have := (HO.out).2.1; unfold maxLen; omega
    clear h0
    go_enter Tryd.func14, Tryd.ntmps14
    go_wp2_with fail
    refine HC.out.mono ?_; rintro e w1 ⟨rfl, rfl⟩
    go_wp2_with fail
    go_loopw [5, 15] (fun oo ii wr => ∃ (k : Nat) (B : Option Addr) (d : Nat), oo = .slice B k d ∧ ii = .int .i64 k ∧ Hid (k ≤ l.length) ∧ Hid (Kt.Sl wr w.heap.size 9 1 (.slice B k d) k (svs ((l.take k).map dec))) ∧ Hid (Below w.heap.size w wr)) (fun _ ii _ => l.length - (intOf ii).toNat)
    case atStart => exact ⟨0, none, 0, rfl, rfl, Lib.hid (Nat.zero_le _), Lib.hid (Kt.Sl.nil _ _ _ _), Lib.hid (Below.refl _ _)⟩
    case round =>
      obtain ⟨k, B, d, rfl, rfl, HK, HS, HB⟩ := hrel
      by_cases hk : k < l.length
      · obtain ⟨b, o, rfl, _, c1⟩ := (HA.out.on HB.out).cell k hk
        have hk' : (k : Int) < l.length := by omega
        have HH := Lib.hid hk
        have hp := HO.out.2.2 k hk
        have hd : svs ((l.take (k + 1)).map dec) = svs ((l.take k).map dec) ++ [.string (dec l[k])] := by
          rw [List.take_succ_eq_append_getElem hk, List.map_append]
          simp [svs]
          rfl
        have c2 : wr.cell? ⟨b, o + k, none⟩ = some (.int .i64 l[k]) := c1
        clear c1
        generalize l[k] = z at *
        obtain ⟨p, hp2⟩ : ∃ p : Nat, z = (p : Int) := ⟨z.toNat, by omega⟩
        subst hp2
        have HI := Lib.hid (fun W => Tryd.strconv_Itoa_small p (by omega) W)
        have HD : Hid (svs ((l.take (k + 1)).map dec) = svs ((l.take k).map dec) ++ [.string ⟨(Lib.decDigits p).toArray⟩]) := Lib.hid hd
        clear hk hp hd
        go_wp2_with fail
        refine (HI.out _).mono ?_; rintro e w2 ⟨rfl, rfl⟩
        go_wp2_with (
          (refine Kt.append_sl _ (by rfl) (.tmp 19) (.tmp 22) 41 rfl w.heap.size 9 (.string ByteArray.empty) 1 16 infoS Tryd.underlying41 rfl (by decide) _ _ _ rfl (HS.out.alloc _) ⟨w2.heap.size, 0, none⟩ 1 1 [.string ⟨(Lib.decDigits p).toArray⟩] rfl rfl (Kt.new_cells w2 #[.string ⟨(Lib.decDigits p).toArray⟩] _) (by simp [Value.oneCell']) (hlen k HH.out).1 (hlen k HH.out).2 (by rw [World.size_alloc]; have := HB.out.size; omega) ?_
           intro A' c' w1 hs1 hb1 _ _ _))
        have hw1 := w1_up HH.out (by have := HO.out.2.1; omega)
        exact ⟨⟨k + 1, A', c', rfl, by rw [hw1], Lib.hid (Nat.succ_le_of_lt HH.out), Lib.hid (by rw [HD.out]; exact hs1), Lib.hid ((Kt.balloc HB.out _).trans hb1)⟩, by rw [hw1]; exact next_up HH.out⟩
      · have hk' : ¬ (k : Int) < l.length := by omega
        obtain rfl : k = l.length := by have := HK.out; omega
        have hs := Kt.Ar.of_sl HS.out
        rw [List.take_length] at hs
        obtain ⟨_, _, e, hcap, hx⟩ := hs.form
        cases e
        obtain ⟨b, o, rfl, hb, hc⟩ := hx HO.out.1
        have hj := Tryd.strings_Join b o d (l.map dec) ⟨#[46]⟩ wr (fun j x hjx => by
          obtain ⟨hj, rfl⟩ := List.getElem?_eq_some_iff.1 hjx
          rw [hc j (by rw [svs_len]; exact hj)]; simp [svs]) hb (by rw [List.length_map]; have := HO.out.2.1; omega) (by rw [List.length_map]; exact hcap) (show_le HO.out.2.1 HO.out.2.2)
        rw [List.length_map] at hj
        have HJ := Lib.hid hj
        clear hj hx hc hs hcap HS HA
        go_wp2_with fail
        refine HJ.out.mono ?_
        rintro e w2 ⟨rfl, hb2⟩
        have HB2 := Lib.hid (Kt.bthen HB.out hb2)
        clear hb2 HJ
        go_wp2_with fail
        refine bodyPost_ret (v := .tuple #[.string ⟨(Lib.join ((l.map dec).map (·.data.toList)) (⟨#[46]⟩ : ByteArray).data.toList).toArray⟩, .int .i64 0]) (by simp [results, Tryd.results14]) rfl ?_
        exact ⟨rfl, HB2.out⟩
  · rw [if_neg h0]
    have f0 : (chk l != 0) = true := by rw [bne_iff_ne]; exact h0
    clear h0
    go_enter Tryd.func14, Tryd.ntmps14
    go_wp2_with fail
    refine HC.out.mono ?_; rintro e w1 ⟨rfl, rfl⟩
    go_wp2_with fail
    refine bodyPost_ret (v := .tuple #[.string ⟨#[]⟩, .int .i64 (chk l)]) (by simp [results, Tryd.results14]) rfl ?_
    exact ⟨rfl, Below.refl _ _⟩
end Go.Proofs.YteekckglpinkpaaDoor
