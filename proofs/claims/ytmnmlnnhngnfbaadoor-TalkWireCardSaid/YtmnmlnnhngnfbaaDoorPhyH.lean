/- phy: Hear walked. -/
import Derived.Test.YtmnmlnnhngnfbaaDoorPhyR
import Derived.Test.YtmnmlnnhngnfbaaDoorPhyB
namespace Go.Proofs.YtmnmlnnhngnfbaaDoor
open Go.RowKit Go.Proofs.YtmnmlnnhngnfbaaDoor.Lan Go.Proofs.YtmnmlnnhngnfbaaDoor.Phy
def ltr : List UInt8 := [74, 75, 48]
theorem trim3 (s : List UInt8) (w : World) (hs : s.length ≤ 9223372036854775807) : Calls Tryd.prog 32 #[.string (bt s), .string (bt ltr)] w fun e w' => ∃ x, x.toList.isEmpty = okL ltr s ∧ e = .returned (.string x) ∧ Below w.heap.size w w' := by
  have h := Any.strings_Trim_laid Tryd.lays160 (by kernel_rfl) (bt s) (bt ltr) w (by rw [bt_size]; exact hs) (by decide) (ascii_of_all (by rw [bt_list]; decide))
  refine h.mono ?_
  rintro e w1 ⟨rfl, hb⟩
  refine ⟨_, ?_, rfl, hb⟩
  rw [bt_list, bt_list, ByteArray.toList_eq, List.toList_toArray]
  have q := trim_nil s ltr
  cases h1 : Lib.trimS s ltr with
  | nil => rw [q.1 h1]; rfl
  | cons a r =>
    cases h2 : okL ltr s with
    | false => rfl
    | true => exact absurd (q.2 h2) (by rw [h1]; simp)
def hcells (o : List (List UInt8 × Int)) : List Value := o.flatMap fun p => [.string (bt p.1), .int .i64 p.2]
theorem hcells_app (a b : List (List UInt8 × Int)) : hcells (a ++ b) = hcells a ++ hcells b := by simp [hcells]
theorem hear_info : (Tryd.prog.info? 68).map (fun i => (i.zero, i.size, i.bytes)) = some (some (.agg #[.string ByteArray.empty, .int .i64 0]), 2, 24) := by kernel_rfl
theorem ld_ear {w : World} {b : Nat} {x : ByteArray} (h : w.heap[b]? = some (.cells #[.string x] 63 (0, 0))) : (loadVar 63 ⟨b, 0, none⟩).run Tryd.prog w = .ok (.agg #[.string x]) w :=
  run_loadVar_row w b 63 63 #[.string x] (0, 0) _ h Tryd.underlying63 rfl (by kernel_rfl)
set_option maxRecDepth 100000 in
set_option maxHeartbeats 1600000 in
theorem hear_stop (r l : List UInt8) (w : World) (hr : r.length ≤ 4294967296) (hl : l.length ≤ 4294967296) (h : ¬ (okL ltr l = true ∧ okL ltr r = true)) :
    Calls Tryd.prog 20 #[.agg #[.string (bt r)], .string (bt l)] w fun e w' => e = .returned (.tuple #[.agg #[.string (bt r)], .slice none 0 0, .int .i64 1]) ∧ Below w.heap.size w w' := by
  have HT1 := Lib.hid (fun W => trim3 l W (by omega))
  have HT2 := Lib.hid (fun W => trim3 r W (by omega))
  obtain ⟨R, hR⟩ : ∃ x, bt r = x := ⟨_, rfl⟩
  obtain ⟨S, hS⟩ : ∃ x, bt l = x := ⟨_, rfl⟩
  have hL3 : bt ltr = ⟨#[74, 75, 48]⟩ := rfl
  rw [hS, hL3] at HT1
  rw [hR, hL3] at HT2
  rw [hR, hS]
  clear hR hS hL3 hr hl
  go_enter Tryd.func20, Tryd.ntmps20
  go_wp2_with fail
  refine (HT1.out _).mono ?_; rintro e w1 ⟨x, hx, rfl, hb1⟩
  obtain ⟨q1, q2⟩ := Kt.box2 hb1
  have hgs : w.heap.size + 1 < w1.heap.size := by have := hb1.size; simp [World.size_alloc] at this; omega
  have HB1 := Lib.hid (Kt.balloc (Kt.balloc (Below.refl w.heap.size w) (.cells #[.string R] 63)) (.cells #[.string ⟨#[]⟩] 63))
  have HB2 := Lib.hid (Kt.bthen HB1.out hb1)
  have c1 := cell_of_row _ _ 0 _ _ _ q1
  have c2 := cell_of_row _ _ 0 _ _ _ q2
  have z1 := frozen_of_row _ _ 0 _ _ q1
  have z2 := frozen_of_row _ _ 0 _ _ q2
  cases h1 : okL ltr l with
  | false =>
    rw [h1] at hx
    clear h h1 hb1 HT1 HT2 HB1
    go_wp2_with fail
    have hW := ld_ear (heap_setCell_same w1 (w.heap.size + 1) 0 _ _ (.string R) q2)
    refine bodyPost_ret (v := .tuple #[.agg #[.string R], .slice none 0 0, .int .i64 1]) (by simp [results, Tryd.results20, asAddr, hW]) rfl ?_
    exact ⟨rfl, Kt.bset HB2.out (by simp) _⟩
  | true =>
    have h2 : okL ltr r = false := by cases h2 : okL ltr r with
      | false => rfl
      | true => exact absurd ⟨h1, h2⟩ h
    rw [h1] at hx
    rw [h2] at HT2
    clear h h1 h2 hb1 HT1 HB1
    go_wp2_with fail
    refine (HT2.out _).mono ?_; rintro e w3 ⟨y, hy, rfl, hb3⟩
    have p1 := Kt.row_on hb3 q1
    have p2 := Kt.row_on hb3 q2
    have hgs3 : w.heap.size + 1 < w3.heap.size := Nat.lt_of_lt_of_le hgs hb3.size
    have HB3 := Lib.hid (Kt.bthen HB2.out hb3)
    have c1 := cell_of_row _ _ 0 _ _ _ p1
    have c2 := cell_of_row _ _ 0 _ _ _ p2
    have z1 := frozen_of_row _ _ 0 _ _ p1
    have z2 := frozen_of_row _ _ 0 _ _ p2
    clear q1 q2 hgs hb3 HB2 HT2
    go_wp2_with fail
    have hW := ld_ear (heap_setCell_same w3 (w.heap.size + 1) 0 _ _ (.string R) p2)
    refine bodyPost_ret (v := .tuple #[.agg #[.string R], .slice none 0 0, .int .i64 1]) (by simp [results, Tryd.results20, asAddr, hW]) rfl ?_
    exact ⟨rfl, Kt.bset HB3.out (by simp) _⟩
/-- blocks of two types are never one -/
theorem bs_ne {W : World} {B B' e e' g cap sz n : Nat} {l : List UInt8} {v : Value} {xs : List Value} (h : Kt.Bs W B e g cap l) (h' : Kt.Sl W B' e' sz v n xs) (hne : e ≠ e') : ∀ k, v.ownBlock = some k → k ≠ g := by
  intro k hk hkg
  subst hkg
  obtain ⟨_, _, cur, m, hg, _⟩ := h
  rcases h'.2 with ⟨rfl, _⟩ | ⟨g', o, c, cur', rfl, _, hg', _⟩
  · cases hk
  · have : g' = k := by simpa [Value.ownBlock] using hk
    subst this
    rw [hg] at hg'
    injection hg' with q
    injection q with q1 q2 q3
    exact hne q2
structure HInv (r l : List UInt8) (k n m : Nat) (rest : List UInt8) (out : List (List UInt8 × Int)) : Prop where
  is : hearP r (l.take k) = (rest, out)
  hn : rest.length = n
  hm : out.length = m
  ln : n ≤ r.length + k
  lm : m ≤ k
theorem hear_step {r l : List UInt8} {k : Nat} (hk : k < l.length) {rest : List UInt8} {out : List (List UInt8 × Int)} (h : hearP r (l.take k) = (rest, out)) : hearP r (l.take (k + 1)) = hearS (rest, out) l[k] := by
  have e : l.take (k + 1) = l.take k ++ [l[k]] := by simp
  unfold hearP at h ⊢
  rw [e, List.foldl_append, h]
  rfl
theorem info_byte : (Tryd.prog.info? 5).map (fun i => (i.zero, i.size, i.bytes)) = some (some (.int .u8 0), 1, 1) := by kernel_rfl
theorem cell_new (w : World) (b : UInt8) (e : TypeId) : (w.alloc (.cells #[.int .u8 (b.toNat : Int)] e)).cell? ⟨w.heap.size, 0, none⟩ = some (.int .u8 (b.toNat : Int)) := by
  have := Kt.new_cells w #[.int .u8 (b.toNat : Int)] e 0 (.int .u8 (b.toNat : Int)) rfl
  exact this
theorem size_alloc (w : World) (o : Obj) : (w.alloc o).heap.size = w.heap.size + 1 := World.size_alloc w o
theorem meas {l k : Nat} (h : k < l) : l - (intOf (.int .i64 ((k + 1 : Nat) : Int))).toNat < l - (intOf (.int .i64 (k : Int))).toNat := by
  show l - (k + 1) < l - k
  omega
theorem wrap_k {k : Nat} (h : k ≤ 4294967296) : wrap64 ((k : Int) + 1) = ((k + 1 : Nat) : Int) := by unfold wrap64; omega
theorem strn_ne {a : ByteArray} {l : List UInt8} (h : a.data.toList ≠ l) : (a.toList == l) = false := by
  rw [beq_eq_false_iff_ne, ByteArray.toList_eq]
  exact h
theorem no_end {w : World} {B g cp n : Nat} {l : List UInt8} (hB : Kt.Bs w B 5 g cp l) (hl : l.length = n + 1) (hn : n ≤ 8589934592) (hE : ¬ (3 ≤ l.length ∧ l.drop (l.length - 3) = endL)) :
    (∃ z : Int, wrap64 ((n : Int) + 1 - 3) = z ∧ ¬ 0 ≤ z) ∨ (∃ (j : Nat) (T : ByteArray), wrap64 ((n : Int) + 1 - 3) = (j : Int) ∧ j ≤ n + 1 ∧ j ≤ cp ∧ ¬ cp = j ∧
      (convert 49 9 (.slice (some ⟨g, j, none⟩) (n + 1 - j) (cp - j))).run Tryd.prog w = .ok (.string T) w ∧ (T.toList == [48, 48, 74]) = false) := by
  have hcn := hB.2.1
  rw [hl] at hcn
  have hcv : ∀ j, j ≤ n + 1 → (convert 49 9 (.slice (some ⟨g, j, none⟩) (n + 1 - j) (cp - j))).run Tryd.prog w = .ok (.string ⟨((l.drop j).take (n + 1 - j)).toArray⟩) w := fun j hj =>
    hB.conv (P := Tryd.prog) 49 9 j (n + 1 - j) (cp - j) (by rw [hl]; omega) Tryd.underlying49 Tryd.underlying5 Tryd.underlying9
  by_cases h3 : n < 2
  · left
    refine ⟨_, rfl, ?_⟩
    clear hcv hE hB hl
    unfold wrap64; omega
  · right
    obtain ⟨j, rfl⟩ : ∃ j, n = j + 2 := ⟨n - 2, by omega⟩
    refine ⟨j, _, ?_, by omega, by omega, by omega, hcv j (by omega), strn_ne ?_⟩
    · clear hcv hE hB hl
      unfold wrap64; omega
    · intro q
      apply hE
      refine ⟨by rw [hl]; omega, ?_⟩
      have q' : ((l.drop j).take (j + 2 + 1 - j)) = [48, 48, 74] := by simpa using q
      rw [List.take_of_length_le (by rw [List.length_drop, hl]; exact Nat.le_refl _)] at q'
      rw [hl, show j + 2 + 1 - 3 = j by omega]
      exact q'
set_option maxRecDepth 100000 in
set_option maxHeartbeats 1600000 in
theorem hear_good (r l : List UInt8) (w : World) (hr : r.length ≤ 4294967296) (hl : l.length ≤ 4294967296) (h1 : okL ltr l = true) (h2 : okL ltr r = true) :
    Calls Tryd.prog 20 #[.agg #[.string (bt r)], .string (bt l)] w fun e w' => ∃ A c, e = .returned (.tuple #[.agg #[.string (bt (hearP r l).1)], .slice A (hearP r l).2.length c, .int .i64 0]) ∧
      Kt.Sl w' w.heap.size 68 2 (.slice A (hearP r l).2.length c) (hearP r l).2.length (hcells (hearP r l).2) ∧ Below w.heap.size w w' := by
  have HT1 := Lib.hid (fun W => trim3 l W (by omega))
  have HT2 := Lib.hid (fun W => trim3 r W (by omega))
  rw [h1] at HT1
  rw [h2] at HT2
  have hrs := bt_size r
  have hrl := bt_list r
  have hsz := bt_size l
  have hsl := bt_list l
  obtain ⟨R, hR⟩ : ∃ x, bt r = x := ⟨_, rfl⟩
  obtain ⟨S, hS⟩ : ∃ x, bt l = x := ⟨_, rfl⟩
  have hL3 : bt ltr = ⟨#[74, 75, 48]⟩ := rfl
  rw [hS, hL3] at HT1
  rw [hR, hL3] at HT2
  rw [hR, hS]
  rw [hR] at hrs hrl
  rw [hS] at hsz hsl
  have HSL := Lib.hid hsl
  have HRL := Lib.hid hrl
  have HLN := Lib.hid (And.intro hr hl)
  clear hR hS hL3 hr hl h1 h2 hsl hrl
  go_enter Tryd.func20, Tryd.ntmps20
  go_wp2_with fail
  refine (HT1.out _).mono ?_; rintro e w1 ⟨x, hx, rfl, hb1⟩
  obtain ⟨q1, q2⟩ := Kt.box2 hb1
  have hgs : w.heap.size + 1 < w1.heap.size := by have := hb1.size; simp [World.size_alloc] at this; omega
  have HB1 := Lib.hid (Kt.balloc (Kt.balloc (Below.refl w.heap.size w) (.cells #[.string R] 63)) (.cells #[.string ⟨#[]⟩] 63))
  have HB2 := Lib.hid (Kt.bthen HB1.out hb1)
  have c1 := cell_of_row _ _ 0 _ _ _ q1
  have c2 := cell_of_row _ _ 0 _ _ _ q2
  have z1 := frozen_of_row _ _ 0 _ _ q1
  have z2 := frozen_of_row _ _ 0 _ _ q2
  clear hb1 HT1 HB1
  go_wp2_with fail
  refine (HT2.out _).mono ?_; rintro e w3 ⟨y, hy, rfl, hb3⟩
  have p1 := Kt.row_on hb3 q1
  have p2 := Kt.row_on hb3 q2
  have hgs3 : w.heap.size + 1 < w3.heap.size := Nat.lt_of_lt_of_le hgs hb3.size
  have HB3 := Lib.hid (Kt.bthen HB2.out hb3)
  have d1 := cell_of_row _ _ 0 _ _ _ p1
  have d2 := cell_of_row _ _ 0 _ _ _ p2
  have y1 := frozen_of_row _ _ 0 _ _ p1
  have y2 := frozen_of_row _ _ 0 _ _ p2
  clear q1 q2 hgs hb3 HB2 HT2
  have hcv := run_bytes_of_string (P := Tryd.prog) w3 9 49 5 R Tryd.underlying9 Tryd.underlying49 Tryd.underlying5
  have hcap := grownCap_ge w3 R.size 0 5
  generalize grownCap w3 R.size 0 5 = cap at *
  have HBS := Lib.hid (show Kt.Bs (w3.alloc (.cells (bytesRow R cap) 5 ((bytesRow R cap).size, (bytesRow R cap).size + 1))) w3.heap.size 5 w3.heap.size cap r by
    have := Kt.Bs.of_string w3 w3.heap.size 5 R cap (Nat.le_refl _) hcap
    rw [HRL.out] at this
    exact this)
  have HB4 := Lib.hid (Kt.balloc (Below.refl w3.heap.size w3) (.cells (bytesRow R cap) 5 ((bytesRow R cap).size, (bytesRow R cap).size + 1)))
  clear hcap
  go_wp2_with fail
  clear hcv d1 d2 y1 y2 c1 c2 z1 z2
  have HP := Lib.hid (And.intro p1 (And.intro p2 hgs3))
  clear p1 p2 hgs3 hx hy
  go_loopw [7, 8, 28] (fun vo vr vi wr => ∃ (k n m g cp co : Nat) (A : Option Addr) (rest : List UInt8) (out : List (List UInt8 × Int)), k ≤ l.length ∧ vi = .int .i64 k ∧ vr = .slice (some ⟨g, 0, none⟩) n cp ∧ vo = .slice A m co ∧
    Hid (HInv r l k n m rest out) ∧ Hid (Kt.Bs wr w3.heap.size 5 g cp rest) ∧ Hid (Kt.Sl wr w3.heap.size 68 2 vo m (hcells out)) ∧ Hid (Below w3.heap.size w3 wr)) (fun _ _ vi _ => l.length - (intOf vi).toNat)
  case atStart => exact ⟨0, r.length, 0, w3.heap.size, cap, 0, none, r, [], Nat.zero_le _, rfl, rfl, rfl, Lib.hid ⟨rfl, rfl, rfl, by omega, by omega⟩, Lib.hid HBS.out, Lib.hid (Kt.Sl.nil _ _ _ _), Lib.hid HB4.out.drew⟩
  case round =>
    clear HBS HB4
    obtain ⟨k, n, m, g, cp, co, A, rest, out, hk, rfl, rfl, rfl, HI, HBS, HSL2, HB4⟩ := hrel
    by_cases hlt : k < l.length
    · obtain ⟨b, hb⟩ : ∃ b, S[k]'(by rw [hsz]; exact hlt) = b := ⟨_, rfl⟩
      have hlk : Hid (l[k] = b) := Lib.hid (by
        have := HSL.out
        subst this
        exact hb)
      have HST : Hid (hearP r (l.take (k + 1)) = hearS (rest, out) b) := Lib.hid ((hear_step hlt HI.out.is).trans (by rw [hlk.out]))
      have hkS : k < S.size := by rw [hsz]; exact hlt
      by_cases hA : b = 74 ∧ rest = []
      · have e1 : ((b.toNat : Int) == 74) = true := by rw [hA.1]; rfl
        have e2 : n = 0 := by rw [← HI.out.hn, hA.2]; rfl
        have hS2 : Hid (hearS (rest, out) b = (rest, out)) := Lib.hid (by unfold hearS; rw [if_pos hA])
        clear hA hlk
        subst e2
        go_wp2_with fail
        have hll := HLN.out.2
        have hwk : wrap64 ((k : Int) + 1) = ((k + 1 : Nat) : Int) := by unfold wrap64; omega
        rw [hwk]
        refine ⟨⟨k + 1, 0, m, g, cp, co, A, rest, out, hlt, rfl, rfl, rfl, Lib.hid ⟨HST.out.trans hS2.out, HI.out.hn, HI.out.hm, by have := HI.out.ln; omega, by have := HI.out.lm; omega⟩, HBS, HSL2, HB4⟩, ?_⟩
        simp [intOf]; omega
      · have HN : Hid (¬ (b = 74 ∧ rest = [])) := Lib.hid hA
        have hcase : ((b.toNat : Int) == 74) = false ∨ (((b.toNat : Int) == 74) = true ∧ ((n : Int) == 0) = false) := by
          by_cases q : b = 74
          · right
            refine ⟨by rw [q]; rfl, ?_⟩
            rw [beq_eq_false_iff_ne]
            intro h
            apply hA
            refine ⟨q, List.eq_nil_of_length_eq_zero ?_⟩
            rw [HI.out.hn]; omega
          · left
            rw [beq_eq_false_iff_ne]
            intro h
            exact q (UInt8.toNat_inj.1 (by show b.toNat = 74; omega))
        clear hA hlk
        rcases hcase with e1 | ⟨e1, e2⟩
        all_goals (
          go_upto_region 10 with (refine Kt.append_bs _ (by rfl) (.tmp 40) (.tmp 44) 49 rfl w3.heap.size 5 1 info_byte Tryd.underlying49 g cp n rest rfl (HBS.out.alloc _) HI.out.hn.symm ⟨wr.heap.size, 0, none⟩ 1 1 b rfl rfl (cell_new wr b _) (by have := HI.out.ln; have := HLN.out; unfold maxLen; omega) (by have := HI.out.ln; have := HLN.out; omega) (by have := HB4.out.size; rw [World.size_alloc]; omega) ?_; intro g2 cp2 w4 hb4 hB4 hs4 hk4)
          have hs4 : wr.heap.size + 1 ≤ w4.heap.size := by have := hB4.size; rw [World.size_alloc] at this; exact this
          have HB5 := Lib.hid ((Kt.balloc HB4.out (.cells #[.int .u8 (b.toNat : Int)] 5)).trans hB4)
          have HBS5 := Lib.hid hb4
          have HSL5 := Lib.hid ((HSL2.out.alloc (.cells #[.int .u8 (b.toNat : Int)] 5)).keep (fun q hq => hk4 q (by rw [World.size_alloc]; exact Nat.lt_succ_of_lt (HSL2.out.lt q hq).2) (bs_ne HBS.out HSL2.out (by decide) q hq)))
          have HL5 : Hid ((rest ++ [b]).length = n + 1) := Lib.hid (by rw [List.length_append, HI.out.hn]; rfl)
          clear hB4 hb4 hk4 hs4 HBS HSL2 HB4
          have hLb : n ≤ 4294967296 + 4294967296 := by have := HI.out.ln; have := HLN.out; omega
          have hkb := HLN.out.2
          have HC2 := Lib.hid HBS5.out.2.1
          by_cases hE : 3 ≤ (rest ++ [b]).length ∧ (rest ++ [b]).drop ((rest ++ [b]).length - 3) = endL
          · obtain ⟨j, rfl⟩ : ∃ j, n = j + 2 := ⟨n - 2, by have := hE.1; rw [HL5.out] at this; omega⟩
            have hz : wrap64 ((j : Int) + 2 + 1 - 3) = (j : Int) := by unfold wrap64; omega
            have hcv := HBS5.out.conv (P := Tryd.prog) 49 9 j (j + 2 + 1 - j) (cp2 - j) (by rw [HL5.out]; omega) Tryd.underlying49 Tryd.underlying5 Tryd.underlying9
            have hT : ((rest ++ [b]).drop j).take (j + 2 + 1 - j) = endL := by
              have := hE.2
              rw [HL5.out, show j + 2 + 1 - 3 = j by omega] at this
              rw [this, show j + 2 + 1 - j = 3 by omega]; rfl
            have hnc : ¬ cp2 = j := by have := HC2.out; rw [HL5.out] at this; omega
            have hjc : j ≤ cp2 := by have := HC2.out; rw [HL5.out] at this; omega
            rw [hT] at hcv
            have hcv2 := HBS5.out.conv (P := Tryd.prog) 49 9 0 j cp2 (by rw [HL5.out]; omega) Tryd.underlying49 Tryd.underlying5 Tryd.underlying9
            rw [List.drop_zero] at hcv2
            have HS2 : Hid (hearS (rest, out) b = ([], out ++ [pieceP ((rest ++ [b]).take j)])) := Lib.hid (by
              unfold hearS
              dsimp only
              rw [if_neg HN.out, if_pos hE, HL5.out, show j + 2 + 1 - 3 = j by omega])
            have HPC := Lib.hid (piece_calls ((rest ++ [b]).take j) w4 (by rw [List.length_take]; omega))
            generalize ((rest ++ [b]).take j) = T at *
            have hTe : (⟨endL.toArray⟩ : ByteArray) = ⟨#[48, 48, 74]⟩ := rfl
            have hTb : (⟨T.toArray⟩ : ByteArray) = bt T := rfl
            rw [hTe] at hcv
            rw [hTb] at hcv2
            have hmL : m ≤ 4294967296 := by have := HI.out.lm; have := HLN.out; omega
            have hkk := HI.out.lm
            obtain ⟨X, E, hXE⟩ : ∃ X E, pieceP T = (X, E) := ⟨_, _, rfl⟩
            rw [hXE] at HPC HS2
            dsimp only at HPC
            have HMK := Lib.hid (And.intro hmL (And.intro hkk hkb))
            clear hT hTe hTb hE hLb hkb hXE hmL hkk
            go_wp2_with fail
            refine HPC.out.mono ?_; rintro e w5 ⟨rfl, hb5⟩
            have HB6 := Lib.hid (Kt.bthen HB5.out hb5)
            have HBS6 := Lib.hid (HBS5.out.on hb5)
            have HSL6 := Lib.hid (HSL5.out.on hb5)
            clear hb5 HPC HB5 HBS5 HSL5
            go_wp2_with (refine Kt.append_sl _ (by rfl) (.tmp 67) (.tmp 71) 64 rfl w3.heap.size 68 (.agg #[.string ByteArray.empty, .int .i64 0]) 2 24 hear_info Tryd.underlying64 rfl (by decide) _ _ _ rfl (HSL6.out.alloc _) ⟨w5.heap.size, 0, none⟩ 1 1 [.string (bt X), .int .i64 E] rfl rfl (Kt.new_cells w5 #[.string (bt X), .int .i64 E] _) (by simp [Value.oneCell']) (by have := HMK.out.1; unfold maxLen; omega) (by have := HMK.out.1; omega) (by have := HB6.out.size; rw [World.size_alloc]; omega) ?_; intro A2 c2 w6 hs6 hb6 hz6 hk6 hl6)
            have HB7 : Hid (Below w3.heap.size w3 w6) := Lib.hid ((Kt.balloc HB6.out (.cells #[.string (bt X), .int .i64 E] 68)).trans hb6)
            have HBS7 : Hid (Kt.Bs w6 w3.heap.size 5 g2 cp2 (rest ++ [b])) := Lib.hid ((HBS6.out.alloc (.cells #[.string (bt X), .int .i64 E] 68)).keep (hk6 g2 (by have := HBS6.out.lt; rw [World.size_alloc]; omega) (fun q => bs_ne HBS6.out HSL6.out (by decide) g2 q rfl)))
            have hll := HLN.out.2
            have hwk : wrap64 ((k : Int) + 1) = ((k + 1 : Nat) : Int) := by unfold wrap64; omega
            rw [hwk]
            refine ⟨⟨k + 1, 0, m + 1, g2, cp2, c2, A2, [], out ++ [(X, E)], hlt, rfl, rfl, rfl, Lib.hid ⟨HST.out.trans HS2.out, rfl, by rw [List.length_append, HI.out.hm]; rfl, Nat.zero_le _, Nat.succ_le_succ HI.out.lm⟩, Lib.hid HBS7.out.empty, Lib.hid (by rw [hcells_app]; exact hs6), HB7⟩, ?_⟩
            exact meas hlt
          · have hcond := no_end HBS5.out HL5.out (by have := HI.out.ln; have := HLN.out; omega) hE
            have HE := Lib.hid hE
            have HMB := Lib.hid (And.intro hLb hkb)
            clear hE hLb hkb
            rcases hcond with ⟨z, hz, hz0⟩ | ⟨j, T, hz, j1, j2, j3, hcv, e3⟩
            all_goals (go_upto_region 15 with fail)
            all_goals (
              by_cases hL : 1000 < n + 1
              · have hL1 : (1000 : Int) < (n : Int) + 1 := by omega
                have HS2 : Hid (hearS (rest, out) b = ([], out ++ [([], 2)])) := Lib.hid (by
                  unfold hearS
                  dsimp only
                  rw [if_neg HN.out, if_neg HE.out, if_pos (by rw [HL5.out]; exact hL)])
                have HMK : Hid (m ≤ 4294967296) := Lib.hid (Nat.le_trans (Nat.le_trans HI.out.lm (Nat.le_of_lt hlt)) HLN.out.2)
                clear hz hL
                go_wp2_with (refine Kt.append_sl _ (by rfl) (.tmp 79) (.tmp 81) 64 rfl w3.heap.size 68 (.agg #[.string ByteArray.empty, .int .i64 0]) 2 24 hear_info Tryd.underlying64 rfl (by decide) _ _ _ rfl (HSL5.out.alloc _) ⟨w4.heap.size, 0, none⟩ 1 1 [.string ByteArray.empty, .int .i64 2] rfl rfl (Kt.new_cells w4 #[.string ByteArray.empty, .int .i64 2] _) (by simp [Value.oneCell']) (by have := HMK.out; unfold maxLen; omega) (by have := HMK.out; omega) (by have := HB5.out.size; rw [World.size_alloc]; omega) ?_; intro A2 c2 w6 hs6 hb6 hz6 hk6 hl6)
                have HB7 : Hid (Below w3.heap.size w3 w6) := Lib.hid ((Kt.balloc HB5.out (.cells #[.string ByteArray.empty, .int .i64 2] 68)).trans hb6)
                have HBS7 : Hid (Kt.Bs w6 w3.heap.size 5 g2 cp2 (rest ++ [b])) := Lib.hid ((HBS5.out.alloc (.cells #[.string ByteArray.empty, .int .i64 2] 68)).keep (hk6 g2 (by have := HBS5.out.lt; rw [World.size_alloc]; omega) (fun q => bs_ne HBS5.out HSL5.out (by decide) g2 q rfl)))
                have hwk := wrap_k (Nat.le_trans (Nat.le_of_lt hlt) HLN.out.2)
                rw [hwk]
                refine ⟨⟨k + 1, 0, m + 1, g2, cp2, c2, A2, [], out ++ [([], 2)], hlt, rfl, rfl, rfl, Lib.hid ⟨HST.out.trans HS2.out, rfl, by rw [List.length_append, HI.out.hm]; rfl, Nat.zero_le _, Nat.succ_le_succ HI.out.lm⟩, Lib.hid HBS7.out.empty, Lib.hid (by rw [hcells_app]; exact hs6), HB7⟩, ?_⟩
                exact meas hlt
              · have hL1 : ¬ (1000 : Int) < (n : Int) + 1 := by omega
                have HS2 : Hid (hearS (rest, out) b = (rest ++ [b], out)) := Lib.hid (by
                  unfold hearS
                  dsimp only
                  rw [if_neg HN.out, if_neg HE.out, if_neg (by rw [HL5.out]; exact hL)])
                clear hz hL
                go_wp2_with fail
                have hwk := wrap_k (Nat.le_trans (Nat.le_of_lt hlt) HLN.out.2)
                rw [hwk]
                refine ⟨⟨k + 1, n + 1, m, g2, cp2, co, A, rest ++ [b], out, hlt, rfl, rfl, rfl, Lib.hid ⟨HST.out.trans HS2.out, HL5.out, HI.out.hm, Nat.succ_le_succ HI.out.ln, Nat.le_succ_of_le HI.out.lm⟩, HBS5, HSL5, HB5⟩, ?_⟩
                exact meas hlt))
    · obtain rfl : k = l.length := by omega
      have hcv := HBS.out.conv (P := Tryd.prog) 49 9 0 n cp (by rw [HI.out.hn]; omega) Tryd.underlying49 Tryd.underlying5 Tryd.underlying9
      rw [List.drop_zero, List.take_of_length_le (by rw [HI.out.hn]; exact Nat.le_refl _)] at hcv
      have p2 := (HB4.out.block (w.heap.size + 1) HP.out.2.2).trans HP.out.2.1
      have hgs := Nat.lt_of_lt_of_le HP.out.2.2 HB4.out.size
      have c2 := cell_of_row _ _ 0 _ _ _ p2
      have z2 := frozen_of_row _ _ 0 _ _ p2
      go_wp2_with fail
      have hW := ld_ear (heap_setCell_same wr (w.heap.size + 1) 0 _ _ (.string ⟨rest.toArray⟩) p2)
      refine bodyPost_ret (v := .tuple #[.agg #[.string ⟨rest.toArray⟩], .slice A m co, .int .i64 0]) (by simp [results, Tryd.results20, asAddr, hW]) rfl ?_
      obtain ⟨i1, i2, i3, _, _⟩ := HI.out
      rw [List.take_length] at i1
      rw [i1]
      subst i3
      exact ⟨A, co, rfl, (HSL2.out.low (p := ⟨w.heap.size + 1, 0, none⟩) HP.out.2.2 _).mono (Nat.le_of_lt (Nat.lt_of_succ_lt HP.out.2.2)), Kt.bset (Kt.bthen HB3.out HB4.out) (by simp) _⟩
end Go.Proofs.YtmnmlnnhngnfbaaDoor
