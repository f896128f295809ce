/- The walks of package utf: Narrow. -/
import Derived.Test.YtmddfpmchcmgiaaNarP
import Derived.Test.YtmddfpmchcmgiaaUtfW
import Derived.Laws.Cover4
import Derived.Deep.QuietTactic
import Derived.BigQuiet
namespace Go.Proofs.Ytmddfpmchcmgiaa
open Go.RowKit Go.Proofs.Ytmddfpmchcmgiaa.Utf
theorem infoR : (Try.prog.info? 21).map (fun i => (i.zero, i.size, i.bytes)) = some (some (.int .i32 0), 1, 4) := by kernel_rfl
def rcs (l : List Nat) : List Value := l.map fun (r : Nat) => Value.int .i32 (r : Int)
theorem rcs_app (a b : List Nat) : rcs (a ++ b) = rcs a ++ rcs b := by simp [rcs]
theorem rcs_len (a : List Nat) : (rcs a).length = a.length := by simp [rcs]
/-- the unit at i, none behind the end -/
def unitAt (s : ByteArray) (i : Nat) : Nat := if h : i + 1 < s.size then (s[i]'(by omega)).toNat + 256 * (s[i + 1]'h).toNat else 0
theorem or_bytes (x y : Nat) (hx : x < 256) (hy : y < 256) : bits .or .i32 (x : Int) ((y : Int) * 256) = (x : Int) + 256 * y := by
  show IntKind.i32.wrap ((BitVec.ofInt 32 (x : Int) ||| BitVec.ofInt 32 ((y : Int) * 256)).toNat : Int) = _
  have e : ((y : Int) * 256) = ((y * 256 : Nat) : Int) := by omega
  rw [e, BitVec.toNat_or, BitVec.ofInt_natCast, BitVec.ofInt_natCast, BitVec.toNat_ofNat, BitVec.toNat_ofNat, Nat.mod_eq_of_lt (by omega), Nat.mod_eq_of_lt (by omega)]
  have h2 : x ||| y * 256 = y * 256 + x := by
    have := Nat.shiftLeft_add_eq_or_of_lt (show x < 2 ^ 8 by omega) y
    rw [Nat.shiftLeft_eq, show (2 : Nat) ^ 8 = 256 from rfl] at this
    rw [Nat.or_comm]; omega
  rw [h2, IntKind.wrap_i32]
  omega
set_option maxRecDepth 100000 in
theorem unit_none (s : ByteArray) (i : Int) (b : Nat) (w : World) (_hs : s.size ≤ 252) (hc : w.cell? ⟨b, 0, none⟩ = some (.string s)) (h0 : 0 ≤ i) (h1 : i ≤ 1000) (hi : (s.size : Int) ≤ i + 1) :
    Calls Try.prog 67 #[.int .i64 i, .pointer (some ⟨b, 0, none⟩)] w fun e w' => e = .returned (.int .i32 0) ∧ w = w' := by
  go_enter Try.func67, Try.ntmps67
  go_wp2
  go_ret
  exact ⟨rfl, rfl⟩
set_option maxRecDepth 100000 in
theorem unit_some (s : ByteArray) (i : Nat) (b : Nat) (w : World) (hs : s.size ≤ 252) (hc : w.cell? ⟨b, 0, none⟩ = some (.string s)) (hi : i + 1 < s.size) :
    Calls Try.prog 67 #[.int .i64 i, .pointer (some ⟨b, 0, none⟩)] w fun e w' => e = .returned (.int .i32 (unitAt s i)) ∧ Below w.heap.size w w' := by
  have hi2 : ((i : Int) + 1) < s.size := by omega
  have e : ((unitAt s i : Nat) : Int) = ((s[i]'(by omega)).toNat : Int) + 256 * ((s[i + 1]'hi).toNat : Int) := by unfold unitAt; rw [dif_pos hi]; omega
  rw [e]
  have ho := or_bytes (s[i]'(by omega)).toNat (s[i + 1]'hi).toNat (UInt8.toNat_lt _) (UInt8.toNat_lt _)
  have h1 := UInt8.toNat_lt (s[i]'(by omega))
  have h2 := UInt8.toNat_lt (s[i + 1]'hi)
  go_enter Try.func67, Try.ntmps67
  go_wp2
  have hb1 : (0 : Int) ≤ i := by omega
  have hb2 : (i : Int) < s.size := by omega
  have hb3 : (0 : Int) ≤ (i : Int) + 1 := by omega
  have hw : IntKind.i64.wrap ((i : Int) + 1) = (i : Int) + 1 := IntWalk.i64_in _ (by omega)
  have ht : ((i : Int) + 1).toNat = i + 1 := by omega
  have ht2 : ((i : Int)).toNat = i := by omega
  go_quiet (fail)
  go_wp2
  go_ret
  have h := Below.refl w.heap.size w
  exact ⟨rfl, h.os, h.tape, h.output, h.size, h.block⟩
theorem unitsOf_at : ∀ (l : List UInt8) (k : Nat) (h : k < (unitsOf l).length), ∃ (h1 : 2 * k + 1 < l.length), (unitsOf l)[k] = (l[2 * k]'(by omega)).toNat + 256 * (l[2 * k + 1]'h1).toNat
  | [], k, h => by simp [unitsOf] at h
  | [_], k, h => by simp [unitsOf] at h
  | a :: b :: r, 0, h => ⟨by simp, rfl⟩
  | a :: b :: r, k + 1, h => by
    obtain ⟨h1, h2⟩ := unitsOf_at r k (by simpa [unitsOf] using h)
    refine ⟨by simp; omega, ?_⟩
    simp only [unitsOf, List.getElem_cons_succ]
    rw [h2]
    rfl
theorem unitAt_get (s : ByteArray) (k : Nat) (h : k < (unitsOf s.data.toList).length) : unitAt s (2 * k) = (unitsOf s.data.toList)[k] := by
  obtain ⟨h1, h2⟩ := unitsOf_at _ k h
  rw [h2]
  have hs : 2 * k + 1 < s.size := by simpa using h1
  unfold unitAt
  rw [dif_pos hs]
  rfl
theorem enc_eqN (r : Nat) (h : scalar r) : (Utf8.encode (r : Int)).data.toList = Go.Lib.encodeRune (r : Int) := by
  unfold scalar at h
  have hv : Utf8.valid (r : Int) = true := by simp only [Utf8.valid, Bool.or_eq_true, Bool.and_eq_true, decide_eq_true_eq]; omega
  unfold Utf8.encode Go.Lib.encodeRune
  simp only [hv, if_true, Int.toNat_natCast]
  by_cases c1 : r ≤ 127
  · rw [Go.Lib.encodeRuneZ_one (by omega) (by omega), if_pos (by omega)]; rfl
  by_cases c2 : r ≤ 2047
  · rw [Go.Lib.encodeRuneZ_two (by omega) (by omega), if_neg (by omega), if_pos (by omega)]
    simp only [List.map_cons, List.map_nil, Nat.toUInt8]
    congr 3 <;> omega
  by_cases c3 : r ≤ 65535
  · rw [Go.Lib.encodeRuneZ_three (by omega), if_neg (by omega), if_neg (by omega), if_pos (by omega)]
    simp only [List.map_cons, List.map_nil, Nat.toUInt8]
    congr 4 <;> omega
  · rw [Go.Lib.encodeRuneZ_four (by omega) (by omega), if_neg (by omega), if_neg (by omega), if_neg (by omega)]
    simp only [List.map_cons, List.map_nil, Nat.toUInt8]
    congr 5 <;> omega
/-- string(out) -/
theorem conv_runes (w : World) (B : Nat) (v : Value) (n : Nat) (l : List Nat) (h : Kt.Sl w B 21 1 v n (rcs l)) (hl : ∀ r ∈ l, scalar r) : (convert 117 9 v).run Try.prog w = .ok (.string ⟨(enc l).toArray⟩) w := by
  have hn := h.1
  rw [rcs_len] at hn
  have hb : ∀ (l : List Nat) (s : ByteArray), (∀ r ∈ l, scalar r) → ((l.map fun (r : Nat) => (r : Int)).foldl (fun r n => r ++ Utf8.encode n) s).data.toList = s.data.toList ++ enc l := by
    intro l
    induction l with
    | nil => intro s _; simp [enc]
    | cons r l ih =>
      intro s hs
      simp only [List.map_cons, List.foldl_cons]
      rw [ih _ (fun x hx => hs x (by simp [hx])), Kt.str_app, enc_eqN r (hs r (by simp)), enc_cons, List.append_assoc]
  have hbytes : runesBytes (l.map fun (r : Nat) => (r : Int)) = ⟨(enc l).toArray⟩ := by
    apply Kt.bytes_eq
    unfold runesBytes
    rw [hb l ByteArray.empty hl]
    rfl
  rcases h.2 with ⟨rfl, rfl⟩ | ⟨g, o, cap, cur, rfl, hb, hg, hnc, hc, hs, hx⟩
  · have : l = [] := List.eq_nil_of_length_eq_zero (by omega)
    subst this
    rw [run_convert_runes_nil w _ _ _ 0 0 Try.underlying117 Try.underlying21 Try.underlying9]
    rfl
  · rw [run_convert_runes w _ _ _ ⟨g, o, none⟩ n cap (l.map fun (r : Nat) => (r : Int)) (by simp; omega) Try.underlying117 Try.underlying21 Try.underlying9 (fun j hj => by
      rw [Addr.add_lit, cell_of_row w g (o + j) cur _ _ hg]
      have hj2 : j < l.length := by simpa using hj
      rw [hx j (.int .i32 (l[j] : Int)) (by simp [rcs, hj2])]
      simp [List.getD, hj2]), List.take_of_length_le (by simp; omega), hbytes]
set_option maxRecDepth 100000 in
theorem narrow_odd (s : ByteArray) (w : World) (h : ((s.size : Int) % 2 != 0) = true) : Calls Try.prog 56 #[.string s] w fun e w' => e = .returned (.tuple #[.string ⟨#[]⟩, .int .i64 4]) ∧ Below w.heap.size w w' := by
  go_enter Try.func56, Try.ntmps56
  go_wp2
  go_ret2
  exact ⟨rfl, Kt.balloc (Below.refl _ w) _⟩
set_option maxRecDepth 100000 in
theorem narrow_large (s : ByteArray) (w : World) (h : ((s.size : Int) % 2 != 0) = false) (h2 : (252 : Int) < s.size) : Calls Try.prog 56 #[.string s] w fun e w' => e = .returned (.tuple #[.string ⟨#[]⟩, .int .i64 2]) ∧ Below w.heap.size w w' := by
  go_enter Try.func56, Try.ntmps56
  go_wp2
  go_ret2
  exact ⟨rfl, Kt.balloc (Below.refl _ w) _⟩
set_option maxRecDepth 100000 in
set_option maxHeartbeats 1600000 in
theorem narrow_ok (s : ByteArray) (w : World) (n : Nat) (hn : s.size = 2 * n) (h2 : n ≤ 126) : Calls Try.prog 56 #[.string s] w fun e w' => e = .returned (.tuple #[.string ⟨(enc (nar (unitsOf s.data.toList))).toArray⟩, .int .i64 0]) ∧ Below w.heap.size w w' := by
  have hz1 : ((s.size : Int) % 2 != 0) = false := by simp; omega
  have hz2 : (s.size : Int) ≤ 252 := by omega
  have HSC := Lib.hid (nar_scalar (unitsOf s.data.toList) (unitsOf_le _))
  have HLEN := Lib.hid (show (unitsOf s.data.toList).length = n by rw [unitsOf_len]; simp; omega)
  have HLE := Lib.hid (unitsOf_le s.data.toList)
  have HAT := Lib.hid (unitAt_get s)
  generalize unitsOf s.data.toList = U at *
  have HN := Lib.hid hn
  clear hn
  go_enter Try.func56, Try.ntmps56
  go_wp2_with fail
  go_loopw [5, 6] (fun out i wr => ∃ (k : Nat) (done : List Nat), k ≤ n ∧ i = .int .i64 (2 * (k : Int)) ∧ wr.heap[w.heap.size]? = some (.cells #[.string s] 9 (0, 0)) ∧ Kt.Sl wr (w.heap.size + 1) 21 1 out done.length (rcs done) ∧ done.length ≤ k ∧ Hid (done ++ nar (U.drop k) = nar U) ∧ Below w.heap.size w wr) (fun _ i _ => 252 - (intOf i).toNat)
  case atStart => exact ⟨0, [], Nat.zero_le _, rfl, heap_alloc_new w _, Kt.Sl.nil _ _ _ _, by simp, Lib.hid rfl, Kt.balloc (Below.refl _ w) _⟩
  case round =>
    obtain ⟨k, done, hk, rfl, hrow, hs, hdk, HD, hbel⟩ := hrel
    have hc : wr.cell? ⟨w.heap.size, 0, none⟩ = some (.string s) := (cell_of_row wr w.heap.size 0 _ _ _ hrow).trans rfl
    have hsz : w.heap.size < wr.heap.size := (Array.getElem?_eq_some_iff.1 hrow).1
    have hns1 : (s.size : Int) ≤ 2 * n := by have := HN.out; omega
    have hns2 : 2 * (n : Int) ≤ s.size := by have := HN.out; omega
    by_cases hlt : k < n
    · have hltz : 2 * (k : Int) < s.size := by omega
      have e2 : ((2 * k : Nat) : Int) = 2 * (k : Int) := by omega
      have hU := unit_some s (2 * k) w.heap.size wr (by omega) hc (by have := HN.out; omega)
      rw [e2] at hU
      have hlU : k < U.length := by rw [HLEN.out]; exact hlt
      rw [HAT.out k hlU] at hU
      have ha := HLE.out U[k] (List.getElem_mem hlU)
      have HDR := Lib.hid (show U.drop k = U[k] :: U.drop (k + 1) from (List.getElem_cons_drop hlU).symm)
      generalize U[k] = a at *
      obtain ⟨za, hza⟩ : ∃ z : Int, z = a := ⟨_, rfl⟩
      rw [← hza] at hU
      have za0 : 0 ≤ za := by omega
      have za1 : za ≤ 65535 := by omega
      have HZA := Lib.hid hza; clear hza ha e2
      have HU1 := Lib.hid hU; clear hU
      go_wp2_with fail
      refine HU1.out.mono ?_
      rintro en w1 ⟨rfl, hb1⟩
      have hrow1 : w1.heap[w.heap.size]? = _ := (hb1.block _ hsz).trans hrow
      have hc1 : w1.cell? ⟨w.heap.size, 0, none⟩ = some (.string s) := (cell_of_row w1 w.heap.size 0 _ _ _ hrow1).trans rfl
      have hs1 := hs.on hb1
      have hbel1 := Kt.bthen hbel hb1
      have hsz1 : w.heap.size < w1.heap.size := by have := hb1.size; omega
      clear hc hrow hs hb1 hbel
      by_cases hlt2 : k + 1 < n
      · have hb2z : 2 * (k : Int) + 2 < s.size := by omega
        have e2 : ((2 * (k + 1) : Nat) : Int) = 2 * (k : Int) + 2 := by omega
        have hU := unit_some s (2 * (k + 1)) w.heap.size w1 (by omega) hc1 (by have := HN.out; omega)
        rw [e2] at hU
        have hlU2 : k + 1 < U.length := by rw [HLEN.out]; exact hlt2
        rw [HAT.out (k + 1) hlU2] at hU
        have hb := HLE.out U[k + 1] (List.getElem_mem hlU2)
        have HDR2 := Lib.hid (show U.drop (k + 1) = U[k + 1] :: U.drop (k + 2) from (List.getElem_cons_drop hlU2).symm)
        generalize U[k + 1] = b at *
        obtain ⟨zb, hzb⟩ : ∃ z : Int, z = b := ⟨_, rfl⟩
        rw [← hzb] at hU
        have zb0 : 0 ≤ zb := by omega
        have zb1 : zb ≤ 65535 := by omega
        have HZB := Lib.hid hzb; clear hzb hb e2
        have HU2 := Lib.hid hU; clear hU
        go_wp2_with fail
        refine HU2.out.mono ?_
        rintro en w2 ⟨rfl, hb2⟩
        have hrow2 : w2.heap[w.heap.size]? = _ := (hb2.block _ hsz1).trans hrow1
        have hc2 : w2.cell? ⟨w.heap.size, 0, none⟩ = some (.string s) := (cell_of_row w2 w.heap.size 0 _ _ _ hrow2).trans rfl
        have hs2 := hs1.on hb2
        have hbel2 := Kt.bthen hbel1 hb2
        have hsz2 : w.heap.size < w2.heap.size := by have := hb2.size; omega
        clear hc1 hrow1 hs1 hb2 hbel1
        by_cases hp : (55296 ≤ za ∧ za ≤ 56319) ∧ 56320 ≤ zb ∧ zb ≤ 57343
        · obtain ⟨⟨hp1, hp2⟩, hp3, hp4⟩ := hp
          have HDN : Hid ((done ++ [pairR a b]) ++ nar (U.drop (k + 2)) = nar U) := Lib.hid (by
            have h1 := HZA.out; have h2 := HZB.out
            rw [← HD.out, HDR.out, HDR2.out, nar_pair _ (by rw [Bool.and_eq_true, hi_iff, lo_iff]; omega)]; simp)
          go_wp2_with (
            refine Kt.append_sl _ (by rfl) (.tmp 51) (.tmp 59) 117 rfl (w.heap.size + 1) 21 (.int .i32 0) 1 4 infoR Try.underlying117 rfl (by decide) _ _ _ rfl (hs2.alloc _) ⟨w2.heap.size, 0, none⟩ 1 1 [.int .i32 (65536 + (za - 55296) * 1024 + (zb - 56320))] rfl rfl (Kt.new_cells w2 #[.int .i32 (65536 + (za - 55296) * 1024 + (zb - 56320))] _) (by simp [Value.oneCell']) (by unfold maxLen; omega) (by omega) (by rw [World.size_alloc]; omega) ?_
            intro A' c' w3 hs3 hb3 hz3 _ _)
          go_roundw
          case rel =>
            have hrow3 : w3.heap[w.heap.size]? = _ := (hb3.block _ (by omega)).trans ((Below.heap_alloc w2 _ _ hsz2).trans hrow2)
            refine ⟨k + 2, done ++ [pairR a b], by omega, by go_num, hrow3, ?_, by simp; omega, HDN, (Kt.balloc hbel2 _).trans (hb3.mono (by omega))⟩
            rw [rcs_app, List.length_append]
            have e : Value.int .i32 (65536 + (za - 55296) * 1024 + (zb - 56320)) = .int .i32 ((pairR a b : Nat) : Int) := by
              have := HZA.out
              have := HZB.out
              rw [pairR_def]; congr 1; omega
            rw [e] at hs3
            exact hs3
          case measure => (simp [intOf] <;> omega)
        · have HDN : Hid ((done ++ [loneU a]) ++ nar (U.drop (k + 1)) = nar U) := Lib.hid (by
            have h1 := HZA.out; have h2 := HZB.out
            rw [← HD.out, HDR.out, HDR2.out, nar_lone _ (by
              rw [← Bool.not_eq_true, Bool.and_eq_true, hi_iff, lo_iff]; omega)]; simp)
          by_cases hza : 55296 ≤ za ∧ za ≤ 56319
          · obtain ⟨ha1, ha2⟩ := hza
            have hq2 : za ≤ 57343 := by omega
            by_cases hb1 : 56320 ≤ zb
            · have hb2 : 57343 < zb := by omega
              clear hp
              go_wp2_with (
                refine Kt.append_sl _ (by rfl) (.tmp 70) (.tmp 71) 117 rfl (w.heap.size + 1) 21 (.int .i32 0) 1 4 infoR Try.underlying117 rfl (by decide) _ _ _ rfl (hs2.alloc _) ⟨w2.heap.size, 0, none⟩ 1 1 [.int .i32 65533] rfl rfl (Kt.new_cells w2 #[.int .i32 65533] _) (by simp [Value.oneCell']) (by unfold maxLen; omega) (by omega) (by rw [World.size_alloc]; omega) ?_
                intro A' c' w3 hs3 hb3 hz3 _ _)
              go_roundw
              case rel =>
                have hrow3 : w3.heap[w.heap.size]? = _ := (hb3.block _ (by omega)).trans ((Below.heap_alloc w2 _ _ hsz2).trans hrow2)
                refine ⟨k + 1, done ++ [loneU a], by omega, by go_num, hrow3, ?_, by simp; omega, HDN, (Kt.balloc hbel2 _).trans (hb3.mono (by omega))⟩
                rw [rcs_app, List.length_append]
                have e : Value.int .i32 65533 = .int .i32 ((loneU a : Nat) : Int) := by
                  have := HZA.out
                  unfold loneU; rw [if_pos (by omega)]; rfl
                rw [e] at hs3
                exact hs3
              case measure => (simp [intOf] <;> omega)
            · have hb2 : zb < 56320 := by omega
              clear hp hb1
              go_wp2_with (
                refine Kt.append_sl _ (by rfl) (.tmp 70) (.tmp 71) 117 rfl (w.heap.size + 1) 21 (.int .i32 0) 1 4 infoR Try.underlying117 rfl (by decide) _ _ _ rfl (hs2.alloc _) ⟨w2.heap.size, 0, none⟩ 1 1 [.int .i32 65533] rfl rfl (Kt.new_cells w2 #[.int .i32 65533] _) (by simp [Value.oneCell']) (by unfold maxLen; omega) (by omega) (by rw [World.size_alloc]; omega) ?_
                intro A' c' w3 hs3 hb3 hz3 _ _)
              go_roundw
              case rel =>
                have hrow3 : w3.heap[w.heap.size]? = _ := (hb3.block _ (by omega)).trans ((Below.heap_alloc w2 _ _ hsz2).trans hrow2)
                refine ⟨k + 1, done ++ [loneU a], by omega, by go_num, hrow3, ?_, by simp; omega, HDN, (Kt.balloc hbel2 _).trans (hb3.mono (by omega))⟩
                rw [rcs_app, List.length_append]
                have e : Value.int .i32 65533 = .int .i32 ((loneU a : Nat) : Int) := by
                  have := HZA.out
                  unfold loneU; rw [if_pos (by omega)]; rfl
                rw [e] at hs3
                exact hs3
              case measure => (simp [intOf] <;> omega)
          · by_cases hq : 56320 ≤ za ∧ za ≤ 57343
            · obtain ⟨hq1, hq2⟩ := hq
              have hq3 : 55296 ≤ za := by omega
              have hq4 : 56319 < za := by omega
              clear hp hza
              go_wp2_with (
                refine Kt.append_sl _ (by rfl) (.tmp 70) (.tmp 71) 117 rfl (w.heap.size + 1) 21 (.int .i32 0) 1 4 infoR Try.underlying117 rfl (by decide) _ _ _ rfl (hs2.alloc _) ⟨w2.heap.size, 0, none⟩ 1 1 [.int .i32 65533] rfl rfl (Kt.new_cells w2 #[.int .i32 65533] _) (by simp [Value.oneCell']) (by unfold maxLen; omega) (by omega) (by rw [World.size_alloc]; omega) ?_
                intro A' c' w3 hs3 hb3 hz3 _ _)
              go_roundw
              case rel =>
                have hrow3 : w3.heap[w.heap.size]? = _ := (hb3.block _ (by omega)).trans ((Below.heap_alloc w2 _ _ hsz2).trans hrow2)
                refine ⟨k + 1, done ++ [loneU a], by omega, by go_num, hrow3, ?_, by simp; omega, HDN, (Kt.balloc hbel2 _).trans (hb3.mono (by omega))⟩
                rw [rcs_app, List.length_append]
                have e : Value.int .i32 65533 = .int .i32 ((loneU a : Nat) : Int) := by
                  have := HZA.out
                  unfold loneU; rw [if_pos (by omega)]; rfl
                rw [e] at hs3
                exact hs3
              case measure => (simp [intOf] <;> omega)
            · by_cases hq1 : 55296 ≤ za
              · have hq2 : 57343 < za := by omega
                have hq3 : 56319 < za := by omega
                clear hp hza hq
                go_wp2_with (
                  refine Kt.append_sl _ (by rfl) (.tmp 32) (.tmp 34) 117 rfl (w.heap.size + 1) 21 (.int .i32 0) 1 4 infoR Try.underlying117 rfl (by decide) _ _ _ rfl (hs2.alloc _) ⟨w2.heap.size, 0, none⟩ 1 1 [.int .i32 za] rfl rfl (Kt.new_cells w2 #[.int .i32 za] _) (by simp [Value.oneCell']) (by unfold maxLen; omega) (by omega) (by rw [World.size_alloc]; omega) ?_
                  intro A' c' w3 hs3 hb3 hz3 _ _)
                go_roundw
                case rel =>
                  have hrow3 : w3.heap[w.heap.size]? = _ := (hb3.block _ (by omega)).trans ((Below.heap_alloc w2 _ _ hsz2).trans hrow2)
                  refine ⟨k + 1, done ++ [loneU a], by omega, by go_num, hrow3, ?_, by simp; omega, HDN, (Kt.balloc hbel2 _).trans (hb3.mono (by omega))⟩
                  rw [rcs_app, List.length_append]
                  have e : Value.int .i32 za = .int .i32 ((loneU a : Nat) : Int) := by
                    have := HZA.out
                    unfold loneU; rw [if_neg (by omega)]; congr 1
                  rw [e] at hs3
                  exact hs3
                case measure => (simp [intOf] <;> omega)
              · have hq2 : za < 55296 := by omega
                clear hp hza hq hq1
                go_wp2_with (
                  refine Kt.append_sl _ (by rfl) (.tmp 32) (.tmp 34) 117 rfl (w.heap.size + 1) 21 (.int .i32 0) 1 4 infoR Try.underlying117 rfl (by decide) _ _ _ rfl (hs2.alloc _) ⟨w2.heap.size, 0, none⟩ 1 1 [.int .i32 za] rfl rfl (Kt.new_cells w2 #[.int .i32 za] _) (by simp [Value.oneCell']) (by unfold maxLen; omega) (by omega) (by rw [World.size_alloc]; omega) ?_
                  intro A' c' w3 hs3 hb3 hz3 _ _)
                go_roundw
                case rel =>
                  have hrow3 : w3.heap[w.heap.size]? = _ := (hb3.block _ (by omega)).trans ((Below.heap_alloc w2 _ _ hsz2).trans hrow2)
                  refine ⟨k + 1, done ++ [loneU a], by omega, by go_num, hrow3, ?_, by simp; omega, HDN, (Kt.balloc hbel2 _).trans (hb3.mono (by omega))⟩
                  rw [rcs_app, List.length_append]
                  have e : Value.int .i32 za = .int .i32 ((loneU a : Nat) : Int) := by
                    have := HZA.out
                    unfold loneU; rw [if_neg (by omega)]; congr 1
                  rw [e] at hs3
                  exact hs3
                case measure => (simp [intOf] <;> omega)
      · have hkn : k + 1 = n := by omega
        have hU := unit_none s (2 * (k : Int) + 2) w.heap.size w1 (by omega) hc1 (by omega) (by omega) (by omega)
        have HU2 := Lib.hid hU; clear hU
        have HDN : Hid ((done ++ [loneU a]) ++ nar (U.drop (k + 1)) = nar U) := Lib.hid (by
          rw [← HD.out, HDR.out, List.drop_eq_nil_of_le (by rw [HLEN.out]; omega), nar_one, nar_nil]; simp)
        clear hkn
        go_wp2_with fail
        refine HU2.out.mono ?_
        rintro en w2 ⟨rfl, rfl⟩
        have hrow2 := hrow1
        have hs2 := hs1
        have hbel2 := hbel1
        have hsz2 := hsz1
        clear hc1
        by_cases hza : 55296 ≤ za ∧ za ≤ 56319
        · obtain ⟨ha1, ha2⟩ := hza
          have hq2 : za ≤ 57343 := by omega
          go_wp2_with (
            refine Kt.append_sl _ (by rfl) (.tmp 70) (.tmp 71) 117 rfl (w.heap.size + 1) 21 (.int .i32 0) 1 4 infoR Try.underlying117 rfl (by decide) _ _ _ rfl (hs2.alloc _) ⟨w1.heap.size, 0, none⟩ 1 1 [.int .i32 65533] rfl rfl (Kt.new_cells w1 #[.int .i32 65533] _) (by simp [Value.oneCell']) (by unfold maxLen; omega) (by omega) (by rw [World.size_alloc]; omega) ?_
            intro A' c' w3 hs3 hb3 hz3 _ _)
          go_roundw
          case rel =>
            have hrow3 : w3.heap[w.heap.size]? = _ := (hb3.block _ (by omega)).trans ((Below.heap_alloc w1 _ _ hsz2).trans hrow1)
            refine ⟨k + 1, done ++ [loneU a], by omega, by go_num, hrow3, ?_, by simp; omega, HDN, (Kt.balloc hbel2 _).trans (hb3.mono (by omega))⟩
            rw [rcs_app, List.length_append]
            have e : Value.int .i32 65533 = .int .i32 ((loneU a : Nat) : Int) := by
              have := HZA.out
              unfold loneU; rw [if_pos (by omega)]; rfl
            rw [e] at hs3
            exact hs3
          case measure => (simp [intOf] <;> omega)
        · by_cases hq : 56320 ≤ za ∧ za ≤ 57343
          · obtain ⟨hq1, hq2⟩ := hq
            have hq3 : 55296 ≤ za := by omega
            have hq4 : 56319 < za := by omega
            clear hza
            go_wp2_with (
              refine Kt.append_sl _ (by rfl) (.tmp 70) (.tmp 71) 117 rfl (w.heap.size + 1) 21 (.int .i32 0) 1 4 infoR Try.underlying117 rfl (by decide) _ _ _ rfl (hs2.alloc _) ⟨w1.heap.size, 0, none⟩ 1 1 [.int .i32 65533] rfl rfl (Kt.new_cells w1 #[.int .i32 65533] _) (by simp [Value.oneCell']) (by unfold maxLen; omega) (by omega) (by rw [World.size_alloc]; omega) ?_
              intro A' c' w3 hs3 hb3 hz3 _ _)
            go_roundw
            case rel =>
              have hrow3 : w3.heap[w.heap.size]? = _ := (hb3.block _ (by omega)).trans ((Below.heap_alloc w1 _ _ hsz2).trans hrow1)
              refine ⟨k + 1, done ++ [loneU a], by omega, by go_num, hrow3, ?_, by simp; omega, HDN, (Kt.balloc hbel2 _).trans (hb3.mono (by omega))⟩
              rw [rcs_app, List.length_append]
              have e : Value.int .i32 65533 = .int .i32 ((loneU a : Nat) : Int) := by
                have := HZA.out
                unfold loneU; rw [if_pos (by omega)]; rfl
              rw [e] at hs3
              exact hs3
            case measure => (simp [intOf] <;> omega)
          · by_cases hq1 : 55296 ≤ za
            · have hq2 : 57343 < za := by omega
              have hq3 : 56319 < za := by omega
              clear hza hq
              go_wp2_with (
                refine Kt.append_sl _ (by rfl) (.tmp 32) (.tmp 34) 117 rfl (w.heap.size + 1) 21 (.int .i32 0) 1 4 infoR Try.underlying117 rfl (by decide) _ _ _ rfl (hs2.alloc _) ⟨w1.heap.size, 0, none⟩ 1 1 [.int .i32 za] rfl rfl (Kt.new_cells w1 #[.int .i32 za] _) (by simp [Value.oneCell']) (by unfold maxLen; omega) (by omega) (by rw [World.size_alloc]; omega) ?_
                intro A' c' w3 hs3 hb3 hz3 _ _)
              go_roundw
              case rel =>
                have hrow3 : w3.heap[w.heap.size]? = _ := (hb3.block _ (by omega)).trans ((Below.heap_alloc w1 _ _ hsz2).trans hrow1)
                refine ⟨k + 1, done ++ [loneU a], by omega, by go_num, hrow3, ?_, by simp; omega, HDN, (Kt.balloc hbel2 _).trans (hb3.mono (by omega))⟩
                rw [rcs_app, List.length_append]
                have e : Value.int .i32 za = .int .i32 ((loneU a : Nat) : Int) := by
                  have := HZA.out
                  unfold loneU; rw [if_neg (by omega)]; congr 1
                rw [e] at hs3
                exact hs3
              case measure => (simp [intOf] <;> omega)
            · have hq2 : za < 55296 := by omega
              clear hza hq hq1
              go_wp2_with (
                refine Kt.append_sl _ (by rfl) (.tmp 32) (.tmp 34) 117 rfl (w.heap.size + 1) 21 (.int .i32 0) 1 4 infoR Try.underlying117 rfl (by decide) _ _ _ rfl (hs2.alloc _) ⟨w1.heap.size, 0, none⟩ 1 1 [.int .i32 za] rfl rfl (Kt.new_cells w1 #[.int .i32 za] _) (by simp [Value.oneCell']) (by unfold maxLen; omega) (by omega) (by rw [World.size_alloc]; omega) ?_
                intro A' c' w3 hs3 hb3 hz3 _ _)
              go_roundw
              case rel =>
                have hrow3 : w3.heap[w.heap.size]? = _ := (hb3.block _ (by omega)).trans ((Below.heap_alloc w1 _ _ hsz2).trans hrow1)
                refine ⟨k + 1, done ++ [loneU a], by omega, by go_num, hrow3, ?_, by simp; omega, HDN, (Kt.balloc hbel2 _).trans (hb3.mono (by omega))⟩
                rw [rcs_app, List.length_append]
                have e : Value.int .i32 za = .int .i32 ((loneU a : Nat) : Int) := by
                  have := HZA.out
                  unfold loneU; rw [if_neg (by omega)]; congr 1
                rw [e] at hs3
                exact hs3
              case measure => (simp [intOf] <;> omega)
    · obtain rfl : k = n := by omega
      have HDE : Hid (done = nar U) := Lib.hid (by have := HD.out; rw [List.drop_eq_nil_of_le (by rw [HLEN.out]; exact Nat.le_refl _), nar_nil, List.append_nil] at this; exact this)
      have hcv := conv_runes wr _ _ _ done hs (by rw [HDE.out]; exact HSC.out)
      have e9 : (enc done) = enc (nar U) := by rw [HDE.out]
      rw [e9] at hcv
      clear e9
      obtain ⟨A, c, rfl, hAc, hcm⟩ := hs.form
      go_wp2_with fail
      go_ret2
      exact ⟨rfl, hbel⟩
end Go.Proofs.Ytmddfpmchcmgiaa
