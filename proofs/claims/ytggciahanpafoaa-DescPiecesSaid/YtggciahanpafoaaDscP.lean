/- The law DescPieces. -/
import Derived.Test.YtggciahanpafoaaDscS
import Derived.Test.YtggciahanpafoaaShelf
import Derived.Test.YtggciahanpafoaaFr
namespace Go.Proofs.Ytggciahanpafoaa
open Go.RowKit
theorem join_cat (l : List ByteArray) : Lib.join (l.map (·.data.toList)) (⟨#[]⟩ : ByteArray).data.toList = cat l := by
  show List.intercalate ([] : List UInt8) (l.map (·.data.toList)) = _
  unfold cat
  generalize l.map (·.data.toList) = m
  induction m with
  | nil => rfl
  | cons x m ih =>
    cases m with
    | nil => simp
    | cons y m => rw [List.intercalate_cons_cons, ih]; simp
theorem join_calls (V : Value) (xs : List ByteArray) (w : World) (h : Kt.Ar w V 1 xs.length (sts xs)) (hn : xs.length ≤ 140737488355328) (hl : (cat xs).length ≤ 140737488355328) : Calls Try.prog 14 #[V, .string ⟨#[]⟩] w fun e w' => e = .returned (.string ⟨(cat xs).toArray⟩) ∧ Below w.heap.size w w' := by
  obtain ⟨A, c, rfl, hc, hx⟩ := h.form
  by_cases h0 : 0 < xs.length
  · obtain ⟨b, o, rfl, hb, hx⟩ := hx h0
    have hj := Try.strings_Join b o c xs ⟨#[]⟩ w (fun j x hj => by
      have hlt : j < xs.length := (List.getElem?_eq_some_iff.1 hj).1
      rw [hx j (by rw [sts_len]; exact hlt)]
      have := (List.getElem?_eq_some_iff.1 hj).2
      simp [sts, this]) hb hn hc (by rw [join_cat]; exact hl)
    rw [join_cat] at hj
    exact hj
  · obtain rfl : xs = [] := List.eq_nil_of_length_eq_zero (by omega)
    exact (Try.strings_Join_none A c ⟨#[]⟩ w).mono fun e w' ⟨h1, h2⟩ => ⟨h1, h2 ▸ Below.refl _ _⟩
theorem spl_le (L : List UInt8) (l : List (List UInt8)) (h : spl L = (0, l)) : L.length ≤ 512 := by
  unfold spl at h
  split at h
  · have h1 : (2 : Int) = 0 := congrArg Prod.fst h
    exact absurd h1 (by decide)
  · omega
set_option maxHeartbeats 1600000 in
theorem pieces_calls (s : ByteArray) (w : World) : Calls Try.prog 4 #[.string s] w fun e w' => e = .returned (.bool true) ∧ Below w.heap.size w w' := by
  have H1 := Lib.hid (split_calls s w)
  have H2 := Lib.hid (fun W : World => split_calls ⟨#[2, 7, 3, 8, 0]⟩ W)
  have HLIT : Hid (spl (⟨#[2, 7, 3, 8, 0]⟩ : ByteArray).data.toList = (0, [[2, 7], [3, 8, 0]])) := Lib.hid (by decide +kernel)
  go_enter Try.func4, Try.ntmps4
  go_wp2_with fail
  refine H1.out.mono ?_
  rintro e w1 ⟨⟨V, c, l, rfl, hsp, hsl, hll⟩, hb⟩
  have HB1 := Lib.hid hb
  have HSP := Lib.hid (spl_ok s c l hsp)
  have HSZ : Hid (c = 0 → s.data.toList.length ≤ 512) := Lib.hid (fun h => spl_le _ _ (h ▸ hsp))
  have HSL := Lib.hid hsl
  have HLL := Lib.hid hll
  clear hb hsp hsl hll H1
  go_wp2_with fail
  refine (H2.out _).mono ?_
  rintro e w2 ⟨⟨V2, c2, l2, rfl, hsp2, hsl2, _⟩, hb⟩
  have HB2 := Lib.hid (Kt.bthen HB1.out hb)
  rw [HLIT.out] at hsp2
  obtain rfl : c2 = 0 := (congrArg Prod.fst hsp2).symm
  have hl2 : l2.length = 2 := by
    have := congrArg (fun q => q.2.length) hsp2
    simpa using this.symm
  have HAR := Lib.hid ((Kt.Ar.of_sl HSL.out).on hb)
  obtain ⟨A2, k2, rfl, _, _⟩ := hsl2.form
  obtain ⟨A, k, rfl, hnk, hx⟩ := HAR.out.form
  rw [hl2] at *
  have HX := Lib.hid hx
  clear hb hsp2 hsl2 hl2 HLIT H2 HSL hx hnk
  by_cases hc : c = 0
  · subst hc
    have HOK := Lib.hid (HSP.out.2 rfl)
    clear HSP
    have hn9 : l.length ≤ 512 := HLL.out
    have hsz := HSZ.out rfl
    have HJ := Lib.hid (join_calls _ l w2 HAR.out (by omega) (by rw [HOK.out.1]; omega))
    rw [HOK.out.1, show (⟨s.data.toList.toArray⟩ : ByteArray) = s by cases s; rfl] at HJ
    clear HSZ hsz HAR
    go_wp2_with fail
    go_loopw [43] (fun i wr => ∃ (j : Nat), j ≤ l.length ∧ i = .int .i64 j ∧ wr = w2) (fun i _ => l.length - (intOf i).toNat)
    case atStart => exact ⟨0, Nat.zero_le _, rfl, rfl⟩
    case round =>
      obtain ⟨j, hj, rfl, rfl⟩ := hrel
      by_cases hlt : j < l.length
      · obtain ⟨b, o, rfl, hb, hc⟩ := HX.out (by omega)
        have x0 := hc j (by rw [sts_len]; exact hlt)
        have hx : (sts l)[j]'(by rw [sts_len]; exact hlt) = .string l[j] := by simp [sts]
        rw [hx] at x0
        obtain ⟨h1, h2, h3⟩ := HOK.out.2 _ (List.getElem_mem hlt)
        generalize l[j] = x at *
        obtain ⟨y, hy⟩ : ∃ y, x[0] = y := ⟨_, rfl⟩
        rw [hy] at h3
        have e1 : (2 : Int) ≤ x.size := by omega
        have e2 : wrap64 (y.toNat : Int) = (y.toNat : Int) := by have := y.toNat_lt; unfold wrap64; omega
        have e3 : ((y.toNat : Int) != x.size) = false := by rw [bne_eq_false_iff_eq]; omega
        clear hc hx h1 h3
        go_wp2_with fail
        go_roundw
        case rel => exact ⟨j + 1, by omega, by go_num, trivial⟩
        case measure => (simp [intOf] <;> omega)
      · obtain rfl : j = l.length := by omega
        go_wp2_with fail
        refine HJ.out.mono ?_
        rintro e w4 ⟨rfl, hb⟩
        have HB4 := Lib.hid (Kt.bthen HB2.out hb)
        clear hb HJ
        go_wp2_with fail
        go_ret
        exact ⟨rfl, HB4.out⟩
  · have hl0 := HSP.out.1 hc
    subst hl0
    have e1 : (c != 0) = true := by rw [bne_iff_ne]; exact hc
    have e2 : (c == 0) = false := by rw [beq_eq_false_iff_ne]; exact hc
    clear hc HSP HX HAR HSZ
    go_wp2_with fail
    go_ret
    exact ⟨rfl, HB2.out⟩
theorem pieces_walk (v0 : Value) (w : World) (r0 : Fr.RdV w reachBytes .string v0) :
    Calls Try.prog 4 #[v0] w fun e w' => e = .returned (.bool true) ∧ Below w.heap.size w w' := by
  obtain ⟨s, hs, _⟩ := r0
  injection hs with hs _
  subst hs
  exact pieces_calls s w
end Go.Proofs.Ytggciahanpafoaa
