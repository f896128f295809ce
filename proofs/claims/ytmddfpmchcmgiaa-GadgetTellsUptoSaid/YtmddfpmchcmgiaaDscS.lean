/- desc.Split: plainly, and walked. -/
import Derived.Test.YtmddfpmchcmgiaaGen
import Derived.Lib.IndexBytes
namespace Go.Proofs.Ytmddfpmchcmgiaa
open Go.RowKit
def cat (l : List ByteArray) : List UInt8 := (l.map (·.data.toList)).flatten
theorem cat_snoc (l : List ByteArray) (x : ByteArray) : cat (l ++ [x]) = cat l ++ x.data.toList := by simp [cat]
/-- the pieces of a text, or what is wrong with it -/
def sp : Nat → List UInt8 → Int × List (List UInt8)
  | 0, _ => (0, [])
  | _ + 1, [] => (0, [])
  | f + 1, b :: l => if b.toNat < 2 then (4, []) else if (b :: l).length < b.toNat then (3, []) else
    if (sp f ((b :: l).drop b.toNat)).1 = 0 then (0, (b :: l).take b.toNat :: (sp f ((b :: l).drop b.toNat)).2) else ((sp f ((b :: l).drop b.toNat)).1, [])
def after (o : List (List UInt8)) (r : Int × List (List UInt8)) : Int × List (List UInt8) := if r.1 = 0 then (0, o ++ r.2) else (r.1, [])
def spl (l : List UInt8) : Int × List (List UInt8) := if 512 < l.length then (2, []) else sp (l.length + 1) l
theorem sp_more : ∀ (f g : Nat) (l : List UInt8), l.length < f → l.length < g → sp f l = sp g l
  | f + 1, g + 1, [], _, _ => rfl
  | f + 1, g + 1, b :: l, hf, hg => by
    unfold sp
    split
    · rfl
    split
    · rfl
    · rename_i h1 h2
      have hd : ((b :: l).drop b.toNat).length < f ∧ ((b :: l).drop b.toNat).length < g := by
        simp only [List.length_drop, List.length_cons] at *; omega
      rw [sp_more f g _ hd.1 hd.2]
theorem sp_bad : ∀ (f : Nat) (l : List UInt8), (sp f l).1 ≠ 0 → (sp f l).2 = []
  | 0, _, h => absurd rfl h
  | f + 1, [], h => absurd rfl h
  | f + 1, b :: l, h => by
    unfold sp at h ⊢
    split
    · rfl
    rename_i h1
    rw [if_neg h1] at h
    split
    · rfl
    rename_i h2
    rw [if_neg h2] at h
    split
    · rename_i h3
      rw [if_pos h3] at h
      exact absurd rfl h
    · rfl
theorem sp_ok : ∀ (f : Nat) (l : List UInt8), l.length < f → (sp f l).1 = 0 → (sp f l).2.flatten = l ∧ ∀ x ∈ (sp f l).2, 2 ≤ x.length ∧ ∃ h : 0 < x.length, (x[0]'h).toNat = x.length
  | f + 1, [], _, _ => ⟨rfl, fun x hx => (by cases hx)⟩
  | f + 1, b :: l, hf, h => by
    unfold sp at h ⊢
    split
    · rename_i h1
      rw [if_pos h1] at h
      exact absurd h (by decide)
    rename_i h1
    rw [if_neg h1] at h
    split
    · rename_i h2
      rw [if_pos h2] at h
      exact absurd h (by decide)
    rename_i h2
    rw [if_neg h2] at h
    split
    · rename_i h3
      obtain ⟨e1, e2⟩ := sp_ok f ((b :: l).drop b.toNat) (by simp only [List.length_drop, List.length_cons] at *; omega) h3
      refine ⟨?_, ?_⟩
      · show ((b :: l).take b.toNat :: (sp f ((b :: l).drop b.toNat)).2).flatten = b :: l
        rw [List.flatten_cons, e1, List.take_append_drop]
      · intro x hx
        rcases List.mem_cons.1 hx with rfl | hx
        · have hl : ((b :: l).take b.toNat).length = b.toNat := by rw [List.length_take]; omega
          refine ⟨by omega, by omega, ?_⟩
          rw [List.getElem_take]
          exact hl.symm
        · exact e2 x hx
    · rename_i h3
      rw [if_neg h3] at h
      exact absurd h h3
theorem sp_low {f : Nat} {b : UInt8} {l : List UInt8} (h : b.toNat < 2) : sp (f + 1) (b :: l) = (4, []) := if_pos h
theorem sp_short {f : Nat} {b : UInt8} {l : List UInt8} (h : ¬ b.toNat < 2) (h2 : (b :: l).length < b.toNat) : sp (f + 1) (b :: l) = (3, []) := by
  show (if b.toNat < 2 then _ else _) = _
  rw [if_neg h, if_pos h2]
theorem sp_next {f : Nat} {b : UInt8} {l : List UInt8} (o : List (List UInt8)) (h : ¬ b.toNat < 2) (h2 : ¬ (b :: l).length < b.toNat) : after o (sp (f + 1) (b :: l)) = after (o ++ [(b :: l).take b.toNat]) (sp f ((b :: l).drop b.toNat)) := by
  have e : sp (f + 1) (b :: l) = if (sp f ((b :: l).drop b.toNat)).1 = 0 then (0, (b :: l).take b.toNat :: (sp f ((b :: l).drop b.toNat)).2) else ((sp f ((b :: l).drop b.toNat)).1, []) := by
    show (if b.toNat < 2 then _ else _) = _
    rw [if_neg h, if_neg h2]
  rw [e]
  unfold after
  by_cases h3 : (sp f ((b :: l).drop b.toNat)).1 = 0
  · rw [if_pos h3, if_pos rfl, if_pos h3, List.append_assoc]; rfl
  · rw [if_neg h3, if_neg h3, if_neg h3]
theorem take_str (r : ByteArray) (n : Nat) : (r.extract 0 n).data.toList = r.data.toList.take n := by
  rw [ByteArray.data_extract]
  simp
theorem drop_str (r : ByteArray) (n : Nat) : (r.extract n r.size).data.toList = r.data.toList.drop n := by
  rw [ByteArray.data_extract]
  simp only [Array.toList_extract, List.extract_eq_take_drop]
  rw [List.take_of_length_le]
  rw [List.length_drop, Array.length_toList]
  exact Nat.le_refl _
/-- what Split leaves -/
def Split (B : Nat) (L : List UInt8) (e : Ending) (w' : World) : Prop := ∃ (V : Value) (c : Int) (l : List ByteArray), e = .returned (.tuple #[V, .int .i64 c]) ∧ spl L = (c, l.map (·.data.toList)) ∧ Kt.Sl w' B 9 1 V l.length (sts l) ∧ l.length ≤ 512
def sizeOf' : Value → Nat
  | .string s => s.size
  | _ => 0
set_option maxHeartbeats 1600000 in
theorem split_calls (s : ByteArray) (w : World) : Calls Try.prog 16 #[.string s] w fun e w' => Split w.heap.size s.data.toList e w' ∧ Below w.heap.size w w' := by
  have hl : s.data.toList.length = s.size := by simp
  by_cases hL : 512 < s.size
  · have hi : (512 : Int) < s.size := by omega
    have HS : Hid (spl s.data.toList = (2, [])) := Lib.hid (if_pos (by omega))
    clear hL hl
    go_enter Try.func16, Try.ntmps16
    go_wp2_with fail
    go_ret2
    exact ⟨⟨_, _, [], rfl, HS.out, Kt.Sl.nil _ _ _ _, Nat.zero_le _⟩, Below.refl _ _⟩
  · have hi : (s.size : Int) ≤ 512 := by omega
    obtain ⟨L, hLL⟩ : ∃ L, s.data.toList = L := ⟨_, rfl⟩
    have HS : Hid (spl L = after [] (sp (s.size + 1) s.data.toList)) := Lib.hid (by
      rw [← hLL]
      unfold spl after
      rw [if_neg (by omega), hl, List.nil_append]
      by_cases h : (sp (s.size + 1) s.data.toList).1 = 0
      · rw [if_pos h]; exact Prod.ext h rfl
      · rw [if_neg h]; exact Prod.ext rfl (sp_bad _ _ h))
    rw [hLL]
    clear hLL hl hL
    go_enter Try.func16, Try.ntmps16
    go_wp2_with fail
    go_loopw [0, 4] (fun cur V wr => ∃ (t : ByteArray) (out : List ByteArray), cur = .string t ∧ Kt.Sl wr w.heap.size 9 1 V out.length (sts out) ∧ Hid (spl L = after (out.map (·.data.toList)) (sp (t.size + 1) t.data.toList)) ∧ Below w.heap.size w wr ∧ out.length + t.size ≤ 512) (fun cur _ _ => sizeOf' cur)
    case atStart => exact ⟨s, [], rfl, Kt.Sl.nil _ _ _ _, HS, Below.refl _ _, by simp only [List.length_nil]; omega⟩
    case round =>
      clear HS hi
      obtain ⟨t, out, rfl, hsl, HS, hbel, hsz⟩ := hrel
      have htl : t.data.toList.length = t.size := by simp
      cases htd : t.data.toList with
      | nil =>
        have e0 : (!t.toList.isEmpty) = false := by rw [Lib.toList_data, htd]; rfl
        rw [htd] at HS
        clear htl htd
        go_wp2_with fail
        go_ret2
        exact ⟨⟨u4, 0, out, rfl, by rw [HS.out]; simp [after, sp], hsl, by omega⟩, hbel⟩
      | cons b l =>
        have e0 : (!t.toList.isEmpty) = true := by rw [Lib.toList_data, htd]; rfl
        have h0 : 0 < t.size := by rw [← htl, htd]; exact Nat.succ_pos _
        have hb0 : t[0] = b := by
          show t.data[0] = b
          have h1 : t.data.toList[0]? = some b := by rw [htd]; rfl
          rw [Array.getElem?_toList] at h1
          exact (Array.getElem?_eq_some_iff.1 h1).2
        have HTD := Lib.hid htd
        have HTL := Lib.hid htl
        rw [htd] at HS
        clear htd htl
        have ew : wrap64 (b.toNat : Int) = (b.toNat : Int) := by have := b.toNat_lt; unfold wrap64; omega
        by_cases h2 : b.toNat < 2
        · have d2 : (b.toNat : Int) < 2 := by omega
          have HS2 : Hid (spl L = (4, [])) := Lib.hid (by rw [HS.out, sp_low h2]; rfl)
          clear h2
          go_wp2_with fail
          go_ret2
          exact ⟨⟨_, _, [], rfl, HS2.out, Kt.Sl.nil _ _ _ _, Nat.zero_le _⟩, hbel⟩
        · have d2 : 2 ≤ (b.toNat : Int) := by omega
          by_cases h3 : t.size < b.toNat
          · have d3 : (t.size : Int) < b.toNat := by omega
            have HS2 : Hid (spl L = (3, [])) := Lib.hid (by rw [HS.out, sp_short h2 (by rw [← HTD.out, HTL.out]; exact h3)]; rfl)
            clear h2 h3
            go_wp2_with fail
            go_ret2
            exact ⟨⟨_, _, [], rfl, HS2.out, Kt.Sl.nil _ _ _ _, Nat.zero_le _⟩, hbel⟩
          · have d3 : (b.toNat : Int) ≤ t.size := by omega
            have hle : b.toNat ≤ t.size := by omega
            have HS2 : Hid (spl L = after ((out ++ [t.extract 0 b.toNat]).map (·.data.toList)) (sp ((t.extract b.toNat t.size).size + 1) (t.extract b.toNat t.size).data.toList)) := Lib.hid (by
              rw [HS.out, sp_next _ h2 (by rw [← HTD.out, HTL.out]; exact h3), List.map_append, List.map_singleton, take_str, drop_str, HTD.out]
              congr 1
              have hsz2 : (t.extract b.toNat t.size).size = t.size - b.toNat := by simp
              refine sp_more _ _ _ ?_ ?_
              · rw [← HTD.out, List.length_drop, HTL.out]; omega
              · rw [← HTD.out, List.length_drop, HTL.out, hsz2]; omega)
            have hsz2 : (t.extract b.toNat t.size).size = t.size - b.toNat := by simp
            have HSZ2 := Lib.hid hsz2
            clear hsz2 h2 h3 HS
            go_wp2_with (
              refine Kt.append_sl _ (by rfl) (.tmp 22) (.tmp 26) 29 rfl w.heap.size 9 (.string ByteArray.empty) 1 16 infoS Try.underlying29 rfl (by decide) _ _ _ rfl (hsl.alloc _) ⟨wr.heap.size, 0, none⟩ 1 1 [.string (t.extract 0 b.toNat)] rfl rfl (Kt.new_cells wr #[.string (t.extract 0 b.toNat)] _) (by simp [Value.oneCell']) (by unfold maxLen; omega) (by omega) (by rw [World.size_alloc]; have := hbel.size; omega) ?_
              intro A' c' w1 hs1 hb1 _ _ _)
            go_roundw
            case rel =>
              refine ⟨t.extract b.toNat t.size, out ++ [t.extract 0 b.toNat], rfl, ?_, HS2, (hbel.alloc hbel.size _).trans hb1, by have := HSZ2.out; rw [List.length_append, List.length_singleton]; omega⟩
              simp only [sts, List.map_append, List.map_cons, List.map_nil, List.length_append, List.length_cons, List.length_nil] at hs1 ⊢
              exact hs1
            case measure =>
              have := HSZ2.out
              simp only [sizeOf']
              omega
theorem spl_ok (s : ByteArray) (c : Int) (l : List ByteArray) (h : spl s.data.toList = (c, l.map (·.data.toList))) :
    (c ≠ 0 → l = []) ∧ (c = 0 → cat l = s.data.toList ∧ ∀ x ∈ l, 2 ≤ x.size ∧ ∃ h : 0 < x.size, x[0].toNat = x.size) := by
  unfold spl at h
  split at h
  · have h1 := congrArg Prod.fst h
    have h2 := congrArg Prod.snd h
    dsimp only at h1 h2
    refine ⟨fun _ => List.map_eq_nil_iff.1 h2.symm, fun hc => ?_⟩
    omega
  · have h1 : (sp (s.data.toList.length + 1) s.data.toList).1 = c := by rw [h]
    have h2 : (sp (s.data.toList.length + 1) s.data.toList).2 = l.map (·.data.toList) := by rw [h]
    refine ⟨fun hc => ?_, fun hc => ?_⟩
    · have := sp_bad _ _ (by rw [h1]; exact hc)
      rw [h2] at this
      exact List.map_eq_nil_iff.1 this
    · obtain ⟨e1, e2⟩ := sp_ok (s.data.toList.length + 1) s.data.toList (Nat.lt_succ_self _) (by rw [h1]; exact hc)
      rw [h2] at e1 e2
      refine ⟨e1, fun x hx => ?_⟩
      obtain ⟨a1, a2, a3⟩ := e2 _ (List.mem_map_of_mem hx)
      have hl : x.data.toList.length = x.size := by simp
      refine ⟨by omega, by omega, ?_⟩
      rw [hl] at a3
      exact (show x.data[0].toNat = x.data.toList[0].toNat by simp).trans a3
end Go.Proofs.Ytmddfpmchcmgiaa
