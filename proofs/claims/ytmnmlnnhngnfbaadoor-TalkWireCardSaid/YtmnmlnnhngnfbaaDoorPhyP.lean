/- Packets on the wire, plainly. -/
import Derived.Test.YtmnmlnnhngnfbaaDoorLanP
namespace Go.Proofs.YtmnmlnnhngnfbaaDoor.Phy
open Go.Proofs.YtmnmlnnhngnfbaaDoor.Lan
def pat : List UInt8 := [48, 48, 48, 48, 48, 48, 48, 49]
def endL : List UInt8 := [48, 48, 74]
/-- the levels of a text, without the end -/
def levs (s : List UInt8) : List UInt8 := turn 74 (stuff 0 (pat ++ bitsL s))
def sendP (s : List UInt8) : List UInt8 × Int := if s = [] then ([], 3) else if 80 < s.length then ([], 2) else (levs s ++ endL, 0)
/-- why a row was not unstuffed -/
def unsE : Nat → List UInt8 → Int
  | _, [] => 3
  | n, b :: l => if n = 6 then (if b = 49 then 6 else unsE 0 l) else unsE (nxt n b) l
theorem unsE_ne : ∀ (l : List UInt8) (n : Nat), unsE n l ≠ 0
  | [], _ => by unfold unsE; decide
  | b :: l, n => by
    unfold unsE
    split
    · split
      · decide
      · exact unsE_ne l 0
    · exact unsE_ne l _
/-- what Piece does behind the levels' row -/
def rowP (row : List UInt8) : List UInt8 × Int :=
  if pat <+: row then
    (match unstuff 0 row with
    | none => ([], unsE 0 row)
    | some m => if (m.drop 8).length % 8 = 0 then (if m.drop 8 = [] then ([], 3) else if 80 < (bytesL (m.drop 8)).length then ([], 2) else (bytesL (m.drop 8), 0)) else ([], 4))
  else ([], 7)
def pieceP (l : List UInt8) : List UInt8 × Int := if okL [74, 75] l = true then rowP (unturn 74 l) else ([], 4)
theorem stuff_pat (l : List UInt8) : stuff 0 (pat ++ l) = pat ++ stuff 1 l := rfl
theorem unstuff_pat (l : List UInt8) : unstuff 0 (pat ++ l) = (unstuff 1 l).map (pat ++ ·) := by
  cases h : unstuff 1 l <;> simp [pat, unstuff, nxt, h]
theorem ok_bit {l : List UInt8} : okL [48, 49] l = true ↔ ∀ b ∈ l, bit b := by
  unfold okL bit
  rw [List.all_eq_true]
  simp
theorem ok_lv {l : List UInt8} : okL [74, 75] l = true ↔ ∀ b ∈ l, isLv b := by
  unfold okL isLv
  rw [List.all_eq_true]
  simp
theorem pat_bit : ∀ b ∈ pat, bit b := ok_bit.1 rfl
theorem unt_bit (v b : UInt8) : bit (unt v b) := by unfold unt bit; split <;> simp
theorem unturn_bit : ∀ (l : List UInt8) (v : UInt8), ∀ b ∈ unturn v l, bit b
  | [], _, b, h => by cases h
  | x :: l, v, b, h => by
    unfold unturn at h
    rcases List.mem_cons.1 h with rfl | h
    · exact unt_bit _ _
    · exact unturn_bit l _ b h
theorem stuff_bit : ∀ (l : List UInt8) (n : Nat), (∀ b ∈ l, bit b) → ∀ b ∈ stuff n l, bit b
  | [], _, _, b, h => by cases h
  | x :: l, n, hl, b, h => by
    have hx := hl x (List.mem_cons_self ..)
    have hr := fun c hc => hl c (List.mem_cons_of_mem _ hc)
    unfold stuff at h
    split at h
    · rcases List.mem_cons.1 h with rfl | h
      · exact hx
      · rcases List.mem_cons.1 h with rfl | h
        · exact .inl rfl
        · exact stuff_bit l 0 hr b h
    · rcases List.mem_cons.1 h with rfl | h
      · exact hx
      · exact stuff_bit l _ hr b h
theorem row_bit (s : List UInt8) : ∀ b ∈ pat ++ bitsL s, bit b := fun b hb => by
  rcases List.mem_append.1 hb with hb | hb
  · exact pat_bit b hb
  · exact bitsL_bit s b hb
/-- what is sent is read as it was -/
theorem piece_send {s : List UInt8} (h0 : s ≠ []) (h80 : s.length ≤ 80) : pieceP (levs s) = (s, 0) := by
  have hlv : isLv 74 := .inl rfl
  unfold pieceP levs
  rw [if_pos (ok_lv.2 (turn_is _ 74 hlv)), unturn_turn _ 74 hlv (stuff_bit _ 0 (row_bit s))]
  unfold rowP
  rw [if_pos (by rw [stuff_pat]; exact List.prefix_append _ _), unstuff_stuff _ 0 (by decide)]
  have hd : (pat ++ bitsL s).drop 8 = bitsL s := rfl
  dsimp only
  rw [hd, if_pos (by rw [bitsL_len]; omega), bytes_bits, if_neg ?_, if_neg (by omega)]
  intro e
  have := congrArg List.length e
  rw [bitsL_len] at this
  cases s with
  | nil => exact h0 rfl
  | cons a r => simp at this
/-- what is read was sent by just these levels -/
theorem send_piece {l a : List UInt8} (h : pieceP l = (a, 0)) : sendP a = (l ++ endL, 0) := by
  unfold pieceP at h
  split at h
  next hok =>
    unfold rowP at h
    split at h
    next hp =>
      obtain ⟨r, hr⟩ := hp
      split at h
      · simp only [Prod.mk.injEq] at h; exact absurd h.2 (unsE_ne _ _)
      next m hm =>
        split at h
        next h8 =>
          split at h
          · cases h
          next hne =>
            split at h
            · cases h
            next h80 =>
              simp only [Prod.mk.injEq, and_true] at h
              subst h
              have hb := unturn_bit l 74
              have hst := stuff_unstuff _ 0 m (by decide) hb hm
              rw [if_neg (by decide)] at hst
              rw [← hr, unstuff_pat] at hm
              obtain ⟨m', hm', rfl⟩ := Option.map_eq_some_iff.1 hm
              have hd : (pat ++ m').drop 8 = m' := rfl
              rw [hd] at h8 hne h80 ⊢
              have hmb : ∀ b ∈ m', bit b := by
                have key : ∀ (l : List UInt8) (n : Nat) (m : List UInt8), (∀ b ∈ l, bit b) → unstuff n l = some m → ∀ b ∈ m, bit b := by
                  intro l
                  induction l with
                  | nil =>
                    intro n m _ hu b hb
                    unfold unstuff at hu
                    split at hu
                    · cases hu
                    · cases hu; cases hb
                  | cons x l ih =>
                    intro n m hl hu b hb
                    have hr := fun c hc => hl c (List.mem_cons_of_mem _ hc)
                    unfold unstuff at hu
                    split at hu
                    · split at hu
                      · cases hu
                      · exact ih 0 m hr hu b hb
                    · obtain ⟨m2, h2, rfl⟩ := Option.map_eq_some_iff.1 hu
                      rcases List.mem_cons.1 hb with rfl | hb
                      · exact hl _ (List.mem_cons_self ..)
                      · exact ih _ m2 hr h2 b hb
                refine key r 1 m' (fun b hb' => hb b ?_) hm'
                rw [← hr]
                exact List.mem_append_right _ hb'
              have hbb := bits_bytes m' h8 hmb
              unfold sendP
              rw [if_neg ?_, if_neg h80]
              · unfold levs
                rw [hbb, hst, turn_unturn l 74 (.inl rfl) (ok_lv.1 hok)]
              · intro e
                rw [e] at hbb
                exact hne hbb.symm
        · cases h
    · cases h
  · cases h
/-- one level more is heard -/
def hearS (st : List UInt8 × List (List UInt8 × Int)) (v : UInt8) : List UInt8 × List (List UInt8 × Int) :=
  if v = 74 ∧ st.1 = [] then st
  else if 3 ≤ (st.1 ++ [v]).length ∧ (st.1 ++ [v]).drop ((st.1 ++ [v]).length - 3) = endL then ([], st.2 ++ [pieceP ((st.1 ++ [v]).take ((st.1 ++ [v]).length - 3))])
  else if 1000 < (st.1 ++ [v]).length then ([], st.2 ++ [([], 2)])
  else (st.1 ++ [v], st.2)
def hearP (rest l : List UInt8) : List UInt8 × List (List UInt8 × Int) := l.foldl hearS (rest, [])
theorem hearS_out (r : List UInt8) (o : List (List UInt8 × Int)) (v : UInt8) : hearS (r, o) v = ((hearS (r, []) v).1, o ++ (hearS (r, []) v).2) := by
  unfold hearS
  dsimp only
  split
  · simp
  split
  · simp
  split
  · simp
  · simp
theorem hear_out : ∀ (l : List UInt8) (r : List UInt8) (o : List (List UInt8 × Int)), l.foldl hearS (r, o) = ((hearP r l).1, o ++ (hearP r l).2)
  | [], r, o => by simp [hearP]
  | v :: l, r, o => by
    have h1 := hear_out l (hearS (r, []) v).1 (o ++ (hearS (r, []) v).2)
    have h2 := hear_out l (hearS (r, []) v).1 (hearS (r, []) v).2
    have e : hearP r (v :: l) = l.foldl hearS ((hearS (r, []) v).1, (hearS (r, []) v).2) := rfl
    rw [List.foldl_cons, hearS_out, h1, e, h2, List.append_assoc]
/-- PhyCuts -/
theorem hear_cut (r a b : List UInt8) : hearP r (a ++ b) = ((hearP (hearP r a).1 b).1, (hearP r a).2 ++ (hearP (hearP r a).1 b).2) := by
  have : hearP r (a ++ b) = b.foldl hearS ((hearP r a).1, (hearP r a).2) := by unfold hearP; rw [List.foldl_append]
  rw [this, hear_out]
end Go.Proofs.YtmnmlnnhngnfbaaDoor.Phy
