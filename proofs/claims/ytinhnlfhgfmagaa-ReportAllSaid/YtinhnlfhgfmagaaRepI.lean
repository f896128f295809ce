/- The walk of report.Items. -/
import Derived.Test.YtinhnlfhgfmagaaRepP
import Derived.Test.YtinhnlfhgfmagaaSlm
namespace Go.Proofs.Ytinhnlfhgfmagaa
open Go.RowKit Go.Proofs.Ytinhnlfhgfmagaa.Rep
/-- items, by their cells -/
def its (l : List (Int × Int)) : List Value := l.flatMap fun x => [.int .i64 x.1, .int .i64 x.2]
theorem its_len (l : List (Int × Int)) : (its l).length = l.length * 2 := by
  induction l with
  | nil => rfl
  | cons x l ih => simp only [its, List.flatMap_cons, List.length_append, List.length_cons, List.length_nil] at ih ⊢; omega
theorem its_snoc (l : List (Int × Int)) (k v : Int) : its (l ++ [(k, v)]) = its l ++ [.int .i64 k, .int .i64 v] := by simp [its]
theorem item_info : (Try.prog.info? 32).map (fun i => (i.zero, i.size, i.bytes)) = some (some (.agg #[.int .i64 0, .int .i64 0]), 2, 16) := by kernel_rfl
/-- what Items tells of a text -/
def ItsR (l : List UInt8) (m : List (Int × Int)) (n : Int) : Prop :=
  (n = 0 ∧ l.length ≤ 512 ∧ Reads l m ∧ m.length ≤ 200) ∨ (n = 2 ∧ m = [] ∧ (512 < l.length ∨ ∀ k, Reads l k → 200 < k.length)) ∨ (n = 3 ∧ m = [] ∧ ∀ k, ¬ Reads l k)
def ItIs (l : List UInt8) (w : World) (e : Ending) (w' : World) : Prop :=
  ∃ m A c n, e = .returned (.tuple #[.slice A m.length c, .int .i64 n]) ∧ Kt.Sl w' w.heap.size 32 2 (.slice A m.length c) m.length (its m) ∧ Below w.heap.size w w' ∧ ItsR l m n
theorem ItIs.none {l : List UInt8} {w w' : World} (n : Int) (hb : Below w.heap.size w w') (h : ItsR l [] n) : ItIs l w (.returned (.tuple #[.slice none 0 0, .int .i64 n])) w' :=
  ⟨[], Option.none, 0, n, rfl, Kt.Sl.nil _ _ _ _, hb, h⟩
def strLen : Value → Nat
  | .string s => s.size
  | _ => 0
structure ItRel (s : ByteArray) (B : Nat) (w : World) (r : ByteArray) (p : List UInt8) (o : List (Int × Int)) (A : Option Addr) (c : Nat) (wr : World) : Prop where
  parts : p ++ r.data.toList = s.data.toList
  reads : Reads p o
  few : o.length ≤ 200
  sl : Kt.Sl wr B 32 2 (.slice A o.length c) o.length (its o)
  bel : Below B w wr
theorem or_nat (x b : Nat) (hb : b < 256) : x * 256 ||| b = b + 256 * x := by
  have h := Nat.two_pow_add_eq_or_of_lt (i := 8) (b := b) hb x
  rw [Nat.mul_comm x 256, Nat.add_comm b]
  exact h.symm
theorem or_low (x b : Nat) (hb : b < 256) (hx : x < 16777216) : bits .or .u64 (IntKind.u64.wrap ((x : Int) * 256)) (b : Int) = ((b + 256 * x : Nat) : Int) := by
  have e1 : IntKind.u64.wrap ((x : Int) * 256) = ((x * 256 : Nat) : Int) := by rw [IntKind.wrap_u64]; omega
  rw [e1, u64_or_nat (x * 256) b (by omega) (by omega), or_nat x b hb]
theorem drop_str (r : ByteArray) (n : Nat) : (r.extract n r.size).data.toList = r.data.toList.drop n := by
  rw [ByteArray.data_extract, Array.toList_extract, List.extract_eq_take_drop]
  exact List.take_of_length_le (by rw [List.length_drop]; exact Nat.le_refl _)
theorem sx (bs : List UInt8) (n : Nat) (h : bs.length = n) (hn : n = 0 ∨ n = 1 ∨ n = 2 ∨ n = 4) : wrap64 (IntKind.u64.wrap ((leN bs : Int) * 2 ^ (64 - 8 * n))) / 2 ^ (64 - 8 * n) = sgn bs := by
  have hl := leN_lt bs
  unfold sgn wrap64
  rw [IntKind.wrap_u64, h]
  rw [h] at hl
  rcases hn with rfl | rfl | rfl | rfl
  · simp at hl; simp [hl]
  all_goals (simp only [show (64 - 8 * 1 : Nat) = 56 from rfl, show (64 - 8 * 2 : Nat) = 48 from rfl, show (64 - 8 * 4 : Nat) = 32 from rfl, Int.reducePow, Nat.reducePow] at *; split <;> omega)
theorem drop_leN (l : List UInt8) (k : Nat) (h : k < l.length) : leN (l.drop k) = l[k].toNat + 256 * leN (l.drop (k + 1)) := by
  rw [← List.getElem_cons_drop h]; rfl
set_option maxRecDepth 100000 in
set_option maxHeartbeats 1600000 in
theorem items_calls (s : ByteArray) (w : World) : Calls Try.prog 15 #[.string s] w (ItIs s.data.toList w) := by
  by_cases hbig : 512 < s.size
  · have e1 : decide ((s.size : Int) > 512) = true := decide_eq_true (by omega)
    have HB : Hid (512 < s.data.toList.length) := Lib.hid (by simpa using hbig)
    clear hbig
    go_enter Try.func15, Try.ntmps15
    go_wp2_with fail
    go_ret2
    exact ItIs.none 2 (Below.refl _ _) (.inr (.inl ⟨rfl, rfl, .inl HB.out⟩))
  have hs : s.size ≤ 512 := by omega
  clear hbig
  have HR : ItRel s w.heap.size w s [] [] none 0 w := ⟨rfl, .nil, Nat.zero_le _, Kt.Sl.nil _ _ _ _, Below.refl _ _⟩
  have HRH := Lib.hid HR
  clear HR
  go_enter Try.func15, Try.ntmps15
  go_wp2_with fail
  go_loopw [0, 4] (fun x y wr => ∃ r p o A c, x = .string r ∧ y = .slice A o.length c ∧ Hid (ItRel s w.heap.size w r p o A c wr)) (fun x _ _ => strLen x)
  case atStart => exact ⟨s, [], [], none, 0, rfl, rfl, HRH⟩
  case round =>
    clear HRH
    obtain ⟨r, p, o, A, c, rfl, rfl, HRH⟩ := hrel
    by_cases hr0 : r.size = 0
    · obtain rfl : r = ⟨#[]⟩ := by
        apply Kt.bytes_eq
        exact List.eq_nil_of_length_eq_zero (by simpa using hr0)
      clear hr0
      have HX : Hid (ItIs s.data.toList w (.returned (.tuple #[.slice A o.length c, .int .i64 0])) wr) := Lib.hid (by
        have h := HRH.out
        have hp := h.parts
        rw [show (⟨#[]⟩ : ByteArray).data.toList = [] from rfl, List.append_nil] at hp
        exact ⟨o, A, c, 0, rfl, h.sl, h.bel, .inl ⟨rfl, by simpa using hs, hp ▸ h.reads, h.few⟩⟩)
      go_wp2_with fail
      go_ret2
      exact HX.out
    · have e1 : (!r.toList.isEmpty) = true := by
        cases he : r.toList with
        | nil => exact absurd (by have h2 := congrArg List.length he; simpa [ByteArray.toList_eq] using h2) hr0
        | cons _ _ => rfl
      have hpos : 0 < r.size := by omega
      clear hr0
      obtain ⟨b, hb⟩ : ∃ b, r[0] = b := ⟨_, rfl⟩
      obtain ⟨n, q, hn, hn4, hq, hq0, hq3, HQ⟩ : ∃ (n : Nat) (q : Int), long b = n ∧ n ≤ 4 ∧ bits .and .u8 (b.toNat : Int) 3 = q ∧ 0 ≤ q ∧ q ≤ 3 ∧ ((q = 3 ∧ n = 4) ∨ (q = n ∧ n ≤ 2)) := by
        have h3 := u8_and_nat b.toNat 3 b.toNat_lt (by omega)
        rw [nat_mask2] at h3
        refine ⟨long b, _, rfl, ?_, h3, by omega, by omega, ?_⟩
        · unfold long; split <;> omega
        · unfold long; split <;> omega
      have HN := Lib.hid hn
      have HCONS : Hid (r.data.toList = b :: r.data.toList.drop 1) := Lib.hid (by
        rw [← hb]
        exact (List.getElem_cons_drop (by rw [Array.length_toList]; exact hpos)).symm)
      have HCAN : Hid (∀ k, Reads s.data.toList k → ∃ k', k = o ++ k' ∧ Reads (b :: r.data.toList.drop 1) k') := Lib.hid (fun k hk => by
        have h := HRH.out
        rw [← h.parts, HCONS.out] at hk
        exact h.reads.cancel hk)
      have HQH := Lib.hid HQ
      have HN4 := Lib.hid hn4
      clear hn HQ hn4
      go_upto_if 19 with (fail)
      go_cut [5] from 14 to 19 (fun v wx => v = .int .i64 n ∧ wx = wr)
      case first =>
        rcases HQH.out with ⟨rfl, rfl⟩ | ⟨rfl, h2⟩
        · clear HQH
          go_wp2_with fail
          go_meet
          exact ⟨rfl, rfl⟩
        · have e2 : ((n : Int) == 3) = false := by simp; omega
          clear HQH
          go_wp2_with fail
          go_meet
          exact ⟨rfl, rfl⟩
      case rest =>
        obtain ⟨rfl, rfl⟩ := hcut
        clear hq hq0 hq3 HQH
        have hn4 := HN4.out
        clear HN4
        by_cases hsh : r.size < n + 1
        · have e2 : decide ((r.size : Int) < (n : Int) + 1) = true := decide_eq_true (by omega)
          have HX : Hid (ItIs s.data.toList w (.returned (.tuple #[.slice none 0 0, .int .i64 3])) wc) := Lib.hid (ItIs.none 3 HRH.out.bel (.inr (.inr ⟨rfl, rfl, fun k hk => by
            obtain ⟨k', _, hk'⟩ := HCAN.out k hk
            exact Reads.no (by rw [HN.out, List.length_drop, Array.length_toList]; show r.size - 1 < n; omega) hk'⟩)))
          clear hsh
          go_wp2_with fail
          go_ret2
          exact HX.out
        have e2 : decide ((r.size : Int) < (n : Int) + 1) = false := decide_eq_false (by omega)
        by_cases hfl : o.length = 200
        · have e3 : ((o.length : Int) == 200) = true := by simp; omega
          have HX : Hid (ItIs s.data.toList w (.returned (.tuple #[.slice none 0 0, .int .i64 2])) wc) := Lib.hid (ItIs.none 2 HRH.out.bel (.inr (.inl ⟨rfl, rfl, .inr fun k hk => by
            obtain ⟨k', rfl, hk'⟩ := HCAN.out k hk
            have := hk'.more
            rw [List.length_append]; omega⟩)))
          clear hfl hsh
          go_wp2_with fail
          go_ret2
          exact HX.out
        have e3 : ((o.length : Int) == 200) = false := by simp; omega
        have HSH : Hid (n + 1 ≤ r.size) := Lib.hid (by omega)
        have HFL : Hid (o.length < 200) := Lib.hid (by have := HRH.out.few; omega)
        obtain ⟨bs, hbs⟩ : ∃ bs, (r.data.toList.drop 1).take n = bs := ⟨_, rfl⟩
        have HBL : Hid (bs.length = n) := Lib.hid (by rw [← hbs, List.length_take, List.length_drop]; simp; omega)
        have HBS := Lib.hid hbs
        clear hbs hfl hsh
        go_wp2_with fail
        go_loop [6, 7] (fun v i => ∃ j : Nat, j ≤ n ∧ i = .int .i64 j ∧ v = .int .u64 (leN (bs.drop j) : Nat)) (fun _ i => (intOf i).toNat)
        case atStart => exact ⟨n, Nat.le_refl _, rfl, by rw [List.drop_eq_nil_of_le (by rw [HBL.out]; exact Nat.le_refl _)]; rfl⟩
        case round =>
          obtain ⟨j, hj, rfl, rfl⟩ := hrel
          by_cases h0 : 0 < j
          · obtain ⟨k, rfl⟩ : ∃ k, j = k + 1 := ⟨j - 1, by omega⟩
            have hidx : k + 1 < r.size := by have := HSH.out; omega
            have hX : leN (bs.drop (k + 1)) < 16777216 := by
              have h1 := leN_lt (bs.drop (k + 1))
              have h2 : (bs.drop (k + 1)).length ≤ 3 := by rw [List.length_drop, HBL.out]; omega
              have h3 := Nat.pow_le_pow_right (show 0 < 256 by omega) h2
              omega
            have HS : Hid (leN (bs.drop k) = r[k + 1].toNat + 256 * leN (bs.drop (k + 1))) := Lib.hid (by
              have hk : k < bs.length := by rw [HBL.out]; omega
              rw [drop_leN bs k hk]
              congr 2
              have := HBS.out
              subst this
              rw [List.getElem_take, List.getElem_drop]
              simp only [Nat.add_comm 1 k]; rfl)
            have FO := or_low (leN (bs.drop (k + 1))) (r[k + 1].toNat) (r[k + 1].toNat_lt) hX
            have hb2 := (r[k + 1]).toNat_lt
            clear hX
            go_wp2_with fail
            go_round
            case rel => exact ⟨k, by omega, rfl, by rw [HS.out]; go_num⟩
            case measure => (simp [intOf] <;> omega)
          · obtain rfl : j = 0 := by omega
            clear h0 hj
            have FK : wrap64 ((b.toNat : Int) / 4) = ((b.toNat / 4 : Nat) : Int) := by
              have := b.toNat_lt
              rw [IntWalk.wrap64_in _ (by omega)]; omega
            have FV := sx bs n HBL.out (by have := long_cases b; rw [HN.out] at this; exact this)
            have h := HRH.out
            have HSL := Lib.hid h.sl
            have HBE := Lib.hid h.bel
            have hof := HFL.out
            have hin : (n : Int) + 1 ≤ r.size := by have := HSH.out; omega
            go_wp2_with
              (refine Kt.append_sl _ (by rfl) (.tmp 44) (.tmp 56) 22 rfl w.heap.size 32 (.agg #[.int .i64 0, .int .i64 0]) 2 16 item_info Try.underlying22 rfl (by decide) _ _ _ rfl (HSL.out.alloc _) ⟨wc.heap.size, 0, none⟩ 1 1 [.int .i64 ((b.toNat / 4 : Nat) : Int), .int .i64 (sgn bs)] rfl rfl (Kt.new_cells wc #[.int .i64 ((b.toNat / 4 : Nat) : Int), .int .i64 (sgn bs)] _) (by simp [Value.oneCell']) (by unfold maxLen; omega) (by omega) (by rw [World.size_alloc]; have := HBE.out.size; omega) ?_
               intro A' c' w' hsl' hb' hz' hk' ho'; clear hk' ho')
            go_roundw
            case rel =>
              refine ⟨_, p ++ b :: bs, o ++ [(((b.toNat / 4 : Nat) : Int), sgn bs)], A', c', rfl, by rw [List.length_append]; rfl, Lib.hid ⟨?_, ?_, ?_, ?_, ?_⟩⟩
              · have hp := h.parts
                rw [← hp, drop_str, List.append_assoc]
                congr 1
                have h1 := HBS.out
                have h2 : r.data.toList = b :: r.data.toList.drop 1 := by
                  rw [← hb]
                  exact (List.getElem_cons_drop (by rw [Array.length_toList]; exact hpos)).symm
                rw [List.cons_append, ← h1, h2]
                simp only [List.drop_succ_cons, List.drop_zero, List.cons.injEq, true_and]
                exact List.take_append_drop _ _
              · exact h.reads.step b bs (by rw [HBL.out, HN.out])
              · rw [List.length_append]; show o.length + 1 ≤ 200; omega
              · rw [its_snoc, List.length_append]; exact hsl'
              · exact (Kt.balloc HBE.out _).trans hb'
            case measure => (simp [strLen]; omega)
end Go.Proofs.Ytinhnlfhgfmagaa
