/- keys, plainly: the events between two sets. -/
import Derived.Test.YtfcmmeapinppaaaKeyA
import Derived.Test.YtfcmmeapinppaaaCrcP
namespace Go.Proofs.Ytfcmmeapinppaaa
open Go.RowKit
/-- how many below n -/
def cnt (f : Nat → Bool) : Nat → Nat
  | 0 => 0
  | n + 1 => cnt f n + (if f n then 1 else 0)
theorem cnt_congr {f g : Nat → Bool} : ∀ n, (∀ i, i < n → f i = g i) → cnt f n = cnt g n
  | 0, _ => rfl
  | n + 1, h => by
    unfold cnt
    rw [cnt_congr n (fun i hi => h i (by omega)), h n (by omega)]
theorem cnt_add (f : Nat → Bool) (a : Nat) : ∀ b, cnt f (a + b) = cnt f a + cnt (fun i => f (a + i)) b
  | 0 => rfl
  | b + 1 => by
    show cnt f (a + b) + (if f (a + b) then 1 else 0) = cnt f a + (cnt (fun i => f (a + i)) b + (if f (a + b) then 1 else 0))
    rw [cnt_add f a b, Nat.add_assoc]
theorem cnt_head (f : Nat → Bool) (n : Nat) : cnt f (n + 1) = (if f 0 then 1 else 0) + cnt (fun i => f (i + 1)) n := by
  rw [Nat.add_comm n 1, cnt_add f 1 n]
  simp only [cnt, Nat.zero_add]
  congr 2
  funext i
  rw [Nat.add_comm]
theorem pc_cnt : ∀ (k n : Nat), CrcP.pc k n = cnt (fun i => n.testBit i) k
  | 0, _ => rfl
  | k + 1, n => by
    rw [cnt_head]
    show n % 2 + CrcP.pc k (n / 2) = _
    rw [pc_cnt k (n / 2)]
    congr 1
    · rw [Nat.testBit_zero]
      by_cases h : n % 2 = 1
      · simp [h]
      · have : n % 2 = 0 := by omega
        simp [this]
    · congr 1
      funext i
      rw [Nat.testBit_succ]
theorem lack_len (x y : Hd) : ∀ n, n ≤ 256 → (lack y (codesL x n)).length = cnt (fun c => x.has c && !y.has c) n
  | 0, _ => rfl
  | n + 1, hn => by
    have ih := lack_len x y n (by omega)
    rw [codesL_succ _ _ (by omega)]
    unfold cnt
    by_cases hx : x.has n = true
    · rw [if_pos hx, lack_snoc]
      dsimp only
      by_cases hy : y.has n = true
      · rw [if_pos hy, ih, hx, hy]; rfl
      · rw [if_neg hy, List.length_append, ih, hx]
        simp [hy]
    · rw [if_neg hx, ih]
      simp [hx]
/-- the events from one set to another -/
def diffR (x y : Hd) : List (Fin 256 × Bool) := (lack y (codesL x 256)).map (fun c => (c, false)) ++ (lack x (codesL y 256)).map (fun c => (c, true))
theorem evs_kv (d : Bool) (l : List (Fin 256)) : evs d l = kv (l.map (fun c => (c, d))) := by
  simp [evs, kv, List.flatMap_map]
theorem diffR_kv (x y : Hd) : evs false (lack y (codesL x 256)) ++ evs true (lack x (codesL y 256)) = kv (diffR x y) := by
  rw [evs_kv, evs_kv, ← kv_app]; rfl
theorem diffR_len (x y : Hd) : (diffR x y).length = (lack y (codesL x 256)).length + (lack x (codesL y 256)).length := by simp [diffR]
theorem cnt_two (x y : Hd) : ∀ n, cnt (fun c => x.has c && !y.has c) n + cnt (fun c => y.has c && !x.has c) n = cnt (fun c => x.has c != y.has c) n
  | 0 => rfl
  | n + 1 => by
    have ih := cnt_two x y n
    unfold cnt
    cases x.has n <;> cases y.has n <;> simp <;> omega
theorem diff_words (x y : Hd) : (diffR x y).length = CrcP.pc 64 (x.a.toNat ^^^ y.a.toNat) + CrcP.pc 64 (x.b.toNat ^^^ y.b.toNat) + CrcP.pc 64 (x.c.toNat ^^^ y.c.toNat) + CrcP.pc 64 (x.d.toNat ^^^ y.d.toNat) := by
  rw [diffR_len, lack_len x y 256 (by omega), lack_len y x 256 (by omega), cnt_two]
  have e : ∀ q, q < 4 → cnt (fun i => x.has (64 * q + i) != y.has (64 * q + i)) 64 = CrcP.pc 64 ((x.at q).toNat ^^^ (y.at q).toNat) := by
    intro q hq
    rw [pc_cnt]
    refine cnt_congr 64 fun i hi => ?_
    rw [Nat.testBit_xor, Hd.has_bit, Hd.has_bit, show (64 * q + i) / 64 = q by omega, show (64 * q + i) % 64 = i by omega]
  rw [show (256 : Nat) = 64 + (64 + (64 + 64)) from rfl, cnt_add, cnt_add, cnt_add]
  have e0 := e 0 (by omega)
  have e1 := e 1 (by omega)
  have e2 := e 2 (by omega)
  have e3 := e 3 (by omega)
  simp only [Nat.mul_zero, Nat.zero_add, Nat.mul_one] at e0 e1
  rw [e0, e1]
  have e2' : cnt (fun i => x.has (64 + (64 + i)) != y.has (64 + (64 + i))) 64 = CrcP.pc 64 ((x.at 2).toNat ^^^ (y.at 2).toNat) := by
    rw [← e2]; refine cnt_congr 64 fun i _ => ?_; rw [show 64 + (64 + i) = 64 * 2 + i by omega]
  have e3' : cnt (fun i => x.has (64 + (64 + (64 + i))) != y.has (64 + (64 + (64 + i)))) 64 = CrcP.pc 64 ((x.at 3).toNat ^^^ (y.at 3).toNat) := by
    rw [← e3]; refine cnt_congr 64 fun i _ => ?_; rw [show 64 + (64 + (64 + i)) = 64 * 3 + i by omega]
  rw [e2', e3']
  show _ + (_ + (_ + _)) = _
  simp only [Hd.at, Nat.add_assoc]
theorem mem_codes (h : Hd) (c : Fin 256) : ∀ n, n ≤ 256 → (c ∈ codesL h n ↔ c.val < n ∧ h.has c.val = true)
  | 0, _ => by simp [codesL]
  | n + 1, hn => by
    have ih := mem_codes h c n (by omega)
    rw [codesL_succ _ _ (by omega)]
    by_cases hh : h.has n = true
    · rw [if_pos hh, List.mem_append, ih, List.mem_singleton]
      constructor
      · rintro (⟨a, b⟩ | rfl)
        · exact ⟨by omega, b⟩
        · exact ⟨by simp, hh⟩
      · rintro ⟨a, b⟩
        by_cases e : c.val = n
        · exact .inr (Fin.ext e)
        · exact .inl ⟨by omega, b⟩
    · rw [if_neg hh, ih]
      constructor
      · rintro ⟨a, b⟩; exact ⟨by omega, b⟩
      · rintro ⟨a, b⟩
        refine ⟨?_, b⟩
        by_cases e : c.val = n
        · rw [e] at b; exact absurd b hh
        · omega
theorem nodup_codes (h : Hd) : ∀ n, n ≤ 256 → (codesL h n).Nodup
  | 0, _ => List.nodup_nil
  | n + 1, hn => by
    have ih := nodup_codes h n (by omega)
    rw [codesL_succ _ _ (by omega)]
    split
    · rw [List.nodup_append]
      refine ⟨ih, by simp, ?_⟩
      rintro a ha b hb rfl
      rw [List.mem_singleton] at hb
      have := ((mem_codes h a n (by omega)).1 ha).1
      rw [hb] at this
      simp at this
    · exact ih
theorem mem_lack (x y : Hd) (c : Fin 256) : c ∈ lack y (codesL x 256) ↔ x.has c.val = true ∧ y.has c.val = false := by
  unfold lack
  rw [List.mem_filter, mem_codes x c 256 (by omega)]
  have := c.isLt
  simp [this]
theorem mem_diff (x y : Hd) (e : Fin 256 × Bool) : e ∈ diffR x y ↔ x.has e.1.val = !e.2 ∧ y.has e.1.val = e.2 := by
  obtain ⟨c, d⟩ := e
  simp only [diffR, List.mem_append, List.mem_map, mem_lack]
  constructor
  · rintro (⟨a, ⟨h1, h2⟩, h3⟩ | ⟨a, ⟨h1, h2⟩, h3⟩)
    · cases h3; exact ⟨h1, h2⟩
    · cases h3; exact ⟨h2, h1⟩
  · rintro ⟨h1, h2⟩
    cases d with
    | false => exact .inl ⟨c, ⟨h1, h2⟩, rfl⟩
    | true => exact .inr ⟨c, ⟨h2, h1⟩, rfl⟩
theorem nodup_diff (x y : Hd) : ((diffR x y).map (·.1)).Nodup := by
  have e : (diffR x y).map (·.1) = lack y (codesL x 256) ++ lack x (codesL y 256) := by simp [diffR, Function.comp_def]
  rw [e, List.nodup_append]
  refine ⟨(nodup_codes x 256 (by omega)).filter _, (nodup_codes y 256 (by omega)).filter _, ?_⟩
  rintro a ha b hb rfl
  have h1 := (mem_lack x y a).1 ha
  have h2 := (mem_lack y x a).1 hb
  rw [h1.1] at h2
  exact absurd h2.2 (by simp)
theorem appR_run : ∀ (l : List (Fin 256 × Bool)) (h : Hd), (∀ e ∈ l, 4 ≤ e.1.val ∧ h.has e.1.val = !e.2) → (l.map (·.1)).Nodup →
    ∃ g, appR h l = (g, 0) ∧ ∀ d, d < 256 → g.has d = (h.has d != decide (∃ e ∈ l, e.1.val = d))
  | [], h, _, _ => ⟨h, rfl, fun d _ => by simp⟩
  | e :: l, h, hl, hn => by
    obtain ⟨h4, hs⟩ := hl e (by simp)
    rw [List.map_cons, List.nodup_cons] at hn
    have hne : ∀ x ∈ l, x.1.val ≠ e.1.val := fun x hx hv => hn.1 (by
      have : x.1 = e.1 := Fin.ext hv
      rw [← this]
      exact List.mem_map_of_mem hx)
    obtain ⟨g, h1, h2⟩ := appR_run l (h.flip e.1.val) (fun x hx => by
      obtain ⟨a, b⟩ := hl x (by simp [hx])
      refine ⟨a, ?_⟩
      rw [Hd.flip_has _ _ _ e.1.isLt x.1.isLt, b, decide_eq_false (fun q => hne x hx q.symm)]
      cases x.2 <;> rfl) hn.2
    refine ⟨g, ?_, fun d hd => ?_⟩
    · rw [← h1]
      show (if _ then _ else _) = _
      rw [if_neg (by omega), if_neg (by rw [hs]; cases e.2 <;> simp)]
    · rw [h2 d hd, Hd.flip_has _ _ _ e.1.isLt hd]
      by_cases q : e.1.val = d
      · have n1 : ¬ ∃ x ∈ l, x.1.val = d := fun ⟨x, hx, hv⟩ => hne x hx (by omega)
        have n2 : ∃ x ∈ e :: l, x.1.val = d := ⟨e, by simp, q⟩
        rw [decide_eq_true q, decide_eq_false n1, decide_eq_true n2]
        cases h.has d <;> rfl
      · have n1 : (∃ x ∈ e :: l, x.1.val = d) ↔ ∃ x ∈ l, x.1.val = d := by
          constructor
          · rintro ⟨x, hx, hv⟩
            rcases List.mem_cons.1 hx with rfl | hx
            · exact absurd hv q
            · exact ⟨x, hx, hv⟩
          · rintro ⟨x, hx, hv⟩; exact ⟨x, by simp [hx], hv⟩
        rw [decide_eq_false q, decide_eq_decide.2 n1]
        cases h.has d <;> rfl
/-- no code below 4 -/
def Hd.ok (h : Hd) : Prop := ∀ c, c < 4 → h.has c = false
theorem appR_diff (x y : Hd) (hx : x.ok) (hy : y.ok) : appR x (diffR x y) = (y, 0) := by
  obtain ⟨g, h1, h2⟩ := appR_run (diffR x y) x (fun e he => by
    obtain ⟨a, b⟩ := (mem_diff x y e).1 he
    refine ⟨?_, a⟩
    by_cases h : e.1.val < 4
    · have q1 := hx _ h
      have q2 := hy _ h
      rw [a] at q1; rw [b] at q2
      rw [q2] at q1
      exact absurd q1 (by simp)
    · omega) (nodup_diff x y)
  rw [h1]
  have : g = y := Hd.ext_has fun d hd => by
    rw [h2 d hd]
    by_cases q : x.has d = y.has d
    · have : ¬ ∃ e ∈ diffR x y, e.1.val = d := fun ⟨e, he, hv⟩ => by
        obtain ⟨a, b⟩ := (mem_diff x y e).1 he
        rw [hv] at a b
        rw [a, b] at q
        cases h : e.2 <;> rw [h] at q <;> simp at q
      rw [decide_eq_false this, q]
      cases y.has d <;> rfl
    · have : ∃ e ∈ diffR x y, e.1.val = d := ⟨(⟨d, hd⟩, y.has d), (mem_diff x y _).2 ⟨by
        cases h1 : x.has d <;> cases h2 : y.has d <;> simp_all, rfl⟩, rfl⟩
      rw [decide_eq_true this]
      cases h1 : x.has d <;> cases h2 : y.has d <;> simp_all
  rw [this]
end Go.Proofs.Ytfcmmeapinppaaa
