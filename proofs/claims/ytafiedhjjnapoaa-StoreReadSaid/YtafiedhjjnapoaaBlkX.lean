/- Wraps served, plainly: what a write does, what a read tells. -/
import Derived.Test.YtafiedhjjnapoaaBlkO
import Derived.Test.YtafiedhjjnapoaaScsV
namespace Go.Proofs.Ytafiedhjjnapoaa
open Go.RowKit Go.Proofs.Ytafiedhjjnapoaa.Scs Go.Proofs.Ytafiedhjjnapoaa.Blk
theorem did_wide {bs : List ByteArray} {s : Int} (h : OkD bs s) {a n : Nat} (d : ByteArray) (ha : a < 4294967296) (hn : n < 65536) (hl : bs.length < a + n) : did bs s (mk 42 a n) d = (bs, 33, ByteArray.empty, 14) := by
  have e := mk_ans bs s 42 a n d (.inr (.inl rfl)) ha hn
  rw [if_pos hl] at e
  exact did_err h e
theorem did_thin {bs : List ByteArray} {s : Int} (h : OkD bs s) {a n : Nat} (d : ByteArray) (ha : a < 4294967296) (hn : n < 65536) (hl : a + n ≤ bs.length) (hd : d.size ≠ n * 16) : did bs s (mk 42 a n) d = (bs, 36, ByteArray.empty, 14) := by
  have e := mk_ans bs s 42 a n d (.inr (.inl rfl)) ha hn
  rw [if_neg (by omega), if_neg (by decide), if_pos rfl, if_neg hd] at e
  exact did_err h e
theorem read_size {bs : List ByteArray} {s : Int} (h : OkD bs s) {a n : Nat} (hl : a + n ≤ bs.length) : (joinS ((bs.drop a).take n)).size = n * 16 := by
  rw [joinS_size _ (fun x hx => h.sz x (List.mem_of_mem_drop (List.mem_of_mem_take hx)))]
  simp only [List.length_take, List.length_drop]
  omega
theorem means_write {bs : List ByteArray} {s : Int} (h : OkD bs s) {a n : Nat} (ha : a < 4294967296) (hn : n < 65536) :
    means bs s (mk 42 a n) = if 0 < n ∧ a + n ≤ bs.length then (2, ((n * 16 : Nat) : Int)) else (0, 0) := by
  unfold means
  rw [mk_cnt 42 a n hn]
  by_cases hl : a + n ≤ bs.length
  · by_cases h0 : 0 < n
    · rw [if_pos (show 0 < n ∧ a + n ≤ bs.length from ⟨h0, hl⟩), if_pos ⟨mk_size 42 a n, mk_op 42 a n (.inr (.inl rfl)), by rw [did_writes h ha hn hl (zeros_size _)], h0⟩]
    · obtain rfl : n = 0 := by omega
      rw [if_neg (show ¬ (0 < 0 ∧ a + 0 ≤ bs.length) from fun q => h0 q.1), if_neg (fun q => h0 q.2.2.2), did_writes h ha hn hl (show ByteArray.empty.size = 0 * 16 from rfl)]
      rw [if_neg (fun q => q.2 rfl)]
  · rw [if_neg (show ¬ (0 < n ∧ a + n ≤ bs.length) from fun q => hl q.2), did_wide h _ ha hn (by omega), did_wide h _ ha hn (by omega)]
    rw [if_neg (fun q => absurd (show (14 : Int) = 0 from q.2.2.1) (by decide)), if_neg (fun q => absurd (show (14 : Int) = 0 from q.1) (by decide))]
theorem means_read {bs : List ByteArray} {s : Int} (h : OkD bs s) {a n : Nat} (ha : a < 4294967296) (hn : n < 65536) :
    means bs s (mk 40 a n) = if 0 < n ∧ a + n ≤ bs.length then (1, ((n * 16 : Nat) : Int)) else (0, 0) := by
  unfold means
  rw [if_neg (fun q => by have := mk_op 40 a n (.inl rfl); have := q.2.1; omega)]
  by_cases hl : a + n ≤ bs.length
  · rw [did_read h a n ByteArray.empty ha hn hl]
    dsimp only
    rw [read_size h hl]
    by_cases h0 : 0 < n
    · rw [if_pos (show 0 < n ∧ a + n ≤ bs.length from ⟨h0, hl⟩), if_pos ⟨rfl, by omega⟩]
    · rw [if_neg (show ¬ (0 < n ∧ a + n ≤ bs.length) from fun q => h0 q.1), if_neg (fun q => q.2 (by omega))]
  · rw [did_unread h a n ByteArray.empty ha hn (by omega), if_neg (show ¬ (0 < n ∧ a + n ≤ bs.length) from fun q => hl q.2)]
    rw [if_neg (fun q => absurd (show (14 : Int) = 0 from q.1) (by decide))]
theorem okS_of {r c : Int} (h1 : 0 ≤ r) (h2 : r < 4294967296) (h3 : 0 ≤ c) (h4 : c ≤ 2) : OkS ⟨0, r, c⟩ := ⟨Int.le_refl 0, by show (0 : Int) < 4294967296; decide, h1, h2, h3, h4⟩
theorem write_served (bs : List ByteArray) (s : Int) (a n : Nat) (L : Int) (data : ByteArray) (ha : a < 256) (hn : n < 256) (hL : 0 ≤ L) (hL2 : L < 4294967296) :
    ((served bs s ⟨0, L, false, 0, mk 42 a n⟩ data).2.2.2.2 ≠ 0 ∧ (served bs s ⟨0, L, false, 0, mk 42 a n⟩ data).1 = bs ∧ (served bs s ⟨0, L, false, 0, mk 42 a n⟩ data).2.1 = s) ∨
    ((served bs s ⟨0, L, false, 0, mk 42 a n⟩ data).2.2.2.2 = 0 ∧ OkD (served bs s ⟨0, L, false, 0, mk 42 a n⟩ data).1 (served bs s ⟨0, L, false, 0, mk 42 a n⟩ data).2.1 ∧ ∃ y : St, OkS y ∧ (served bs s ⟨0, L, false, 0, mk 42 a n⟩ data).2.2.2.1 = statT y ∧
      ((y.code ≠ 0 ∧ (served bs s ⟨0, L, false, 0, mk 42 a n⟩ data).1 = bs) ∨ (y.code = 0 ∧ n = 0 ∧ (served bs s ⟨0, L, false, 0, mk 42 a n⟩ data).1 = bs) ∨
       (y.code = 0 ∧ 0 < n ∧ a + n ≤ bs.length ∧ ((n * 16 : Nat) : Int) ≤ L ∧ (data.size : Int) = L ∧ (served bs s ⟨0, L, false, 0, mk 42 a n⟩ data).1 = putB bs a (data.extract 0 (n * 16)) n))) := by
  unfold served
  by_cases hk : chkD bs s ≠ 0
  · rw [if_pos hk]; exact .inl ⟨hk, rfl, rfl⟩
  rw [if_neg hk, if_neg (fun q => q rfl)]
  have ok : OkD bs s := chkD_ok.1 (by omega)
  have hm := means_write (a := a) (n := n) ok (by omega) (by omega)
  have hh : hostD ⟨0, L, false, 0, mk 42 a n⟩ = if L = 0 then 0 else 2 := rfl
  dsimp only
  rw [hm, hh]
  by_cases hfit : 0 < n ∧ a + n ≤ bs.length
  · rw [if_pos hfit]
    dsimp only
    by_cases hag : agB (if L = 0 then 0 else 2) L 2 ((n * 16 : Nat) : Int)
    · rw [if_pos hag]
      have hL0 : L ≠ 0 := by
        intro e; subst e
        rw [if_pos rfl] at hag
        rcases hag with q | ⟨q, _⟩ <;> omega
      rw [if_neg hL0] at hag ⊢
      have hle : ((n * 16 : Nat) : Int) ≤ L := by
        rcases hag with q | ⟨_, q⟩
        · omega
        · exact q
      by_cases hz : (2 : Int) = 2 ∧ (data.size : Int) ≠ L
      · rw [if_pos hz]; exact .inl ⟨by show (3 : Int) ≠ 0; decide, rfl, rfl⟩
      · rw [if_neg hz, if_pos rfl]
        have hd : (data.size : Int) = L := by
          rcases Decidable.em ((data.size : Int) = L) with q | q
          · exact q
          · exact absurd ⟨rfl, q⟩ hz
        have e0 : ((n * 16 : Nat) : Int).toNat = n * 16 := by omega
        rw [e0]
        have hes : (data.extract 0 (n * 16)).size = n * 16 := by rw [ByteArray.size_extract]; omega
        rw [did_writes ok (by omega) (by omega) hfit.2 hes]
        refine .inr ⟨rfl, putB_ok ok _ _ _ hfit.2 hes, ⟨0, L - ((n * 16 : Nat) : Int), 0⟩, okS_of (by show 0 ≤ L - _; omega) (by show L - _ < _; omega) (by decide) (by decide), by dsimp only; rw [if_pos rfl], .inr (.inr ⟨rfl, hfit.1, hfit.2, hle, hd, rfl⟩)⟩
    · rw [if_neg hag]
      exact .inr ⟨rfl, ok, ⟨0, L, 2⟩, okS_of hL hL2 (by decide) (by decide), rfl, .inl ⟨by show (2 : Int) ≠ 0; decide, rfl⟩⟩
  · rw [if_neg hfit]
    dsimp only
    rw [if_pos (show agB _ _ _ _ from Or.inl rfl)]
    by_cases hz : (if L = 0 then (0 : Int) else 2) = 2 ∧ (data.size : Int) ≠ L
    · rw [if_pos hz]; exact .inl ⟨by show (3 : Int) ≠ 0; decide, rfl, rfl⟩
    · rw [if_neg hz]
      have he : (if (if L = 0 then (0 : Int) else 2) = 2 then data.extract 0 (0 : Int).toNat else ByteArray.empty) = ByteArray.empty := by
        have e0 : data.extract 0 (0 : Int).toNat = ByteArray.empty := by apply ext_bytes; simp
        rw [e0, ite_self]
      rw [he]
      by_cases hn0 : n = 0
      · subst hn0
        by_cases hl : a + 0 ≤ bs.length
        · rw [did_writes ok (by omega) (by omega) hl rfl]
          have hp : putB bs a ByteArray.empty 0 = bs := by
            apply List.ext_getElem?
            intro i
            rw [putB_get _ _ _ _ hl, if_neg (by omega)]
          rw [hp]
          exact .inr ⟨rfl, ok.with (.inl rfl), ⟨0, L - 0, 0⟩, okS_of (by show 0 ≤ L - 0; omega) (by show L - 0 < _; omega) (by decide) (by decide), by dsimp only; rw [if_pos rfl], .inr (.inl ⟨rfl, rfl, rfl⟩)⟩
        · rw [did_wide ok _ (by omega) (by omega) (by omega)]
          exact .inr ⟨rfl, ok.with (.inr (.inr (.inl rfl))), ⟨0, L - 0, 1⟩, okS_of (by show 0 ≤ L - 0; omega) (by show L - 0 < _; omega) (by decide) (by decide), rfl, .inl ⟨by show (1 : Int) ≠ 0; decide, rfl⟩⟩
      · rw [did_wide ok _ (by omega) (by omega) (by omega)]
        exact .inr ⟨rfl, ok.with (.inr (.inr (.inl rfl))), ⟨0, L - 0, 1⟩, okS_of (by show 0 ≤ L - 0; omega) (by show L - 0 < _; omega) (by decide) (by decide), rfl, .inl ⟨by show (1 : Int) ≠ 0; decide, rfl⟩⟩
theorem read_served {bs : List ByteArray} {s : Int} (ok : OkD bs s) (a n : Nat) (ha : a < 256) (hn : n < 256) (tag : Int) :
    (served bs s ⟨tag, ((n * 16 : Nat) : Int), true, 0, mk 40 a n⟩ ByteArray.empty).2.2.2.2 = 0 ∧ (0 < n → a + n ≤ bs.length → (served bs s ⟨tag, ((n * 16 : Nat) : Int), true, 0, mk 40 a n⟩ ByteArray.empty).2.2.1 = joinS ((bs.drop a).take n)) := by
  unfold served
  rw [if_neg (fun q => q (chkD_ok.2 ok)), if_neg (fun q => q rfl)]
  have hm := means_read (a := a) (n := n) ok (by omega) (by omega)
  have hh : hostD ⟨tag, ((n * 16 : Nat) : Int), true, 0, mk 40 a n⟩ = if ((n * 16 : Nat) : Int) = 0 then 0 else 1 := rfl
  dsimp only
  rw [hm, hh]
  have h2 : ¬ ((if ((n * 16 : Nat) : Int) = 0 then (0 : Int) else 1) = 2 ∧ (ByteArray.empty.size : Int) ≠ ((n * 16 : Nat) : Int)) := by
    rintro ⟨q, _⟩
    split at q <;> omega
  by_cases hfit : 0 < n ∧ a + n ≤ bs.length
  · rw [if_pos hfit, if_neg (show ¬ ((n * 16 : Nat) : Int) = 0 by omega)]
    dsimp only
    rw [if_pos (show agB _ _ _ _ from Or.inr ⟨rfl, Int.le_refl _⟩), if_neg (fun q => absurd q.1 (by decide)), if_neg (by decide)]
    dsimp only
    refine ⟨rfl, fun _ _ => ?_⟩
    rw [did_read ok a n ByteArray.empty (by omega) (by omega) hfit.2]
    dsimp only
    rw [if_pos ⟨rfl, rfl⟩]
    have e0 : ((n * 16 : Nat) : Int).toNat = n * 16 := by omega
    rw [e0, ← read_size ok hfit.2]
    apply ext_bytes; simp
  · rw [if_neg hfit]
    dsimp only
    rw [if_pos (show agB _ _ _ _ from Or.inl rfl), if_neg h2]
    exact ⟨rfl, fun q1 q2 => absurd ⟨q1, q2⟩ hfit⟩
end Go.Proofs.Ytafiedhjjnapoaa
