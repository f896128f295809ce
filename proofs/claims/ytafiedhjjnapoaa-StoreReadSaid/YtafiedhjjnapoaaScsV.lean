/- The law ScsiTwo, walked. -/
import Derived.Test.YtafiedhjjnapoaaScsT
namespace Go.Proofs.Ytafiedhjjnapoaa
open Go.RowKit Go.Proofs.Ytafiedhjjnapoaa.Scs
/-- blocks that lie from B on -/
def DkS (w : World) (B : Nat) (A : Option Addr) (cap : Nat) (bs : List ByteArray) : Prop := Kt.Sl w B 9 1 (.slice A bs.length cap) bs.length (sts bs)
theorem DkS.toA {w : World} {B : Nat} {A : Option Addr} {cap : Nat} {bs : List ByteArray} (h : DkS w B A cap bs) : DkA w A cap bs := Kt.Ar.of_sl h
theorem DkS.on {w w' : World} {B : Nat} {A : Option Addr} {cap : Nat} {bs : List ByteArray} (h : DkS w B A cap bs) (hb : Below w.heap.size w w') : DkS w' B A cap bs := Kt.Sl.on h hb
theorem DkS.low {w : World} {B g : Nat} {A : Option Addr} {cap : Nat} {bs : List ByteArray} (h : DkS w B A cap bs) (hg : g < B) (news : List Value) : DkS (w.setCells g 0 news) B A cap bs :=
  Kt.Sl.sets h news g 0 fun k hk => by have := (h.lt k hk).1; omega
theorem DoIs.open2 {bs : List ByteArray} {s : Int} {c d : ByteArray} {w : World} {e : Ending} {w' : World} {b : List ByteArray} {t : Int} {o : ByteArray} {g : Int} (h : DoIs bs s c d w e w') (hd : did bs s c d = (b, t, o, g)) :
    ∃ A cap, e = .returned (.tuple #[dkV A cap b t, .string o, .int .i64 g]) ∧ DkS w' w.heap.size A cap b ∧ Below w.heap.size w w' := by
  obtain ⟨A, cap, e1, hl, hs, hb⟩ := h
  rw [hd] at e1 hl hs
  refine ⟨A, cap, e1, ?_, hb⟩
  have hl' : b.length = bs.length := hl
  unfold DkS
  rw [hl']; exact hs
theorem did_writes {bs : List ByteArray} {s : Int} (h : OkD bs s) {a n : Nat} {d : ByteArray} (ha : a < 4294967296) (hn : n < 65536) (hl : a + n ≤ bs.length) (hd : d.size = n * 16) :
    did bs s (mk 42 a n) d = (putB bs a d n, 0, ByteArray.empty, 0) := by
  have e := mk_ans bs s 42 a n d (.inr (.inl rfl)) ha hn
  rw [if_neg (by omega), if_neg (by decide), if_pos rfl, if_pos hd] at e
  exact did_fine h e
theorem put2 (w : World) (b : Nat) (x y : Value) : (w.setCell ⟨b, 0, none⟩ x).setCell ⟨b, 1, none⟩ y = w.setCells b 0 [x, y] := rfl
theorem mkE_zero {a n : Int} (h : mkE a n = 0) : OkMk a n := by
  unfold mkE at h
  split at h
  · assumption
  · cases h
/-- what two writes do, one behind the other, and the other way round -/
theorem two_plain {bs : List ByteArray} {s i j n m : Int} {x y : ByteArray} (h1 : OkMk i n) (h2 : OkMk j m)
    (g : (did bs s (mkC 42 i n) x).2.2.2 = 0) (h : (did bs s (mkC 42 j m) y).2.2.2 = 0) :
    ∃ P Q PP QQ, did bs s (mkC 42 i n) x = (P, 0, ByteArray.empty, 0) ∧ did bs s (mkC 42 j m) y = (Q, 0, ByteArray.empty, 0) ∧ did P 0 (mkC 42 j m) y = (PP, 0, ByteArray.empty, 0) ∧
      did Q 0 (mkC 42 i n) x = (QQ, 0, ByteArray.empty, 0) ∧ did PP 0 (mkC 40 j m) ByteArray.empty = (PP, 0, y, 0) ∧ P.length ≤ 64 ∧ Q.length ≤ 64 ∧ PP.length ≤ 64 ∧ QQ.length ≤ 64 ∧
      ((i < j + m ∧ j < i + n) ∨ PP = QQ) := by
  have c1 : mkC 42 i n = mk 42 i.toNat n.toNat := if_pos h1
  have c2 : mkC 42 j m = mk 42 j.toNat m.toNat := if_pos h2
  have c3 : mkC 40 j m = mk 40 j.toNat m.toNat := if_pos h2
  unfold OkMk at h1 h2
  rw [c1] at g
  rw [c2] at h
  rw [c1, c2, c3]
  have ho := did_zero g
  obtain ⟨a1, a2, a3⟩ := did_write ho (by omega) (by omega) g
  obtain ⟨b1, b2, b3⟩ := did_write ho (by omega) (by omega) h
  have hP := putB_ok ho _ _ _ a1 a2
  have hQ := putB_ok ho _ _ _ b1 b2
  have lP := putB_len bs i.toNat x n.toNat a1
  have lQ := putB_len bs j.toNat y m.toNat b1
  have hPP := putB_ok hP j.toNat y m.toNat (by omega) b2
  have lPP := putB_len (putB bs i.toNat x n.toNat) j.toNat y m.toNat (by omega)
  have hQQ := putB_ok hQ i.toNat x n.toNat (by omega) a2
  refine ⟨_, _, _, _, a3, b3, did_writes hP (by omega) (by omega) (by omega) b2, did_writes hQ (by omega) (by omega) (by omega) a2, ?_, hP.n2, hQ.n2, hPP.n2, hQQ.n2, ?_⟩
  · have := did_read hPP j.toNat m.toNat ByteArray.empty (by omega) (by omega) (by omega)
    rw [joinS_back _ _ _ _ (by omega) b2] at this
    exact this
  · by_cases hov : i < j + m ∧ j < i + n
    · exact .inl hov
    · refine .inr (putB_swap bs _ _ x y _ _ a1 b1 ?_)
      omega
theorem two_over {i j n m : Int} (h1 : OkMk i n) (h2 : OkMk j m) : ∃ a b, IntKind.i64.wrap (j + m) = a ∧ IntKind.i64.wrap (i + n) = b ∧ ((i < a ∧ j < b) ∨ (i < a ∧ ¬ j < b) ∨ ¬ i < a) ∧ ((i < j + m ∧ j < i + n) ↔ (i < a ∧ j < b)) := by
  unfold OkMk at h1 h2
  refine ⟨j + m, i + n, by rw [show j + m = ((j.toNat + m.toNat : Nat) : Int) by omega, wr_in _ (by omega)], by rw [show i + n = ((i.toNat + n.toNat : Nat) : Int) by omega, wr_in _ (by omega)], by omega, Iff.rfl⟩
end Go.Proofs.Ytafiedhjjnapoaa
