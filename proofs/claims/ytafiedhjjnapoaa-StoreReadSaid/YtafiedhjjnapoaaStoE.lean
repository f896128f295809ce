/- The walks of package store: portions. -/
import Derived.Test.YtafiedhjjnapoaaStoD
namespace Go.Proofs.Ytafiedhjjnapoaa
open Go.RowKit Go.Shelf Go.Proofs.Ytafiedhjjnapoaa.Scs Go.Proofs.Ytafiedhjjnapoaa.Blk Go.Proofs.Ytafiedhjjnapoaa.Sto
/-- the boxes of portions: the link, what is told, what came of it so far -/
structure PB (w : World) (A : Option Addr) (c : Nat) (l : Ln) (code d u : Int) (W : World) : Prop where
  r0 : W.heap[w.heap.size]? = some (.cells #[.slice A l.bs.length c, .int .i64 l.s, .int .i64 l.tag] 26 (0, 0))
  r1 : W.heap[w.heap.size + 1]? = some (.cells #[.slice none 0 0, .int .i64 0, .int .i64 0] 26 (0, 0))
  r2 : W.heap[w.heap.size + 1 + 1]? = some (.cells #[.int .i64 0, .int .i64 0, .int .i64 0] 30 (0, 0))
  r3 : W.heap[w.heap.size + 1 + 1 + 1]? = some (.cells #[.int .i64 code, .int .i64 d, .int .i64 u] 30 (0, 0))
  bel : Below w.heap.size w W
section
variable {w W W' : World} {A : Option Addr} {c : Nat} {l : Ln} {code d u : Int}
theorem PB.on (h : PB w A c l code d u W) (hb : Below W.heap.size W W') : PB w A c l code d u W' := ⟨Kt.row_on hb h.r0, Kt.row_on hb h.r1, Kt.row_on hb h.r2, Kt.row_on hb h.r3, Kt.bthen h.bel hb⟩
theorem PB.lt (h : PB w A c l code d u W) : w.heap.size + 3 < W.heap.size := (Array.getElem?_eq_some_iff.1 h.r3).1
theorem PB.upd {kc : Nat} (h : PB w A c l code d u W) (hu : Upd kc W W') (hk : w.heap.size + 3 < kc) : PB w A c l code d u W' :=
  ⟨hu.row h.r0 (by omega), hu.row h.r1 (by omega), hu.row h.r2 (by omega), hu.row h.r3 (by omega), hu.to h.bel (by omega)⟩
theorem PB.start (w : World) (A : Option Addr) (c : Nat) (l : Ln) : PB w A c l 0 0 0 ((((w.alloc (.cells #[.slice A l.bs.length c, .int .i64 l.s, .int .i64 l.tag] 26)).alloc (.cells #[.slice none 0 0, .int .i64 0, .int .i64 0] 26)).alloc (.cells #[.int .i64 0, .int .i64 0, .int .i64 0] 30)).alloc (.cells #[.int .i64 0, .int .i64 0, .int .i64 0] 30)) := by
  refine ⟨al_row (al_row (al_row (heap_alloc_new _ _) _) _) _, al_row (al_row (heap_alloc2_new _ _ _) _) _, al_row ?_ _, ?_, Kt.balloc (Kt.balloc (Kt.balloc (Kt.balloc (Below.refl _ _) _) _) _) _⟩
  · have := heap_alloc_new ((w.alloc (.cells #[.slice A l.bs.length c, .int .i64 l.s, .int .i64 l.tag] 26)).alloc (.cells #[.slice none 0 0, .int .i64 0, .int .i64 0] 26)) (.cells #[.int .i64 0, .int .i64 0, .int .i64 0] 30)
    rwa [sz2] at this
  · have := heap_alloc_new (((w.alloc (.cells #[.slice A l.bs.length c, .int .i64 l.s, .int .i64 l.tag] 26)).alloc (.cells #[.slice none 0 0, .int .i64 0, .int .i64 0] 26)).alloc (.cells #[.int .i64 0, .int .i64 0, .int .i64 0] 30)) (.cells #[.int .i64 0, .int .i64 0, .int .i64 0] 30)
    rwa [World.size_alloc, sz2] at this
theorem PB.link (h : PB w A c l code d u W) {A' : Option Addr} {c' : Nat} (l' : Ln) : PB w A' c' l' code d u (((W.setCell ⟨w.heap.size, 0, none⟩ (.slice A' l'.bs.length c')).setCell ⟨w.heap.size, 1, none⟩ (.int .i64 l'.s)).setCell ⟨w.heap.size, 2, none⟩ (.int .i64 l'.tag)) := by
  have hu := (((Upd.refl w.heap.size W).set 0 (.slice A' l'.bs.length c')).set 1 (.int .i64 l'.s)).set 2 (.int .i64 l'.tag)
  exact ⟨row_put3 h.r0, hu.row h.r1 (by omega), hu.row h.r2 (by omega), hu.row h.r3 (by omega), hu.to h.bel (by omega)⟩
theorem PB.cell0 (h : PB w A c l code d u W) (v : Int) : PB w A c l v d u (W.setCell ⟨w.heap.size + 1 + 1 + 1, 0, none⟩ (.int .i64 v)) := by
  have hu := (Upd.refl (w.heap.size + 1 + 1 + 1) W).set 0 (.int .i64 v)
  exact ⟨hu.row h.r0 (by omega), hu.row h.r1 (by omega), hu.row h.r2 (by omega), heap_setCell_same _ _ _ _ _ _ h.r3, hu.to h.bel (by omega)⟩
theorem PB.cell1 (h : PB w A c l code d u W) (v : Int) : PB w A c l code v u (W.setCell ⟨w.heap.size + 1 + 1 + 1, 1, none⟩ (.int .i64 v)) := by
  have hu := (Upd.refl (w.heap.size + 1 + 1 + 1) W).set 1 (.int .i64 v)
  exact ⟨hu.row h.r0 (by omega), hu.row h.r1 (by omega), hu.row h.r2 (by omega), heap_setCell_same _ _ _ _ _ _ h.r3, hu.to h.bel (by omega)⟩
theorem PB.cell2 (h : PB w A c l code d u W) (v : Int) : PB w A c l code d v (W.setCell ⟨w.heap.size + 1 + 1 + 1, 2, none⟩ (.int .i64 v)) := by
  have hu := (Upd.refl (w.heap.size + 1 + 1 + 1) W).set 2 (.int .i64 v)
  exact ⟨hu.row h.r0 (by omega), hu.row h.r1 (by omega), hu.row h.r2 (by omega), heap_setCell_same _ _ _ _ _ _ h.r3, hu.to h.bel (by omega)⟩
end
/-- the blocks: those that came in, or some of one's own -/
def QB (w : World) (A0 : Option Addr) (c0 : Nat) (b0 : List ByteArray) (A : Option Addr) (c : Nat) (bs : List ByteArray) (W : World) : Prop := (A = A0 ∧ c = c0 ∧ bs = b0) ∨ DkS W (w.heap.size + 4) A c bs
section
variable {w W W' : World} {A0 A : Option Addr} {c0 c : Nat} {b0 bs : List ByteArray}
theorem QB.on (h : QB w A0 c0 b0 A c bs W) (hb : Below W.heap.size W W') : QB w A0 c0 b0 A c bs W' := h.imp id fun q => DkS.on q hb
theorem QB.set (h : QB w A0 c0 b0 A c bs W) (g i : Nat) (hg : g < w.heap.size + 4) (v : Value) : QB w A0 c0 b0 A c bs (W.setCell ⟨g, i, none⟩ v) := h.imp id fun q => Kt.Sl.low q (p := ⟨g, i, none⟩) hg v
theorem QB.toA (h : QB w A0 c0 b0 A c bs W) (hA : DkA w A0 c0 b0) (hb : Below w.heap.size w W) : DkA W A c bs := by
  rcases h with ⟨rfl, rfl, rfl⟩ | h
  · exact hA.on hb
  · exact h.toA
end
theorem cyc_keep {wr : Bool} {a n : Nat} {data : ByteArray} {l : Ln} {fs : List Int} (h : OkL l) (hl : a + n ≤ l.bs.length) (hd : wr = true → data.size = n * 16) : OkL (cyc wr a n data l fs).l ∧ (cyc wr a n data l fs).l.bs.length = l.bs.length := by
  have hn := h.next
  have ha : ∀ b, OkL (aft wr a n data l b) ∧ (aft wr a n data l b).bs.length = l.bs.length := fun b => by
    unfold aft
    cases wr with
    | true =>
      rw [if_pos rfl]
      cases b with
      | true => rw [if_pos rfl]; exact ⟨⟨putB_ok h.d a data n hl (hd rfl), hn.t0, hn.t1⟩, putB_len _ _ _ _ hl⟩
      | false => exact ⟨hn, rfl⟩
    | false => exact ⟨⟨⟨h.d.n1, h.d.n2, h.d.sz, .inl rfl⟩, hn.t0, hn.t1⟩, rfl⟩
  unfold cyc
  dsimp only
  split
  · exact ⟨hn, rfl⟩
  · split <;> exact ha _
theorem cyc_t {wr : Bool} {a n : Nat} {data : ByteArray} {l : Ln} {fs : List Int} (h : OkL l) (hl : a + n ≤ l.bs.length) : (cyc wr a n data l fs).t.size ≤ n * 16 := by
  have h0 : ByteArray.empty.size ≤ n * 16 := Nat.zero_le _
  unfold cyc
  dsimp only
  split
  · exact h0
  · split
    · exact h0
    · dsimp only
      split
      · exact h0
      · split
        · exact h0
        · next hw =>
          unfold mid2
          rw [if_neg hw, read_size h.d hl]
          exact Nat.le_refl _
def dOf (n : Nat) (W : World) : Nat := match W.cell? ⟨n, 1, none⟩ with
  | some v => (intOf v).toNat
  | none => 0
theorem PB.dOf' {w W : World} {A : Option Addr} {c : Nat} {l : Ln} {code u : Int} {d : Nat} (h : PB w A c l code d u W) : dOf (w.heap.size + 1 + 1 + 1) W = d := by
  unfold dOf
  rw [show W.cell? ⟨w.heap.size + 1 + 1 + 1, 1, none⟩ = some (.int .i64 (d : Int)) from cell_of_row _ _ 1 _ _ _ h.r3]
  simp [intOf]
theorem por_go {wr : Bool} {a cnt : Nat} {data : ByteArray} {fs : List Int} {k : Nat} {l : Ln} {t : ByteArray} {d u : Nat} (h : d < cnt) :
    por wr a cnt data fs (k + 1) l t d u = if (tries wr (a + d) (min 4 (cnt - d)) (Sto.part wr data d (min 4 (cnt - d))) 2 l (fs.drop u)).c = 0 then por wr a cnt data fs k (tries wr (a + d) (min 4 (cnt - d)) (Sto.part wr data d (min 4 (cnt - d))) 2 l (fs.drop u)).l (t ++ (tries wr (a + d) (min 4 (cnt - d)) (Sto.part wr data d (min 4 (cnt - d))) 2 l (fs.drop u)).t) (d + min 4 (cnt - d)) (u + (tries wr (a + d) (min 4 (cnt - d)) (Sto.part wr data d (min 4 (cnt - d))) 2 l (fs.drop u)).u)
      else ⟨(tries wr (a + d) (min 4 (cnt - d)) (Sto.part wr data d (min 4 (cnt - d))) 2 l (fs.drop u)).l, t, (tries wr (a + d) (min 4 (cnt - d)) (Sto.part wr data d (min 4 (cnt - d))) 2 l (fs.drop u)).c, d, u + (tries wr (a + d) (min 4 (cnt - d)) (Sto.part wr data d (min 4 (cnt - d))) 2 l (fs.drop u)).u⟩ := by
  conv => lhs; unfold por
  rw [if_pos h]
theorem por_end {wr : Bool} {a cnt : Nat} {data : ByteArray} {fs : List Int} {k : Nat} {l : Ln} {t : ByteArray} {d u : Nat} (h : ¬ d < cnt) : por wr a cnt data fs k l t d u = ⟨l, t, 0, d, u⟩ := by
  cases k with
  | zero => rfl
  | succ k => unfold por; rw [if_neg h]
theorem tries_end {wr : Bool} {a n : Nat} {data : ByteArray} {l : Ln} {fs : List Int} (h : ¬ ((cyc wr a n data l fs).c = 8 ∨ (cyc wr a n data l fs).c = 9)) (k : Nat) : tries wr a n data k l fs = cyc wr a n data l fs := by
  cases k with
  | zero => rfl
  | succ k => unfold tries; dsimp only; rw [if_neg h]
theorem tries_go {wr : Bool} {a n : Nat} {data : ByteArray} {l : Ln} {fs : List Int} (h : (cyc wr a n data l fs).c = 8 ∨ (cyc wr a n data l fs).c = 9) (k : Nat) : tries wr a n data (k + 1) l fs =
    ⟨(tries wr a n data k (cyc wr a n data l fs).l (fs.drop (cyc wr a n data l fs).u)).l, (tries wr a n data k (cyc wr a n data l fs).l (fs.drop (cyc wr a n data l fs).u)).t, (tries wr a n data k (cyc wr a n data l fs).l (fs.drop (cyc wr a n data l fs).u)).c, (cyc wr a n data l fs).u + (tries wr a n data k (cyc wr a n data l fs).l (fs.drop (cyc wr a n data l fs).u)).u⟩ := by
  conv => lhs; unfold tries
  dsimp only
  rw [if_pos h]
theorem tries_next {wr : Bool} {a n : Nat} {data : ByteArray} {l : Ln} {fs : List Int} {u j : Nat} {R : Rt} (hR : R = cyc wr a n data l (fs.drop u)) (h : R.c = 8 ∨ R.c = 9) (hj : j < 2) :
    (tries wr a n data (2 - (j + 1)) R.l (fs.drop (u + R.u))).l = (tries wr a n data (2 - j) l (fs.drop u)).l ∧ (tries wr a n data (2 - (j + 1)) R.l (fs.drop (u + R.u))).t = (tries wr a n data (2 - j) l (fs.drop u)).t ∧
    (tries wr a n data (2 - (j + 1)) R.l (fs.drop (u + R.u))).c = (tries wr a n data (2 - j) l (fs.drop u)).c ∧ u + R.u + (tries wr a n data (2 - (j + 1)) R.l (fs.drop (u + R.u))).u = u + (tries wr a n data (2 - j) l (fs.drop u)).u := by
  subst hR
  rw [show 2 - j = (2 - (j + 1)) + 1 by omega, tries_go h, List.drop_drop]
  exact ⟨rfl, rfl, rfl, by dsimp only; omega⟩
/-- what is told is stored into the results' boxes -/
theorem PB.done {w W : World} {A A0 : Option Addr} {c c0 : Nat} {b0 : List ByteArray} {l : Ln} {code d u : Int} (h : PB w A c l code d u W) (hq : QB w A0 c0 b0 A c l.bs W) {W' : World}
    (hW : W' = ((((((W.setCell ⟨w.heap.size + 1, 0, none⟩ (.slice A l.bs.length c)).setCell ⟨w.heap.size + 1, 1, none⟩ (.int .i64 l.s)).setCell ⟨w.heap.size + 1, 2, none⟩ (.int .i64 l.tag)).setCell ⟨w.heap.size + 1 + 1, 0, none⟩ (.int .i64 code)).setCell ⟨w.heap.size + 1 + 1, 1, none⟩ (.int .i64 d)).setCell ⟨w.heap.size + 1 + 1, 2, none⟩ (.int .i64 u)).drew) :
    W'.heap[w.heap.size + 1]? = some (.cells #[.slice A l.bs.length c, .int .i64 l.s, .int .i64 l.tag] 26 (0, 0)) ∧ W'.heap[w.heap.size + 1 + 1]? = some (.cells #[.int .i64 code, .int .i64 d, .int .i64 u] 30 (0, 0)) ∧ QB w A0 c0 b0 A c l.bs W' ∧ Below w.heap.size w W' := by
  have hu := (((Upd.refl (w.heap.size + 1) W).set 0 (.slice A l.bs.length c)).set 1 (.int .i64 l.s)).set 2 (.int .i64 l.tag)
  have hw2 := row_put3 (x' := .slice A l.bs.length c) (y' := .int .i64 l.s) (z' := .int .i64 l.tag) h.r1
  have r2' := hu.row h.r2 (by omega)
  have hq1 := ((hq.set (w.heap.size + 1) 0 (by omega) (.slice A l.bs.length c)).set (w.heap.size + 1) 1 (by omega) (.int .i64 l.s)).set (w.heap.size + 1) 2 (by omega) (.int .i64 l.tag)
  have hb1 := hu.to h.bel (by omega)
  generalize ((W.setCell ⟨w.heap.size + 1, 0, none⟩ (.slice A l.bs.length c)).setCell ⟨w.heap.size + 1, 1, none⟩ (.int .i64 l.s)).setCell ⟨w.heap.size + 1, 2, none⟩ (.int .i64 l.tag) = W6 at *
  have hu2 := (((Upd.refl (w.heap.size + 1 + 1) W6).set 0 (.int .i64 code)).set 1 (.int .i64 d)).set 2 (.int .i64 u)
  have hw3 := row_put3 (x' := .int .i64 code) (y' := .int .i64 d) (z' := .int .i64 u) r2'
  have hw2' := hu2.row hw2 (by omega)
  have hq2 := ((hq1.set (w.heap.size + 1 + 1) 0 (by omega) (.int .i64 code)).set (w.heap.size + 1 + 1) 1 (by omega) (.int .i64 d)).set (w.heap.size + 1 + 1) 2 (by omega) (.int .i64 u)
  have hb2 := hu2.to hb1 (by omega)
  subst hW
  exact ⟨hw2', hw3, hq2.imp id fun q => Kt.Sl.drew q, hb2.drew⟩
set_option maxRecDepth 100000 in
set_option maxHeartbeats 6400000 in
theorem por_write_calls (l0 : Ln) (A0 : Option Addr) (c0 : Nat) (FA : Option Addr) (fc : Nat) (fs : List Int) (a cnt : Nat) (data : ByteArray) (w : World) (hA : DkA w A0 c0 l0.bs) (hF : Kt.Ar w (.slice FA fs.length fc) 1 fs.length (ics fs)) (ho : OkL l0) (hf : OkF fs)
    (hl : a + cnt ≤ l0.bs.length) (hd : data.size = cnt * 16) :
    Calls Try.prog 25 #[lkV A0 c0 l0, .int .i64 42, .int .i64 (a : Int), .int .i64 (cnt : Int), .string data, .slice FA fs.length fc] w fun e w' => ∃ A' c', e = .returned (.tuple #[lkV A' c' (por true a cnt data fs cnt l0 ByteArray.empty 0 0).l, .string (por true a cnt data fs cnt l0 ByteArray.empty 0 0).t, .agg #[.int .i64 (por true a cnt data fs cnt l0 ByteArray.empty 0 0).c, .int .i64 ((por true a cnt data fs cnt l0 ByteArray.empty 0 0).d : Nat), .int .i64 ((por true a cnt data fs cnt l0 ByteArray.empty 0 0).u : Nat)]]) ∧
      ((A' = A0 ∧ c' = c0 ∧ (por true a cnt data fs cnt l0 ByteArray.empty 0 0).l.bs = l0.bs) ∨ DkS w' w.heap.size A' c' (por true a cnt data fs cnt l0 ByteArray.empty 0 0).l.bs) ∧ Below w.heap.size w w' := by
  have h64 := ho.d.n2
  obtain ⟨L, hL⟩ : ∃ L, L = l0.bs.length := ⟨_, rfl⟩
  obtain ⟨O, hO⟩ : ∃ O, O = por true a cnt data fs cnt l0 ByteArray.empty 0 0 := ⟨_, rfl⟩
  have HO := Lib.hid hO
  have HOK := Lib.hid ho
  have HF := Lib.hid hF
  have HFS := Lib.hid hf
  have HP0 := Lib.hid (PB.start w A0 c0 l0)
  have HA := Lib.hid hA
  rw [← hO]
  rw [← hL] at hl h64
  have HL := Lib.hid hL
  clear hO ho hF hf hA hL
  unfold lkV
  go_enter Try.func25, Try.ntmps25
  go_upto_region 3 with (fail)
  go_loopw [16] (fun t wr => ∃ (k d u : Nat) (l : Ln) (A : Option Addr) (c : Nat) (tt : ByteArray), t = .string tt ∧ OkL l ∧ l.bs.length = L ∧ d ≤ cnt ∧ cnt ≤ d + k ∧ u ≤ fs.length ∧ tt.size ≤ d * 16 ∧ PB w A c l 0 (d : Int) (u : Int) wr ∧ QB w A0 c0 l0.bs A c l.bs wr ∧ por true a cnt data fs k l tt d u = O) (fun _ wr => cnt - dOf (w.heap.size + 1 + 1 + 1) wr)
  case atStart => exact ⟨cnt, 0, 0, l0, A0, c0, ByteArray.empty, rfl, HOK.out, HL.out.symm, Nat.zero_le _, by omega, Nat.zero_le _, Nat.zero_le _, HP0.out, .inl ⟨rfl, rfl, rfl⟩, HO.out.symm⟩
  case round =>
    clear HP0 HO HOK
    obtain ⟨k, d, u, l, A, c, tt, rfl, hok, hlen, hdc, hck, hu, htt, hpb, hqb, hpor⟩ := hrel
    have HOK := Lib.hid hok
    have HLN := Lib.hid hlen
    have HPB := Lib.hid hpb
    have HQB := Lib.hid hqb
    have HPOR := Lib.hid hpor
    have HMS := Lib.hid hpb.dOf'
    have q3 := fun i => cell_of_row _ _ i _ _ _ hpb.r3
    have hfn := HFS.out.n
    clear hok hlen hpb hqb hpor
    by_cases hlt : d < cnt
    · have hlti : (d : Int) < (cnt : Int) := by omega
      obtain ⟨n, hn⟩ : ∃ n, n = min 4 (cnt - d) := ⟨_, rfl⟩
      have hmin : min 4 ((cnt : Int) - (d : Int)) = (n : Int) := by omega
      have n1 : 1 ≤ n := by omega
      have n4 : n ≤ 4 := by omega
      have hdn : d + n ≤ cnt := by omega
      obtain ⟨M, hM⟩ : ∃ M, M = mk 42 (a + d) n := ⟨_, rfl⟩
      have HM := Lib.hid (fun W => make_calls42 ((a + d : Nat) : Int) ((n : Nat) : Int) ⟨by omega, by omega, by omega, by omega⟩ W)
      rw [Int.toNat_natCast, Int.toNat_natCast, ← hM] at HM
      have HM1 := Lib.hid hM
      have HN1 := Lib.hid hn
      clear hn hM
      go_wp2_with fail
      refine (HM.out _).mono ?_
      rintro e w1 ⟨rfl, hb⟩
      replace HPB := Lib.hid (HPB.out.on hb)
      replace HQB := Lib.hid (HQB.out.on hb)
      clear hb q3 HM hmin
      have q3 := fun i => cell_of_row _ _ i _ _ _ HPB.out.r3
      have hlt1 := HPB.out.lt
      have hs1 : (d + n) * 16 ≤ data.size := by omega
      have hs2 : ((d : Int) + (n : Int)) * 16 ≤ (data.size : Int) := by omega
      have hs3 : (d : Int) * 16 ≤ ((d : Int) + (n : Int)) * 16 := by omega
      go_upto_region 12 with (fail)
      obtain ⟨P, hP⟩ : ∃ P, P = data.extract (d * 16) ((d + n) * 16) := ⟨_, rfl⟩
      have hPz : P.size = n * 16 := by rw [hP, ByteArray.size_extract]; omega
      rw [← hP]
      have HPE := Lib.hid hP
      have HG20 : Hid (w.heap.size + 3 < w1.heap.size) := Lib.hid HPB.out.lt
      have HRW : Hid ((w1.alloc (.cells #[.int .i64 0, .int .i64 ((n : Int) * 16), .bool false, .int .i64 0, .string M] 75)).heap[w1.heap.size]? = some (.cells #[.int .i64 0, .int .i64 ((n : Int) * 16), .bool false, .int .i64 0, .string M] 75 (0, 0))) := Lib.hid (heap_alloc_new w1 _)
      replace HPB := Lib.hid (HPB.out.on (Kt.balloc (Below.refl _ w1) (.cells #[.int .i64 0, .int .i64 ((n : Int) * 16), .bool false, .int .i64 0, .string M] 75)))
      replace HQB := Lib.hid (HQB.out.on (Kt.balloc (Below.refl _ w1) (.cells #[.int .i64 0, .int .i64 ((n : Int) * 16), .bool false, .int .i64 0, .string M] 75)))
      obtain ⟨g20, hg20⟩ : ∃ g, g = w1.heap.size := ⟨_, rfl⟩
      rw [← hg20] at HG20 HRW hlt1 ⊢
      clear q3 hs1 hs2 hs3 hP hg20
      generalize w1.alloc (.cells #[.int .i64 0, .int .i64 ((n : Int) * 16), .bool false, .int .i64 0, .string M] 75) = W2 at *
      obtain ⟨T0, hT0⟩ : ∃ T, T = tries true (a + d) n P 2 l (fs.drop u) := ⟨_, rfl⟩
      have HT0 := Lib.hid hT0
      clear hT0
      go_loopw [16, 22] (fun tx tr wr => ∃ (j u' : Nat) (l' : Ln) (A' : Option Addr) (c' : Nat), tx = .string tt ∧ tr = .int .i64 (j : Int) ∧ j ≤ 2 ∧ OkL l' ∧ l'.bs.length = L ∧ u' ≤ fs.length ∧ PB w A' c' l' 0 (d : Int) (u' : Int) wr ∧ QB w A0 c0 l0.bs A' c' l'.bs wr ∧
        wr.heap[g20]? = some (.cells #[.int .i64 0, .int .i64 ((n : Int) * 16), .bool false, .int .i64 0, .string M] 75 (0, 0)) ∧
        (tries true (a + d) n P (2 - j) l' (fs.drop u')).l = T0.l ∧ (tries true (a + d) n P (2 - j) l' (fs.drop u')).t = T0.t ∧ (tries true (a + d) n P (2 - j) l' (fs.drop u')).c = T0.c ∧ u' + (tries true (a + d) n P (2 - j) l' (fs.drop u')).u = u + T0.u) (fun _ tr _ => 3 - (intOf tr).toNat)
      case atStart => exact ⟨0, u, l, A, c, rfl, rfl, by omega, HOK.out, HLN.out, hu, HPB.out, HQB.out, HRW.out, by rw [HT0.out], by rw [HT0.out], by rw [HT0.out], by rw [HT0.out]⟩
      case round =>
        clear HPB HQB HRW
        obtain ⟨j, u', l', A', c', rfl, rfl, hj, hok', hln', hu', hpb, hqb, hrw, t1, t2, t3, t4⟩ := hrel
        have HPB := Lib.hid hpb
        have HQB := Lib.hid hqb
        have HRW := Lib.hid hrw
        have HTR := Lib.hid (And.intro t1 (And.intro t2 (And.intro t3 t4)))
        have HOK' := Lib.hid hok'
        have HLN' := Lib.hid hln'
        obtain ⟨wr2, hwr2⟩ : ∃ x, x = wr := ⟨_, rfl⟩
        rw [← hwr2] at HPB HQB HRW ⊢
        clear hok' hln' hpb hqb hrw t1 t2 t3 t4 hwr2
        obtain ⟨R, hR⟩ : ∃ R, R = cyc true (a + d) n P l' (fs.drop u') := ⟨_, rfl⟩
        have HR := Lib.hid hR
        obtain ⟨FX, hFX⟩ : ∃ x, (if fc = u' then FA else Option.map (fun x => x.add u') FA) = x := ⟨_, rfl⟩
        have HFX : Hid (Kt.Ar w (.slice FX (fs.length - u') (fc - u')) 1 (fs.length - u') (ics (fs.drop u'))) := Lib.hid (by
          have := fates_from (w0 := w) (FA := FA) (fc := fc) (fs := fs) (u := 0) (k := u') (by simpa using HF.out) (by omega)
          rw [Nat.zero_add, hFX] at this
          exact this)
        have HCY : Hid (∀ (A : Option Addr) (c : Nat) (FA : Option Addr) (fc : Nat) (W : World), DkA W A c l'.bs → Kt.Ar W (.slice FA (fs.length - u') fc) 1 (fs.length - u') (ics (fs.drop u')) →
            Calls Try.prog 41 #[.agg #[.slice A l'.bs.length c, .int .i64 l'.s, .int .i64 l'.tag], .agg #[.int .i64 0, .int .i64 ((n : Int) * 16), .bool false, .int .i64 0, .string M], .string P, .slice FA (fs.length - u') fc] W fun e w' => ∃ A2 c2, e = .returned (.tuple #[.agg #[.slice A2 R.l.bs.length c2, .int .i64 R.l.s, .int .i64 R.l.tag], .string R.t, .agg #[.int .i64 R.c, .int .i64 0, .int .i64 (R.u : Int)]]) ∧ DkS w' W.heap.size A2 c2 R.l.bs ∧ Below W.heap.size W w') := Lib.hid (fun A c FA fc W hA hF => by
          have := cycle_write l' A c FA fc (fs.drop u') (a + d) n P 0 W hA (by rw [List.length_drop]; exact hF) HOK'.out ⟨by rw [List.length_drop]; omega, fun f hf => HFS.out.all f (List.mem_of_mem_drop hf)⟩ n1 n4 (by rw [HLN'.out]; omega) hPz
          rw [List.length_drop, show ((n * 16 : Nat) : Int) = (n : Int) * 16 by omega, ← HM1.out, ← hR] at this
          exact this)
        clear hR
        go_upto_region 12 with (fail)
        go_cut [23, 24, 25] from 68 to 79 (fun v23 v24 v25 wx => ∃ g23 g25 A2 c2, v23 = .pointer (some ⟨g23, 0, none⟩) ∧ v24 = .string R.t ∧ v25 = .pointer (some ⟨g25, 0, none⟩) ∧ w.heap.size + 3 < g25 ∧ PB w A' c' l' 0 (d : Int) (u' : Int) wx ∧ wx.heap[g20]? = some (.cells #[.int .i64 0, .int .i64 ((n : Int) * 16), .bool false, .int .i64 0, .string M] 75 (0, 0)) ∧
          wx.heap[g23]? = some (.cells #[.slice A2 R.l.bs.length c2, .int .i64 R.l.s, .int .i64 R.l.tag] 26 (0, 0)) ∧ wx.heap[g25]? = some (.cells #[.int .i64 R.c, .int .i64 0, .int .i64 (R.u : Int)] 30 (0, 0)) ∧ DkS wx (w.heap.size + 4) A2 c2 R.l.bs)
        case first =>
          refine Kt.G.start 16 (fun X => PB w A' c' l' 0 (d : Int) (u' : Int) X ∧ X.heap[g20]? = some (.cells #[.int .i64 0, .int .i64 ((n : Int) * 16), .bool false, .int .i64 0, .string M] 75 (0, 0))) (by kernel_rfl) ⟨HPB.out.on (bdrewN (Below.refl _ wr2) 1), Kt.row_on (bdrewN (Below.refl _ wr2) 1) HRW.out⟩ (fun hHeld => ?_)
          have HQ : Hid (QB w A0 c0 l0.bs A' c' l'.bs wr2.drew) := Lib.hid (HQB.out.on (bdrewN (Below.refl _ wr2) 1))
          have HLT : Hid (g20 < wr2.drew.heap.size) := Lib.hid (Array.getElem?_eq_some_iff.1 HRW.out).1
          generalize wr2.drew = X0 at *
          refine Kt.G.take 0 { dst := some 69, op := Op.load 26 (Operand.tmp 6), type := 26, pos := "store.go:140", after := #[], guard := none } ?_ hHeld rfl (by kernel_rfl) (fun _ _ _ h => h) (by rfl) ?_ ?_
          rotate_left
          · intro w9 hSw; have c0 := fun i => cell_of_row _ _ i _ _ _ hSw.1.r0; go_simp; try with_reducible rfl
          try simp only [Act.put, List.setIfInBounds_toArray, List.set_cons_zero, List.set_cons_succ]
          refine Kt.G.take 1 { dst := some 70, op := Op.load 75 (Operand.tmp 20), type := 75, pos := "store.go:140", after := #[], guard := none } ?_ hHeld rfl (by kernel_rfl) (fun _ _ _ h => h) (by rfl) ?_ ?_
          rotate_left
          · intro w9 hSw; have c0 := fun i => cell_of_row _ _ i _ _ _ hSw.2; go_simp; try with_reducible rfl
          try simp only [Act.put, List.setIfInBounds_toArray, List.set_cons_zero, List.set_cons_succ]
          refine Kt.G.takeP 2 { dst := some 71, op := Op.move (Operand.tmp 21), type := 9, pos := "store.go:140", after := #[], guard := none } ?_ (fun _ => hHeld) rfl (by kernel_rfl) (fun _ _ _ h => h) (by rfl) ?_ ?_
          rotate_left
          · intro w; go_simp; try with_reducible rfl
          try simp only [Act.put, List.setIfInBounds_toArray, List.set_cons_zero, List.set_cons_succ]
          refine Kt.G.takeP 3 { dst := some 72, op := Op.move (Operand.tmp 5), type := 27, pos := "store.go:140", after := #[], guard := none } ?_ (fun _ => hHeld) rfl (by kernel_rfl) (fun _ _ _ h => h) (by rfl) ?_ ?_
          rotate_left
          · intro w; go_simp; try with_reducible rfl
          try simp only [Act.put, List.setIfInBounds_toArray, List.set_cons_zero, List.set_cons_succ]
          refine Kt.G.takeP 4 { dst := some 73, op := Op.fieldAddr 30 (Operand.tmp 15) 2, type := 0, pos := "store.go:140", after := #[], guard := none } ?_ (fun _ => hHeld) rfl (by kernel_rfl) (fun _ _ _ h => h) (by rfl) ?_ ?_
          rotate_left
          · intro w; go_simp; try with_reducible rfl
          try simp only [Act.put, List.setIfInBounds_toArray, List.set_cons_zero, List.set_cons_succ]
          refine Kt.G.take 5 { dst := some 74, op := Op.load 3 (Operand.tmp 73), type := 3, pos := "store.go:140", after := #[{ on := 4, ground := Ground.data }], guard := none } ?_ hHeld rfl (by kernel_rfl) (fun _ _ _ h => h) (by rfl) ?_ ?_
          rotate_left
          · intro w9 hSw; have c0 := fun i => cell_of_row _ _ i _ _ _ hSw.1.r3; go_simp; try with_reducible rfl
          try simp only [Act.put, List.setIfInBounds_toArray, List.set_cons_zero, List.set_cons_succ]
          refine Kt.G.takeP 6 { dst := some 75, op := Op.slice 27 (Operand.tmp 72) (some (Operand.tmp 74)) none none, type := 27, pos := "store.go:140", after := #[{ on := 3, ground := Ground.data }, { on := 5, ground := Ground.data }], guard := none } ?_ (fun _ => hHeld) rfl (by kernel_rfl) (fun _ _ _ h => h) (by rfl) ?_ ?_
          rotate_left
          · intro w; go_simp; try with_reducible rfl
          try simp only [Act.put, List.setIfInBounds_toArray, List.set_cons_zero, List.set_cons_succ]
          refine Kt.G.three 7 12 13 { dst := some 76, op := Op.call { callee := Callee.value (Operand.func 41), args := #[Operand.tmp 69, Operand.tmp 70, Operand.tmp 71, Operand.tmp 75], argTypes := #[26, 75, 9, 27] }, type := 31, pos := "store.go:140", after := #[{ on := 0, ground := Ground.data }, { on := 1, ground := Ground.data }, { on := 2, ground := Ground.data }, { on := 6, ground := Ground.data }], guard := none } { dst := some 23, op := Op.alloc 26, type := 0, pos := "store.go:140", after := #[], guard := none } { dst := some 25, op := Op.alloc 30, type := 0, pos := "store.go:140", after := #[], guard := none } rfl rfl rfl (by kernel_rfl) (by rfl) (by rfl) (by rfl) (fun K hK => ?_) (fun K hK => ?_) (fun K hK => ?_)
          · go_simp
            refine (HCY.out A' c' FX (fc - u') _ (HQ.out.toA HA.out hHeld.1.bel) (HFX.out.on hHeld.1.bel)).mono ?_
            rintro en x7 ⟨A2, c2, rfl, hs7, hb7⟩
            refine hK.out _ _ (fun _ => ⟨hHeld.1.on hb7, Kt.row_on hb7 hHeld.2⟩) (fun hHeld => ?_)
            have hHeld := hHeld rfl
            clear hK K
            try simp only [Act.put, List.setIfInBounds_toArray, List.set_cons_zero, List.set_cons_succ]
            have HS2 : Hid (DkS x7 (w.heap.size + 4) A2 c2 R.l.bs) := Lib.hid (Kt.Sl.mono hs7 (by have := HLT.out; have := HG20.out; omega))
            clear HQ
            replace HLT := Lib.hid (Nat.lt_of_lt_of_le HLT.out hb7.size)
            clear hs7 hb7
            refine Kt.G.takeP 8 { dst := some 68, op := Op.move (Operand.tmp 76), type := 31, pos := "store.go:140", after := #[{ on := 7, ground := Ground.data }], guard := none } ?_ (fun _ => hHeld) rfl (by kernel_rfl) (fun _ _ _ h => h) (by rfl) ?_ ?_
            rotate_left
            · intro w; go_simp; try with_reducible rfl
            try simp only [Act.put, List.setIfInBounds_toArray, List.set_cons_zero, List.set_cons_succ]
            refine Kt.G.takeP 9 { dst := some 77, op := Op.extract (Operand.tmp 68) 0, type := 26, pos := "store.go:140", after := #[{ on := 8, ground := Ground.data }], guard := none } ?_ (fun _ => hHeld) rfl (by kernel_rfl) (fun _ _ _ h => h) (by rfl) ?_ ?_
            rotate_left
            · intro w; go_simp; try with_reducible rfl
            try simp only [Act.put, List.setIfInBounds_toArray, List.set_cons_zero, List.set_cons_succ]
            refine Kt.G.takeP 10 { dst := some 78, op := Op.extract (Operand.tmp 68) 1, type := 9, pos := "store.go:140", after := #[{ on := 8, ground := Ground.data }, { on := 14, ground := Ground.gcOnly Departure.lateStores }], guard := none } ?_ (fun _ => hHeld) rfl (by kernel_rfl) (fun _ _ _ h => h) (by rfl) ?_ ?_
            rotate_left
            · intro w; go_simp; try with_reducible rfl
            try simp only [Act.put, List.setIfInBounds_toArray, List.set_cons_zero, List.set_cons_succ]
            refine Kt.G.takeP 11 { dst := some 79, op := Op.extract (Operand.tmp 68) 2, type := 30, pos := "store.go:140", after := #[{ on := 8, ground := Ground.data }, { on := 15, ground := Ground.gcOnly Departure.lateStores }], guard := none } ?_ (fun _ => hHeld) rfl (by kernel_rfl) (fun _ _ _ h => h) (by rfl) ?_ ?_
            rotate_left
            · intro w; go_simp; try with_reducible rfl
            try simp only [Act.put, List.setIfInBounds_toArray, List.set_cons_zero, List.set_cons_succ]
            refine Kt.G.two 12 13 { dst := some 23, op := Op.alloc 26, type := 0, pos := "store.go:140", after := #[], guard := none } { dst := some 25, op := Op.alloc 30, type := 0, pos := "store.go:140", after := #[], guard := none } rfl rfl (by kernel_rfl) (by rfl) (by rfl) (fun K hK => ?_) (fun K hK => ?_)
            · have hal := Kt.balloc (Below.refl _ (x7)) (.cells #[.slice none 0 0, .int .i64 0, .int .i64 0] 26)
              go_simp
              refine hK.out _ _ (fun _ => ⟨hHeld.1.on hal, Kt.row_on hal hHeld.2⟩) (fun hHeld => ?_)
              have hHeld := hHeld rfl
              clear hK K
              try simp only [Act.put, List.setIfInBounds_toArray, List.set_cons_zero, List.set_cons_succ]
              have r23 := heap_alloc_new (x7) (.cells #[.slice none 0 0, .int .i64 0, .int .i64 0] 26)
              obtain ⟨g23, hg23⟩ : ∃ g, g = (x7).heap.size := ⟨_, rfl⟩
              rw [← hg23] at r23
              have kg23 : w.heap.size + 3 < g23 ∧ g20 < g23 := by rw [hg23]; exact ⟨by have := HLT.out; have := HG20.out; omega, HLT.out⟩
              have ne23 : ∀ k, (Value.slice A2 R.l.bs.length c2).ownBlock = some k → k ≠ g23 := fun k hk => by rw [hg23]; have := (HS2.out.lt k hk).2; omega
              replace HLT := Lib.hid (Nat.lt_of_lt_of_le HLT.out hal.size)
              replace HS2 := Lib.hid (DkS.on HS2.out hal)
              clear hal
              (try rw [← hg23])
              clear hg23
              generalize (x7).alloc (.cells #[.slice none 0 0, .int .i64 0, .int .i64 0] 26) = y1 at *
              refine Kt.G.one 13 { dst := some 25, op := Op.alloc 30, type := 0, pos := "store.go:140", after := #[], guard := none } rfl (by kernel_rfl) (by rfl) (fun K hK => ?_)
              have hal := Kt.balloc (Below.refl _ (y1)) (.cells #[.int .i64 0, .int .i64 0, .int .i64 0] 30)
              go_simp
              refine hK.out _ _ (fun _ => ⟨hHeld.1.on hal, Kt.row_on hal hHeld.2⟩) (fun hHeld => ?_)
              have hHeld := hHeld rfl
              clear hK K
              try simp only [Act.put, List.setIfInBounds_toArray, List.set_cons_zero, List.set_cons_succ]
              have r25 := heap_alloc_new (y1) (.cells #[.int .i64 0, .int .i64 0, .int .i64 0] 30)
              obtain ⟨g25, hg25⟩ : ∃ g, g = (y1).heap.size := ⟨_, rfl⟩
              rw [← hg25] at r25
              have kg25 : w.heap.size + 3 < g25 ∧ g20 < g25 := by rw [hg25]; exact ⟨by have := HLT.out; have := HG20.out; omega, HLT.out⟩
              have ne25 : ∀ k, (Value.slice A2 R.l.bs.length c2).ownBlock = some k → k ≠ g25 := fun k hk => by rw [hg25]; have := (HS2.out.lt k hk).2; omega
              have kk : g23 ≠ g25 := by rw [hg25]; have := (Array.getElem?_eq_some_iff.1 r23).1; omega
              replace HLT := Lib.hid (Nat.lt_of_lt_of_le HLT.out hal.size)
              replace r23 := Kt.row_on hal r23
              replace HS2 := Lib.hid (DkS.on HS2.out hal)
              clear hal
              (try rw [← hg25])
              clear hg25
              generalize (y1).alloc (.cells #[.int .i64 0, .int .i64 0, .int .i64 0] 30) = y2 at *
              refine Kt.G.one 14 { dst := none, op := Op.store 26 (Operand.tmp 23) (Operand.tmp 77), type := 0, pos := "store.go:140", after := #[{ on := 12, ground := Ground.data }, { on := 9, ground := Ground.data }, { on := 7, ground := Ground.chain }, { on := 0, ground := Ground.phase }, { on := 1, ground := Ground.phase }, { on := 2, ground := Ground.phase }, { on := 3, ground := Ground.phase }, { on := 4, ground := Ground.phase }, { on := 5, ground := Ground.phase }, { on := 6, ground := Ground.phase }, { on := 7, ground := Ground.phase }, { on := 8, ground := Ground.phase }, { on := 9, ground := Ground.phase }, { on := 10, ground := Ground.textOnly Departure.lateStores }, { on := 11, ground := Ground.textOnly Departure.lateStores }, { on := 12, ground := Ground.phase }, { on := 13, ground := Ground.phase }], guard := none } rfl (by kernel_rfl) (by rfl) (fun K hK => ?_)
              have cK := fun i => cell_of_row _ _ i _ _ _ r23
              have fK := fun i => frozen_of_row _ _ i _ _ r23
              have hu := (((Upd.refl g23 y2).set 0 (.slice A2 R.l.bs.length c2)).set 1 (.int .i64 R.l.s)).set 2 (.int .i64 R.l.tag)
              go_simp
              clear cK fK
              refine hK.out _ _ (fun _ => ⟨hHeld.1.upd hu kg23.1, hu.row hHeld.2 (by have := kg23.2; omega)⟩) (fun hHeld => ?_)
              have hHeld := hHeld rfl
              clear hK K
              try simp only [Act.put, List.setIfInBounds_toArray, List.set_cons_zero, List.set_cons_succ]
              replace r23 := row_put3 (x' := .slice A2 R.l.bs.length c2) (y' := .int .i64 R.l.s) (z' := .int .i64 R.l.tag) r23
              replace r25 := hu.row r25 (by omega)
              replace HS2 := Lib.hid (show DkS _ (w.heap.size + 4) A2 c2 R.l.bs from HS2.out.keep fun k hk => hu.other k (ne23 k hk) (HS2.out.lt k hk).2)
              clear hu
              generalize ((y2.setCell ⟨g23, 0, none⟩ (.slice A2 R.l.bs.length c2)).setCell ⟨g23, 1, none⟩ (.int .i64 R.l.s)).setCell ⟨g23, 2, none⟩ (.int .i64 R.l.tag) = z3 at *
              refine Kt.G.takeP 15 { dst := some 24, op := Op.assign (Operand.tmp 78), type := 9, pos := "store.go:140", after := #[{ on := 10, ground := Ground.data }, { on := 14, ground := Ground.chain }, { on := 0, ground := Ground.phase }, { on := 1, ground := Ground.phase }, { on := 2, ground := Ground.phase }, { on := 3, ground := Ground.phase }, { on := 4, ground := Ground.phase }, { on := 5, ground := Ground.phase }, { on := 6, ground := Ground.phase }, { on := 7, ground := Ground.phase }, { on := 8, ground := Ground.phase }, { on := 9, ground := Ground.phase }, { on := 10, ground := Ground.phase }, { on := 11, ground := Ground.textOnly Departure.lateStores }, { on := 12, ground := Ground.phase }, { on := 13, ground := Ground.phase }, { on := 14, ground := Ground.phase }], guard := none } ?_ (fun _ => hHeld) rfl (by kernel_rfl) (fun _ _ _ h => h) (by rfl) ?_ ?_
              rotate_left
              · intro w; go_simp; try with_reducible rfl
              try simp only [Act.put, List.setIfInBounds_toArray, List.set_cons_zero, List.set_cons_succ]
              refine Kt.G.one 16 { dst := none, op := Op.store 30 (Operand.tmp 25) (Operand.tmp 79), type := 0, pos := "store.go:140", after := #[{ on := 13, ground := Ground.data }, { on := 11, ground := Ground.data }, { on := 15, ground := Ground.chain }, { on := 0, ground := Ground.phase }, { on := 1, ground := Ground.phase }, { on := 2, ground := Ground.phase }, { on := 3, ground := Ground.phase }, { on := 4, ground := Ground.phase }, { on := 5, ground := Ground.phase }, { on := 6, ground := Ground.phase }, { on := 7, ground := Ground.phase }, { on := 8, ground := Ground.phase }, { on := 9, ground := Ground.phase }, { on := 10, ground := Ground.phase }, { on := 11, ground := Ground.phase }, { on := 12, ground := Ground.phase }, { on := 13, ground := Ground.phase }, { on := 14, ground := Ground.phase }, { on := 15, ground := Ground.phase }], guard := none } rfl (by kernel_rfl) (by rfl) (fun K hK => ?_)
              have cK := fun i => cell_of_row _ _ i _ _ _ r25
              have fK := fun i => frozen_of_row _ _ i _ _ r25
              have hu := (((Upd.refl g25 z3).set 0 (.int .i64 R.c)).set 1 (.int .i64 0)).set 2 (.int .i64 (R.u : Int))
              go_simp
              clear cK fK
              have hL := (show _ ∧ _ from ⟨hHeld.1.upd hu kg25.1, hu.row hHeld.2 (by have := kg25.2; omega)⟩)
              refine hK.out _ _ (Kt.G.late (by kernel_rfl)) (fun _ => ?_)
              clear hK K
              try simp only [Act.put, List.setIfInBounds_toArray, List.set_cons_zero, List.set_cons_succ]
              replace r25 := row_put3 (x' := .int .i64 R.c) (y' := .int .i64 0) (z' := .int .i64 (R.u : Int)) r25
              replace r23 := hu.row r23 (by omega)
              replace HS2 := Lib.hid (show DkS _ (w.heap.size + 4) A2 c2 R.l.bs from HS2.out.keep fun k hk => hu.other k (ne25 k hk) (HS2.out.lt k hk).2)
              clear hu
              generalize ((z3.setCell ⟨g25, 0, none⟩ (.int .i64 R.c)).setCell ⟨g25, 1, none⟩ (.int .i64 0)).setCell ⟨g25, 2, none⟩ (.int .i64 (R.u : Int)) = z4 at *
              have hL0 := hL
              clear hL
              refine Kt.G.done (by kernel_rfl) (NoPanic.normal ?_) _
              go_wp2_with fail
              go_meet
              case rel => exact ⟨g23, g25, A2, c2, rfl, rfl, rfl, kg25.1, hL0.1, hL0.2, r23, r25, HS2.out⟩
            · have hal := Kt.balloc (Below.refl _ (x7)) (.cells #[.int .i64 0, .int .i64 0, .int .i64 0] 30)
              go_simp
              refine hK.out _ _ (fun _ => ⟨hHeld.1.on hal, Kt.row_on hal hHeld.2⟩) (fun hHeld => ?_)
              have hHeld := hHeld rfl
              clear hK K
              try simp only [Act.put, List.setIfInBounds_toArray, List.set_cons_zero, List.set_cons_succ]
              have r25 := heap_alloc_new (x7) (.cells #[.int .i64 0, .int .i64 0, .int .i64 0] 30)
              obtain ⟨g25, hg25⟩ : ∃ g, g = (x7).heap.size := ⟨_, rfl⟩
              rw [← hg25] at r25
              have kg25 : w.heap.size + 3 < g25 ∧ g20 < g25 := by rw [hg25]; exact ⟨by have := HLT.out; have := HG20.out; omega, HLT.out⟩
              have ne25 : ∀ k, (Value.slice A2 R.l.bs.length c2).ownBlock = some k → k ≠ g25 := fun k hk => by rw [hg25]; have := (HS2.out.lt k hk).2; omega
              replace HLT := Lib.hid (Nat.lt_of_lt_of_le HLT.out hal.size)
              replace HS2 := Lib.hid (DkS.on HS2.out hal)
              clear hal
              (try rw [← hg25])
              clear hg25
              generalize (x7).alloc (.cells #[.int .i64 0, .int .i64 0, .int .i64 0] 30) = y5 at *
              refine Kt.G.one 12 { dst := some 23, op := Op.alloc 26, type := 0, pos := "store.go:140", after := #[], guard := none } rfl (by kernel_rfl) (by rfl) (fun K hK => ?_)
              have hal := Kt.balloc (Below.refl _ (y5)) (.cells #[.slice none 0 0, .int .i64 0, .int .i64 0] 26)
              go_simp
              refine hK.out _ _ (fun _ => ⟨hHeld.1.on hal, Kt.row_on hal hHeld.2⟩) (fun hHeld => ?_)
              have hHeld := hHeld rfl
              clear hK K
              try simp only [Act.put, List.setIfInBounds_toArray, List.set_cons_zero, List.set_cons_succ]
              have r23 := heap_alloc_new (y5) (.cells #[.slice none 0 0, .int .i64 0, .int .i64 0] 26)
              obtain ⟨g23, hg23⟩ : ∃ g, g = (y5).heap.size := ⟨_, rfl⟩
              rw [← hg23] at r23
              have kg23 : w.heap.size + 3 < g23 ∧ g20 < g23 := by rw [hg23]; exact ⟨by have := HLT.out; have := HG20.out; omega, HLT.out⟩
              have ne23 : ∀ k, (Value.slice A2 R.l.bs.length c2).ownBlock = some k → k ≠ g23 := fun k hk => by rw [hg23]; have := (HS2.out.lt k hk).2; omega
              have kk : g23 ≠ g25 := by rw [hg23]; have := (Array.getElem?_eq_some_iff.1 r25).1; omega
              replace HLT := Lib.hid (Nat.lt_of_lt_of_le HLT.out hal.size)
              replace r25 := Kt.row_on hal r25
              replace HS2 := Lib.hid (DkS.on HS2.out hal)
              clear hal
              (try rw [← hg23])
              clear hg23
              generalize (y5).alloc (.cells #[.slice none 0 0, .int .i64 0, .int .i64 0] 26) = y6 at *
              refine Kt.G.one 14 { dst := none, op := Op.store 26 (Operand.tmp 23) (Operand.tmp 77), type := 0, pos := "store.go:140", after := #[{ on := 12, ground := Ground.data }, { on := 9, ground := Ground.data }, { on := 7, ground := Ground.chain }, { on := 0, ground := Ground.phase }, { on := 1, ground := Ground.phase }, { on := 2, ground := Ground.phase }, { on := 3, ground := Ground.phase }, { on := 4, ground := Ground.phase }, { on := 5, ground := Ground.phase }, { on := 6, ground := Ground.phase }, { on := 7, ground := Ground.phase }, { on := 8, ground := Ground.phase }, { on := 9, ground := Ground.phase }, { on := 10, ground := Ground.textOnly Departure.lateStores }, { on := 11, ground := Ground.textOnly Departure.lateStores }, { on := 12, ground := Ground.phase }, { on := 13, ground := Ground.phase }], guard := none } rfl (by kernel_rfl) (by rfl) (fun K hK => ?_)
              have cK := fun i => cell_of_row _ _ i _ _ _ r23
              have fK := fun i => frozen_of_row _ _ i _ _ r23
              have hu := (((Upd.refl g23 y6).set 0 (.slice A2 R.l.bs.length c2)).set 1 (.int .i64 R.l.s)).set 2 (.int .i64 R.l.tag)
              go_simp
              clear cK fK
              refine hK.out _ _ (fun _ => ⟨hHeld.1.upd hu kg23.1, hu.row hHeld.2 (by have := kg23.2; omega)⟩) (fun hHeld => ?_)
              have hHeld := hHeld rfl
              clear hK K
              try simp only [Act.put, List.setIfInBounds_toArray, List.set_cons_zero, List.set_cons_succ]
              replace r23 := row_put3 (x' := .slice A2 R.l.bs.length c2) (y' := .int .i64 R.l.s) (z' := .int .i64 R.l.tag) r23
              replace r25 := hu.row r25 (by omega)
              replace HS2 := Lib.hid (show DkS _ (w.heap.size + 4) A2 c2 R.l.bs from HS2.out.keep fun k hk => hu.other k (ne23 k hk) (HS2.out.lt k hk).2)
              clear hu
              generalize ((y6.setCell ⟨g23, 0, none⟩ (.slice A2 R.l.bs.length c2)).setCell ⟨g23, 1, none⟩ (.int .i64 R.l.s)).setCell ⟨g23, 2, none⟩ (.int .i64 R.l.tag) = z7 at *
              refine Kt.G.takeP 15 { dst := some 24, op := Op.assign (Operand.tmp 78), type := 9, pos := "store.go:140", after := #[{ on := 10, ground := Ground.data }, { on := 14, ground := Ground.chain }, { on := 0, ground := Ground.phase }, { on := 1, ground := Ground.phase }, { on := 2, ground := Ground.phase }, { on := 3, ground := Ground.phase }, { on := 4, ground := Ground.phase }, { on := 5, ground := Ground.phase }, { on := 6, ground := Ground.phase }, { on := 7, ground := Ground.phase }, { on := 8, ground := Ground.phase }, { on := 9, ground := Ground.phase }, { on := 10, ground := Ground.phase }, { on := 11, ground := Ground.textOnly Departure.lateStores }, { on := 12, ground := Ground.phase }, { on := 13, ground := Ground.phase }, { on := 14, ground := Ground.phase }], guard := none } ?_ (fun _ => hHeld) rfl (by kernel_rfl) (fun _ _ _ h => h) (by rfl) ?_ ?_
              rotate_left
              · intro w; go_simp; try with_reducible rfl
              try simp only [Act.put, List.setIfInBounds_toArray, List.set_cons_zero, List.set_cons_succ]
              refine Kt.G.one 16 { dst := none, op := Op.store 30 (Operand.tmp 25) (Operand.tmp 79), type := 0, pos := "store.go:140", after := #[{ on := 13, ground := Ground.data }, { on := 11, ground := Ground.data }, { on := 15, ground := Ground.chain }, { on := 0, ground := Ground.phase }, { on := 1, ground := Ground.phase }, { on := 2, ground := Ground.phase }, { on := 3, ground := Ground.phase }, { on := 4, ground := Ground.phase }, { on := 5, ground := Ground.phase }, { on := 6, ground := Ground.phase }, { on := 7, ground := Ground.phase }, { on := 8, ground := Ground.phase }, { on := 9, ground := Ground.phase }, { on := 10, ground := Ground.phase }, { on := 11, ground := Ground.phase }, { on := 12, ground := Ground.phase }, { on := 13, ground := Ground.phase }, { on := 14, ground := Ground.phase }, { on := 15, ground := Ground.phase }], guard := none } rfl (by kernel_rfl) (by rfl) (fun K hK => ?_)
              have cK := fun i => cell_of_row _ _ i _ _ _ r25
              have fK := fun i => frozen_of_row _ _ i _ _ r25
              have hu := (((Upd.refl g25 z7).set 0 (.int .i64 R.c)).set 1 (.int .i64 0)).set 2 (.int .i64 (R.u : Int))
              go_simp
              clear cK fK
              have hL := (show _ ∧ _ from ⟨hHeld.1.upd hu kg25.1, hu.row hHeld.2 (by have := kg25.2; omega)⟩)
              refine hK.out _ _ (Kt.G.late (by kernel_rfl)) (fun _ => ?_)
              clear hK K
              try simp only [Act.put, List.setIfInBounds_toArray, List.set_cons_zero, List.set_cons_succ]
              replace r25 := row_put3 (x' := .int .i64 R.c) (y' := .int .i64 0) (z' := .int .i64 (R.u : Int)) r25
              replace r23 := hu.row r23 (by omega)
              replace HS2 := Lib.hid (show DkS _ (w.heap.size + 4) A2 c2 R.l.bs from HS2.out.keep fun k hk => hu.other k (ne25 k hk) (HS2.out.lt k hk).2)
              clear hu
              generalize ((z7.setCell ⟨g25, 0, none⟩ (.int .i64 R.c)).setCell ⟨g25, 1, none⟩ (.int .i64 0)).setCell ⟨g25, 2, none⟩ (.int .i64 (R.u : Int)) = z8 at *
              have hL0 := hL
              clear hL
              refine Kt.G.done (by kernel_rfl) (NoPanic.normal ?_) _
              go_wp2_with fail
              go_meet
              case rel => exact ⟨g23, g25, A2, c2, rfl, rfl, rfl, kg25.1, hL0.1, hL0.2, r23, r25, HS2.out⟩
          · have hal := Kt.balloc (Below.refl _ (X0)) (.cells #[.slice none 0 0, .int .i64 0, .int .i64 0] 26)
            go_simp
            refine hK.out _ _ (fun _ => ⟨hHeld.1.on hal, Kt.row_on hal hHeld.2⟩) (fun hHeld => ?_)
            have hHeld := hHeld rfl
            clear hK K
            try simp only [Act.put, List.setIfInBounds_toArray, List.set_cons_zero, List.set_cons_succ]
            have r23 := heap_alloc_new (X0) (.cells #[.slice none 0 0, .int .i64 0, .int .i64 0] 26)
            obtain ⟨g23, hg23⟩ : ∃ g, g = (X0).heap.size := ⟨_, rfl⟩
            rw [← hg23] at r23
            have kg23 : w.heap.size + 3 < g23 ∧ g20 < g23 := by rw [hg23]; exact ⟨by have := HLT.out; have := HG20.out; omega, HLT.out⟩
            replace HLT := Lib.hid (Nat.lt_of_lt_of_le HLT.out hal.size)
            replace HQ := Lib.hid (HQ.out.on hal)
            clear hal
            (try rw [← hg23])
            clear hg23
            generalize (X0).alloc (.cells #[.slice none 0 0, .int .i64 0, .int .i64 0] 26) = y9 at *
            refine Kt.G.two 7 13 { dst := some 76, op := Op.call { callee := Callee.value (Operand.func 41), args := #[Operand.tmp 69, Operand.tmp 70, Operand.tmp 71, Operand.tmp 75], argTypes := #[26, 75, 9, 27] }, type := 31, pos := "store.go:140", after := #[{ on := 0, ground := Ground.data }, { on := 1, ground := Ground.data }, { on := 2, ground := Ground.data }, { on := 6, ground := Ground.data }], guard := none } { dst := some 25, op := Op.alloc 30, type := 0, pos := "store.go:140", after := #[], guard := none } rfl rfl (by kernel_rfl) (by rfl) (by rfl) (fun K hK => ?_) (fun K hK => ?_)
            · go_simp
              refine (HCY.out A' c' FX (fc - u') _ (HQ.out.toA HA.out hHeld.1.bel) (HFX.out.on hHeld.1.bel)).mono ?_
              rintro en x7 ⟨A2, c2, rfl, hs7, hb7⟩
              refine hK.out _ _ (fun _ => ⟨hHeld.1.on hb7, Kt.row_on hb7 hHeld.2⟩) (fun hHeld => ?_)
              have hHeld := hHeld rfl
              clear hK K
              try simp only [Act.put, List.setIfInBounds_toArray, List.set_cons_zero, List.set_cons_succ]
              have HS2 : Hid (DkS x7 (w.heap.size + 4) A2 c2 R.l.bs) := Lib.hid (Kt.Sl.mono hs7 (by have := HLT.out; have := HG20.out; omega))
              have ne23 : ∀ k, (Value.slice A2 R.l.bs.length c2).ownBlock = some k → k ≠ g23 := fun k hk => by have := (hs7.lt k hk).1; have := (Array.getElem?_eq_some_iff.1 r23).1; omega
              clear HQ
              replace r23 := Kt.row_on hb7 r23
              replace HLT := Lib.hid (Nat.lt_of_lt_of_le HLT.out hb7.size)
              clear hs7 hb7
              refine Kt.G.takeP 8 { dst := some 68, op := Op.move (Operand.tmp 76), type := 31, pos := "store.go:140", after := #[{ on := 7, ground := Ground.data }], guard := none } ?_ (fun _ => hHeld) rfl (by kernel_rfl) (fun _ _ _ h => h) (by rfl) ?_ ?_
              rotate_left
              · intro w; go_simp; try with_reducible rfl
              try simp only [Act.put, List.setIfInBounds_toArray, List.set_cons_zero, List.set_cons_succ]
              refine Kt.G.takeP 9 { dst := some 77, op := Op.extract (Operand.tmp 68) 0, type := 26, pos := "store.go:140", after := #[{ on := 8, ground := Ground.data }], guard := none } ?_ (fun _ => hHeld) rfl (by kernel_rfl) (fun _ _ _ h => h) (by rfl) ?_ ?_
              rotate_left
              · intro w; go_simp; try with_reducible rfl
              try simp only [Act.put, List.setIfInBounds_toArray, List.set_cons_zero, List.set_cons_succ]
              refine Kt.G.takeP 10 { dst := some 78, op := Op.extract (Operand.tmp 68) 1, type := 9, pos := "store.go:140", after := #[{ on := 8, ground := Ground.data }, { on := 14, ground := Ground.gcOnly Departure.lateStores }], guard := none } ?_ (fun _ => hHeld) rfl (by kernel_rfl) (fun _ _ _ h => h) (by rfl) ?_ ?_
              rotate_left
              · intro w; go_simp; try with_reducible rfl
              try simp only [Act.put, List.setIfInBounds_toArray, List.set_cons_zero, List.set_cons_succ]
              refine Kt.G.takeP 11 { dst := some 79, op := Op.extract (Operand.tmp 68) 2, type := 30, pos := "store.go:140", after := #[{ on := 8, ground := Ground.data }, { on := 15, ground := Ground.gcOnly Departure.lateStores }], guard := none } ?_ (fun _ => hHeld) rfl (by kernel_rfl) (fun _ _ _ h => h) (by rfl) ?_ ?_
              rotate_left
              · intro w; go_simp; try with_reducible rfl
              try simp only [Act.put, List.setIfInBounds_toArray, List.set_cons_zero, List.set_cons_succ]
              refine Kt.G.one 13 { dst := some 25, op := Op.alloc 30, type := 0, pos := "store.go:140", after := #[], guard := none } rfl (by kernel_rfl) (by rfl) (fun K hK => ?_)
              have hal := Kt.balloc (Below.refl _ (x7)) (.cells #[.int .i64 0, .int .i64 0, .int .i64 0] 30)
              go_simp
              refine hK.out _ _ (fun _ => ⟨hHeld.1.on hal, Kt.row_on hal hHeld.2⟩) (fun hHeld => ?_)
              have hHeld := hHeld rfl
              clear hK K
              try simp only [Act.put, List.setIfInBounds_toArray, List.set_cons_zero, List.set_cons_succ]
              have r25 := heap_alloc_new (x7) (.cells #[.int .i64 0, .int .i64 0, .int .i64 0] 30)
              obtain ⟨g25, hg25⟩ : ∃ g, g = (x7).heap.size := ⟨_, rfl⟩
              rw [← hg25] at r25
              have kg25 : w.heap.size + 3 < g25 ∧ g20 < g25 := by rw [hg25]; exact ⟨by have := HLT.out; have := HG20.out; omega, HLT.out⟩
              have ne25 : ∀ k, (Value.slice A2 R.l.bs.length c2).ownBlock = some k → k ≠ g25 := fun k hk => by rw [hg25]; have := (HS2.out.lt k hk).2; omega
              have kk : g23 ≠ g25 := by rw [hg25]; have := (Array.getElem?_eq_some_iff.1 r23).1; omega
              replace HLT := Lib.hid (Nat.lt_of_lt_of_le HLT.out hal.size)
              replace r23 := Kt.row_on hal r23
              replace HS2 := Lib.hid (DkS.on HS2.out hal)
              clear hal
              (try rw [← hg25])
              clear hg25
              generalize (x7).alloc (.cells #[.int .i64 0, .int .i64 0, .int .i64 0] 30) = y10 at *
              refine Kt.G.one 14 { dst := none, op := Op.store 26 (Operand.tmp 23) (Operand.tmp 77), type := 0, pos := "store.go:140", after := #[{ on := 12, ground := Ground.data }, { on := 9, ground := Ground.data }, { on := 7, ground := Ground.chain }, { on := 0, ground := Ground.phase }, { on := 1, ground := Ground.phase }, { on := 2, ground := Ground.phase }, { on := 3, ground := Ground.phase }, { on := 4, ground := Ground.phase }, { on := 5, ground := Ground.phase }, { on := 6, ground := Ground.phase }, { on := 7, ground := Ground.phase }, { on := 8, ground := Ground.phase }, { on := 9, ground := Ground.phase }, { on := 10, ground := Ground.textOnly Departure.lateStores }, { on := 11, ground := Ground.textOnly Departure.lateStores }, { on := 12, ground := Ground.phase }, { on := 13, ground := Ground.phase }], guard := none } rfl (by kernel_rfl) (by rfl) (fun K hK => ?_)
              have cK := fun i => cell_of_row _ _ i _ _ _ r23
              have fK := fun i => frozen_of_row _ _ i _ _ r23
              have hu := (((Upd.refl g23 y10).set 0 (.slice A2 R.l.bs.length c2)).set 1 (.int .i64 R.l.s)).set 2 (.int .i64 R.l.tag)
              go_simp
              clear cK fK
              refine hK.out _ _ (fun _ => ⟨hHeld.1.upd hu kg23.1, hu.row hHeld.2 (by have := kg23.2; omega)⟩) (fun hHeld => ?_)
              have hHeld := hHeld rfl
              clear hK K
              try simp only [Act.put, List.setIfInBounds_toArray, List.set_cons_zero, List.set_cons_succ]
              replace r23 := row_put3 (x' := .slice A2 R.l.bs.length c2) (y' := .int .i64 R.l.s) (z' := .int .i64 R.l.tag) r23
              replace r25 := hu.row r25 (by omega)
              replace HS2 := Lib.hid (show DkS _ (w.heap.size + 4) A2 c2 R.l.bs from HS2.out.keep fun k hk => hu.other k (ne23 k hk) (HS2.out.lt k hk).2)
              clear hu
              generalize ((y10.setCell ⟨g23, 0, none⟩ (.slice A2 R.l.bs.length c2)).setCell ⟨g23, 1, none⟩ (.int .i64 R.l.s)).setCell ⟨g23, 2, none⟩ (.int .i64 R.l.tag) = z11 at *
              refine Kt.G.takeP 15 { dst := some 24, op := Op.assign (Operand.tmp 78), type := 9, pos := "store.go:140", after := #[{ on := 10, ground := Ground.data }, { on := 14, ground := Ground.chain }, { on := 0, ground := Ground.phase }, { on := 1, ground := Ground.phase }, { on := 2, ground := Ground.phase }, { on := 3, ground := Ground.phase }, { on := 4, ground := Ground.phase }, { on := 5, ground := Ground.phase }, { on := 6, ground := Ground.phase }, { on := 7, ground := Ground.phase }, { on := 8, ground := Ground.phase }, { on := 9, ground := Ground.phase }, { on := 10, ground := Ground.phase }, { on := 11, ground := Ground.textOnly Departure.lateStores }, { on := 12, ground := Ground.phase }, { on := 13, ground := Ground.phase }, { on := 14, ground := Ground.phase }], guard := none } ?_ (fun _ => hHeld) rfl (by kernel_rfl) (fun _ _ _ h => h) (by rfl) ?_ ?_
              rotate_left
              · intro w; go_simp; try with_reducible rfl
              try simp only [Act.put, List.setIfInBounds_toArray, List.set_cons_zero, List.set_cons_succ]
              refine Kt.G.one 16 { dst := none, op := Op.store 30 (Operand.tmp 25) (Operand.tmp 79), type := 0, pos := "store.go:140", after := #[{ on := 13, ground := Ground.data }, { on := 11, ground := Ground.data }, { on := 15, ground := Ground.chain }, { on := 0, ground := Ground.phase }, { on := 1, ground := Ground.phase }, { on := 2, ground := Ground.phase }, { on := 3, ground := Ground.phase }, { on := 4, ground := Ground.phase }, { on := 5, ground := Ground.phase }, { on := 6, ground := Ground.phase }, { on := 7, ground := Ground.phase }, { on := 8, ground := Ground.phase }, { on := 9, ground := Ground.phase }, { on := 10, ground := Ground.phase }, { on := 11, ground := Ground.phase }, { on := 12, ground := Ground.phase }, { on := 13, ground := Ground.phase }, { on := 14, ground := Ground.phase }, { on := 15, ground := Ground.phase }], guard := none } rfl (by kernel_rfl) (by rfl) (fun K hK => ?_)
              have cK := fun i => cell_of_row _ _ i _ _ _ r25
              have fK := fun i => frozen_of_row _ _ i _ _ r25
              have hu := (((Upd.refl g25 z11).set 0 (.int .i64 R.c)).set 1 (.int .i64 0)).set 2 (.int .i64 (R.u : Int))
              go_simp
              clear cK fK
              have hL := (show _ ∧ _ from ⟨hHeld.1.upd hu kg25.1, hu.row hHeld.2 (by have := kg25.2; omega)⟩)
              refine hK.out _ _ (Kt.G.late (by kernel_rfl)) (fun _ => ?_)
              clear hK K
              try simp only [Act.put, List.setIfInBounds_toArray, List.set_cons_zero, List.set_cons_succ]
              replace r25 := row_put3 (x' := .int .i64 R.c) (y' := .int .i64 0) (z' := .int .i64 (R.u : Int)) r25
              replace r23 := hu.row r23 (by omega)
              replace HS2 := Lib.hid (show DkS _ (w.heap.size + 4) A2 c2 R.l.bs from HS2.out.keep fun k hk => hu.other k (ne25 k hk) (HS2.out.lt k hk).2)
              clear hu
              generalize ((z11.setCell ⟨g25, 0, none⟩ (.int .i64 R.c)).setCell ⟨g25, 1, none⟩ (.int .i64 0)).setCell ⟨g25, 2, none⟩ (.int .i64 (R.u : Int)) = z12 at *
              have hL0 := hL
              clear hL
              refine Kt.G.done (by kernel_rfl) (NoPanic.normal ?_) _
              go_wp2_with fail
              go_meet
              case rel => exact ⟨g23, g25, A2, c2, rfl, rfl, rfl, kg25.1, hL0.1, hL0.2, r23, r25, HS2.out⟩
            · have hal := Kt.balloc (Below.refl _ (y9)) (.cells #[.int .i64 0, .int .i64 0, .int .i64 0] 30)
              go_simp
              refine hK.out _ _ (fun _ => ⟨hHeld.1.on hal, Kt.row_on hal hHeld.2⟩) (fun hHeld => ?_)
              have hHeld := hHeld rfl
              clear hK K
              try simp only [Act.put, List.setIfInBounds_toArray, List.set_cons_zero, List.set_cons_succ]
              have r25 := heap_alloc_new (y9) (.cells #[.int .i64 0, .int .i64 0, .int .i64 0] 30)
              obtain ⟨g25, hg25⟩ : ∃ g, g = (y9).heap.size := ⟨_, rfl⟩
              rw [← hg25] at r25
              have kg25 : w.heap.size + 3 < g25 ∧ g20 < g25 := by rw [hg25]; exact ⟨by have := HLT.out; have := HG20.out; omega, HLT.out⟩
              have kk : g23 ≠ g25 := by rw [hg25]; have := (Array.getElem?_eq_some_iff.1 r23).1; omega
              replace HLT := Lib.hid (Nat.lt_of_lt_of_le HLT.out hal.size)
              replace HQ := Lib.hid (HQ.out.on hal)
              replace r23 := Kt.row_on hal r23
              clear hal
              (try rw [← hg25])
              clear hg25
              generalize (y9).alloc (.cells #[.int .i64 0, .int .i64 0, .int .i64 0] 30) = y13 at *
              refine Kt.G.one 7 { dst := some 76, op := Op.call { callee := Callee.value (Operand.func 41), args := #[Operand.tmp 69, Operand.tmp 70, Operand.tmp 71, Operand.tmp 75], argTypes := #[26, 75, 9, 27] }, type := 31, pos := "store.go:140", after := #[{ on := 0, ground := Ground.data }, { on := 1, ground := Ground.data }, { on := 2, ground := Ground.data }, { on := 6, ground := Ground.data }], guard := none } rfl (by kernel_rfl) (by rfl) (fun K hK => ?_)
              go_simp
              refine (HCY.out A' c' FX (fc - u') _ (HQ.out.toA HA.out hHeld.1.bel) (HFX.out.on hHeld.1.bel)).mono ?_
              rintro en x7 ⟨A2, c2, rfl, hs7, hb7⟩
              refine hK.out _ _ (fun _ => ⟨hHeld.1.on hb7, Kt.row_on hb7 hHeld.2⟩) (fun hHeld => ?_)
              have hHeld := hHeld rfl
              clear hK K
              try simp only [Act.put, List.setIfInBounds_toArray, List.set_cons_zero, List.set_cons_succ]
              have HS2 : Hid (DkS x7 (w.heap.size + 4) A2 c2 R.l.bs) := Lib.hid (Kt.Sl.mono hs7 (by have := HLT.out; have := HG20.out; omega))
              have ne23 : ∀ k, (Value.slice A2 R.l.bs.length c2).ownBlock = some k → k ≠ g23 := fun k hk => by have := (hs7.lt k hk).1; have := (Array.getElem?_eq_some_iff.1 r23).1; omega
              have ne25 : ∀ k, (Value.slice A2 R.l.bs.length c2).ownBlock = some k → k ≠ g25 := fun k hk => by have := (hs7.lt k hk).1; have := (Array.getElem?_eq_some_iff.1 r25).1; omega
              clear HQ
              replace r23 := Kt.row_on hb7 r23
              replace r25 := Kt.row_on hb7 r25
              replace HLT := Lib.hid (Nat.lt_of_lt_of_le HLT.out hb7.size)
              clear hs7 hb7
              refine Kt.G.takeP 8 { dst := some 68, op := Op.move (Operand.tmp 76), type := 31, pos := "store.go:140", after := #[{ on := 7, ground := Ground.data }], guard := none } ?_ (fun _ => hHeld) rfl (by kernel_rfl) (fun _ _ _ h => h) (by rfl) ?_ ?_
              rotate_left
              · intro w; go_simp; try with_reducible rfl
              try simp only [Act.put, List.setIfInBounds_toArray, List.set_cons_zero, List.set_cons_succ]
              refine Kt.G.takeP 9 { dst := some 77, op := Op.extract (Operand.tmp 68) 0, type := 26, pos := "store.go:140", after := #[{ on := 8, ground := Ground.data }], guard := none } ?_ (fun _ => hHeld) rfl (by kernel_rfl) (fun _ _ _ h => h) (by rfl) ?_ ?_
              rotate_left
              · intro w; go_simp; try with_reducible rfl
              try simp only [Act.put, List.setIfInBounds_toArray, List.set_cons_zero, List.set_cons_succ]
              refine Kt.G.takeP 10 { dst := some 78, op := Op.extract (Operand.tmp 68) 1, type := 9, pos := "store.go:140", after := #[{ on := 8, ground := Ground.data }, { on := 14, ground := Ground.gcOnly Departure.lateStores }], guard := none } ?_ (fun _ => hHeld) rfl (by kernel_rfl) (fun _ _ _ h => h) (by rfl) ?_ ?_
              rotate_left
              · intro w; go_simp; try with_reducible rfl
              try simp only [Act.put, List.setIfInBounds_toArray, List.set_cons_zero, List.set_cons_succ]
              refine Kt.G.takeP 11 { dst := some 79, op := Op.extract (Operand.tmp 68) 2, type := 30, pos := "store.go:140", after := #[{ on := 8, ground := Ground.data }, { on := 15, ground := Ground.gcOnly Departure.lateStores }], guard := none } ?_ (fun _ => hHeld) rfl (by kernel_rfl) (fun _ _ _ h => h) (by rfl) ?_ ?_
              rotate_left
              · intro w; go_simp; try with_reducible rfl
              try simp only [Act.put, List.setIfInBounds_toArray, List.set_cons_zero, List.set_cons_succ]
              refine Kt.G.one 14 { dst := none, op := Op.store 26 (Operand.tmp 23) (Operand.tmp 77), type := 0, pos := "store.go:140", after := #[{ on := 12, ground := Ground.data }, { on := 9, ground := Ground.data }, { on := 7, ground := Ground.chain }, { on := 0, ground := Ground.phase }, { on := 1, ground := Ground.phase }, { on := 2, ground := Ground.phase }, { on := 3, ground := Ground.phase }, { on := 4, ground := Ground.phase }, { on := 5, ground := Ground.phase }, { on := 6, ground := Ground.phase }, { on := 7, ground := Ground.phase }, { on := 8, ground := Ground.phase }, { on := 9, ground := Ground.phase }, { on := 10, ground := Ground.textOnly Departure.lateStores }, { on := 11, ground := Ground.textOnly Departure.lateStores }, { on := 12, ground := Ground.phase }, { on := 13, ground := Ground.phase }], guard := none } rfl (by kernel_rfl) (by rfl) (fun K hK => ?_)
              have cK := fun i => cell_of_row _ _ i _ _ _ r23
              have fK := fun i => frozen_of_row _ _ i _ _ r23
              have hu := (((Upd.refl g23 x7).set 0 (.slice A2 R.l.bs.length c2)).set 1 (.int .i64 R.l.s)).set 2 (.int .i64 R.l.tag)
              go_simp
              clear cK fK
              refine hK.out _ _ (fun _ => ⟨hHeld.1.upd hu kg23.1, hu.row hHeld.2 (by have := kg23.2; omega)⟩) (fun hHeld => ?_)
              have hHeld := hHeld rfl
              clear hK K
              try simp only [Act.put, List.setIfInBounds_toArray, List.set_cons_zero, List.set_cons_succ]
              replace r23 := row_put3 (x' := .slice A2 R.l.bs.length c2) (y' := .int .i64 R.l.s) (z' := .int .i64 R.l.tag) r23
              replace r25 := hu.row r25 (by omega)
              replace HS2 := Lib.hid (show DkS _ (w.heap.size + 4) A2 c2 R.l.bs from HS2.out.keep fun k hk => hu.other k (ne23 k hk) (HS2.out.lt k hk).2)
              clear hu
              generalize ((x7.setCell ⟨g23, 0, none⟩ (.slice A2 R.l.bs.length c2)).setCell ⟨g23, 1, none⟩ (.int .i64 R.l.s)).setCell ⟨g23, 2, none⟩ (.int .i64 R.l.tag) = z14 at *
              refine Kt.G.takeP 15 { dst := some 24, op := Op.assign (Operand.tmp 78), type := 9, pos := "store.go:140", after := #[{ on := 10, ground := Ground.data }, { on := 14, ground := Ground.chain }, { on := 0, ground := Ground.phase }, { on := 1, ground := Ground.phase }, { on := 2, ground := Ground.phase }, { on := 3, ground := Ground.phase }, { on := 4, ground := Ground.phase }, { on := 5, ground := Ground.phase }, { on := 6, ground := Ground.phase }, { on := 7, ground := Ground.phase }, { on := 8, ground := Ground.phase }, { on := 9, ground := Ground.phase }, { on := 10, ground := Ground.phase }, { on := 11, ground := Ground.textOnly Departure.lateStores }, { on := 12, ground := Ground.phase }, { on := 13, ground := Ground.phase }, { on := 14, ground := Ground.phase }], guard := none } ?_ (fun _ => hHeld) rfl (by kernel_rfl) (fun _ _ _ h => h) (by rfl) ?_ ?_
              rotate_left
              · intro w; go_simp; try with_reducible rfl
              try simp only [Act.put, List.setIfInBounds_toArray, List.set_cons_zero, List.set_cons_succ]
              refine Kt.G.one 16 { dst := none, op := Op.store 30 (Operand.tmp 25) (Operand.tmp 79), type := 0, pos := "store.go:140", after := #[{ on := 13, ground := Ground.data }, { on := 11, ground := Ground.data }, { on := 15, ground := Ground.chain }, { on := 0, ground := Ground.phase }, { on := 1, ground := Ground.phase }, { on := 2, ground := Ground.phase }, { on := 3, ground := Ground.phase }, { on := 4, ground := Ground.phase }, { on := 5, ground := Ground.phase }, { on := 6, ground := Ground.phase }, { on := 7, ground := Ground.phase }, { on := 8, ground := Ground.phase }, { on := 9, ground := Ground.phase }, { on := 10, ground := Ground.phase }, { on := 11, ground := Ground.phase }, { on := 12, ground := Ground.phase }, { on := 13, ground := Ground.phase }, { on := 14, ground := Ground.phase }, { on := 15, ground := Ground.phase }], guard := none } rfl (by kernel_rfl) (by rfl) (fun K hK => ?_)
              have cK := fun i => cell_of_row _ _ i _ _ _ r25
              have fK := fun i => frozen_of_row _ _ i _ _ r25
              have hu := (((Upd.refl g25 z14).set 0 (.int .i64 R.c)).set 1 (.int .i64 0)).set 2 (.int .i64 (R.u : Int))
              go_simp
              clear cK fK
              have hL := (show _ ∧ _ from ⟨hHeld.1.upd hu kg25.1, hu.row hHeld.2 (by have := kg25.2; omega)⟩)
              refine hK.out _ _ (Kt.G.late (by kernel_rfl)) (fun _ => ?_)
              clear hK K
              try simp only [Act.put, List.setIfInBounds_toArray, List.set_cons_zero, List.set_cons_succ]
              replace r25 := row_put3 (x' := .int .i64 R.c) (y' := .int .i64 0) (z' := .int .i64 (R.u : Int)) r25
              replace r23 := hu.row r23 (by omega)
              replace HS2 := Lib.hid (show DkS _ (w.heap.size + 4) A2 c2 R.l.bs from HS2.out.keep fun k hk => hu.other k (ne25 k hk) (HS2.out.lt k hk).2)
              clear hu
              generalize ((z14.setCell ⟨g25, 0, none⟩ (.int .i64 R.c)).setCell ⟨g25, 1, none⟩ (.int .i64 0)).setCell ⟨g25, 2, none⟩ (.int .i64 (R.u : Int)) = z15 at *
              have hL0 := hL
              clear hL
              refine Kt.G.done (by kernel_rfl) (NoPanic.normal ?_) _
              go_wp2_with fail
              go_meet
              case rel => exact ⟨g23, g25, A2, c2, rfl, rfl, rfl, kg25.1, hL0.1, hL0.2, r23, r25, HS2.out⟩
          · have hal := Kt.balloc (Below.refl _ (X0)) (.cells #[.int .i64 0, .int .i64 0, .int .i64 0] 30)
            go_simp
            refine hK.out _ _ (fun _ => ⟨hHeld.1.on hal, Kt.row_on hal hHeld.2⟩) (fun hHeld => ?_)
            have hHeld := hHeld rfl
            clear hK K
            try simp only [Act.put, List.setIfInBounds_toArray, List.set_cons_zero, List.set_cons_succ]
            have r25 := heap_alloc_new (X0) (.cells #[.int .i64 0, .int .i64 0, .int .i64 0] 30)
            obtain ⟨g25, hg25⟩ : ∃ g, g = (X0).heap.size := ⟨_, rfl⟩
            rw [← hg25] at r25
            have kg25 : w.heap.size + 3 < g25 ∧ g20 < g25 := by rw [hg25]; exact ⟨by have := HLT.out; have := HG20.out; omega, HLT.out⟩
            replace HLT := Lib.hid (Nat.lt_of_lt_of_le HLT.out hal.size)
            replace HQ := Lib.hid (HQ.out.on hal)
            clear hal
            (try rw [← hg25])
            clear hg25
            generalize (X0).alloc (.cells #[.int .i64 0, .int .i64 0, .int .i64 0] 30) = y16 at *
            refine Kt.G.two 7 12 { dst := some 76, op := Op.call { callee := Callee.value (Operand.func 41), args := #[Operand.tmp 69, Operand.tmp 70, Operand.tmp 71, Operand.tmp 75], argTypes := #[26, 75, 9, 27] }, type := 31, pos := "store.go:140", after := #[{ on := 0, ground := Ground.data }, { on := 1, ground := Ground.data }, { on := 2, ground := Ground.data }, { on := 6, ground := Ground.data }], guard := none } { dst := some 23, op := Op.alloc 26, type := 0, pos := "store.go:140", after := #[], guard := none } rfl rfl (by kernel_rfl) (by rfl) (by rfl) (fun K hK => ?_) (fun K hK => ?_)
            · go_simp
              refine (HCY.out A' c' FX (fc - u') _ (HQ.out.toA HA.out hHeld.1.bel) (HFX.out.on hHeld.1.bel)).mono ?_
              rintro en x7 ⟨A2, c2, rfl, hs7, hb7⟩
              refine hK.out _ _ (fun _ => ⟨hHeld.1.on hb7, Kt.row_on hb7 hHeld.2⟩) (fun hHeld => ?_)
              have hHeld := hHeld rfl
              clear hK K
              try simp only [Act.put, List.setIfInBounds_toArray, List.set_cons_zero, List.set_cons_succ]
              have HS2 : Hid (DkS x7 (w.heap.size + 4) A2 c2 R.l.bs) := Lib.hid (Kt.Sl.mono hs7 (by have := HLT.out; have := HG20.out; omega))
              have ne25 : ∀ k, (Value.slice A2 R.l.bs.length c2).ownBlock = some k → k ≠ g25 := fun k hk => by have := (hs7.lt k hk).1; have := (Array.getElem?_eq_some_iff.1 r25).1; omega
              clear HQ
              replace r25 := Kt.row_on hb7 r25
              replace HLT := Lib.hid (Nat.lt_of_lt_of_le HLT.out hb7.size)
              clear hs7 hb7
              refine Kt.G.takeP 8 { dst := some 68, op := Op.move (Operand.tmp 76), type := 31, pos := "store.go:140", after := #[{ on := 7, ground := Ground.data }], guard := none } ?_ (fun _ => hHeld) rfl (by kernel_rfl) (fun _ _ _ h => h) (by rfl) ?_ ?_
              rotate_left
              · intro w; go_simp; try with_reducible rfl
              try simp only [Act.put, List.setIfInBounds_toArray, List.set_cons_zero, List.set_cons_succ]
              refine Kt.G.takeP 9 { dst := some 77, op := Op.extract (Operand.tmp 68) 0, type := 26, pos := "store.go:140", after := #[{ on := 8, ground := Ground.data }], guard := none } ?_ (fun _ => hHeld) rfl (by kernel_rfl) (fun _ _ _ h => h) (by rfl) ?_ ?_
              rotate_left
              · intro w; go_simp; try with_reducible rfl
              try simp only [Act.put, List.setIfInBounds_toArray, List.set_cons_zero, List.set_cons_succ]
              refine Kt.G.takeP 10 { dst := some 78, op := Op.extract (Operand.tmp 68) 1, type := 9, pos := "store.go:140", after := #[{ on := 8, ground := Ground.data }, { on := 14, ground := Ground.gcOnly Departure.lateStores }], guard := none } ?_ (fun _ => hHeld) rfl (by kernel_rfl) (fun _ _ _ h => h) (by rfl) ?_ ?_
              rotate_left
              · intro w; go_simp; try with_reducible rfl
              try simp only [Act.put, List.setIfInBounds_toArray, List.set_cons_zero, List.set_cons_succ]
              refine Kt.G.takeP 11 { dst := some 79, op := Op.extract (Operand.tmp 68) 2, type := 30, pos := "store.go:140", after := #[{ on := 8, ground := Ground.data }, { on := 15, ground := Ground.gcOnly Departure.lateStores }], guard := none } ?_ (fun _ => hHeld) rfl (by kernel_rfl) (fun _ _ _ h => h) (by rfl) ?_ ?_
              rotate_left
              · intro w; go_simp; try with_reducible rfl
              try simp only [Act.put, List.setIfInBounds_toArray, List.set_cons_zero, List.set_cons_succ]
              refine Kt.G.one 12 { dst := some 23, op := Op.alloc 26, type := 0, pos := "store.go:140", after := #[], guard := none } rfl (by kernel_rfl) (by rfl) (fun K hK => ?_)
              have hal := Kt.balloc (Below.refl _ (x7)) (.cells #[.slice none 0 0, .int .i64 0, .int .i64 0] 26)
              go_simp
              refine hK.out _ _ (fun _ => ⟨hHeld.1.on hal, Kt.row_on hal hHeld.2⟩) (fun hHeld => ?_)
              have hHeld := hHeld rfl
              clear hK K
              try simp only [Act.put, List.setIfInBounds_toArray, List.set_cons_zero, List.set_cons_succ]
              have r23 := heap_alloc_new (x7) (.cells #[.slice none 0 0, .int .i64 0, .int .i64 0] 26)
              obtain ⟨g23, hg23⟩ : ∃ g, g = (x7).heap.size := ⟨_, rfl⟩
              rw [← hg23] at r23
              have kg23 : w.heap.size + 3 < g23 ∧ g20 < g23 := by rw [hg23]; exact ⟨by have := HLT.out; have := HG20.out; omega, HLT.out⟩
              have ne23 : ∀ k, (Value.slice A2 R.l.bs.length c2).ownBlock = some k → k ≠ g23 := fun k hk => by rw [hg23]; have := (HS2.out.lt k hk).2; omega
              have kk : g23 ≠ g25 := by rw [hg23]; have := (Array.getElem?_eq_some_iff.1 r25).1; omega
              replace HLT := Lib.hid (Nat.lt_of_lt_of_le HLT.out hal.size)
              replace r25 := Kt.row_on hal r25
              replace HS2 := Lib.hid (DkS.on HS2.out hal)
              clear hal
              (try rw [← hg23])
              clear hg23
              generalize (x7).alloc (.cells #[.slice none 0 0, .int .i64 0, .int .i64 0] 26) = y17 at *
              refine Kt.G.one 14 { dst := none, op := Op.store 26 (Operand.tmp 23) (Operand.tmp 77), type := 0, pos := "store.go:140", after := #[{ on := 12, ground := Ground.data }, { on := 9, ground := Ground.data }, { on := 7, ground := Ground.chain }, { on := 0, ground := Ground.phase }, { on := 1, ground := Ground.phase }, { on := 2, ground := Ground.phase }, { on := 3, ground := Ground.phase }, { on := 4, ground := Ground.phase }, { on := 5, ground := Ground.phase }, { on := 6, ground := Ground.phase }, { on := 7, ground := Ground.phase }, { on := 8, ground := Ground.phase }, { on := 9, ground := Ground.phase }, { on := 10, ground := Ground.textOnly Departure.lateStores }, { on := 11, ground := Ground.textOnly Departure.lateStores }, { on := 12, ground := Ground.phase }, { on := 13, ground := Ground.phase }], guard := none } rfl (by kernel_rfl) (by rfl) (fun K hK => ?_)
              have cK := fun i => cell_of_row _ _ i _ _ _ r23
              have fK := fun i => frozen_of_row _ _ i _ _ r23
              have hu := (((Upd.refl g23 y17).set 0 (.slice A2 R.l.bs.length c2)).set 1 (.int .i64 R.l.s)).set 2 (.int .i64 R.l.tag)
              go_simp
              clear cK fK
              refine hK.out _ _ (fun _ => ⟨hHeld.1.upd hu kg23.1, hu.row hHeld.2 (by have := kg23.2; omega)⟩) (fun hHeld => ?_)
              have hHeld := hHeld rfl
              clear hK K
              try simp only [Act.put, List.setIfInBounds_toArray, List.set_cons_zero, List.set_cons_succ]
              replace r23 := row_put3 (x' := .slice A2 R.l.bs.length c2) (y' := .int .i64 R.l.s) (z' := .int .i64 R.l.tag) r23
              replace r25 := hu.row r25 (by omega)
              replace HS2 := Lib.hid (show DkS _ (w.heap.size + 4) A2 c2 R.l.bs from HS2.out.keep fun k hk => hu.other k (ne23 k hk) (HS2.out.lt k hk).2)
              clear hu
              generalize ((y17.setCell ⟨g23, 0, none⟩ (.slice A2 R.l.bs.length c2)).setCell ⟨g23, 1, none⟩ (.int .i64 R.l.s)).setCell ⟨g23, 2, none⟩ (.int .i64 R.l.tag) = z18 at *
              refine Kt.G.takeP 15 { dst := some 24, op := Op.assign (Operand.tmp 78), type := 9, pos := "store.go:140", after := #[{ on := 10, ground := Ground.data }, { on := 14, ground := Ground.chain }, { on := 0, ground := Ground.phase }, { on := 1, ground := Ground.phase }, { on := 2, ground := Ground.phase }, { on := 3, ground := Ground.phase }, { on := 4, ground := Ground.phase }, { on := 5, ground := Ground.phase }, { on := 6, ground := Ground.phase }, { on := 7, ground := Ground.phase }, { on := 8, ground := Ground.phase }, { on := 9, ground := Ground.phase }, { on := 10, ground := Ground.phase }, { on := 11, ground := Ground.textOnly Departure.lateStores }, { on := 12, ground := Ground.phase }, { on := 13, ground := Ground.phase }, { on := 14, ground := Ground.phase }], guard := none } ?_ (fun _ => hHeld) rfl (by kernel_rfl) (fun _ _ _ h => h) (by rfl) ?_ ?_
              rotate_left
              · intro w; go_simp; try with_reducible rfl
              try simp only [Act.put, List.setIfInBounds_toArray, List.set_cons_zero, List.set_cons_succ]
              refine Kt.G.one 16 { dst := none, op := Op.store 30 (Operand.tmp 25) (Operand.tmp 79), type := 0, pos := "store.go:140", after := #[{ on := 13, ground := Ground.data }, { on := 11, ground := Ground.data }, { on := 15, ground := Ground.chain }, { on := 0, ground := Ground.phase }, { on := 1, ground := Ground.phase }, { on := 2, ground := Ground.phase }, { on := 3, ground := Ground.phase }, { on := 4, ground := Ground.phase }, { on := 5, ground := Ground.phase }, { on := 6, ground := Ground.phase }, { on := 7, ground := Ground.phase }, { on := 8, ground := Ground.phase }, { on := 9, ground := Ground.phase }, { on := 10, ground := Ground.phase }, { on := 11, ground := Ground.phase }, { on := 12, ground := Ground.phase }, { on := 13, ground := Ground.phase }, { on := 14, ground := Ground.phase }, { on := 15, ground := Ground.phase }], guard := none } rfl (by kernel_rfl) (by rfl) (fun K hK => ?_)
              have cK := fun i => cell_of_row _ _ i _ _ _ r25
              have fK := fun i => frozen_of_row _ _ i _ _ r25
              have hu := (((Upd.refl g25 z18).set 0 (.int .i64 R.c)).set 1 (.int .i64 0)).set 2 (.int .i64 (R.u : Int))
              go_simp
              clear cK fK
              have hL := (show _ ∧ _ from ⟨hHeld.1.upd hu kg25.1, hu.row hHeld.2 (by have := kg25.2; omega)⟩)
              refine hK.out _ _ (Kt.G.late (by kernel_rfl)) (fun _ => ?_)
              clear hK K
              try simp only [Act.put, List.setIfInBounds_toArray, List.set_cons_zero, List.set_cons_succ]
              replace r25 := row_put3 (x' := .int .i64 R.c) (y' := .int .i64 0) (z' := .int .i64 (R.u : Int)) r25
              replace r23 := hu.row r23 (by omega)
              replace HS2 := Lib.hid (show DkS _ (w.heap.size + 4) A2 c2 R.l.bs from HS2.out.keep fun k hk => hu.other k (ne25 k hk) (HS2.out.lt k hk).2)
              clear hu
              generalize ((z18.setCell ⟨g25, 0, none⟩ (.int .i64 R.c)).setCell ⟨g25, 1, none⟩ (.int .i64 0)).setCell ⟨g25, 2, none⟩ (.int .i64 (R.u : Int)) = z19 at *
              have hL0 := hL
              clear hL
              refine Kt.G.done (by kernel_rfl) (NoPanic.normal ?_) _
              go_wp2_with fail
              go_meet
              case rel => exact ⟨g23, g25, A2, c2, rfl, rfl, rfl, kg25.1, hL0.1, hL0.2, r23, r25, HS2.out⟩
            · have hal := Kt.balloc (Below.refl _ (y16)) (.cells #[.slice none 0 0, .int .i64 0, .int .i64 0] 26)
              go_simp
              refine hK.out _ _ (fun _ => ⟨hHeld.1.on hal, Kt.row_on hal hHeld.2⟩) (fun hHeld => ?_)
              have hHeld := hHeld rfl
              clear hK K
              try simp only [Act.put, List.setIfInBounds_toArray, List.set_cons_zero, List.set_cons_succ]
              have r23 := heap_alloc_new (y16) (.cells #[.slice none 0 0, .int .i64 0, .int .i64 0] 26)
              obtain ⟨g23, hg23⟩ : ∃ g, g = (y16).heap.size := ⟨_, rfl⟩
              rw [← hg23] at r23
              have kg23 : w.heap.size + 3 < g23 ∧ g20 < g23 := by rw [hg23]; exact ⟨by have := HLT.out; have := HG20.out; omega, HLT.out⟩
              have kk : g23 ≠ g25 := by rw [hg23]; have := (Array.getElem?_eq_some_iff.1 r25).1; omega
              replace HLT := Lib.hid (Nat.lt_of_lt_of_le HLT.out hal.size)
              replace HQ := Lib.hid (HQ.out.on hal)
              replace r25 := Kt.row_on hal r25
              clear hal
              (try rw [← hg23])
              clear hg23
              generalize (y16).alloc (.cells #[.slice none 0 0, .int .i64 0, .int .i64 0] 26) = y20 at *
              refine Kt.G.one 7 { dst := some 76, op := Op.call { callee := Callee.value (Operand.func 41), args := #[Operand.tmp 69, Operand.tmp 70, Operand.tmp 71, Operand.tmp 75], argTypes := #[26, 75, 9, 27] }, type := 31, pos := "store.go:140", after := #[{ on := 0, ground := Ground.data }, { on := 1, ground := Ground.data }, { on := 2, ground := Ground.data }, { on := 6, ground := Ground.data }], guard := none } rfl (by kernel_rfl) (by rfl) (fun K hK => ?_)
              go_simp
              refine (HCY.out A' c' FX (fc - u') _ (HQ.out.toA HA.out hHeld.1.bel) (HFX.out.on hHeld.1.bel)).mono ?_
              rintro en x7 ⟨A2, c2, rfl, hs7, hb7⟩
              refine hK.out _ _ (fun _ => ⟨hHeld.1.on hb7, Kt.row_on hb7 hHeld.2⟩) (fun hHeld => ?_)
              have hHeld := hHeld rfl
              clear hK K
              try simp only [Act.put, List.setIfInBounds_toArray, List.set_cons_zero, List.set_cons_succ]
              have HS2 : Hid (DkS x7 (w.heap.size + 4) A2 c2 R.l.bs) := Lib.hid (Kt.Sl.mono hs7 (by have := HLT.out; have := HG20.out; omega))
              have ne23 : ∀ k, (Value.slice A2 R.l.bs.length c2).ownBlock = some k → k ≠ g23 := fun k hk => by have := (hs7.lt k hk).1; have := (Array.getElem?_eq_some_iff.1 r23).1; omega
              have ne25 : ∀ k, (Value.slice A2 R.l.bs.length c2).ownBlock = some k → k ≠ g25 := fun k hk => by have := (hs7.lt k hk).1; have := (Array.getElem?_eq_some_iff.1 r25).1; omega
              clear HQ
              replace r23 := Kt.row_on hb7 r23
              replace r25 := Kt.row_on hb7 r25
              replace HLT := Lib.hid (Nat.lt_of_lt_of_le HLT.out hb7.size)
              clear hs7 hb7
              refine Kt.G.takeP 8 { dst := some 68, op := Op.move (Operand.tmp 76), type := 31, pos := "store.go:140", after := #[{ on := 7, ground := Ground.data }], guard := none } ?_ (fun _ => hHeld) rfl (by kernel_rfl) (fun _ _ _ h => h) (by rfl) ?_ ?_
              rotate_left
              · intro w; go_simp; try with_reducible rfl
              try simp only [Act.put, List.setIfInBounds_toArray, List.set_cons_zero, List.set_cons_succ]
              refine Kt.G.takeP 9 { dst := some 77, op := Op.extract (Operand.tmp 68) 0, type := 26, pos := "store.go:140", after := #[{ on := 8, ground := Ground.data }], guard := none } ?_ (fun _ => hHeld) rfl (by kernel_rfl) (fun _ _ _ h => h) (by rfl) ?_ ?_
              rotate_left
              · intro w; go_simp; try with_reducible rfl
              try simp only [Act.put, List.setIfInBounds_toArray, List.set_cons_zero, List.set_cons_succ]
              refine Kt.G.takeP 10 { dst := some 78, op := Op.extract (Operand.tmp 68) 1, type := 9, pos := "store.go:140", after := #[{ on := 8, ground := Ground.data }, { on := 14, ground := Ground.gcOnly Departure.lateStores }], guard := none } ?_ (fun _ => hHeld) rfl (by kernel_rfl) (fun _ _ _ h => h) (by rfl) ?_ ?_
              rotate_left
              · intro w; go_simp; try with_reducible rfl
              try simp only [Act.put, List.setIfInBounds_toArray, List.set_cons_zero, List.set_cons_succ]
              refine Kt.G.takeP 11 { dst := some 79, op := Op.extract (Operand.tmp 68) 2, type := 30, pos := "store.go:140", after := #[{ on := 8, ground := Ground.data }, { on := 15, ground := Ground.gcOnly Departure.lateStores }], guard := none } ?_ (fun _ => hHeld) rfl (by kernel_rfl) (fun _ _ _ h => h) (by rfl) ?_ ?_
              rotate_left
              · intro w; go_simp; try with_reducible rfl
              try simp only [Act.put, List.setIfInBounds_toArray, List.set_cons_zero, List.set_cons_succ]
              refine Kt.G.one 14 { dst := none, op := Op.store 26 (Operand.tmp 23) (Operand.tmp 77), type := 0, pos := "store.go:140", after := #[{ on := 12, ground := Ground.data }, { on := 9, ground := Ground.data }, { on := 7, ground := Ground.chain }, { on := 0, ground := Ground.phase }, { on := 1, ground := Ground.phase }, { on := 2, ground := Ground.phase }, { on := 3, ground := Ground.phase }, { on := 4, ground := Ground.phase }, { on := 5, ground := Ground.phase }, { on := 6, ground := Ground.phase }, { on := 7, ground := Ground.phase }, { on := 8, ground := Ground.phase }, { on := 9, ground := Ground.phase }, { on := 10, ground := Ground.textOnly Departure.lateStores }, { on := 11, ground := Ground.textOnly Departure.lateStores }, { on := 12, ground := Ground.phase }, { on := 13, ground := Ground.phase }], guard := none } rfl (by kernel_rfl) (by rfl) (fun K hK => ?_)
              have cK := fun i => cell_of_row _ _ i _ _ _ r23
              have fK := fun i => frozen_of_row _ _ i _ _ r23
              have hu := (((Upd.refl g23 x7).set 0 (.slice A2 R.l.bs.length c2)).set 1 (.int .i64 R.l.s)).set 2 (.int .i64 R.l.tag)
              go_simp
              clear cK fK
              refine hK.out _ _ (fun _ => ⟨hHeld.1.upd hu kg23.1, hu.row hHeld.2 (by have := kg23.2; omega)⟩) (fun hHeld => ?_)
              have hHeld := hHeld rfl
              clear hK K
              try simp only [Act.put, List.setIfInBounds_toArray, List.set_cons_zero, List.set_cons_succ]
              replace r23 := row_put3 (x' := .slice A2 R.l.bs.length c2) (y' := .int .i64 R.l.s) (z' := .int .i64 R.l.tag) r23
              replace r25 := hu.row r25 (by omega)
              replace HS2 := Lib.hid (show DkS _ (w.heap.size + 4) A2 c2 R.l.bs from HS2.out.keep fun k hk => hu.other k (ne23 k hk) (HS2.out.lt k hk).2)
              clear hu
              generalize ((x7.setCell ⟨g23, 0, none⟩ (.slice A2 R.l.bs.length c2)).setCell ⟨g23, 1, none⟩ (.int .i64 R.l.s)).setCell ⟨g23, 2, none⟩ (.int .i64 R.l.tag) = z21 at *
              refine Kt.G.takeP 15 { dst := some 24, op := Op.assign (Operand.tmp 78), type := 9, pos := "store.go:140", after := #[{ on := 10, ground := Ground.data }, { on := 14, ground := Ground.chain }, { on := 0, ground := Ground.phase }, { on := 1, ground := Ground.phase }, { on := 2, ground := Ground.phase }, { on := 3, ground := Ground.phase }, { on := 4, ground := Ground.phase }, { on := 5, ground := Ground.phase }, { on := 6, ground := Ground.phase }, { on := 7, ground := Ground.phase }, { on := 8, ground := Ground.phase }, { on := 9, ground := Ground.phase }, { on := 10, ground := Ground.phase }, { on := 11, ground := Ground.textOnly Departure.lateStores }, { on := 12, ground := Ground.phase }, { on := 13, ground := Ground.phase }, { on := 14, ground := Ground.phase }], guard := none } ?_ (fun _ => hHeld) rfl (by kernel_rfl) (fun _ _ _ h => h) (by rfl) ?_ ?_
              rotate_left
              · intro w; go_simp; try with_reducible rfl
              try simp only [Act.put, List.setIfInBounds_toArray, List.set_cons_zero, List.set_cons_succ]
              refine Kt.G.one 16 { dst := none, op := Op.store 30 (Operand.tmp 25) (Operand.tmp 79), type := 0, pos := "store.go:140", after := #[{ on := 13, ground := Ground.data }, { on := 11, ground := Ground.data }, { on := 15, ground := Ground.chain }, { on := 0, ground := Ground.phase }, { on := 1, ground := Ground.phase }, { on := 2, ground := Ground.phase }, { on := 3, ground := Ground.phase }, { on := 4, ground := Ground.phase }, { on := 5, ground := Ground.phase }, { on := 6, ground := Ground.phase }, { on := 7, ground := Ground.phase }, { on := 8, ground := Ground.phase }, { on := 9, ground := Ground.phase }, { on := 10, ground := Ground.phase }, { on := 11, ground := Ground.phase }, { on := 12, ground := Ground.phase }, { on := 13, ground := Ground.phase }, { on := 14, ground := Ground.phase }, { on := 15, ground := Ground.phase }], guard := none } rfl (by kernel_rfl) (by rfl) (fun K hK => ?_)
              have cK := fun i => cell_of_row _ _ i _ _ _ r25
              have fK := fun i => frozen_of_row _ _ i _ _ r25
              have hu := (((Upd.refl g25 z21).set 0 (.int .i64 R.c)).set 1 (.int .i64 0)).set 2 (.int .i64 (R.u : Int))
              go_simp
              clear cK fK
              have hL := (show _ ∧ _ from ⟨hHeld.1.upd hu kg25.1, hu.row hHeld.2 (by have := kg25.2; omega)⟩)
              refine hK.out _ _ (Kt.G.late (by kernel_rfl)) (fun _ => ?_)
              clear hK K
              try simp only [Act.put, List.setIfInBounds_toArray, List.set_cons_zero, List.set_cons_succ]
              replace r25 := row_put3 (x' := .int .i64 R.c) (y' := .int .i64 0) (z' := .int .i64 (R.u : Int)) r25
              replace r23 := hu.row r23 (by omega)
              replace HS2 := Lib.hid (show DkS _ (w.heap.size + 4) A2 c2 R.l.bs from HS2.out.keep fun k hk => hu.other k (ne25 k hk) (HS2.out.lt k hk).2)
              clear hu
              generalize ((z21.setCell ⟨g25, 0, none⟩ (.int .i64 R.c)).setCell ⟨g25, 1, none⟩ (.int .i64 0)).setCell ⟨g25, 2, none⟩ (.int .i64 (R.u : Int)) = z22 at *
              have hL0 := hL
              clear hL
              refine Kt.G.done (by kernel_rfl) (NoPanic.normal ?_) _
              go_wp2_with fail
              go_meet
              case rel => exact ⟨g23, g25, A2, c2, rfl, rfl, rfl, kg25.1, hL0.1, hL0.2, r23, r25, HS2.out⟩
        case rest =>
          obtain ⟨g23, g25, A2, c2, rfl, rfl, rfl, k25, hpb, hrw, r23, r25, hs2⟩ := hcut
          clear HPB HQB HRW HCY HFX hFX
          have hle := cyc_u true (a + d) n P l' (fs.drop u')
          rw [← HR.out, List.length_drop] at hle
          have q0 := fun i => cell_of_row _ _ i _ _ _ hpb.r0
          have f0 := fun i => frozen_of_row _ _ i _ _ hpb.r0
          have q23 := fun i => cell_of_row _ _ i _ _ _ r23
          have k20 : g20 ≠ w.heap.size := by have := HG20.out; omega
          go_upto_region 14 with (fail)
          refine Kt.fold (fun W => PB w A2 c2 R.l 0 (d : Int) (u' : Int) W ∧ QB w A0 c0 l0.bs A2 c2 R.l.bs W ∧ W.heap[g20]? = some (.cells #[.int .i64 0, .int .i64 ((n : Int) * 16), .bool false, .int .i64 0, .string M] 75 (0, 0)) ∧ W.heap[g25]? = some (.cells #[.int .i64 R.c, .int .i64 0, .int .i64 (R.u : Int)] 30 (0, 0)))
            ⟨hpb.link R.l, (((show QB w A0 c0 l0.bs A2 c2 R.l.bs _ from .inr hs2).set w.heap.size 0 (by omega) _).set w.heap.size 1 (by omega) _).set w.heap.size 2 (by omega) _,
             ((((Upd.refl w.heap.size _).set 0 _).set 1 _).set 2 _).row hrw k20, ((((Upd.refl w.heap.size _).set 0 _).set 1 _).set 2 _).row r25 (by omega)⟩ ?_
          rintro W5 ⟨hp, hq, hr20, hr25⟩
          clear q0 f0 q23 hpb hrw r23 r25 hs2
          have HPB := Lib.hid hp
          have HQB := Lib.hid hq
          have HR20 := Lib.hid hr20
          have q3 := fun i => cell_of_row _ _ i _ _ _ hp.r3
          have f3 := fun i => frozen_of_row _ _ i _ _ hp.r3
          have q25 := fun i => cell_of_row _ _ i _ _ _ hr25
          have HR25 := Lib.hid hr25
          clear hp hq hr20 hr25
          go_upto_region 15 with (fail)
          refine Kt.fold (fun W => PB w A2 c2 R.l 0 (d : Int) ((u' : Int) + (R.u : Int)) W ∧ QB w A0 c0 l0.bs A2 c2 R.l.bs W ∧ W.heap[g20]? = some (.cells #[.int .i64 0, .int .i64 ((n : Int) * 16), .bool false, .int .i64 0, .string M] 75 (0, 0)) ∧ W.heap[g25]? = some (.cells #[.int .i64 R.c, .int .i64 0, .int .i64 (R.u : Int)] 30 (0, 0)))
            ⟨HPB.out.cell2 _, HQB.out.set _ _ (by omega) _, ((Upd.refl (w.heap.size + 1 + 1 + 1) _).set 2 _).row HR20.out (by have := HG20.out; omega), ((Upd.refl (w.heap.size + 1 + 1 + 1) _).set 2 _).row HR25.out (by omega)⟩ ?_
          rintro W6 ⟨hp, hq, hr20, hr25⟩
          clear q3 f3 q25 HPB HQB HR20 HR25
          have HPB := Lib.hid hp
          have HQB := Lib.hid hq
          have HR20 := Lib.hid hr20
          have q25 := fun i => cell_of_row _ _ i _ _ _ hr25
          have q3 := fun i => cell_of_row _ _ i _ _ _ hp.r3
          have f3 := fun i => frozen_of_row _ _ i _ _ hp.r3
          have hcc := cyc_c true (a + d) n P l' (fs.drop u')
          have hkp := cyc_keep (wr := true) (n := n) (data := P) (fs := fs.drop u') HOK'.out (a := a + d) (by rw [HLN'.out]; omega) (fun _ => hPz)
          rw [← HR.out] at hcc hkp
          have HKP := Lib.hid hkp
          clear hp hq hr20 hr25 hkp
          rcases hcc with z | z | z | z
          · have HT : Hid (T0.l = R.l ∧ T0.t = R.t ∧ T0.c = 0 ∧ u + T0.u = u' + R.u) := Lib.hid (by
              obtain ⟨t1, t2, t3, t4⟩ := HTR.out
              have e := tries_end (wr := true) (a := a + d) (n := n) (data := P) (l := l') (fs := fs.drop u') (by rw [← HR.out, z]; decide) (2 - j)
              rw [e, ← HR.out] at t1 t2 t3 t4
              exact ⟨t1.symm, t2.symm, by rw [← t3, z], t4.symm⟩)
            have hct := cyc_t (wr := true) (data := P) (fs := fs.drop u') HOK'.out (a := a + d) (n := n) (by rw [HLN'.out]; omega)
            rw [← HR.out] at hct
            have hsz : tt.size + R.t.size ≤ 9223372036854775807 := by omega
            have hsz' : ¬ 9223372036854775807 < tt.size + R.t.size := by omega
            go_upto_region 21 with (fail)
            clear hsz hsz'
            go_upto_block 0 with (fail)
            have hp7 := HPB.out.cell1 ((d : Int) + (n : Int))
            have hp8 : PB w A2 c2 R.l 0 ((d + n : Nat) : Int) ((u' + R.u : Nat) : Int) (W6.setCell ⟨w.heap.size + 1 + 1 + 1, 1, none⟩ (.int .i64 ((d : Int) + (n : Int)))) := by rw [Int.natCast_add, Int.natCast_add]; exact hp7
            refine ⟨⟨k - 1, d + n, u' + R.u, R.l, A2, c2, tt ++ R.t, rfl, HKP.out.1, HKP.out.2.trans HLN'.out, hdn, by omega, by omega, by rw [ByteArray.size_append]; omega, hp8, HQB.out.set _ _ (by omega) _, ?_⟩, ?_⟩
            · have hpr := HPOR.out
              rw [show k = (k - 1) + 1 by omega, por_go hlt, ← HN1.out, show Sto.part true data d n = P from HPE.out.symm, ← HT0.out, if_pos HT.out.2.2.1, HT.out.1, HT.out.2.1, HT.out.2.2.2] at hpr
              exact hpr
            · rw [hp8.dOf', HMS.out]; omega
          · by_cases j2 : j < 2
            · have HTN := Lib.hid (tries_next HR.out (.inl z) j2)
              have ij : (j : Int) < 2 := by omega
              have ij2 : ¬ (j : Int) = 2 := by omega
              go_wp2_with fail
              have hp8 : PB w A2 c2 R.l 0 (d : Int) ((u' + R.u : Nat) : Int) W6 := by rw [Int.natCast_add]; exact HPB.out
              obtain ⟨t1, t2, t3, t4⟩ := HTR.out
              obtain ⟨s1, s2, s3, s4⟩ := HTN.out
              refine ⟨⟨j + 1, u' + R.u, R.l, A2, c2, rfl, by go_num, by omega, HKP.out.1, HKP.out.2.trans HLN'.out, by omega, hp8, HQB.out, HR20.out, s1.trans t1, s2.trans t2, s3.trans t3, s4.trans t4⟩, ?_⟩
              simp [intOf]; omega
            · have j3 : j = 2 := by omega
              have ij : (j : Int) = 2 := by omega
              have HOE : Hid (O = ⟨R.l, tt, 8, d, u' + R.u⟩) := Lib.hid (by
                obtain ⟨t1, t2, t3, t4⟩ := HTR.out
                have e : tries true (a + d) n P (2 - j) l' (fs.drop u') = cyc true (a + d) n P l' (fs.drop u') := by rw [show 2 - j = 0 by omega]; rfl
                rw [e, ← HR.out] at t1 t2 t3 t4
                have hpr := HPOR.out
                rw [show k = (k - 1) + 1 by omega, por_go hlt, ← HN1.out, show Sto.part true data d n = P from HPE.out.symm, ← HT0.out, if_neg (by rw [← t3, z]; decide), ← t1, ← t3, ← t4, z] at hpr
                exact hpr.symm)
              go_upto_region 20 with (fail)
              refine Kt.fold (fun W => PB w A2 c2 R.l 8 (d : Int) ((u' : Int) + (R.u : Int)) W ∧ QB w A0 c0 l0.bs A2 c2 R.l.bs W) ⟨HPB.out.cell0 8, HQB.out.set _ _ (by omega) _⟩ ?_
              rintro W7 ⟨hp, hq⟩
              clear q3 f3 q25 HPB HQB HR20
              have q0 := fun i => cell_of_row _ _ i _ _ _ hp.r0
              have q1 := fun i => cell_of_row _ _ i _ _ _ hp.r1
              have f1 := fun i => frozen_of_row _ _ i _ _ hp.r1
              have q2 := fun i => cell_of_row _ _ i _ _ _ hp.r2
              have f2 := fun i => frozen_of_row _ _ i _ _ hp.r2
              have q3 := fun i => cell_of_row _ _ i _ _ _ hp.r3
              have HPB := Lib.hid hp
              have HQB := Lib.hid hq
              clear hp hq
              go_region
              have hdn := HPB.out.done HQB.out rfl
              generalize ((((((W7.setCell ⟨w.heap.size + 1, 0, none⟩ (.slice A2 R.l.bs.length c2)).setCell ⟨w.heap.size + 1, 1, none⟩ (.int .i64 R.l.s)).setCell ⟨w.heap.size + 1, 2, none⟩ (.int .i64 R.l.tag)).setCell ⟨w.heap.size + 1 + 1, 0, none⟩ (.int .i64 8)).setCell ⟨w.heap.size + 1 + 1, 1, none⟩ (.int .i64 (d : Int))).setCell ⟨w.heap.size + 1 + 1, 2, none⟩ (.int .i64 ((u' : Int) + (R.u : Int)))).drew = W9 at *
              have HDN := Lib.hid hdn
              have e1 := ld_lk hdn.1
              have e2 := ld_oc hdn.2.1
              clear hdn q0 q1 f1 q2 f2 q3 HPB HQB
              go_wp2_with fail
              refine bodyPost_ret (v := .tuple #[.agg #[.slice A2 R.l.bs.length c2, .int .i64 R.l.s, .int .i64 R.l.tag], .string tt, .agg #[.int .i64 8, .int .i64 (d : Int), .int .i64 ((u' : Int) + (R.u : Int))]]) (by simp [results, Try.results25, asAddr, e1, e2]) rfl ?_
              rw [HOE.out]
              exact ⟨A2, c2, rfl, HDN.out.2.2.1.imp id (fun q => Kt.Sl.mono q (by omega)), HDN.out.2.2.2⟩
          · by_cases j2 : j < 2
            · have HTN := Lib.hid (tries_next HR.out (.inr z) j2)
              have ij : (j : Int) < 2 := by omega
              have ij2 : ¬ (j : Int) = 2 := by omega
              go_wp2_with fail
              have hp8 : PB w A2 c2 R.l 0 (d : Int) ((u' + R.u : Nat) : Int) W6 := by rw [Int.natCast_add]; exact HPB.out
              obtain ⟨t1, t2, t3, t4⟩ := HTR.out
              obtain ⟨s1, s2, s3, s4⟩ := HTN.out
              refine ⟨⟨j + 1, u' + R.u, R.l, A2, c2, rfl, by go_num, by omega, HKP.out.1, HKP.out.2.trans HLN'.out, by omega, hp8, HQB.out, HR20.out, s1.trans t1, s2.trans t2, s3.trans t3, s4.trans t4⟩, ?_⟩
              simp [intOf]; omega
            · have j3 : j = 2 := by omega
              have ij : (j : Int) = 2 := by omega
              have HOE : Hid (O = ⟨R.l, tt, 9, d, u' + R.u⟩) := Lib.hid (by
                obtain ⟨t1, t2, t3, t4⟩ := HTR.out
                have e : tries true (a + d) n P (2 - j) l' (fs.drop u') = cyc true (a + d) n P l' (fs.drop u') := by rw [show 2 - j = 0 by omega]; rfl
                rw [e, ← HR.out] at t1 t2 t3 t4
                have hpr := HPOR.out
                rw [show k = (k - 1) + 1 by omega, por_go hlt, ← HN1.out, show Sto.part true data d n = P from HPE.out.symm, ← HT0.out, if_neg (by rw [← t3, z]; decide), ← t1, ← t3, ← t4, z] at hpr
                exact hpr.symm)
              go_upto_region 20 with (fail)
              refine Kt.fold (fun W => PB w A2 c2 R.l 9 (d : Int) ((u' : Int) + (R.u : Int)) W ∧ QB w A0 c0 l0.bs A2 c2 R.l.bs W) ⟨HPB.out.cell0 9, HQB.out.set _ _ (by omega) _⟩ ?_
              rintro W7 ⟨hp, hq⟩
              clear q3 f3 q25 HPB HQB HR20
              have q0 := fun i => cell_of_row _ _ i _ _ _ hp.r0
              have q1 := fun i => cell_of_row _ _ i _ _ _ hp.r1
              have f1 := fun i => frozen_of_row _ _ i _ _ hp.r1
              have q2 := fun i => cell_of_row _ _ i _ _ _ hp.r2
              have f2 := fun i => frozen_of_row _ _ i _ _ hp.r2
              have q3 := fun i => cell_of_row _ _ i _ _ _ hp.r3
              have HPB := Lib.hid hp
              have HQB := Lib.hid hq
              clear hp hq
              go_region
              have hdn := HPB.out.done HQB.out rfl
              generalize ((((((W7.setCell ⟨w.heap.size + 1, 0, none⟩ (.slice A2 R.l.bs.length c2)).setCell ⟨w.heap.size + 1, 1, none⟩ (.int .i64 R.l.s)).setCell ⟨w.heap.size + 1, 2, none⟩ (.int .i64 R.l.tag)).setCell ⟨w.heap.size + 1 + 1, 0, none⟩ (.int .i64 9)).setCell ⟨w.heap.size + 1 + 1, 1, none⟩ (.int .i64 (d : Int))).setCell ⟨w.heap.size + 1 + 1, 2, none⟩ (.int .i64 ((u' : Int) + (R.u : Int)))).drew = W9 at *
              have HDN := Lib.hid hdn
              have e1 := ld_lk hdn.1
              have e2 := ld_oc hdn.2.1
              clear hdn q0 q1 f1 q2 f2 q3 HPB HQB
              go_wp2_with fail
              refine bodyPost_ret (v := .tuple #[.agg #[.slice A2 R.l.bs.length c2, .int .i64 R.l.s, .int .i64 R.l.tag], .string tt, .agg #[.int .i64 9, .int .i64 (d : Int), .int .i64 ((u' : Int) + (R.u : Int))]]) (by simp [results, Try.results25, asAddr, e1, e2]) rfl ?_
              rw [HOE.out]
              exact ⟨A2, c2, rfl, HDN.out.2.2.1.imp id (fun q => Kt.Sl.mono q (by omega)), HDN.out.2.2.2⟩
          · have HOE : Hid (O = ⟨R.l, tt, 10, d, u' + R.u⟩) := Lib.hid (by
              obtain ⟨t1, t2, t3, t4⟩ := HTR.out
              have e : tries true (a + d) n P (2 - j) l' (fs.drop u') = cyc true (a + d) n P l' (fs.drop u') := tries_end (by rw [← HR.out, z]; decide) (2 - j)
              rw [e, ← HR.out] at t1 t2 t3 t4
              have hpr := HPOR.out
              rw [show k = (k - 1) + 1 by omega, por_go hlt, ← HN1.out, show Sto.part true data d n = P from HPE.out.symm, ← HT0.out, if_neg (by rw [← t3, z]; decide), ← t1, ← t3, ← t4, z] at hpr
              exact hpr.symm)
            go_upto_region 20 with (fail)
            refine Kt.fold (fun W => PB w A2 c2 R.l 10 (d : Int) ((u' : Int) + (R.u : Int)) W ∧ QB w A0 c0 l0.bs A2 c2 R.l.bs W) ⟨HPB.out.cell0 10, HQB.out.set _ _ (by omega) _⟩ ?_
            rintro W7 ⟨hp, hq⟩
            clear q3 f3 q25 HPB HQB HR20
            have q0 := fun i => cell_of_row _ _ i _ _ _ hp.r0
            have q1 := fun i => cell_of_row _ _ i _ _ _ hp.r1
            have f1 := fun i => frozen_of_row _ _ i _ _ hp.r1
            have q2 := fun i => cell_of_row _ _ i _ _ _ hp.r2
            have f2 := fun i => frozen_of_row _ _ i _ _ hp.r2
            have q3 := fun i => cell_of_row _ _ i _ _ _ hp.r3
            have HPB := Lib.hid hp
            have HQB := Lib.hid hq
            clear hp hq
            go_region
            have hdn := HPB.out.done HQB.out rfl
            generalize ((((((W7.setCell ⟨w.heap.size + 1, 0, none⟩ (.slice A2 R.l.bs.length c2)).setCell ⟨w.heap.size + 1, 1, none⟩ (.int .i64 R.l.s)).setCell ⟨w.heap.size + 1, 2, none⟩ (.int .i64 R.l.tag)).setCell ⟨w.heap.size + 1 + 1, 0, none⟩ (.int .i64 10)).setCell ⟨w.heap.size + 1 + 1, 1, none⟩ (.int .i64 (d : Int))).setCell ⟨w.heap.size + 1 + 1, 2, none⟩ (.int .i64 ((u' : Int) + (R.u : Int)))).drew = W9 at *
            have HDN := Lib.hid hdn
            have e1 := ld_lk hdn.1
            have e2 := ld_oc hdn.2.1
            clear hdn q0 q1 f1 q2 f2 q3 HPB HQB
            go_wp2_with fail
            refine bodyPost_ret (v := .tuple #[.agg #[.slice A2 R.l.bs.length c2, .int .i64 R.l.s, .int .i64 R.l.tag], .string tt, .agg #[.int .i64 10, .int .i64 (d : Int), .int .i64 ((u' : Int) + (R.u : Int))]]) (by simp [results, Try.results25, asAddr, e1, e2]) rfl ?_
            rw [HOE.out]
            exact ⟨A2, c2, rfl, HDN.out.2.2.1.imp id (fun q => Kt.Sl.mono q (by omega)), HDN.out.2.2.2⟩
    · have hlti : ¬ (d : Int) < (cnt : Int) := by omega
      have HOE : Hid (O = ⟨l, tt, 0, d, u⟩) := Lib.hid (by rw [← HPOR.out, por_end hlt])
      go_upto_region 22 with (fail)
      have q0 := fun i => cell_of_row _ _ i _ _ _ HPB.out.r0
      have q1 := fun i => cell_of_row _ _ i _ _ _ HPB.out.r1
      have f1 := fun i => frozen_of_row _ _ i _ _ HPB.out.r1
      have q2 := fun i => cell_of_row _ _ i _ _ _ HPB.out.r2
      have f2 := fun i => frozen_of_row _ _ i _ _ HPB.out.r2
      go_region
      have hdn := HPB.out.done HQB.out rfl
      generalize ((((((wr.setCell ⟨w.heap.size + 1, 0, none⟩ (.slice A l.bs.length c)).setCell ⟨w.heap.size + 1, 1, none⟩ (.int .i64 l.s)).setCell ⟨w.heap.size + 1, 2, none⟩ (.int .i64 l.tag)).setCell ⟨w.heap.size + 1 + 1, 0, none⟩ (.int .i64 0)).setCell ⟨w.heap.size + 1 + 1, 1, none⟩ (.int .i64 (d : Int))).setCell ⟨w.heap.size + 1 + 1, 2, none⟩ (.int .i64 (u : Int))).drew = W9 at *
      have HDN := Lib.hid hdn
      have e1 := ld_lk hdn.1
      have e2 := ld_oc hdn.2.1
      clear hdn q0 q1 f1 q2 f2 q3 HPB HQB
      go_wp2_with fail
      refine bodyPost_ret (v := .tuple #[.agg #[.slice A l.bs.length c, .int .i64 l.s, .int .i64 l.tag], .string tt, .agg #[.int .i64 0, .int .i64 (d : Int), .int .i64 (u : Int)]]) (by simp [results, Try.results25, asAddr, e1, e2]) rfl ?_
      rw [HOE.out]
      exact ⟨A, c, rfl, HDN.out.2.2.1.imp id (fun q => Kt.Sl.mono q (by omega)), HDN.out.2.2.2⟩
end Go.Proofs.Ytafiedhjjnapoaa
