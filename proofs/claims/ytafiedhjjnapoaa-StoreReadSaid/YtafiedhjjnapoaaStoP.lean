/- Blocks read and written over transfers, plainly. -/
import Derived.Test.YtafiedhjjnapoaaStkR
import Derived.Test.YtafiedhjjnapoaaBlkP
namespace Go.Proofs.Ytafiedhjjnapoaa.Sto
open Go.Proofs.Ytafiedhjjnapoaa Go.Proofs.Ytafiedhjjnapoaa.Scs Go.Proofs.Ytafiedhjjnapoaa.Blk
/-- a transfer: the code, what was got, how many fates it used -/
def car (t : ByteArray) (fs : List Int) : Int × List UInt8 × Nat := ((carF (p0 (chop 64 t)) 0 0 fs).1, cat (carF (p0 (chop 64 t)) 0 0 fs).2.1.gs, (carF (p0 (chop 64 t)) 0 0 fs).2.2)
theorem car_used_le (t : ByteArray) (fs : List Int) : (car t fs).2.2 ≤ fs.length := by
  have := (car_res (s := 64) (by decide) t fs).hi
  unfold car; dsimp only; omega
theorem car_code (t : ByteArray) (fs : List Int) : (car t fs).1 = 0 ∨ (car t fs).1 = 8 ∨ (car t fs).1 = 9 ∨ (car t fs).1 = 10 := (car_res (s := 64) (by decide) t fs).code
theorem car_got (t : ByteArray) (fs : List Int) : (car t fs).2.1 = t.data.toList.take (car t fs).2.1.length ∧ ((car t fs).1 = 0 → (car t fs).2.1 = t.data.toList) := by
  have h := car_res (s := 64) (by decide) t fs
  obtain ⟨told, got, hi⟩ := h.inv
  obtain ⟨h1, _, _, h4⟩ := told_bytes hi (chop_le (by decide) t)
  rw [chop_cat (by decide)] at h1 h4
  exact ⟨h1, fun hc => (h4 (h.ok hc)).1⟩
theorem car_all {t : ByteArray} {fs : List Int} (h : (car t fs).2.1.length = t.size) : (car t fs).2.1 = t.data.toList := by
  rw [(car_got t fs).1, h, ← blen, List.take_length]
theorem car_more {t : ByteArray} {fs : List Int} (h : (car t fs).1 ≠ 10) (more : List Int) : car t (fs.take (car t fs).2.2 ++ more) = car t fs := by
  have := carF_used fs more (p0 (chop 64 t)) 0 0 h
  rw [Nat.sub_zero] at this
  unfold car at h ⊢
  dsimp only at h ⊢
  rw [this]
/-- good fates alone: one for each piece -/
theorem carF_good (l : List ByteArray) : ∀ (k m : Nat) (p : Go.Proofs.Ytafiedhjjnapoaa.St) (n told got : Nat), Inv l p told got → told + k = l.length → 0 < k → (carF p 0 n (List.replicate (k + m) 1)).1 = 0 ∧ (carF p 0 n (List.replicate (k + m) 1)).2.2 = n + k
  | 0, _, _, _, _, _, _, _, h => absurd h (by decide)
  | k + 1, m, p, n, told, got, h, hk, _ => by
    rw [show k + 1 + m = (k + m) + 1 by omega, List.replicate_succ]
    obtain ⟨got', h'⟩ := h.step 1
    rw [if_pos ⟨rfl, by omega⟩] at h'
    by_cases h1 : (stepF p 1).ls = []
    · rw [carF_ok p 0 n 1 _ (by decide) h1]
      have := h'.empty.1 h1
      exact ⟨rfl, by dsimp only; omega⟩
    · rw [carF_on p 0 n 1 _ (by decide) h1 (by decide)]
      have hn : ¬ l.length ≤ told + 1 := fun hc => h1 (h'.empty.2 hc)
      have ih := carF_good l k m (stepF p 1) (n + 1) _ got' h' (by omega) (by omega)
      exact ⟨ih.1, by rw [show errs 0 1 = 0 by decide, ih.2]; omega⟩
theorem car_good (t : ByteArray) {m : Nat} (h : t.size / 64 + 1 ≤ m) : (car t (List.replicate m 1)).1 = 0 ∧ (car t (List.replicate m 1)).2.2 = t.size / 64 + 1 := by
  have hl := chop_len (s := 64) (by decide) t
  have := carF_good (chop 64 t) (t.size / 64 + 1) (m - (t.size / 64 + 1)) (p0 (chop 64 t)) 0 0 0 (inv_start _) (by rw [hl]; omega) (by omega)
  rw [show t.size / 64 + 1 + (m - (t.size / 64 + 1)) = m by omega] at this
  exact ⟨this.1, by have := this.2; unfold car; dsimp only; omega⟩
/-- a link: the blocks, the sense, the tag -/
structure Ln where
  bs : List ByteArray
  s : Int
  tag : Int
/-- what came of it: the link, the text, the code, the fates used -/
structure Rt where
  l : Ln
  t : ByteArray
  c : Int
  u : Nat
def wrp (wr : Bool) (a n : Nat) (tag : Int) : ByteArray := wrapT ⟨tag, ((n * 16 : Nat) : Int), !wr, 0, mk (if wr then 42 else 40) a n⟩
def sta (tag : Int) : ByteArray := statT ⟨tag, 0, 0⟩
def Ln.next (l : Ln) : Ln := ⟨l.bs, l.s, (l.tag + 1) % 4294967296⟩
/-- what the data are, and what is left of the blocks behind them -/
def mid2 (wr : Bool) (a n : Nat) (data : ByteArray) (l : Ln) : ByteArray := if wr then data else joinS ((l.bs.drop a).take n)
def aft (wr : Bool) (a n : Nat) (data : ByteArray) (l : Ln) (full : Bool) : Ln := if wr then (if full then ⟨putB l.bs a data n, 0, l.next.tag⟩ else l.next) else ⟨l.bs, 0, l.next.tag⟩
/-- one command: its wrap, its data, its status -/
def cyc (wr : Bool) (a n : Nat) (data : ByteArray) (l : Ln) (fs : List Int) : Rt :=
  let r1 := car (wrp wr a n l.tag) fs
  if r1.1 ≠ 0 then ⟨l.next, ByteArray.empty, r1.1, r1.2.2⟩
  else
    let t := mid2 wr a n data l
    let r2 := car t (fs.drop r1.2.2)
    let l2 := aft wr a n data l (r2.2.1.length == t.size)
    if r2.1 ≠ 0 then ⟨l2, ByteArray.empty, r2.1, r1.2.2 + r2.2.2⟩
    else
      let r3 := car (sta l.tag) (fs.drop (r1.2.2 + r2.2.2))
      ⟨l2, if r3.1 ≠ 0 then ByteArray.empty else if wr then ByteArray.empty else t, r3.1, r1.2.2 + r2.2.2 + r3.2.2⟩
/-- at most k more tries -/
def tries (wr : Bool) (a n : Nat) (data : ByteArray) : Nat → Ln → List Int → Rt
  | 0, l, fs => cyc wr a n data l fs
  | k + 1, l, fs =>
    let r := cyc wr a n data l fs
    if r.c = 8 ∨ r.c = 9 then
      let q := tries wr a n data k r.l (fs.drop r.u)
      ⟨q.l, q.t, q.c, r.u + q.u⟩
    else r
/-- what came of all: the link, the text, the code, the blocks done, the fates used -/
structure Ot where
  l : Ln
  t : ByteArray
  c : Int
  d : Nat
  u : Nat
def part (wr : Bool) (data : ByteArray) (d n : Nat) : ByteArray := if wr then data.extract (d * 16) ((d + n) * 16) else ByteArray.empty
def por (wr : Bool) (a cnt : Nat) (data : ByteArray) (fs : List Int) : Nat → Ln → ByteArray → Nat → Nat → Ot
  | 0, l, t, d, u => ⟨l, t, 0, d, u⟩
  | k + 1, l, t, d, u =>
    if d < cnt then
      let n := min 4 (cnt - d)
      let r := tries wr (a + d) n (part wr data d n) 2 l (fs.drop u)
      if r.c = 0 then por wr a cnt data fs k r.l (t ++ r.t) (d + n) (u + r.u) else ⟨r.l, t, r.c, d, u + r.u⟩
    else ⟨l, t, 0, d, u⟩
theorem cyc_u (wr : Bool) (a n : Nat) (data : ByteArray) (l : Ln) (fs : List Int) : (cyc wr a n data l fs).u ≤ fs.length := by
  have h1 := car_used_le (wrp wr a n l.tag) fs
  unfold cyc
  dsimp only
  split
  · exact h1
  · have h2 := car_used_le (mid2 wr a n data l) (fs.drop (car (wrp wr a n l.tag) fs).2.2)
    rw [List.length_drop] at h2
    split
    · dsimp only; omega
    · have h3 := car_used_le (sta l.tag) (fs.drop ((car (wrp wr a n l.tag) fs).2.2 + (car (mid2 wr a n data l) (fs.drop (car (wrp wr a n l.tag) fs).2.2)).2.2))
      rw [List.length_drop] at h3
      dsimp only; omega
theorem cyc_c (wr : Bool) (a n : Nat) (data : ByteArray) (l : Ln) (fs : List Int) : (cyc wr a n data l fs).c = 0 ∨ (cyc wr a n data l fs).c = 8 ∨ (cyc wr a n data l fs).c = 9 ∨ (cyc wr a n data l fs).c = 10 := by
  unfold cyc
  dsimp only
  split
  · exact car_code _ _
  · split
    · exact car_code _ _
    · exact car_code _ _
theorem tries_u (wr : Bool) (a n : Nat) (data : ByteArray) : ∀ (k : Nat) (l : Ln) (fs : List Int), (tries wr a n data k l fs).u ≤ fs.length
  | 0, l, fs => cyc_u wr a n data l fs
  | k + 1, l, fs => by
    have h1 := cyc_u wr a n data l fs
    unfold tries
    dsimp only
    split
    · have h2 := tries_u wr a n data k (cyc wr a n data l fs).l (fs.drop (cyc wr a n data l fs).u)
      rw [List.length_drop] at h2
      dsimp only; omega
    · exact h1
theorem tries_c (wr : Bool) (a n : Nat) (data : ByteArray) : ∀ (k : Nat) (l : Ln) (fs : List Int), (tries wr a n data k l fs).c = 0 ∨ (tries wr a n data k l fs).c = 8 ∨ (tries wr a n data k l fs).c = 9 ∨ (tries wr a n data k l fs).c = 10
  | 0, l, fs => cyc_c wr a n data l fs
  | k + 1, l, fs => by
    unfold tries
    dsimp only
    split
    · exact tries_c wr a n data k _ _
    · exact cyc_c wr a n data l fs
/-! fates that were not used -/
theorem drop_take_app (fs more : List Int) (i j : Nat) (h : i ≤ j) (hj : j ≤ fs.length) : (fs.take j ++ more).drop i = (fs.drop i).take (j - i) ++ more := by
  rw [List.drop_append_of_le_length (by rw [List.length_take]; omega), List.drop_take]
theorem car_sub {t : ByteArray} {fs more : List Int} {i j : Nat} (hj : j ≤ fs.length) (hi : i + (car t (fs.drop i)).2.2 ≤ j) (h : (car t (fs.drop i)).1 ≠ 10) : car t ((fs.take j ++ more).drop i) = car t (fs.drop i) := by
  rw [drop_take_app fs more i j (by omega) hj]
  have e : (fs.drop i).take (j - i) ++ more = (fs.drop i).take (car t (fs.drop i)).2.2 ++ (((fs.drop i).take (j - i)).drop (car t (fs.drop i)).2.2 ++ more) := by
    rw [← List.append_assoc]
    congr 1
    conv => lhs; rw [← List.take_append_drop (car t (fs.drop i)).2.2 ((fs.drop i).take (j - i))]
    rw [List.take_take, Nat.min_eq_left (by omega)]
  rw [e]
  exact car_more h _
theorem cyc_1 {wr : Bool} {a n : Nat} {data : ByteArray} {l : Ln} {fs : List Int} (h : (car (wrp wr a n l.tag) fs).1 ≠ 0) :
    cyc wr a n data l fs = ⟨l.next, ByteArray.empty, (car (wrp wr a n l.tag) fs).1, (car (wrp wr a n l.tag) fs).2.2⟩ := by
  unfold cyc; dsimp only; rw [if_pos h]
theorem cyc_2 {wr : Bool} {a n : Nat} {data : ByteArray} {l : Ln} {fs : List Int} (h : (car (wrp wr a n l.tag) fs).1 = 0) (h2 : (car (mid2 wr a n data l) (fs.drop (car (wrp wr a n l.tag) fs).2.2)).1 ≠ 0) :
    cyc wr a n data l fs = ⟨aft wr a n data l ((car (mid2 wr a n data l) (fs.drop (car (wrp wr a n l.tag) fs).2.2)).2.1.length == (mid2 wr a n data l).size), ByteArray.empty, (car (mid2 wr a n data l) (fs.drop (car (wrp wr a n l.tag) fs).2.2)).1,
      (car (wrp wr a n l.tag) fs).2.2 + (car (mid2 wr a n data l) (fs.drop (car (wrp wr a n l.tag) fs).2.2)).2.2⟩ := by
  unfold cyc; dsimp only; rw [if_neg (by rw [h]; decide), if_pos h2]
theorem cyc_3 {wr : Bool} {a n : Nat} {data : ByteArray} {l : Ln} {fs : List Int} (h : (car (wrp wr a n l.tag) fs).1 = 0) (h2 : (car (mid2 wr a n data l) (fs.drop (car (wrp wr a n l.tag) fs).2.2)).1 = 0) :
    cyc wr a n data l fs = ⟨aft wr a n data l true,
      if (car (sta l.tag) (fs.drop ((car (wrp wr a n l.tag) fs).2.2 + (car (mid2 wr a n data l) (fs.drop (car (wrp wr a n l.tag) fs).2.2)).2.2))).1 ≠ 0 then ByteArray.empty else if wr then ByteArray.empty else mid2 wr a n data l,
      (car (sta l.tag) (fs.drop ((car (wrp wr a n l.tag) fs).2.2 + (car (mid2 wr a n data l) (fs.drop (car (wrp wr a n l.tag) fs).2.2)).2.2))).1,
      (car (wrp wr a n l.tag) fs).2.2 + (car (mid2 wr a n data l) (fs.drop (car (wrp wr a n l.tag) fs).2.2)).2.2 + (car (sta l.tag) (fs.drop ((car (wrp wr a n l.tag) fs).2.2 + (car (mid2 wr a n data l) (fs.drop (car (wrp wr a n l.tag) fs).2.2)).2.2))).2.2⟩ := by
  have hg := (car_got (mid2 wr a n data l) (fs.drop (car (wrp wr a n l.tag) fs).2.2)).2 h2
  have e : ((car (mid2 wr a n data l) (fs.drop (car (wrp wr a n l.tag) fs).2.2)).2.1.length == (mid2 wr a n data l).size) = true := by rw [hg, blen, beq_self_eq_true]
  unfold cyc; dsimp only; rw [if_neg (by rw [h]; decide), if_neg (by rw [h2]; decide), e]
theorem cyc_sub {wr : Bool} {a n : Nat} {data : ByteArray} {l : Ln} {fs more : List Int} {i j : Nat} (hj : j ≤ fs.length) (hi : i + (cyc wr a n data l (fs.drop i)).u ≤ j) (h : (cyc wr a n data l (fs.drop i)).c ≠ 10) :
    cyc wr a n data l ((fs.take j ++ more).drop i) = cyc wr a n data l (fs.drop i) := by
  by_cases c1 : (car (wrp wr a n l.tag) (fs.drop i)).1 = 0
  · by_cases c2 : (car (mid2 wr a n data l) ((fs.drop i).drop (car (wrp wr a n l.tag) (fs.drop i)).2.2)).1 = 0
    · have E := cyc_3 c1 c2
      rw [E] at hi h
      dsimp only at hi h
      have e1 := car_sub (t := wrp wr a n l.tag) (more := more) (i := i) hj (by omega) (by rw [c1]; decide)
      have e2 : car (mid2 wr a n data l) (((fs.take j ++ more).drop i).drop (car (wrp wr a n l.tag) (fs.drop i)).2.2) = car (mid2 wr a n data l) ((fs.drop i).drop (car (wrp wr a n l.tag) (fs.drop i)).2.2) := by
        rw [List.drop_drop, List.drop_drop]
        rw [List.drop_drop] at c2 hi
        exact car_sub hj (by omega) (by rw [c2]; decide)
      have e3 : car (sta l.tag) (((fs.take j ++ more).drop i).drop ((car (wrp wr a n l.tag) (fs.drop i)).2.2 + (car (mid2 wr a n data l) ((fs.drop i).drop (car (wrp wr a n l.tag) (fs.drop i)).2.2)).2.2)) = car (sta l.tag) ((fs.drop i).drop ((car (wrp wr a n l.tag) (fs.drop i)).2.2 + (car (mid2 wr a n data l) ((fs.drop i).drop (car (wrp wr a n l.tag) (fs.drop i)).2.2)).2.2)) := by
        generalize (car (wrp wr a n l.tag) (fs.drop i)).2.2 + (car (mid2 wr a n data l) ((fs.drop i).drop (car (wrp wr a n l.tag) (fs.drop i)).2.2)).2.2 = u2 at *
        rw [List.drop_drop, List.drop_drop]
        rw [List.drop_drop] at h hi
        exact car_sub hj (by omega) h
      have E2 := cyc_3 (data := data) (show (car (wrp wr a n l.tag) ((fs.take j ++ more).drop i)).1 = 0 by rw [e1]; exact c1) (by rw [e1, e2]; exact c2)
      rw [E, E2, e1, e2, e3]
    · have E := cyc_2 c1 c2
      rw [E] at hi h
      dsimp only at hi h
      have e1 := car_sub (t := wrp wr a n l.tag) (more := more) (i := i) hj (by omega) (by rw [c1]; decide)
      have e2 : car (mid2 wr a n data l) (((fs.take j ++ more).drop i).drop (car (wrp wr a n l.tag) (fs.drop i)).2.2) = car (mid2 wr a n data l) ((fs.drop i).drop (car (wrp wr a n l.tag) (fs.drop i)).2.2) := by
        rw [List.drop_drop, List.drop_drop]
        rw [List.drop_drop] at h hi
        exact car_sub hj (by omega) h
      have E2 := cyc_2 (data := data) (show (car (wrp wr a n l.tag) ((fs.take j ++ more).drop i)).1 = 0 by rw [e1]; exact c1) (by rw [e1, e2]; exact c2)
      rw [E, E2, e1, e2]
  · have E := cyc_1 (data := data) c1
    rw [E] at hi h
    dsimp only at hi h
    have e1 := car_sub (t := wrp wr a n l.tag) (more := more) hj hi h
    have E2 := cyc_1 (data := data) (show (car (wrp wr a n l.tag) ((fs.take j ++ more).drop i)).1 ≠ 0 by rw [e1]; exact c1)
    rw [E, E2, e1]
theorem tries_sub {wr : Bool} {a n : Nat} {data : ByteArray} {fs more : List Int} {j : Nat} (hj : j ≤ fs.length) : ∀ (k : Nat) (l : Ln) (i : Nat), i + (tries wr a n data k l (fs.drop i)).u ≤ j → (tries wr a n data k l (fs.drop i)).c ≠ 10 →
    tries wr a n data k l ((fs.take j ++ more).drop i) = tries wr a n data k l (fs.drop i)
  | 0, l, i, hi, h => cyc_sub hj hi h
  | k + 1, l, i, hi, h => by
    unfold tries at hi h ⊢
    dsimp only at hi h ⊢
    by_cases c : (cyc wr a n data l (fs.drop i)).c = 8 ∨ (cyc wr a n data l (fs.drop i)).c = 9
    · rw [if_pos c] at hi h
      dsimp only at hi h
      have e1 := cyc_sub (wr := wr) (a := a) (n := n) (data := data) (l := l) (more := more) (i := i) hj (by omega) (by omega)
      rw [e1, if_pos c, if_pos c]
      generalize cyc wr a n data l (fs.drop i) = r at *
      rw [List.drop_drop] at hi h
      rw [List.drop_drop, List.drop_drop]
      rw [tries_sub hj k r.l (i + r.u) (by omega) h]
    · rw [if_neg c] at hi h
      have e1 := cyc_sub (wr := wr) (a := a) (n := n) (data := data) (l := l) (more := more) (i := i) hj hi h
      rw [e1, if_neg c, if_neg c]
theorem por_u (wr : Bool) (a cnt : Nat) (data : ByteArray) (fs : List Int) : ∀ (k : Nat) (l : Ln) (t : ByteArray) (d u : Nat), u ≤ fs.length → u ≤ (por wr a cnt data fs k l t d u).u ∧ (por wr a cnt data fs k l t d u).u ≤ fs.length
  | 0, l, t, d, u, hu => ⟨Nat.le_refl _, hu⟩
  | k + 1, l, t, d, u, hu => by
    unfold por
    split
    · dsimp only
      have h1 := tries_u wr (a + d) (min 4 (cnt - d)) (part wr data d (min 4 (cnt - d))) 2 l (fs.drop u)
      rw [List.length_drop] at h1
      split
      · have := por_u wr a cnt data fs k (tries wr (a + d) (min 4 (cnt - d)) (part wr data d (min 4 (cnt - d))) 2 l (fs.drop u)).l (t ++ (tries wr (a + d) (min 4 (cnt - d)) (part wr data d (min 4 (cnt - d))) 2 l (fs.drop u)).t) (d + min 4 (cnt - d)) (u + (tries wr (a + d) (min 4 (cnt - d)) (part wr data d (min 4 (cnt - d))) 2 l (fs.drop u)).u) (by omega)
        omega
      · dsimp only; omega
    · exact ⟨Nat.le_refl _, hu⟩
theorem por_sub {wr : Bool} {a cnt : Nat} {data : ByteArray} {fs more : List Int} {j : Nat} (hj : j ≤ fs.length) : ∀ (k : Nat) (l : Ln) (t : ByteArray) (d u : Nat), u ≤ fs.length → (por wr a cnt data fs k l t d u).u ≤ j → (por wr a cnt data fs k l t d u).c ≠ 10 →
    por wr a cnt data (fs.take j ++ more) k l t d u = por wr a cnt data fs k l t d u
  | 0, l, t, d, u, hu, hi, h => rfl
  | k + 1, l, t, d, u, hu, hi, h => by
    unfold por at hi h ⊢
    by_cases hd : d < cnt
    · rw [if_pos hd] at hi h
      rw [if_pos hd, if_pos hd]
      dsimp only at hi h ⊢
      have h1 := tries_u wr (a + d) (min 4 (cnt - d)) (part wr data d (min 4 (cnt - d))) 2 l (fs.drop u)
      rw [List.length_drop] at h1
      by_cases c : (tries wr (a + d) (min 4 (cnt - d)) (part wr data d (min 4 (cnt - d))) 2 l (fs.drop u)).c = 0
      · rw [if_pos c] at hi h
        have hlo := por_u wr a cnt data fs k (tries wr (a + d) (min 4 (cnt - d)) (part wr data d (min 4 (cnt - d))) 2 l (fs.drop u)).l (t ++ (tries wr (a + d) (min 4 (cnt - d)) (part wr data d (min 4 (cnt - d))) 2 l (fs.drop u)).t) (d + min 4 (cnt - d)) (u + (tries wr (a + d) (min 4 (cnt - d)) (part wr data d (min 4 (cnt - d))) 2 l (fs.drop u)).u) (by omega)
        have e := tries_sub (wr := wr) (a := a + d) (n := min 4 (cnt - d)) (data := part wr data d (min 4 (cnt - d))) (more := more) hj 2 l u (by omega) (by rw [c]; decide)
        rw [e, if_pos c, if_pos c]
        exact por_sub hj k _ _ _ _ (by omega) hi h
      · rw [if_neg c] at hi h
        dsimp only at hi h
        have e := tries_sub (wr := wr) (a := a + d) (n := min 4 (cnt - d)) (data := part wr data d (min 4 (cnt - d))) (more := more) hj 2 l u hi h
        rw [e, if_neg c, if_neg c]
    · rw [if_neg hd, if_neg hd]
/-! what is read, what is written -/
theorem cyc_read (a n : Nat) (data : ByteArray) (l : Ln) (fs : List Int) : (cyc false a n data l fs).l.bs = l.bs ∧ ((cyc false a n data l fs).c = 0 → (cyc false a n data l fs).t = joinS ((l.bs.drop a).take n)) := by
  unfold cyc
  dsimp only
  split
  · next h => exact ⟨rfl, fun q => absurd q h⟩
  · split
    · next h => exact ⟨rfl, fun q => absurd q h⟩
    · refine ⟨rfl, fun q => ?_⟩
      dsimp only at q ⊢
      rw [if_neg (by rw [q]; decide), if_neg (by decide)]
      rfl
theorem tries_read (a n : Nat) (data : ByteArray) : ∀ (k : Nat) (l : Ln) (fs : List Int), (tries false a n data k l fs).l.bs = l.bs ∧ ((tries false a n data k l fs).c = 0 → (tries false a n data k l fs).t = joinS ((l.bs.drop a).take n))
  | 0, l, fs => cyc_read a n data l fs
  | k + 1, l, fs => by
    have h1 := cyc_read a n data l fs
    unfold tries
    dsimp only
    split
    · have h2 := tries_read a n data k (cyc false a n data l fs).l (fs.drop (cyc false a n data l fs).u)
      rw [h1.1] at h2
      exact h2
    · exact h1
theorem join_more (bs : List ByteArray) (a d n : Nat) : joinS ((bs.drop a).take d) ++ joinS ((bs.drop (a + d)).take n) = joinS ((bs.drop a).take (d + n)) := by
  rw [← joinS_app, List.take_add, List.drop_drop]
theorem por_read (a cnt : Nat) (data : ByteArray) (fs : List Int) (bs : List ByteArray) : ∀ (k : Nat) (l : Ln) (t : ByteArray) (d u : Nat), l.bs = bs → t = joinS ((bs.drop a).take d) → d ≤ cnt → cnt ≤ d + k →
    (por false a cnt data fs k l t d u).l.bs = bs ∧ (por false a cnt data fs k l t d u).t = joinS ((bs.drop a).take (por false a cnt data fs k l t d u).d) ∧ (por false a cnt data fs k l t d u).d ≤ cnt ∧ ((por false a cnt data fs k l t d u).c = 0 → (por false a cnt data fs k l t d u).d = cnt)
  | 0, l, t, d, u, hl, ht, hd, hk => ⟨hl, ht, hd, fun _ => by show d = cnt; omega⟩
  | k + 1, l, t, d, u, hl, ht, hd, hk => by
    unfold por
    by_cases hc : d < cnt
    · rw [if_pos hc]
      dsimp only
      have h1 := tries_read (a + d) (min 4 (cnt - d)) (part false data d (min 4 (cnt - d))) 2 l (fs.drop u)
      generalize tries false (a + d) (min 4 (cnt - d)) (part false data d (min 4 (cnt - d))) 2 l (fs.drop u) = r at *
      by_cases c : r.c = 0
      · rw [if_pos c]
        exact por_read a cnt data fs bs k r.l (t ++ r.t) (d + min 4 (cnt - d)) (u + r.u) (h1.1.trans hl) (by rw [h1.2 c, ht, hl, join_more]) (by omega) (by omega)
      · rw [if_neg c]
        exact ⟨h1.1.trans hl, ht, hd, fun q => absurd q c⟩
    · rw [if_neg hc]
      exact ⟨hl, ht, hd, fun _ => by show d = cnt; omega⟩
theorem putB_again (bs : List ByteArray) (a : Nat) (d : ByteArray) (n : Nat) (h : a + n ≤ bs.length) : putB (putB bs a d n) a d n = putB bs a d n := by
  have l1 := putB_len bs a d n h
  apply List.ext_getElem?
  intro i
  rw [putB_get _ _ _ _ (by omega), putB_get _ _ _ _ h]
  by_cases c : a ≤ i ∧ i < a + n
  · simp [c]
  · simp [c]
theorem cyc_write (a n : Nat) (data : ByteArray) (l : Ln) (fs : List Int) : ((cyc true a n data l fs).l.bs = l.bs ∧ (cyc true a n data l fs).c ≠ 0) ∨ (cyc true a n data l fs).l.bs = putB l.bs a data n := by
  unfold cyc
  dsimp only
  split
  · next h => exact .inl ⟨rfl, h⟩
  · split
    · next h =>
      dsimp only [aft]
      rw [if_pos rfl]
      split
      · exact .inr rfl
      · exact .inl ⟨rfl, h⟩
    · next h =>
      right
      dsimp only [aft]
      have hg := (car_got (mid2 true a n data l) (fs.drop (car (wrp true a n l.tag) fs).2.2)).2 (by simpa using h)
      rw [if_pos rfl, if_pos]
      rw [hg, blen, beq_self_eq_true]
theorem tries_write (a n : Nat) (data : ByteArray) : ∀ (k : Nat) (l : Ln) (fs : List Int), a + n ≤ l.bs.length → ((tries true a n data k l fs).l.bs = l.bs ∧ (tries true a n data k l fs).c ≠ 0) ∨ (tries true a n data k l fs).l.bs = putB l.bs a data n
  | 0, l, fs, _ => cyc_write a n data l fs
  | k + 1, l, fs, hl => by
    have h1 := cyc_write a n data l fs
    unfold tries
    dsimp only
    split
    · dsimp only
      rcases h1 with ⟨e, _⟩ | e
      · have h2 := tries_write a n data k (cyc true a n data l fs).l (fs.drop (cyc true a n data l fs).u) (by rw [e]; exact hl)
        rw [e] at h2; exact h2
      · have h2 := tries_write a n data k (cyc true a n data l fs).l (fs.drop (cyc true a n data l fs).u) (by rw [e, putB_len _ _ _ _ hl]; exact hl)
        rw [e, putB_again _ _ _ _ hl] at h2
        rcases h2 with ⟨q, _⟩ | q
        · exact .inr q
        · exact .inr q
    · exact h1
/-- the first blocks of some data -/
theorem putB_first (bs : List ByteArray) (a d n : Nat) (data : ByteArray) (h : a + d + n ≤ bs.length) (_hz : (d + n) * 16 ≤ data.size) : putB (putB bs a data d) (a + d) (data.extract (d * 16) ((d + n) * 16)) n = putB bs a data (d + n) := by
  have l1 := putB_len bs a data d (by omega)
  apply List.ext_getElem?
  intro i
  rw [putB_get _ _ _ _ (by omega), putB_get _ _ _ _ (by omega), putB_get _ _ _ _ (by omega)]
  by_cases c1 : a + d ≤ i ∧ i < a + d + n
  · rw [if_pos c1, if_pos (by omega)]
    congr 1
    apply ext_bytes
    unfold piece
    simp only [ByteArray.data_extract, Array.toList_extract, List.extract]
    rw [List.drop_take, List.drop_drop, List.take_take]
    congr 1
    · omega
    · congr 1; omega
  · rw [if_neg c1]
    by_cases c2 : a ≤ i ∧ i < a + d
    · rw [if_pos c2, if_pos (by omega)]
    · rw [if_neg c2, if_neg (by omega)]
/-- where it stands: so many blocks of the data were put -/
theorem por_write (a cnt : Nat) (data : ByteArray) (fs : List Int) (bs : List ByteArray) (hb : a + cnt ≤ bs.length) (hz : data.size = cnt * 16) : ∀ (k : Nat) (l : Ln) (t : ByteArray) (d u : Nat), l.bs = putB bs a data d → d ≤ cnt → cnt ≤ d + k →
    ((por true a cnt data fs k l t d u).l.bs = putB bs a data (por true a cnt data fs k l t d u).d ∨ ((por true a cnt data fs k l t d u).c ≠ 0 ∧ (por true a cnt data fs k l t d u).l.bs = putB bs a data (min cnt ((por true a cnt data fs k l t d u).d + 4)))) ∧
      (por true a cnt data fs k l t d u).d ≤ cnt ∧ ((por true a cnt data fs k l t d u).c = 0 → (por true a cnt data fs k l t d u).d = cnt)
  | 0, l, t, d, u, hl, hd, hk => ⟨.inl hl, hd, fun _ => by show d = cnt; omega⟩
  | k + 1, l, t, d, u, hl, hd, hk => by
    unfold por
    by_cases hc : d < cnt
    · rw [if_pos hc]
      dsimp only
      have h1 := tries_write (a + d) (min 4 (cnt - d)) (part true data d (min 4 (cnt - d))) 2 l (fs.drop u) (by rw [hl, putB_len _ _ _ _ (by omega)]; omega)
      rw [hl, show part true data d (min 4 (cnt - d)) = data.extract (d * 16) ((d + min 4 (cnt - d)) * 16) from rfl, putB_first bs a d (min 4 (cnt - d)) data (by omega) (by omega)] at h1
      rw [show part true data d (min 4 (cnt - d)) = data.extract (d * 16) ((d + min 4 (cnt - d)) * 16) from rfl]
      generalize tries true (a + d) (min 4 (cnt - d)) (data.extract (d * 16) ((d + min 4 (cnt - d)) * 16)) 2 l (fs.drop u) = r at *
      by_cases c : r.c = 0
      · rw [if_pos c]
        rcases h1 with ⟨_, q⟩ | q
        · exact absurd c q
        · exact por_write a cnt data fs bs hb hz k r.l (t ++ r.t) (d + min 4 (cnt - d)) (u + r.u) q (by omega) (by omega)
      · rw [if_neg c]
        refine ⟨?_, hd, fun q => absurd q c⟩
        rcases h1 with ⟨q, _⟩ | q
        · exact .inl q
        · exact .inr ⟨c, by dsimp only; rw [q]; congr 1; omega⟩
    · rw [if_neg hc]
      exact ⟨.inl hl, hd, fun _ => by show d = cnt; omega⟩
end Go.Proofs.Ytafiedhjjnapoaa.Sto
