/- Configurations, plainly. -/
import Derived.Test.YtmddfpmchcmgiaaDscS
import Derived.Test.YtmddfpmchcmgiaaDscN
namespace Go.Proofs.Ytmddfpmchcmgiaa.Dsc
structure En where
  ad : Int
  inn : Bool
  ki : Int
  mx : Int
  iv : Int
deriving DecidableEq
structure Fa where
  cl : Int
  su : Int
  pr : Int
  nm : Int
  ex : List (List UInt8)
  es : List En
deriving DecidableEq
structure Cf where
  va : Int
  nm : Int
  at_ : Int
  pw : Int
  fs : List Fa
deriving DecidableEq
def isB (n : Int) : Prop := 0 ≤ n ∧ n ≤ 255
instance (n : Int) : Decidable (isB n) := by unfold isB; exact inferInstance
def at' (d : List UInt8) (i : Nat) : Int := ((d.getD i 0).toNat : Int)
def okX (s : List UInt8) : Prop := 2 ≤ s.length ∧ s.length ≤ 32 ∧ at' s 0 = s.length ∧ 6 ≤ at' s 1
instance (s : List UInt8) : Decidable (okX s) := by unfold okX; exact inferInstance
def okE (x : En) : Prop := 1 ≤ x.ad ∧ x.ad ≤ 15 ∧ 0 ≤ x.ki ∧ x.ki ≤ 3 ∧ 1 ≤ x.mx ∧ x.mx ≤ 64 ∧ isB x.iv
instance (x : En) : Decidable (okE x) := by unfold okE; exact inferInstance
/-- what is wrong with ends, and what was seen -/
def endsC : List (Int × Bool) → List En → Int × List (Int × Bool)
  | seen, [] => (0, seen)
  | seen, x :: r => if okE x then (if (x.ad, x.inn) ∈ seen then (13, seen) else endsC ((x.ad, x.inn) :: seen) r) else (1, seen)
def headF (f : Fa) : Prop := isB f.cl ∧ isB f.su ∧ isB f.pr ∧ isB f.nm
instance (f : Fa) : Decidable (headF f) := by unfold headF; exact inferInstance
def faceC (seen : List (Int × Bool)) (f : Fa) : Int × List (Int × Bool) :=
  if headF f then (if 2 < f.ex.length then (2, seen) else if ∀ x ∈ f.ex, okX x then (if 4 < f.es.length then (2, seen) else endsC seen f.es) else (1, seen)) else (1, seen)
def facesC : List (Int × Bool) → List Fa → Int
  | _, [] => 0
  | seen, f :: r => if (faceC seen f).1 = 0 then facesC (faceC seen f).2 r else (faceC seen f).1
def headC (c : Cf) : Prop := 1 ≤ c.va ∧ c.va ≤ 255 ∧ isB c.nm ∧ isB c.at_ ∧ isB c.pw
instance (c : Cf) : Decidable (headC c) := by unfold headC; exact inferInstance
def cfgC (c : Cf) : Int := if headC c then (if 4 < c.fs.length then 2 else facesC [] c.fs) else 1
/-- the texts -/
def endT (x : En) : List UInt8 := putB [7, 5, x.ad + (if x.inn then 128 else 0), x.ki] ++ putB [x.mx, x.mx / 256] ++ putB [x.iv]
def faceD (i : Nat) (f : Fa) : List UInt8 := putB [9, 4, i, 0, f.es.length, f.cl, f.su, f.pr, f.nm]
def faceP (i : Nat) (f : Fa) : List (List UInt8) := faceD i f :: (f.ex ++ f.es.map endT)
def facesP : Nat → List Fa → List (List UInt8)
  | _, [] => []
  | i, f :: r => faceP i f ++ facesP (i + 1) r
def bodyT (c : Cf) : List UInt8 := (facesP 0 c.fs).flatten
def headT (c : Cf) : List UInt8 := putB [9, 2] ++ putB [9 + (bodyT c).length, (9 + ((bodyT c).length : Int)) / 256] ++ putB [c.fs.length, c.va, c.nm, c.at_, c.pw]
def cfgT (c : Cf) : List UInt8 := headT c ++ bodyT c
def wCfg (c : Cf) : List UInt8 × Int := if cfgC c = 0 then (cfgT c, 0) else ([], cfgC c)
/-- all is right -/
structure OkF (f : Fa) : Prop where
  hd : headF f
  nx : f.ex.length ≤ 2
  xs : ∀ x ∈ f.ex, okX x
  ne : f.es.length ≤ 4
  es : ∀ x ∈ f.es, okE x
theorem endsC_ok : ∀ (l : List En) (seen : List (Int × Bool)), (endsC seen l).1 = 0 → ∀ x ∈ l, okE x
  | [], _, _, x, hx => by cases hx
  | y :: l, seen, h, x, hx => by
    unfold endsC at h
    split at h
    next hy =>
      split at h
      · exact absurd h (by simp)
      · rcases List.mem_cons.1 hx with rfl | hx
        · exact hy
        · exact endsC_ok l _ h x hx
    · exact absurd h (by simp)
theorem faceC_ok {seen : List (Int × Bool)} {f : Fa} (h : (faceC seen f).1 = 0) : OkF f := by
  unfold faceC at h
  split at h
  next h1 =>
    split at h
    · exact absurd h (by simp)
    next h2 =>
      split at h
      next h3 =>
        split at h
        · exact absurd h (by simp)
        next h4 => exact ⟨h1, by omega, h3, by omega, endsC_ok _ _ h⟩
      · exact absurd h (by simp)
  · exact absurd h (by simp)
theorem facesC_ok : ∀ (l : List Fa) (seen : List (Int × Bool)), facesC seen l = 0 → ∀ f ∈ l, OkF f
  | [], _, _, f, hf => by cases hf
  | g :: l, seen, h, f, hf => by
    unfold facesC at h
    split at h
    next h1 =>
      rcases List.mem_cons.1 hf with rfl | hf
      · exact faceC_ok h1
      · exact facesC_ok l _ h f hf
    next h1 => exact absurd h h1
theorem cfgC_ok {c : Cf} (h : cfgC c = 0) : headC c ∧ c.fs.length ≤ 4 ∧ ∀ f ∈ c.fs, OkF f := by
  unfold cfgC at h
  split at h
  next h1 =>
    split at h
    · exact absurd h (by simp)
    next h2 => exact ⟨h1, by omega, facesC_ok _ _ h⟩
  · exact absurd h (by simp)
theorem byte_at {n : Int} (h : isB n) : ((UInt8.ofNat (n % 256).toNat).toNat : Int) = n := by
  rw [byte_val]
  unfold isB at h
  omega
theorem endT_len (x : En) : (endT x).length = 7 := rfl
theorem faceD_len (i : Nat) (f : Fa) : (faceD i f).length = 9 := rfl
theorem headT_len (c : Cf) : (headT c).length = 9 := rfl
/-- a piece -/
def Pc (x : List UInt8) : Prop := 2 ≤ x.length ∧ at' x 0 = x.length
theorem pc_end (x : En) : Pc (endT x) := ⟨by rw [endT_len]; decide, rfl⟩
theorem pc_face (i : Nat) (f : Fa) : Pc (faceD i f) := ⟨by rw [faceD_len]; decide, rfl⟩
theorem pc_head (c : Cf) : Pc (headT c) := ⟨by rw [headT_len]; decide, rfl⟩
theorem faceP_pc {i : Nat} {f : Fa} (h : OkF f) : ∀ x ∈ faceP i f, Pc x := by
  intro x hx
  rcases List.mem_cons.1 hx with rfl | hx
  · exact pc_face i f
  · rcases List.mem_append.1 hx with hx | hx
    · have := h.xs x hx
      exact ⟨this.1, this.2.2.1⟩
    · obtain ⟨y, _, rfl⟩ := List.mem_map.1 hx
      exact pc_end y
theorem facesP_pc : ∀ (l : List Fa) (i : Nat), (∀ f ∈ l, OkF f) → ∀ x ∈ facesP i l, Pc x
  | [], _, _, x, hx => by cases hx
  | f :: l, i, h, x, hx => by
    unfold facesP at hx
    rcases List.mem_append.1 hx with hx | hx
    · exact faceP_pc (h f (List.mem_cons_self ..)) x hx
    · exact facesP_pc l (i + 1) (fun g hg => h g (List.mem_cons_of_mem _ hg)) x hx
theorem ex_len : ∀ (l : List (List UInt8)), (∀ x ∈ l, okX x) → l.flatten.length ≤ 32 * l.length
  | [], _ => Nat.zero_le _
  | x :: l, h => by
    have := ex_len l (fun y hy => h y (List.mem_cons_of_mem _ hy))
    have h1 := (h x (List.mem_cons_self ..)).2.1
    rw [List.flatten_cons, List.length_append, List.length_cons]
    omega
theorem es_len : ∀ (l : List En), (l.map endT).flatten.length = 7 * l.length
  | [] => rfl
  | x :: l => by
    rw [List.map_cons, List.flatten_cons, List.length_append, es_len l, endT_len, List.length_cons]
    omega
theorem faceP_len (i : Nat) (f : Fa) : (faceP i f).flatten.length = 9 + (f.ex.flatten.length + 7 * f.es.length) := by
  unfold faceP
  rw [List.flatten_cons, List.length_append, faceD_len, List.flatten_append, List.length_append, es_len]
theorem facesP_le : ∀ (l : List Fa) (i : Nat), (∀ f ∈ l, OkF f) → (facesP i l).flatten.length ≤ 101 * l.length
  | [], _, _ => Nat.zero_le _
  | f :: l, i, h => by
    have h1 := facesP_le l (i + 1) (fun g hg => h g (List.mem_cons_of_mem _ hg))
    have h2 := h f (List.mem_cons_self ..)
    have h3 := ex_len f.ex h2.xs
    have h4 := h2.nx
    have h5 := h2.ne
    unfold facesP
    rw [List.flatten_append, List.length_append, faceP_len, List.length_cons]
    omega
/-- pieces, one behind the other, are split into these -/
theorem sp_pieces : ∀ (l : List (List UInt8)) (f : Nat), (∀ x ∈ l, Pc x) → l.flatten.length < f → sp f l.flatten = (0, l)
  | [], f + 1, _, _ => rfl
  | x :: l, f + 1, h, hf => by
    obtain ⟨h2, h0⟩ := h x (List.mem_cons_self ..)
    cases x with
    | nil => simp at h2
    | cons b r =>
      have hb : b.toNat = (b :: r).length := by
        unfold at' at h0
        have : ((b :: r).getD 0 0) = b := rfl
        rw [this] at h0
        omega
      rw [List.flatten_cons, List.length_append] at hf
      rw [List.flatten_cons, List.cons_append]
      unfold sp
      have hl : (b :: (r ++ l.flatten)).length = (b :: r).length + l.flatten.length := by simp; omega
      rw [if_neg (by omega), if_neg (by rw [hl]; omega)]
      have hd : (b :: (r ++ l.flatten)).drop b.toNat = l.flatten := by rw [hb, ← List.cons_append, List.drop_left]
      have ht : (b :: (r ++ l.flatten)).take b.toNat = b :: r := by rw [hb, ← List.cons_append, List.take_left]
      rw [hd, ht, sp_pieces l f (fun y hy => h y (List.mem_cons_of_mem _ hy)) (by rw [List.length_cons] at hf; omega)]
      rfl
def pcs (c : Cf) : List (List UInt8) := headT c :: facesP 0 c.fs
theorem cfgT_pcs (c : Cf) : cfgT c = (pcs c).flatten := rfl
theorem cfgT_len {c : Cf} (h : cfgC c = 0) : (cfgT c).length ≤ 413 := by
  obtain ⟨_, h1, h2⟩ := cfgC_ok h
  have h3 := facesP_le c.fs 0 h2
  unfold cfgT bodyT
  rw [List.length_append, headT_len]
  omega
theorem spl_cfg {c : Cf} (h : cfgC c = 0) : spl (cfgT c) = (0, pcs c) := by
  have hl := cfgT_len h
  obtain ⟨_, _, h2⟩ := cfgC_ok h
  unfold spl
  rw [if_neg (by omega), cfgT_pcs]
  refine sp_pieces (pcs c) _ (fun x hx => ?_) (Nat.lt_succ_self _)
  rcases List.mem_cons.1 hx with rfl | hx
  · exact pc_head c
  · exact facesP_pc c.fs 0 h2 x hx
/-- one descriptor more -/
def addF (fs : List Fa) (d : List UInt8) : Option (List Fa) :=
  if at' d 1 = 4 ∧ d.length = 9 then some (fs ++ [⟨at' d 5, at' d 6, at' d 7, at' d 8, [], []⟩])
  else match fs.getLast? with
  | none => none
  | some f =>
    if at' d 1 = 5 ∧ d.length = 7 then some (fs.dropLast ++ [⟨f.cl, f.su, f.pr, f.nm, f.ex, f.es ++ [⟨at' d 2 % 128, decide (128 ≤ at' d 2), at' d 3, at' d 4 + 256 * at' d 5, at' d 6⟩]⟩])
    else if 6 ≤ at' d 1 then some (fs.dropLast ++ [⟨f.cl, f.su, f.pr, f.nm, f.ex ++ [d], f.es⟩]) else none
def addsF : List Fa → List (List UInt8) → Option (List Fa)
  | fs, [] => some fs
  | fs, d :: r => match addF fs d with
    | none => none
    | some fs' => addsF fs' r
theorem addF_face (fs : List Fa) {i : Nat} {f : Fa} (h : headF f) : addF fs (faceD i f) = some (fs ++ [⟨f.cl, f.su, f.pr, f.nm, [], []⟩]) := by
  obtain ⟨h1, h2, h3, h4⟩ := h
  have e1 : at' (faceD i f) 5 = f.cl := byte_at h1
  have e2 : at' (faceD i f) 6 = f.su := byte_at h2
  have e3 : at' (faceD i f) 7 = f.pr := byte_at h3
  have e4 : at' (faceD i f) 8 = f.nm := byte_at h4
  unfold addF
  rw [if_pos ⟨rfl, rfl⟩, e1, e2, e3, e4]
theorem addF_ex (fs : List Fa) (f : Fa) {d : List UInt8} (h : okX d) : addF (fs ++ [f]) d = some (fs ++ [⟨f.cl, f.su, f.pr, f.nm, f.ex ++ [d], f.es⟩]) := by
  have h6 := h.2.2.2
  unfold addF
  rw [if_neg (by omega), List.getLast?_concat, List.dropLast_concat]
  dsimp only
  rw [if_neg (by omega), if_pos h6]
theorem addF_end (fs : List Fa) (f : Fa) {x : En} (h : okE x) : addF (fs ++ [f]) (endT x) = some (fs ++ [⟨f.cl, f.su, f.pr, f.nm, f.ex, f.es ++ [x]⟩]) := by
  obtain ⟨h1, h2, h3, h4, h5, h6, h7⟩ := h
  have e1 : at' (endT x) 1 = 5 := rfl
  have e2 : at' (endT x) 2 = x.ad + (if x.inn then 128 else 0) := byte_at (by unfold isB; split <;> omega)
  have e3 : at' (endT x) 3 = x.ki := byte_at (by unfold isB; omega)
  have e4 : at' (endT x) 4 = x.mx := byte_at (by unfold isB; omega)
  have e5 : at' (endT x) 5 = 0 := by
    show ((UInt8.ofNat (x.mx / 256 % 256).toNat).toNat : Int) = 0
    rw [show x.mx / 256 = 0 by omega]; rfl
  have e6 : at' (endT x) 6 = x.iv := byte_at h7
  unfold addF
  rw [if_neg (fun q => absurd (e1.symm.trans q.1) (by decide)), List.getLast?_concat, List.dropLast_concat]
  dsimp only
  rw [if_pos ⟨e1, rfl⟩, e2, e3, e4, e5, e6]
  have hx : (⟨(x.ad + (if x.inn then 128 else 0)) % 128, decide (128 ≤ x.ad + (if x.inn then 128 else 0)), x.ki, x.mx + 256 * 0, x.iv⟩ : En) = x := by
    obtain ⟨a, b, k, m, v⟩ := x
    dsimp only at *
    cases b
    · simp only [if_neg Bool.false_ne_true, Int.add_zero, Int.mul_zero]
      congr 1
      · omega
      · exact decide_eq_false (by omega)
    · simp only [if_true, Int.mul_zero, Int.add_zero]
      congr 1
      · omega
      · exact decide_eq_true (by omega)
  rw [hx]
theorem adds_ex (fs : List Fa) : ∀ (l : List (List UInt8)) (f : Fa) (rest : List (List UInt8)), (∀ x ∈ l, okX x) → addsF (fs ++ [f]) (l ++ rest) = addsF (fs ++ [⟨f.cl, f.su, f.pr, f.nm, f.ex ++ l, f.es⟩]) rest
  | [], f, rest, _ => by rw [List.append_nil]; rfl
  | d :: l, f, rest, h => by
    rw [List.cons_append]
    unfold addsF
    rw [addF_ex fs f (h d (List.mem_cons_self ..))]
    dsimp only
    have := adds_ex fs l ⟨f.cl, f.su, f.pr, f.nm, f.ex ++ [d], f.es⟩ rest (fun y hy => h y (List.mem_cons_of_mem _ hy))
    rw [this, List.append_assoc]
    cases rest <;> rfl
theorem adds_es (fs : List Fa) : ∀ (l : List En) (f : Fa) (rest : List (List UInt8)), (∀ x ∈ l, okE x) → addsF (fs ++ [f]) (l.map endT ++ rest) = addsF (fs ++ [⟨f.cl, f.su, f.pr, f.nm, f.ex, f.es ++ l⟩]) rest
  | [], f, rest, _ => by rw [List.append_nil]; rfl
  | x :: l, f, rest, h => by
    rw [List.map_cons, List.cons_append]
    unfold addsF
    rw [addF_end fs f (h x (List.mem_cons_self ..))]
    dsimp only
    have := adds_es fs l ⟨f.cl, f.su, f.pr, f.nm, f.ex, f.es ++ [x]⟩ rest (fun y hy => h y (List.mem_cons_of_mem _ hy))
    rw [this, List.append_assoc]
    cases rest <;> rfl
theorem adds_faces : ∀ (l pre : List Fa) (i : Nat), (∀ f ∈ l, OkF f) → addsF pre (facesP i l) = some (pre ++ l)
  | [], pre, _, _ => by rw [List.append_nil]; rfl
  | f :: l, pre, i, h => by
    have hf := h f (List.mem_cons_self ..)
    have ih := adds_faces l (pre ++ [f]) (i + 1) (fun g hg => h g (List.mem_cons_of_mem _ hg))
    show addsF pre (faceD i f :: (f.ex ++ f.es.map endT) ++ facesP (i + 1) l) = _
    rw [List.cons_append]
    have e : addsF pre (faceD i f :: (f.ex ++ f.es.map endT ++ facesP (i + 1) l)) = addsF (pre ++ [⟨f.cl, f.su, f.pr, f.nm, [], []⟩]) (f.ex ++ f.es.map endT ++ facesP (i + 1) l) := by
      conv => lhs; unfold addsF
      rw [addF_face pre hf.hd]
    rw [e, List.append_assoc, adds_ex pre f.ex _ _ hf.xs, adds_es pre f.es _ _ hf.es]
    show addsF (pre ++ [⟨f.cl, f.su, f.pr, f.nm, [] ++ f.ex, [] ++ f.es⟩]) _ = _
    rw [List.nil_append, List.nil_append, ih, List.append_assoc]
    rfl
def zeroC : Cf := ⟨0, 0, 0, 0, []⟩
/-- what is read -/
def rCfg (s : List UInt8) : Cf × Int :=
  if (spl s).1 = 0 then
    match (spl s).2 with
    | [] => (zeroC, 4)
    | h :: l => if h.length ≠ 9 then (zeroC, 4) else match addsF [] l with
      | none => (zeroC, 4)
      | some fs => if wCfg ⟨at' h 5, at' h 6, at' h 7, at' h 8, fs⟩ = (s, 0) then (⟨at' h 5, at' h 6, at' h 7, at' h 8, fs⟩, 0) else (zeroC, 4)
  else (zeroC, (spl s).1)
/-- DescBack -/
theorem cfg_back {c : Cf} (h : cfgC c = 0) : rCfg (cfgT c) = (c, 0) := by
  obtain ⟨hh, _, hf⟩ := cfgC_ok h
  have hs := spl_cfg h
  obtain ⟨v1, v2, v3, v4, v5⟩ := hh
  have e1 : at' (headT c) 5 = c.va := byte_at (by unfold isB; omega)
  have e2 : at' (headT c) 6 = c.nm := byte_at v3
  have e3 : at' (headT c) 7 = c.at_ := byte_at v4
  have e4 : at' (headT c) 8 = c.pw := byte_at v5
  have hc : (⟨c.va, c.nm, c.at_, c.pw, c.fs⟩ : Cf) = c := rfl
  unfold rCfg
  rw [hs, if_pos rfl]
  dsimp only [pcs]
  rw [if_neg (by rw [headT_len]; decide), adds_faces c.fs [] 0 hf, List.nil_append]
  dsimp only
  rw [e1, e2, e3, e4, hc, if_pos (by unfold wCfg; rw [if_pos h])]
/-- DescOne -/
theorem cfg_one {s : List UInt8} {c : Cf} (h : rCfg s = (c, 0)) : wCfg c = (s, 0) := by
  unfold rCfg at h
  split at h
  next h0 =>
    split at h
    · cases h
    · split at h
      · cases h
      · split at h
        · cases h
        · split at h
          next hw =>
            simp only [Prod.mk.injEq, and_true] at h
            rw [← h]; exact hw
          · cases h
  next h0 =>
    simp only [Prod.mk.injEq] at h
    exact absurd h.2 h0
theorem sp_code : ∀ (f : Nat) (l : List UInt8), (sp f l).1 = 0 ∨ (sp f l).1 = 3 ∨ (sp f l).1 = 4
  | 0, _ => .inl rfl
  | f + 1, [] => .inl rfl
  | f + 1, b :: l => by
    have ih := sp_code f ((b :: l).drop b.toNat)
    unfold sp
    split
    · exact .inr (.inr rfl)
    split
    · exact .inr (.inl rfl)
    split
    · exact .inl rfl
    · exact ih
/-- what a reader tells -/
theorem cfg_code {s : List UInt8} (h : s.length ≤ 512) (h0 : (rCfg s).2 ≠ 0) : (rCfg s).2 = 3 ∨ (rCfg s).2 = 4 := by
  have hc := sp_code (s.length + 1) s
  have hs : spl s = sp (s.length + 1) s := by unfold spl; rw [if_neg (by omega)]
  unfold rCfg at h0 ⊢
  rw [hs] at h0 ⊢
  split
  next h1 =>
    rw [if_pos h1] at h0
    split
    · exact .inr rfl
    next h2 =>
      rw [h2] at h0
      dsimp only at h0
      split
      · exact .inr rfl
      next h3 =>
        rw [if_neg h3] at h0
        split
        · exact .inr rfl
        next h4 =>
          rw [h4] at h0
          dsimp only at h0
          split
          next h5 => rw [if_pos h5] at h0; exact absurd rfl h0
          · exact .inr rfl
  next h1 =>
    rcases hc with hc | hc | hc
    · exact absurd hc h1
    · exact .inl hc
    · exact .inr hc
/-- the length that a text tells -/
theorem cfg_tells {c : Cf} (h : cfgC c = 0) : at' (cfgT c) 2 + 256 * at' (cfgT c) 3 = (cfgT c).length := by
  have hl := cfgT_len h
  have h2 : (cfgT c).length = 9 + (bodyT c).length := by unfold cfgT; rw [List.length_append, headT_len]
  have e2 : at' (cfgT c) 2 = (9 + ((bodyT c).length : Int)) % 256 := byte_val _
  have e3 : at' (cfgT c) 3 = (9 + ((bodyT c).length : Int)) / 256 % 256 := byte_val _
  rw [e2, e3]
  omega
theorem at_take {s : List UInt8} {n i : Nat} (h : i < n) (_hn : n ≤ s.length) : at' (s.take n) i = at' s i := by
  unfold at'
  rw [List.getD_eq_getElem?_getD, List.getD_eq_getElem?_getD, List.getElem?_take, if_pos h]
/-- DescCut -/
theorem cfg_cut {c : Cf} (h : cfgC c = 0) {n : Nat} (hn : n < (cfgT c).length) : (rCfg ((cfgT c).take n)).2 = 3 ∨ (rCfg ((cfgT c).take n)).2 = 4 := by
  have hl := cfgT_len h
  have hlt : ((cfgT c).take n).length = n := by rw [List.length_take]; omega
  refine cfg_code (by rw [hlt]; omega) (fun h0 => ?_)
  obtain ⟨c', hc'⟩ : ∃ c', rCfg ((cfgT c).take n) = (c', 0) := ⟨_, by rw [← h0]⟩
  have hw := cfg_one hc'
  have hz : cfgC c' = 0 := by
    unfold wCfg at hw
    split at hw
    next h1 => exact h1
    next h1 =>
      simp only [Prod.mk.injEq] at hw
      exact absurd hw.2 h1
  have ht : cfgT c' = (cfgT c).take n := by
    unfold wCfg at hw
    rw [if_pos hz] at hw
    exact congrArg Prod.fst hw
  have h1 := cfg_tells hz
  have h2 := cfg_tells h
  have h9 : 9 ≤ (cfgT c').length := by unfold cfgT; rw [List.length_append, headT_len]; omega
  rw [ht, hlt] at h9
  rw [ht, hlt, at_take (by omega) (by omega), at_take (by omega) (by omega), h2] at h1
  omega
/-- DescLong -/
theorem facesP_count : ∀ (l : List Fa) (i : Nat), (facesP i l).length = (l.map fun f => 1 + f.ex.length + f.es.length).sum ∧ (facesP i l).flatten.length = (l.map fun f => 9 + 7 * f.es.length + f.ex.flatten.length).sum
  | [], _ => ⟨rfl, rfl⟩
  | f :: l, i => by
    obtain ⟨h1, h2⟩ := facesP_count l (i + 1)
    unfold facesP
    rw [List.length_append, List.flatten_append, List.length_append, h1, h2, faceP_len, List.map_cons, List.sum_cons, List.map_cons, List.sum_cons]
    unfold faceP
    rw [List.length_cons, List.length_append, List.length_map]
    exact ⟨by omega, by omega⟩
theorem cfg_long (c : Cf) : (pcs c).length = 1 + (c.fs.map fun f => 1 + f.ex.length + f.es.length).sum ∧ (cfgT c).length = 9 + (c.fs.map fun f => 9 + 7 * f.es.length + f.ex.flatten.length).sum := by
  obtain ⟨h1, h2⟩ := facesP_count c.fs 0
  unfold pcs cfgT bodyT
  rw [List.length_cons, List.length_append, headT_len, h1, h2]
  exact ⟨by omega, rfl⟩
end Go.Proofs.Ytmddfpmchcmgiaa.Dsc
