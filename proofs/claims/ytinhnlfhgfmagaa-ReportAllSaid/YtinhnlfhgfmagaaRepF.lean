/- The reader of items, plainly; the walk of 'global'. -/
import Derived.Test.YtinhnlfhgfmagaaRepW
import Derived.Test.YtinhnlfhgfmagaaAny
namespace Go.Proofs.Ytinhnlfhgfmagaa
open Go.RowKit Go.Proofs.Ytinhnlfhgfmagaa.Rep
structure St5 where
  p : Int
  mn : Int
  mx : Int
  sz : Int
  ct : Int
def St5.cells (s : St5) : List Value := [.int .i64 s.p, .int .i64 s.mn, .int .i64 s.mx, .int .i64 s.sz, .int .i64 s.ct]
structure Fld where
  at_ : Int
  bits : Int
  page : Int
  usage : Int
  mn : Int
  mx : Int
  pad : Bool
def Fld.cells (f : Fld) : List Value := [.int .i64 f.at_, .int .i64 f.bits, .int .i64 f.page, .int .i64 f.usage, .int .i64 f.mn, .int .i64 f.mx, .bool f.pad]
/-- a reader's state -/
structure RS where
  st : St5
  stk : List St5
  us : List Int
  dep : Int
  bits : Int
  out : List Fld
structure RS.Ok (s : RS) : Prop where
  sz0 : 0 ≤ s.st.sz
  sz1 : s.st.sz ≤ 32
  ct0 : 0 ≤ s.st.ct
  ct1 : s.st.ct ≤ 256
  k4 : s.stk.length ≤ 4
  ks : ∀ x ∈ s.stk, (0 ≤ x.sz ∧ x.sz ≤ 32) ∧ 0 ≤ x.ct ∧ x.ct ≤ 256
  us : s.us.length ≤ 256
  d0 : 0 ≤ s.dep
  d8 : s.dep ≤ 8
  b0 : 0 ≤ s.bits
  b1 : s.bits ≤ 512
  out : s.out.length ≤ 256
def row (s : RS) (vs vu vo : Value) : Array Value := #[.int .i64 s.st.p, .int .i64 s.st.mn, .int .i64 s.st.mx, .int .i64 s.st.sz, .int .i64 s.st.ct, vs, vu, .int .i64 s.dep, .int .i64 s.bits, vo]
/-- the box of a reader, and its lists -/
structure RdB (w : World) (B b : Nat) (s : RS) (vs vu vo : Value) : Prop where
  bB : B ≤ b
  row : w.heap[b]? = some (.cells (row s vs vu vo) 54 (0, 0))
  s1 : Kt.Sl w B 50 5 vs s.stk.length (s.stk.flatMap St5.cells)
  s2 : Kt.Sl w B 3 1 vu s.us.length (s.us.map (Value.int .i64))
  s3 : Kt.Sl w B 29 7 vo s.out.length (s.out.flatMap Fld.cells)
  n1 : ∀ k, vs.ownBlock = some k → k ≠ b
  n2 : ∀ k, vu.ownBlock = some k → k ≠ b
  n3 : ∀ k, vo.ownBlock = some k → k ≠ b
  d12 : ∀ k, vs.ownBlock = some k → vu.ownBlock ≠ some k
  d13 : ∀ k, vs.ownBlock = some k → vo.ownBlock ≠ some k
  d23 : ∀ k, vu.ownBlock = some k → vo.ownBlock ≠ some k
  ok : s.Ok
def Rdr (w : World) (B b : Nat) (s : RS) : Prop := ∃ vs vu vo, RdB w B b s vs vu vo
theorem RdB.lt {w : World} {B b : Nat} {s : RS} {vs vu vo : Value} (h : RdB w B b s vs vu vo) : b < w.heap.size := (Array.getElem?_eq_some_iff.1 h.row).1
theorem RdB.on {w w' : World} {B b : Nat} {s : RS} {vs vu vo : Value} (h : RdB w B b s vs vu vo) (hb : Below w.heap.size w w') : RdB w' B b s vs vu vo :=
  ⟨h.bB, (hb.block b h.lt).trans h.row, h.s1.on hb, h.s2.on hb, h.s3.on hb, h.n1, h.n2, h.n3, h.d12, h.d13, h.d23, h.ok⟩
theorem Rdr.on {w w' : World} {B b : Nat} {s : RS} (h : Rdr w B b s) (hb : Below w.heap.size w w') : Rdr w' B b s := by
  obtain ⟨vs, vu, vo, h⟩ := h
  exact ⟨vs, vu, vo, h.on hb⟩
theorem RdB.alloc {w : World} {B b : Nat} {s : RS} {vs vu vo : Value} (h : RdB w B b s vs vu vo) (o : Obj) : RdB (w.alloc o) B b s vs vu vo := h.on (Kt.balloc (Below.refl _ w) o)
/-- one cell of the box is other than before -/
theorem RdB.put {w : World} {B b : Nat} {s : RS} {vs vu vo : Value} (h : RdB w B b s vs vu vo) (i : Nat) (x : Value) (s' : RS) (hr : (Go.Proofs.Ytinhnlfhgfmagaa.row s vs vu vo).setIfInBounds i x = Go.Proofs.Ytinhnlfhgfmagaa.row s' vs vu vo) (e1 : s'.stk = s.stk) (e2 : s'.us = s.us) (e3 : s'.out = s.out) (ok : s'.Ok) : RdB (w.setCell ⟨b, i, none⟩ x) B b s' vs vu vo :=
  ⟨h.bB, by rw [← hr]; exact heap_setCell_same _ _ _ _ _ _ h.row, by rw [e1]; exact h.s1.set (fun k hk => h.n1 k hk) x, by rw [e2]; exact h.s2.set (fun k hk => h.n2 k hk) x, by rw [e3]; exact h.s3.set (fun k hk => h.n3 k hk) x, h.n1, h.n2, h.n3, h.d12, h.d13, h.d23, ok⟩
/-- what 'global' makes of a state -/
def glob (s : RS) (k v : Int) : RS × Int :=
  if k = 1 then ({ s with st := { s.st with p := v } }, 0)
  else if k = 5 then ({ s with st := { s.st with mn := v } }, 0)
  else if k = 9 then ({ s with st := { s.st with mx := v } }, 0)
  else if k = 29 then (if 1 ≤ v ∧ v ≤ 32 then ({ s with st := { s.st with sz := v } }, 0) else (s, 1))
  else if k = 37 then (if 0 ≤ v ∧ v ≤ 256 then ({ s with st := { s.st with ct := v } }, 0) else (s, 1))
  else if k = 41 then (if s.stk.length = 4 then (s, 11) else ({ s with stk := s.stk ++ [s.st] }, 0))
  else if k = 45 then (if s.stk = [] then (s, 12) else ({ s with st := s.stk.getLastD s.st, stk := s.stk.dropLast }, 0))
  else (s, 0)
/-- what a step of the reader leaves -/
def Left (w : World) (B b : Nat) (x : RS × Int) (e : Ending) (w' : World) : Prop := e = .returned (.int .i64 x.2) ∧ (x.2 = 0 → Rdr w' B b x.1) ∧ Below B w w'
theorem glob_ok {s : RS} (h : s.Ok) (k v : Int) : (glob s k v).1.Ok := by
  unfold glob
  split; exact ⟨h.sz0, h.sz1, h.ct0, h.ct1, h.k4, h.ks, h.us, h.d0, h.d8, h.b0, h.b1, h.out⟩
  split; exact ⟨h.sz0, h.sz1, h.ct0, h.ct1, h.k4, h.ks, h.us, h.d0, h.d8, h.b0, h.b1, h.out⟩
  split; exact ⟨h.sz0, h.sz1, h.ct0, h.ct1, h.k4, h.ks, h.us, h.d0, h.d8, h.b0, h.b1, h.out⟩
  split
  · split
    · rename_i hv; exact ⟨by show 0 ≤ v; omega, hv.2, h.ct0, h.ct1, h.k4, h.ks, h.us, h.d0, h.d8, h.b0, h.b1, h.out⟩
    · exact h
  split
  · split
    · rename_i hv; exact ⟨h.sz0, h.sz1, hv.1, hv.2, h.k4, h.ks, h.us, h.d0, h.d8, h.b0, h.b1, h.out⟩
    · exact h
  split
  · split
    · exact h
    · rename_i hn
      refine ⟨h.sz0, h.sz1, h.ct0, h.ct1, ?_, ?_, h.us, h.d0, h.d8, h.b0, h.b1, h.out⟩
      · show (s.stk ++ [s.st]).length ≤ 4
        have := h.k4
        rw [List.length_append]; simp; omega
      · intro x hx
        rcases List.mem_append.1 hx with hx | hx
        · exact h.ks x hx
        · rw [List.mem_singleton.1 hx]; exact ⟨⟨h.sz0, h.sz1⟩, h.ct0, h.ct1⟩
  split
  · split
    · exact h
    · rename_i hne
      have hm : s.stk.getLastD s.st ∈ s.stk := by
        rw [List.getLastD_eq_getLast?, List.getLast?_eq_some_getLast hne]; exact List.getLast_mem hne
      have hq := h.ks _ hm
      refine ⟨hq.1.1, hq.1.2, hq.2.1, hq.2.2, ?_, fun x hx => h.ks x (List.dropLast_subset _ hx), h.us, h.d0, h.d8, h.b0, h.b1, h.out⟩
      show s.stk.dropLast.length ≤ 4
      have := h.k4
      rw [List.length_dropLast]; omega
  exact h
set_option maxRecDepth 100000 in
set_option maxHeartbeats 1600000 in
theorem glob_plain (w : World) (B b : Nat) (s : RS) (k v : Int) (h : Rdr w B b s) (hk : k ≠ 41 ∧ k ≠ 45) : Calls Try.prog 22 #[.pointer (some ⟨b, 0, none⟩), .agg #[.int .i64 k, .int .i64 v]] w (Left w B b (glob s k v)) := by
  obtain ⟨vs, vu, vo, h0⟩ := h
  have hlt := h0.lt
  have hBw : B ≤ w.heap.size := Nat.le_trans h0.bB (Nat.le_of_lt hlt)
  have HG := Lib.hid (glob_ok h0.ok k v)
  have HA := Lib.hid (h0.alloc (.cells #[.int .i64 k, .int .i64 v] 32))
  have HBE : Hid (Below B w (w.alloc (.cells #[.int .i64 k, .int .i64 v] 32))) := Lib.hid ((Below.refl B w).alloc hBw _)
  have HX := Lib.hid h0
  have hbB := h0.bB
  have c0 := fun i => cell_of_row _ _ i _ _ _ h0.row
  have f0 := fun i => frozen_of_row _ _ i _ _ h0.row
  unfold row at c0
  clear h0
  by_cases k1 : k = 1
  · have e : glob s k v = ({ s with st := { s.st with p := v } }, 0) := by unfold glob; rw [if_pos k1]
    rw [e] at HG ⊢
    clear e
    subst k1
    skip
    go_enter Try.func22, Try.ntmps22
    go_wp2_with fail
    go_ret
    exact ⟨rfl, fun _ => ⟨vs, vu, vo, (HX.out.put 0 (.int .i64 v) { s with st := { s.st with p := v } } rfl rfl rfl rfl HG.out).alloc _⟩, ((Below.refl B w).setCell (p := ⟨b, 0, none⟩) hbB _).alloc (by simpa [World.setCell] using hBw) _⟩
  by_cases k5 : k = 5
  · have e : glob s k v = ({ s with st := { s.st with mn := v } }, 0) := by unfold glob; rw [if_neg k1]; rw [if_pos k5]
    rw [e] at HG ⊢
    clear e
    subst k5
    try clear k1
    go_enter Try.func22, Try.ntmps22
    go_wp2_with fail
    go_ret
    exact ⟨rfl, fun _ => ⟨vs, vu, vo, (HX.out.put 1 (.int .i64 v) { s with st := { s.st with mn := v } } rfl rfl rfl rfl HG.out).alloc _⟩, ((Below.refl B w).setCell (p := ⟨b, 1, none⟩) hbB _).alloc (by simpa [World.setCell] using hBw) _⟩
  by_cases k9 : k = 9
  · have e : glob s k v = ({ s with st := { s.st with mx := v } }, 0) := by unfold glob; rw [if_neg k1]; rw [if_neg k5]; rw [if_pos k9]
    rw [e] at HG ⊢
    clear e
    subst k9
    try clear k1 k5
    go_enter Try.func22, Try.ntmps22
    go_wp2_with fail
    go_ret
    exact ⟨rfl, fun _ => ⟨vs, vu, vo, (HX.out.put 2 (.int .i64 v) { s with st := { s.st with mx := v } } rfl rfl rfl rfl HG.out).alloc _⟩, ((Below.refl B w).setCell (p := ⟨b, 2, none⟩) hbB _).alloc (by simpa [World.setCell] using hBw) _⟩
  by_cases k29 : k = 29
  · by_cases hv : 1 ≤ v ∧ v ≤ 32
    · have e : glob s k v = ({ s with st := { s.st with sz := v } }, 0) := by unfold glob; rw [if_neg k1]; rw [if_neg k5]; rw [if_neg k9]; rw [if_pos k29]; rw [if_pos hv]
      rw [e] at HG ⊢
      clear e
      subst k29
      obtain ⟨v0, v1⟩ := hv
      try clear k1 k5 k9
      go_enter Try.func22, Try.ntmps22
      go_wp2_with fail
      go_ret
      exact ⟨rfl, fun _ => ⟨vs, vu, vo, (HX.out.put 3 (.int .i64 v) { s with st := { s.st with sz := v } } rfl rfl rfl rfl HG.out).alloc _⟩, ((Below.refl B w).setCell (p := ⟨b, 3, none⟩) hbB _).alloc (by simpa [World.setCell] using hBw) _⟩
    · have e : glob s k v = (s, 1) := by unfold glob; rw [if_neg k1]; rw [if_neg k5]; rw [if_neg k9]; rw [if_pos k29]; rw [if_neg hv]
      rw [e]
      clear e HG
      subst k29
      clear k1 k5 k9
      have hv2 : v < 1 ∨ (1 ≤ v ∧ 32 < v) := by omega
      clear hv
      rcases hv2 with hv2 | ⟨hv1, hv2⟩
      · go_enter Try.func22, Try.ntmps22
        go_wp2_with fail
        go_ret
        exact ⟨rfl, fun h => absurd h (show ¬ ((1 : Int) = 0) by decide), HBE.out⟩
      · go_enter Try.func22, Try.ntmps22
        go_wp2_with fail
        go_ret
        exact ⟨rfl, fun h => absurd h (show ¬ ((1 : Int) = 0) by decide), HBE.out⟩
  by_cases k37 : k = 37
  · by_cases hv : 0 ≤ v ∧ v ≤ 256
    · have e : glob s k v = ({ s with st := { s.st with ct := v } }, 0) := by unfold glob; rw [if_neg k1]; rw [if_neg k5]; rw [if_neg k9]; rw [if_neg k29]; rw [if_pos k37]; rw [if_pos hv]
      rw [e] at HG ⊢
      clear e
      subst k37
      obtain ⟨v0, v1⟩ := hv
      try clear k1 k5 k9 k29
      go_enter Try.func22, Try.ntmps22
      go_wp2_with fail
      go_ret
      exact ⟨rfl, fun _ => ⟨vs, vu, vo, (HX.out.put 4 (.int .i64 v) { s with st := { s.st with ct := v } } rfl rfl rfl rfl HG.out).alloc _⟩, ((Below.refl B w).setCell (p := ⟨b, 4, none⟩) hbB _).alloc (by simpa [World.setCell] using hBw) _⟩
    · have e : glob s k v = (s, 1) := by unfold glob; rw [if_neg k1]; rw [if_neg k5]; rw [if_neg k9]; rw [if_neg k29]; rw [if_pos k37]; rw [if_neg hv]
      rw [e]
      clear e HG
      subst k37
      clear k1 k5 k9 k29
      have hv2 : v < 0 ∨ (0 ≤ v ∧ 256 < v) := by omega
      clear hv
      rcases hv2 with hv2 | ⟨hv1, hv2⟩
      · go_enter Try.func22, Try.ntmps22
        go_wp2_with fail
        go_ret
        exact ⟨rfl, fun h => absurd h (show ¬ ((1 : Int) = 0) by decide), HBE.out⟩
      · go_enter Try.func22, Try.ntmps22
        go_wp2_with fail
        go_ret
        exact ⟨rfl, fun h => absurd h (show ¬ ((1 : Int) = 0) by decide), HBE.out⟩
  obtain ⟨k41, k45⟩ := hk
  have e : glob s k v = (s, 0) := by unfold glob; rw [if_neg k1]; rw [if_neg k5]; rw [if_neg k9]; rw [if_neg k29]; rw [if_neg k37]; rw [if_neg k41]; rw [if_neg k45]
  rw [e]
  clear e HG
  have q1 : (k == 1) = false := beq_eq_false_iff_ne.2 k1
  have q5 : (k == 5) = false := beq_eq_false_iff_ne.2 k5
  have q9 : (k == 9) = false := beq_eq_false_iff_ne.2 k9
  have q29 : (k == 29) = false := beq_eq_false_iff_ne.2 k29
  have q37 : (k == 37) = false := beq_eq_false_iff_ne.2 k37
  have q41 : (k == 41) = false := beq_eq_false_iff_ne.2 k41
  have q45 : (k == 45) = false := beq_eq_false_iff_ne.2 k45
  clear k1 k5 k9 k29 k37 k41 k45
  go_enter Try.func22, Try.ntmps22
  go_wp2_with fail
  go_ret
  exact ⟨rfl, fun _ => ⟨vs, vu, vo, HA.out⟩, HBE.out⟩
end Go.Proofs.Ytinhnlfhgfmagaa
