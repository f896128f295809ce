/- bulk: what Serve does, plainly; walked. -/
import Derived.Test.YtafiedhjjnapoaaBlkN
import Derived.Test.YtafiedhjjnapoaaApd
namespace Go.Proofs.Ytafiedhjjnapoaa
open Go.RowKit Go.Proofs.Ytafiedhjjnapoaa.Scs Go.Proofs.Ytafiedhjjnapoaa.Blk
/-- what the host means -/
def hostD (x : Wr) : Int := if x.len = 0 then 0 else if x.inn then 1 else 2
/-- what comes of a wrap: the blocks, the sense, what is answered, the status, the code -/
noncomputable def served (bs : List ByteArray) (s : Int) (x : Wr) (data : ByteArray) : List ByteArray × Int × ByteArray × ByteArray × Int :=
  open Classical in
  if chkD bs s ≠ 0 then (bs, s, ByteArray.empty, ByteArray.empty, chkD bs s)
  else if x.unit ≠ 0 then (bs, s, ByteArray.empty, ByteArray.empty, 8)
  else if agB (hostD x) x.len (means bs s x.cmd).1 (means bs s x.cmd).2 then
    (if hostD x = 2 ∧ (data.size : Int) ≠ x.len then (bs, s, ByteArray.empty, ByteArray.empty, 3)
     else
      let r := did bs s x.cmd (if hostD x = 2 then data.extract 0 (means bs s x.cmd).2.toNat else ByteArray.empty)
      (r.1, r.2.1, if r.2.2.2 = 0 ∧ hostD x = 1 then r.2.2.1.extract 0 (means bs s x.cmd).2.toNat else ByteArray.empty,
       statT ⟨x.tag, x.len - (means bs s x.cmd).2, if r.2.2.2 = 0 then 0 else 1⟩, 0))
  else (bs, s, ByteArray.empty, statT ⟨x.tag, x.len, 2⟩, 0)
/-- the disk's box, the answer's box, the blocks -/
structure SvW (w0 : World) (A : Option Addr) (c : Nat) (bs : List ByteArray) (s : Int) (W : World) : Prop where
  r1 : W.heap[w0.heap.size]? = some (.cells #[.slice A bs.length c, .int .i64 s] 24 (0, 0))
  r2 : W.heap[w0.heap.size + 1]? = some (.cells #[.slice none 0 0, .int .i64 0] 24 (0, 0))
  sl : DkS W (w0.heap.size + 2) A c bs
  bel : Below w0.heap.size w0 W
theorem SvW.on {w0 : World} {A : Option Addr} {c : Nat} {bs : List ByteArray} {s : Int} {W W' : World} (h : SvW w0 A c bs s W) (hb : Below W.heap.size W W') : SvW w0 A c bs s W' := ⟨Kt.row_on hb h.r1, Kt.row_on hb h.r2, h.sl.on hb, Kt.bthen h.bel hb⟩
/-- what is told -/
def SvIs (w0 : World) (r : List ByteArray × Int × ByteArray × ByteArray × Int) (e : Ending) (w' : World) : Prop :=
  ∃ A c, e = .returned (.tuple #[dkV A c r.1 r.2.1, .string r.2.2.1, .string r.2.2.2.1, .int .i64 r.2.2.2.2]) ∧ DkS w' w0.heap.size A c r.1 ∧ Below w0.heap.size w0 w'
theorem SvW.ret {w0 : World} {A : Option Addr} {c : Nat} {bs : List ByteArray} {s : Int} {W : World} (h : SvW w0 A c bs s W) (o st : ByteArray) (code : Int) :
    SvIs w0 (bs, s, o, st, code) (.returned (.tuple #[.agg #[.slice A bs.length c, .int .i64 s], .string o, .string st, .int .i64 code])) (W.setCells (w0.heap.size + 1) 0 [.slice A bs.length c, .int .i64 s]) :=
  ⟨A, c, rfl, Kt.Sl.mono (h.sl.low (Nat.lt_succ_self _) _) (by omega), Kt.below_setCells _ _ _ _ _ (Nat.le_succ _) h.bel⟩
theorem sz2 (w : World) (a b : Obj) : ((w.alloc a).alloc b).heap.size = w.heap.size + 2 := by rw [World.size_alloc, World.size_alloc]
theorem sv_rows {w0 w1 : World} {c d : Array Value} {t u : TypeId} (hb : Below (w0.heap.size + 2) ((w0.alloc (.cells c t)).alloc (.cells d u)) w1) : w1.heap[w0.heap.size]? = some (.cells c t (0, 0)) ∧ w1.heap[w0.heap.size + 1]? = some (.cells d u (0, 0)) :=
  ⟨(hb.block _ (by omega)).trans (heap_alloc2_old w0 _ _), (hb.block _ (by omega)).trans (heap_alloc2_new w0 _ _)⟩
theorem SvW.first {w0 w1 : World} {A A1 : Option Addr} {cap c1 : Nat} {bs : List ByteArray} {s : Int} (h1 : w1.heap[w0.heap.size]? = some (.cells #[.slice A bs.length cap, .int .i64 s] 24 (0, 0)))
    (h2 : w1.heap[w0.heap.size + 1]? = some (.cells #[.slice none 0 0, .int .i64 0] 24 (0, 0))) (hs : Kt.Sl w1 (w0.heap.size + 2) 9 1 (.slice A1 bs.length c1) bs.length (sts bs)) (hb : Below w0.heap.size w0 w1) :
    SvW w0 A1 c1 bs s (w1.setCell ⟨w0.heap.size, 0, none⟩ (.slice A1 bs.length c1)) :=
  ⟨heap_setCell_same _ _ _ _ _ _ h1, (heap_setCell_other _ _ _ _ (by show w0.heap.size + 1 ≠ w0.heap.size; omega)).trans h2, Kt.Sl.low hs (by show w0.heap.size < w0.heap.size + 2; omega) _, Kt.bset hb (Nat.le_refl _) _⟩
/-- .. and the wrap's box, and the host's move's -/
structure SvH (w0 : World) (A : Option Addr) (c : Nat) (bs : List ByteArray) (s : Int) (G : Nat) (x : Wr) (hd : Int) (W : World) : Prop where
  sv : SvW w0 A c bs s W
  rw : W.heap[G]? = some (.cells #[.int .i64 x.tag, .int .i64 x.len, .bool x.inn, .int .i64 x.unit, .string x.cmd] 75 (0, 0))
  rh : W.heap[G + 1]? = some (.cells #[.int .i64 hd, .int .i64 x.len] 128 (0, 0))
  lt : w0.heap.size + 1 < G
  ne : ∀ k, (Value.slice A bs.length c).ownBlock = some k → k < G
theorem SvH.start {w0 : World} {A : Option Addr} {c : Nat} {bs : List ByteArray} {s : Int} {W : World} (h : SvW w0 A c bs s W) (x : Wr) (hd : Int) :
    SvH w0 A c bs s W.heap.size x hd ((W.alloc (.cells #[.int .i64 x.tag, .int .i64 x.len, .bool x.inn, .int .i64 x.unit, .string x.cmd] 75)).alloc (.cells #[.int .i64 hd, .int .i64 x.len] 128)) :=
  ⟨h.on (Kt.balloc (Kt.balloc (Below.refl _ _) _) _), heap_alloc2_old W _ _, heap_alloc2_new W _ _, (Array.getElem?_eq_some_iff.1 h.r2).1, fun k hk => (h.sl.lt k hk).2⟩
theorem SvH.dir {w0 : World} {A : Option Addr} {c : Nat} {bs : List ByteArray} {s : Int} {G : Nat} {x : Wr} {hd : Int} {W : World} (h : SvH w0 A c bs s G x hd W) (hd' : Int) : SvH w0 A c bs s G x hd' (W.setCell ⟨G + 1, 0, none⟩ (.int .i64 hd')) := by
  have hl := h.lt
  have o : ∀ k, k ≠ G + 1 → (W.setCell ⟨G + 1, 0, none⟩ (.int .i64 hd')).heap[k]? = W.heap[k]? := fun k hk => heap_setCell_other _ _ _ _ hk
  exact ⟨⟨(o _ (by omega)).trans h.sv.r1, (o _ (by omega)).trans h.sv.r2, Kt.Sl.set h.sv.sl (fun k hk => by have := h.ne k hk; show k ≠ G + 1; omega) _, Kt.bset h.sv.bel (by show w0.heap.size ≤ G + 1; omega) _⟩, (o _ (by omega)).trans h.rw, heap_setCell_same _ _ _ _ _ _ h.rh, h.lt, h.ne⟩
theorem SvH.on {w0 : World} {A : Option Addr} {c : Nat} {bs : List ByteArray} {s : Int} {G : Nat} {x : Wr} {hd : Int} {W W' : World} (h : SvH w0 A c bs s G x hd W) (hb : Below W.heap.size W W') : SvH w0 A c bs s G x hd W' :=
  ⟨h.sv.on hb, Kt.row_on hb h.rw, Kt.row_on hb h.rh, h.lt, h.ne⟩
theorem SvH.put {w0 : World} {A : Option Addr} {c : Nat} {bs : List ByteArray} {s : Int} {G : Nat} {x : Wr} {hd : Int} {W : World} (h : SvH w0 A c bs s G x hd W) (g : Nat) (hg : G + 1 < g) (news : List Value) : SvH w0 A c bs s G x hd (W.setCells g 0 news) := by
  have hl := h.lt
  have o : ∀ k, k ≠ g → (W.setCells g 0 news).heap[k]? = W.heap[k]? := fun k hk => Kt.setCells_other news g 0 W k hk
  exact ⟨⟨(o _ (by omega)).trans h.sv.r1, (o _ (by omega)).trans h.sv.r2, Kt.Sl.sets h.sv.sl news g 0 (fun k hk => by have := h.ne k hk; omega), Kt.below_setCells news g 0 _ _ (by omega) h.sv.bel⟩, (o _ (by omega)).trans h.rw, (o _ (by omega)).trans h.rh, h.lt, h.ne⟩
theorem host_tr (x : Wr) (h : OkW x) : trB (hostD x) x.len = true := by
  have h1 := h.l1; have h2 := h.l2
  unfold trB hostD
  rw [decide_eq_true_iff]
  by_cases e : x.len = 0
  · rw [if_pos e]; omega
  · rw [if_neg e]; cases x.inn
    · exact .inr ⟨.inr rfl, by omega, by omega⟩
    · exact .inr ⟨.inl rfl, by omega, by omega⟩
theorem means_in (bs : List ByteArray) (s : Int) (c : ByteArray) : (means bs s c).1 = 1 → (means bs s c).2 = ((did bs s c ByteArray.empty).2.2.1.size : Int) ∧ (did bs s c ByteArray.empty).2.2.2 = 0 := by
  unfold means
  split
  · intro h; exact absurd (show (2 : Int) = 1 from h) (by decide)
  · split
    · next h => exact fun _ => ⟨rfl, h.1⟩
    · intro h; exact absurd (show (0 : Int) = 1 from h) (by decide)
theorem hostD_vals (x : Wr) : hostD x = 0 ∨ hostD x = 1 ∨ hostD x = 2 := by
  unfold hostD
  split
  · exact .inl rfl
  · split
    · exact .inr (.inl rfl)
    · exact .inr (.inr rfl)
/-- .. and the verdict's box -/
structure SvE (w0 : World) (A : Option Addr) (c : Nat) (bs : List ByteArray) (s : Int) (G : Nat) (x : Wr) (hd : Int) (kB : Nat) (cc m r q : Int) (W : World) : Prop where
  r1 : W.heap[w0.heap.size]? = some (.cells #[.slice A bs.length c, .int .i64 s] 24 (0, 0))
  r2 : W.heap[w0.heap.size + 1]? = some (.cells #[.slice none 0 0, .int .i64 0] 24 (0, 0))
  rw : W.heap[G]? = some (.cells #[.int .i64 x.tag, .int .i64 x.len, .bool x.inn, .int .i64 x.unit, .string x.cmd] 75 (0, 0))
  rh : W.heap[G + 1]? = some (.cells #[.int .i64 hd, .int .i64 x.len] 128 (0, 0))
  rv : W.heap[kB]? = some (.cells #[.int .i64 cc, .int .i64 m, .int .i64 r, .int .i64 q] 130 (0, 0))
  sl : DkS W (w0.heap.size + 2) A c bs
  ne : ∀ k, (Value.slice A bs.length c).ownBlock = some k → k ≠ kB
  bel : Below w0.heap.size w0 W
  lt : w0.heap.size + 1 < G
  lt2 : G + 1 < kB
theorem SvE.of {w0 : World} {A : Option Addr} {c : Nat} {bs : List ByteArray} {s : Int} {G : Nat} {x : Wr} {hd : Int} {W : World} {kB : Nat} {cc m r q : Int} (h : SvH w0 A c bs s G x hd W) (hv : W.heap[kB]? = some (.cells #[.int .i64 cc, .int .i64 m, .int .i64 r, .int .i64 q] 130 (0, 0))) (hk : G + 1 < kB) : SvE w0 A c bs s G x hd kB cc m r q W :=
  ⟨h.sv.r1, h.sv.r2, h.rw, h.rh, hv, h.sv.sl, fun k e => by have := h.ne k e; omega, h.sv.bel, h.lt, hk⟩
theorem SvE.on {w0 : World} {A : Option Addr} {c : Nat} {bs : List ByteArray} {s : Int} {G : Nat} {x : Wr} {hd : Int} {W W' : World} {kB : Nat} {cc m r q : Int} (h : SvE w0 A c bs s G x hd kB cc m r q W) (hb : Below W.heap.size W W') : SvE w0 A c bs s G x hd kB cc m r q W' :=
  ⟨Kt.row_on hb h.r1, Kt.row_on hb h.r2, Kt.row_on hb h.rw, Kt.row_on hb h.rh, Kt.row_on hb h.rv, h.sl.on hb, h.ne, Kt.bthen h.bel hb, h.lt, h.lt2⟩
theorem SvE.next {w0 : World} {A A9 : Option Addr} {c c9 : Nat} {bs P : List ByteArray} {s t : Int} {G : Nat} {x : Wr} {hd : Int} {W : World} {kB B : Nat} {cc m r q : Int} (h : SvE w0 A c bs s G x hd kB cc m r q W) (hs : DkS W B A9 c9 P) (hB : kB < B) :
    SvE w0 A9 c9 P t G x hd kB cc m r q (W.setCells w0.heap.size 0 [.slice A9 P.length c9, .int .i64 t]) := by
  have hl := h.lt; have hl2 := h.lt2
  have o : ∀ k, k ≠ w0.heap.size → (W.setCells w0.heap.size 0 [.slice A9 P.length c9, .int .i64 t]).heap[k]? = W.heap[k]? := fun k hk => Kt.setCells_other _ _ 0 W k hk
  exact ⟨Kt.fill [.slice A9 P.length c9, .int .i64 t] h.r1 rfl, (o _ (by omega)).trans h.r2, (o _ (by omega)).trans h.rw, (o _ (by omega)).trans h.rh, (o _ (by omega)).trans h.rv,
    DkS.low (show DkS W (w0.heap.size + 2) A9 c9 P from Kt.Sl.mono hs (by omega)) (by omega) _, fun k e => by have := (hs.lt k e).1; omega, Kt.below_setCells _ _ 0 _ _ (Nat.le_refl _) h.bel, h.lt, h.lt2⟩
theorem SvE.code {w0 : World} {A : Option Addr} {c : Nat} {bs : List ByteArray} {s : Int} {G : Nat} {x : Wr} {hd : Int} {W : World} {kB : Nat} {cc m r q : Int} (h : SvE w0 A c bs s G x hd kB cc m r q W) (q' : Int) :
    SvE w0 A c bs s G x hd kB cc m r q' (W.setCell ⟨kB, 3, none⟩ (.int .i64 q')) := by
  have hl := h.lt; have hl2 := h.lt2
  have o : ∀ k, k ≠ kB → (W.setCell ⟨kB, 3, none⟩ (.int .i64 q')).heap[k]? = W.heap[k]? := fun k hk => heap_setCell_other _ _ _ _ hk
  exact ⟨(o _ (by omega)).trans h.r1, (o _ (by omega)).trans h.r2, (o _ (by omega)).trans h.rw, (o _ (by omega)).trans h.rh, heap_setCell_same _ _ _ _ _ _ h.rv,
    Kt.Sl.set h.sl (fun k e => h.ne k e) _, h.ne, Kt.bset h.bel (by show w0.heap.size ≤ kB; omega) _, h.lt, h.lt2⟩
theorem SvE.ret {w0 : World} {A : Option Addr} {c : Nat} {bs : List ByteArray} {s : Int} {G : Nat} {x : Wr} {hd : Int} {W : World} {kB : Nat} {cc m r q : Int} (h : SvE w0 A c bs s G x hd kB cc m r q W) (o st : ByteArray) (code : Int) :
    SvIs w0 (bs, s, o, st, code) (.returned (.tuple #[.agg #[.slice A bs.length c, .int .i64 s], .string o, .string st, .int .i64 code])) (W.setCells (w0.heap.size + 1) 0 [.slice A bs.length c, .int .i64 s]) :=
  ⟨A, c, rfl, Kt.Sl.mono (h.sl.low (Nat.lt_succ_self _) _) (by omega), Kt.below_setCells _ _ _ _ _ (Nat.le_succ _) h.bel⟩
theorem ag_le {hd ln dd dl : Int} (h : agB hd ln dd dl) (ht : trB dd dl = true) (hl : 0 ≤ ln) : 0 ≤ dl ∧ dl ≤ ln := by
  unfold agB at h; unfold trB at ht
  rw [decide_eq_true_iff] at ht
  omega
theorem lt_sub {ln dl : Int} (h : ln < 4294967296) (h2 : 0 ≤ dl) : ln - dl < 4294967296 := by omega
theorem ag_in {ln dd dl : Int} {bs : List ByteArray} {s : Int} {c : ByteArray} {P : List ByteArray} {t g : Int} {o : ByteArray} (h : agB 1 ln dd dl) (ht : trB dd dl = true)
    (hm : dd = 1 → dl = ((did bs s c ByteArray.empty).2.2.1.size : Int) ∧ (did bs s c ByteArray.empty).2.2.2 = 0) (hd : did bs s c ByteArray.empty = (P, t, o, g)) : 0 ≤ dl ∧ dl ≤ (o.size : Int) := by
  rw [hd] at hm
  unfold agB at h; unfold trB at ht
  rw [decide_eq_true_iff] at ht
  rcases h with h | ⟨h, _⟩
  · omega
  · have := (hm h).1
    have e : dl = (o.size : Int) := this
    omega
theorem SvIs.alloc {w0 : World} {r : List ByteArray × Int × ByteArray × ByteArray × Int} {e : Ending} {W : World} (h : SvIs w0 r e W) (o : Obj) : SvIs w0 r e (W.alloc o) := by
  obtain ⟨A, c, e1, h1, h2⟩ := h
  exact ⟨A, c, e1, h1.on (Kt.balloc (Below.refl _ _) _), Kt.balloc h2 _⟩
-- BEGIN SERVE
set_option maxRecDepth 100000 in
set_option maxHeartbeats 20000000 in
theorem serve_true (bs : List ByteArray) (s : Int) (tg ln un : Int) (cmd data : ByteArray) (A : Option Addr) (cap : Nat) (w0 : World) (h : DkA w0 A cap bs) (hn : bs.length ≤ 8796093022208) (hx : OkW ⟨tg, ln, true, un, cmd⟩) :
    Calls Try.prog 67 #[dkV A cap bs s, .string (wrapT ⟨tg, ln, true, un, cmd⟩), .string data] w0 (SvIs w0 (served bs s ⟨tg, ln, true, un, cmd⟩ data)) := by
  have HA := Lib.hid h
  have HN := Lib.hid hn
  have HX := Lib.hid hx
  clear h hn hx
  unfold dkV
  go_enter Try.func67, Try.ntmps67
  have HW0 : Hid (Below w0.heap.size w0 ((w0.alloc (.cells #[.slice A bs.length cap, .int .i64 s] 24)).alloc (.cells #[.slice none 0 0, .int .i64 0] 24))) := Lib.hid (Kt.balloc (Kt.balloc (Below.refl _ w0) _) _)
  go_wp2_with (
    refine Kt.append_ar (by rfl) (.const (.slice none 0 0)) (.tmp 24) 22 rfl (w0.heap.size + 2) 9 (.string ByteArray.empty) 1 16 infoS Try.underlying22 rfl (by decide) (.slice none 0 0) 0 [] rfl (Kt.Sl.nil _ _ _ _) _ _ _ rfl (HA.out.on HW0.out) (sts_one _) (by have := HN.out; unfold maxLen; omega) (by have := HN.out; omega) (Nat.le_of_eq (sz2 _ _ _).symm) ?_
    intro A1 c1 w1 hs1 hb1 hz1 hk1 hl1
    obtain ⟨hr1, hr2⟩ := sv_rows hb1
    have f1 := fun i => frozen_of_row _ _ i _ _ hr1
    have q1 := fun i => cell_of_row _ _ i _ _ _ hr1)
  have HX1 : Hid (SvW w0 A1 c1 bs s (w1.setCell ⟨w0.heap.size, 0, none⟩ (.slice A1 bs.length c1))) := Lib.hid (SvW.first hr1 hr2 (by simpa using hs1) (HW0.out.trans (hb1.mono (by omega))))
  clear hs1 hb1 hz1 hk1 hl1 hr1 hr2 f1 q1 HW0 HA
  refine Kt.foldC (fun W => SvW w0 A1 c1 bs s W) HX1.out ?_
  clear HX1
  intro W1 hW1
  refine (dcheck_calls bs s A1 c1 _ hW1.sl.toA (by have := HN.out; omega)).mono ?_
  rintro e w2 ⟨rfl, hb⟩
  have HX2 := Lib.hid (hW1.on hb)
  clear hb hW1
  have q1 := fun i => cell_of_row _ _ i _ _ _ HX2.out.r1
  have q2 := fun i => cell_of_row _ _ i _ _ _ HX2.out.r2
  have f2 := fun i => frozen_of_row _ _ i _ _ HX2.out.r2
  by_cases hk : chkD bs s = 0
  · have HK := Lib.hid hk
    rw [hk]
    clear hk f2 q2
    go_wp2_with fail
    refine (readW_calls (wrapT ⟨tg, ln, true, un, cmd⟩) _).mono ?_
    rw [readW_wrapT ⟨tg, ln, true, un, cmd⟩ HX.out]
    rintro e w3 ⟨rfl, hb⟩
    have HX3 := Lib.hid (HX2.out.on hb)
    clear hb q1 HX2
    unfold wrV
    by_cases hu : un = 0
    · subst hu
      have l1 := ltRow HX3.out.r1
      go_upto_block 0 with (fail)
      go_cut [16] from 49 to 57 (fun _ wx => SvH w0 A1 c1 bs s w3.heap.size ⟨tg, ln, true, 0, cmd⟩ (hostD ⟨tg, ln, true, 0, cmd⟩) wx)
      case first =>
        have HH := Lib.hid (fun hd => SvH.start HX3.out ⟨tg, ln, true, 0, cmd⟩ hd)
        by_cases h0 : ln = 0
        · have hd : hostD ⟨tg, ln, true, 0, cmd⟩ = 0 := if_pos h0
          have h0' : (ln == 0) = true := by rw [beq_iff_eq]; exact h0
          have HD := Lib.hid hd
          clear h0 hd
          go_wp2_with fail
          go_meet
          rw [HD.out]
          exact HH.out 0
        · have hd : hostD ⟨tg, ln, true, 0, cmd⟩ = 1 := if_neg h0
          have h0' : (ln == 0) = false := by rw [beq_eq_false_iff_ne]; exact h0
          have HD := Lib.hid hd
          clear h0 hd
          go_wp2_with fail
          go_meet
          rw [HD.out]
          exact HH.out 1
      case rest =>
        have HS0 := Lib.hid hcut
        clear hcut HX3 l1
        have hTR := host_tr ⟨tg, ln, true, 0, cmd⟩ HX.out
        have hTM := means_tr (chkD_ok.1 HK.out) cmd
        have HSV : Hid (served bs s ⟨tg, ln, true, 0, cmd⟩ data = if agB (hostD ⟨tg, ln, true, 0, cmd⟩) ln (means bs s cmd).1 (means bs s cmd).2 then
          (if hostD ⟨tg, ln, true, 0, cmd⟩ = 2 ∧ (data.size : Int) ≠ ln then (bs, s, ByteArray.empty, ByteArray.empty, 3)
           else
            ((did bs s cmd (if hostD ⟨tg, ln, true, 0, cmd⟩ = 2 then data.extract 0 (means bs s cmd).2.toNat else ByteArray.empty)).1, (did bs s cmd (if hostD ⟨tg, ln, true, 0, cmd⟩ = 2 then data.extract 0 (means bs s cmd).2.toNat else ByteArray.empty)).2.1,
             if (did bs s cmd (if hostD ⟨tg, ln, true, 0, cmd⟩ = 2 then data.extract 0 (means bs s cmd).2.toNat else ByteArray.empty)).2.2.2 = 0 ∧ hostD ⟨tg, ln, true, 0, cmd⟩ = 1 then (did bs s cmd (if hostD ⟨tg, ln, true, 0, cmd⟩ = 2 then data.extract 0 (means bs s cmd).2.toNat else ByteArray.empty)).2.2.1.extract 0 (means bs s cmd).2.toNat else ByteArray.empty,
             statT ⟨tg, ln - (means bs s cmd).2, if (did bs s cmd (if hostD ⟨tg, ln, true, 0, cmd⟩ = 2 then data.extract 0 (means bs s cmd).2.toNat else ByteArray.empty)).2.2.2 = 0 then 0 else 1⟩, 0))
          else (bs, s, ByteArray.empty, statT ⟨tg, ln, 2⟩, 0)) := Lib.hid (by
            unfold served
            rw [if_neg (by rw [HK.out]; decide), if_neg (fun e => e rfl)])
        have hMS : Hid ((means bs s cmd).1 = 1 → (means bs s cmd).2 = ((did bs s cmd ByteArray.empty).2.2.1.size : Int) ∧ (did bs s cmd ByteArray.empty).2.2.2 = 0) := Lib.hid (means_in bs s cmd)
        have hHD := hostD_vals ⟨tg, ln, true, 0, cmd⟩
        obtain ⟨hd, hhd⟩ : ∃ z, hostD ⟨tg, ln, true, 0, cmd⟩ = z := ⟨_, rfl⟩
        have HI : Hid (∀ W, DkA W A1 c1 bs → Calls Try.prog 75 #[.agg #[.slice A1 bs.length c1, .int .i64 s], .string cmd] W fun e w' => e = .returned (.agg #[.int .i64 (means bs s cmd).1, .int .i64 (means bs s cmd).2]) ∧ Below W.heap.size W w') := Lib.hid fun W hW => intends_calls bs s cmd A1 c1 W hW HN.out
        obtain ⟨dd, hdd⟩ : ∃ z, (means bs s cmd).1 = z := ⟨_, rfl⟩
        obtain ⟨dl, hdl⟩ : ∃ z, (means bs s cmd).2 = z := ⟨_, rfl⟩
        rw [hhd] at HSV hTR HS0 hHD
        rw [hdd, hdl] at HSV hTM hMS HI
        have HJ := Lib.hid (fun W => judge_any hd ln dd dl hTR hTM W)
        clear hTR hhd hdd hdl
        go_upto_region 13 with (fail)
        go_cut [14, 15] from 58 to 66 (fun v _ wx => ∃ kB cc m q, v = .pointer (some ⟨kB, 0, none⟩) ∧ SvH w0 A1 c1 bs s w3.heap.size ⟨tg, ln, true, 0, cmd⟩ hd wx ∧ wx.heap[kB]? = some (.cells #[.int .i64 cc, .int .i64 m, .int .i64 (ln - m), .int .i64 q] 130 (0, 0)) ∧ w3.heap.size + 1 < kB ∧ ((agB hd ln dd dl ∧ m = dl ∧ q = 0) ∨ (¬ agB hd ln dd dl ∧ m = 0 ∧ q = 2)))
        case first =>
          have HF := (((Kt.Fb.nil wc (Below.refl _ _)).add HS0.out.rh).add HS0.out.rw).add HS0.out.sv.r1
          refine Kt.G.start 10 (Kt.Fb wc [(w0.heap.size, #[.slice A1 bs.length c1, .int .i64 s], 24), (w3.heap.size, #[.int .i64 tg, .int .i64 ln, .bool true, .int .i64 0, .string cmd], 75), (w3.heap.size + 1, #[.int .i64 hd, .int .i64 ln], 128)]) (by kernel_rfl) HF.drew (fun hHeld => ?_)
          clear HF
          generalize wc.drew = x0 at *
          refine Kt.G.take 0 { dst := some 59, op := Op.load 128 (Operand.tmp 13), type := 128, pos := "bulk.go:142", after := #[], guard := none } ?_ hHeld rfl (by kernel_rfl) (fun _ _ _ h => h) (by rfl) ?_ ?_
          rotate_left
          · intro w hSw; have r0 := hSw.row (w0.heap.size, #[.slice A1 bs.length c1, .int .i64 s], 24) (by simp); have c0 := fun i => cell_of_row _ _ i _ _ _ r0; have r1 := hSw.row (w3.heap.size, #[.int .i64 tg, .int .i64 ln, .bool true, .int .i64 0, .string cmd], 75) (by simp); have c1 := fun i => cell_of_row _ _ i _ _ _ r1; have r2 := hSw.row (w3.heap.size + 1, #[.int .i64 hd, .int .i64 ln], 128) (by simp); have c2 := fun i => cell_of_row _ _ i _ _ _ r2; dsimp only at *; go_simp; try with_reducible rfl
          try simp only [Act.put, List.setIfInBounds_toArray, List.set_cons_zero, List.set_cons_succ]
          refine Kt.G.take 1 { dst := some 60, op := Op.load 24 (Operand.tmp 3), type := 24, pos := "bulk.go:142", after := #[], guard := none } ?_ hHeld rfl (by kernel_rfl) (fun _ _ _ h => h) (by rfl) ?_ ?_
          rotate_left
          · intro w hSw; have r0 := hSw.row (w0.heap.size, #[.slice A1 bs.length c1, .int .i64 s], 24) (by simp); have c0 := fun i => cell_of_row _ _ i _ _ _ r0; have r1 := hSw.row (w3.heap.size, #[.int .i64 tg, .int .i64 ln, .bool true, .int .i64 0, .string cmd], 75) (by simp); have c1 := fun i => cell_of_row _ _ i _ _ _ r1; have r2 := hSw.row (w3.heap.size + 1, #[.int .i64 hd, .int .i64 ln], 128) (by simp); have c2 := fun i => cell_of_row _ _ i _ _ _ r2; dsimp only at *; go_simp; try with_reducible rfl
          try simp only [Act.put, List.setIfInBounds_toArray, List.set_cons_zero, List.set_cons_succ]
          refine Kt.G.takeP 2 { dst := some 61, op := Op.fieldAddr 75 (Operand.tmp 11) 4, type := 0, pos := "bulk.go:142", after := #[], guard := none } ?_ (fun _ => hHeld) rfl (by kernel_rfl) (fun _ _ _ h => h) (by rfl) ?_ ?_
          rotate_left
          · intro w; go_simp; try with_reducible rfl
          try simp only [Act.put, List.setIfInBounds_toArray, List.set_cons_zero, List.set_cons_succ]
          refine Kt.G.take 3 { dst := some 62, op := Op.load 9 (Operand.tmp 61), type := 9, pos := "bulk.go:142", after := #[{ on := 2, ground := Ground.data }], guard := none } ?_ hHeld rfl (by kernel_rfl) (fun _ _ _ h => h) (by rfl) ?_ ?_
          rotate_left
          · intro w hSw; have r0 := hSw.row (w0.heap.size, #[.slice A1 bs.length c1, .int .i64 s], 24) (by simp); have c0 := fun i => cell_of_row _ _ i _ _ _ r0; have r1 := hSw.row (w3.heap.size, #[.int .i64 tg, .int .i64 ln, .bool true, .int .i64 0, .string cmd], 75) (by simp); have c1 := fun i => cell_of_row _ _ i _ _ _ r1; have r2 := hSw.row (w3.heap.size + 1, #[.int .i64 hd, .int .i64 ln], 128) (by simp); have c2 := fun i => cell_of_row _ _ i _ _ _ r2; dsimp only at *; go_simp; try with_reducible rfl
          try simp only [Act.put, List.setIfInBounds_toArray, List.set_cons_zero, List.set_cons_succ]
          refine Kt.G.two 4 9 { dst := some 63, op := Op.call { callee := Callee.value (Operand.func 75), args := #[Operand.tmp 60, Operand.tmp 62], argTypes := #[24, 9] }, type := 128, pos := "bulk.go:142", after := #[{ on := 1, ground := Ground.data }, { on := 3, ground := Ground.data }], guard := none } { dst := some 14, op := Op.alloc 130, type := 0, pos := "bulk.go:142", after := #[], guard := none } rfl rfl (by kernel_rfl) (by rfl) (by rfl) (fun K hK => ?_) (fun K hK => ?_)
          · go_simp
            refine (HI.out _ ((HS0.out.on hHeld.bel).sv.sl.toA)).mono ?_; rintro en x4 ⟨rfl, hb4⟩
            refine hK.out _ _ (fun _ => hHeld.on hb4) (fun hHeld => ?_)
            have hHeld := hHeld rfl
            clear hK K
            try simp only [Act.put, List.setIfInBounds_toArray, List.set_cons_zero, List.set_cons_succ]
            try (replace rK := Kt.row_on hb4 rK)
            try (replace hk0 := Nat.le_trans hk0 (Nat.le_refl _))
            clear hb4
            refine Kt.G.two 5 9 { dst := some 64, op := Op.call { callee := Callee.value (Operand.func 74), args := #[Operand.tmp 59, Operand.tmp 63], argTypes := #[128, 128] }, type := 131, pos := "bulk.go:142", after := #[{ on := 0, ground := Ground.data }, { on := 4, ground := Ground.data }, { on := 4, ground := Ground.chain }], guard := none } { dst := some 14, op := Op.alloc 130, type := 0, pos := "bulk.go:142", after := #[], guard := none } rfl rfl (by kernel_rfl) (by rfl) (by rfl) (fun K hK => ?_) (fun K hK => ?_)
            · go_simp
              refine (HJ.out _).mono ?_; rintro en x5 ⟨⟨cc, m, q, rfl, hspec⟩, hb5⟩
              unfold judgeV
              refine hK.out _ _ (fun _ => hHeld.on hb5) (fun hHeld => ?_)
              have hHeld := hHeld rfl
              clear hK K
              try simp only [Act.put, List.setIfInBounds_toArray, List.set_cons_zero, List.set_cons_succ]
              try (replace rK := Kt.row_on hb5 rK)
              try (replace hk0 := Nat.le_trans hk0 (Nat.le_refl _))
              clear hb5
              refine Kt.G.takeP 6 { dst := some 58, op := Op.move (Operand.tmp 64), type := 131, pos := "bulk.go:142", after := #[{ on := 5, ground := Ground.data }], guard := none } ?_ (fun _ => hHeld) rfl (by kernel_rfl) (fun _ _ _ h => h) (by rfl) ?_ ?_
              rotate_left
              · intro w; go_simp; try with_reducible rfl
              try simp only [Act.put, List.setIfInBounds_toArray, List.set_cons_zero, List.set_cons_succ]
              refine Kt.G.takeP 7 { dst := some 65, op := Op.extract (Operand.tmp 58) 0, type := 130, pos := "bulk.go:142", after := #[{ on := 6, ground := Ground.data }], guard := none } ?_ (fun _ => hHeld) rfl (by kernel_rfl) (fun _ _ _ h => h) (by rfl) ?_ ?_
              rotate_left
              · intro w; go_simp; try with_reducible rfl
              try simp only [Act.put, List.setIfInBounds_toArray, List.set_cons_zero, List.set_cons_succ]
              refine Kt.G.takeP 8 { dst := some 66, op := Op.extract (Operand.tmp 58) 1, type := 28, pos := "bulk.go:142", after := #[{ on := 6, ground := Ground.data }, { on := 10, ground := Ground.gcOnly Departure.lateStores }], guard := none } ?_ (fun _ => hHeld) rfl (by kernel_rfl) (fun _ _ _ h => h) (by rfl) ?_ ?_
              rotate_left
              · intro w; go_simp; try with_reducible rfl
              try simp only [Act.put, List.setIfInBounds_toArray, List.set_cons_zero, List.set_cons_succ]
              refine Kt.G.one 9 { dst := some 14, op := Op.alloc 130, type := 0, pos := "bulk.go:142", after := #[], guard := none } rfl (by kernel_rfl) (by rfl) (fun K hK => ?_)
              have hk0 : wc.heap.size ≤ x5.heap.size := hHeld.bel.size
              go_simp
              refine hK.out _ _ (fun _ => hHeld.alloc _) (fun hHeld => ?_)
              have hHeld := hHeld rfl
              clear hK K
              try simp only [Act.put, List.setIfInBounds_toArray, List.set_cons_zero, List.set_cons_succ]
              have rK := heap_alloc_new x5 (.cells #[.int .i64 0, .int .i64 0, .int .i64 0, .int .i64 0] 130)
              generalize hkB : x5.heap.size = kB at *
              clear hkB
              generalize x5.alloc (.cells #[.int .i64 0, .int .i64 0, .int .i64 0, .int .i64 0] 130) = xk at *
              refine Kt.G.one 10 { dst := none, op := Op.store 130 (Operand.tmp 14) (Operand.tmp 65), type := 0, pos := "bulk.go:142", after := #[{ on := 9, ground := Ground.data }, { on := 7, ground := Ground.data }, { on := 5, ground := Ground.chain }, { on := 0, ground := Ground.phase }, { on := 1, ground := Ground.phase }, { on := 2, ground := Ground.phase }, { on := 3, ground := Ground.phase }, { on := 4, ground := Ground.phase }, { on := 5, ground := Ground.phase }, { on := 6, ground := Ground.phase }, { on := 7, ground := Ground.phase }, { on := 8, ground := Ground.textOnly Departure.lateStores }, { on := 9, ground := Ground.phase }], guard := none } rfl (by kernel_rfl) (by rfl) (fun K hK => ?_)
              have cK := fun i => cell_of_row _ _ i _ _ _ rK; have fK := fun i => frozen_of_row _ _ i _ _ rK
              go_simp
              refine hK.out _ _ (Kt.G.late (by kernel_rfl)) (fun _ => ?_)
              clear hK K
              try simp only [Act.put, List.setIfInBounds_toArray, List.set_cons_zero, List.set_cons_succ]
              refine Kt.G.takeP 11 { dst := some 15, op := Op.assign (Operand.tmp 66), type := 28, pos := "bulk.go:142", after := #[{ on := 8, ground := Ground.data }, { on := 10, ground := Ground.chain }, { on := 0, ground := Ground.phase }, { on := 1, ground := Ground.phase }, { on := 2, ground := Ground.phase }, { on := 3, ground := Ground.phase }, { on := 4, ground := Ground.phase }, { on := 5, ground := Ground.phase }, { on := 6, ground := Ground.phase }, { on := 7, ground := Ground.phase }, { on := 8, ground := Ground.phase }, { on := 9, ground := Ground.phase }, { on := 10, ground := Ground.phase }], guard := none } ?_ (Kt.G.late (by kernel_rfl)) rfl (by kernel_rfl) (fun _ _ _ h => h) (by rfl) ?_ ?_
              rotate_left
              · intro w; go_simp; try with_reducible rfl
              try simp only [Act.put, List.setIfInBounds_toArray, List.set_cons_zero, List.set_cons_succ]
              refine Kt.G.done (by kernel_rfl) (NoPanic.normal ?_) _
              go_wp2_with fail
              go_meet
              case rel =>
                exact ⟨kB, cc, m, q, rfl, (HS0.out.on hHeld.bel).put kB (Nat.lt_of_lt_of_le (ltRow HS0.out.rh) hk0) [.int .i64 cc, .int .i64 m, .int .i64 (ln - m), .int .i64 q], Kt.fill [.int .i64 cc, .int .i64 m, .int .i64 (ln - m), .int .i64 q] rK rfl, Nat.lt_of_lt_of_le (ltRow HS0.out.rh) hk0, hspec⟩
            · have hk0 : wc.heap.size ≤ x4.heap.size := hHeld.bel.size
              go_simp
              refine hK.out _ _ (fun _ => hHeld.alloc _) (fun hHeld => ?_)
              have hHeld := hHeld rfl
              clear hK K
              try simp only [Act.put, List.setIfInBounds_toArray, List.set_cons_zero, List.set_cons_succ]
              have rK := heap_alloc_new x4 (.cells #[.int .i64 0, .int .i64 0, .int .i64 0, .int .i64 0] 130)
              generalize hkB : x4.heap.size = kB at *
              clear hkB
              generalize x4.alloc (.cells #[.int .i64 0, .int .i64 0, .int .i64 0, .int .i64 0] 130) = xk at *
              refine Kt.G.one 5 { dst := some 64, op := Op.call { callee := Callee.value (Operand.func 74), args := #[Operand.tmp 59, Operand.tmp 63], argTypes := #[128, 128] }, type := 131, pos := "bulk.go:142", after := #[{ on := 0, ground := Ground.data }, { on := 4, ground := Ground.data }, { on := 4, ground := Ground.chain }], guard := none } rfl (by kernel_rfl) (by rfl) (fun K hK => ?_)
              go_simp
              refine (HJ.out _).mono ?_; rintro en x5 ⟨⟨cc, m, q, rfl, hspec⟩, hb5⟩
              unfold judgeV
              refine hK.out _ _ (fun _ => hHeld.on hb5) (fun hHeld => ?_)
              have hHeld := hHeld rfl
              clear hK K
              try simp only [Act.put, List.setIfInBounds_toArray, List.set_cons_zero, List.set_cons_succ]
              try (replace rK := Kt.row_on hb5 rK)
              try (replace hk0 := Nat.le_trans hk0 (Nat.le_refl _))
              clear hb5
              refine Kt.G.takeP 6 { dst := some 58, op := Op.move (Operand.tmp 64), type := 131, pos := "bulk.go:142", after := #[{ on := 5, ground := Ground.data }], guard := none } ?_ (fun _ => hHeld) rfl (by kernel_rfl) (fun _ _ _ h => h) (by rfl) ?_ ?_
              rotate_left
              · intro w; go_simp; try with_reducible rfl
              try simp only [Act.put, List.setIfInBounds_toArray, List.set_cons_zero, List.set_cons_succ]
              refine Kt.G.takeP 7 { dst := some 65, op := Op.extract (Operand.tmp 58) 0, type := 130, pos := "bulk.go:142", after := #[{ on := 6, ground := Ground.data }], guard := none } ?_ (fun _ => hHeld) rfl (by kernel_rfl) (fun _ _ _ h => h) (by rfl) ?_ ?_
              rotate_left
              · intro w; go_simp; try with_reducible rfl
              try simp only [Act.put, List.setIfInBounds_toArray, List.set_cons_zero, List.set_cons_succ]
              refine Kt.G.takeP 8 { dst := some 66, op := Op.extract (Operand.tmp 58) 1, type := 28, pos := "bulk.go:142", after := #[{ on := 6, ground := Ground.data }, { on := 10, ground := Ground.gcOnly Departure.lateStores }], guard := none } ?_ (fun _ => hHeld) rfl (by kernel_rfl) (fun _ _ _ h => h) (by rfl) ?_ ?_
              rotate_left
              · intro w; go_simp; try with_reducible rfl
              try simp only [Act.put, List.setIfInBounds_toArray, List.set_cons_zero, List.set_cons_succ]
              refine Kt.G.one 10 { dst := none, op := Op.store 130 (Operand.tmp 14) (Operand.tmp 65), type := 0, pos := "bulk.go:142", after := #[{ on := 9, ground := Ground.data }, { on := 7, ground := Ground.data }, { on := 5, ground := Ground.chain }, { on := 0, ground := Ground.phase }, { on := 1, ground := Ground.phase }, { on := 2, ground := Ground.phase }, { on := 3, ground := Ground.phase }, { on := 4, ground := Ground.phase }, { on := 5, ground := Ground.phase }, { on := 6, ground := Ground.phase }, { on := 7, ground := Ground.phase }, { on := 8, ground := Ground.textOnly Departure.lateStores }, { on := 9, ground := Ground.phase }], guard := none } rfl (by kernel_rfl) (by rfl) (fun K hK => ?_)
              have cK := fun i => cell_of_row _ _ i _ _ _ rK; have fK := fun i => frozen_of_row _ _ i _ _ rK
              go_simp
              refine hK.out _ _ (Kt.G.late (by kernel_rfl)) (fun _ => ?_)
              clear hK K
              try simp only [Act.put, List.setIfInBounds_toArray, List.set_cons_zero, List.set_cons_succ]
              refine Kt.G.takeP 11 { dst := some 15, op := Op.assign (Operand.tmp 66), type := 28, pos := "bulk.go:142", after := #[{ on := 8, ground := Ground.data }, { on := 10, ground := Ground.chain }, { on := 0, ground := Ground.phase }, { on := 1, ground := Ground.phase }, { on := 2, ground := Ground.phase }, { on := 3, ground := Ground.phase }, { on := 4, ground := Ground.phase }, { on := 5, ground := Ground.phase }, { on := 6, ground := Ground.phase }, { on := 7, ground := Ground.phase }, { on := 8, ground := Ground.phase }, { on := 9, ground := Ground.phase }, { on := 10, ground := Ground.phase }], guard := none } ?_ (Kt.G.late (by kernel_rfl)) rfl (by kernel_rfl) (fun _ _ _ h => h) (by rfl) ?_ ?_
              rotate_left
              · intro w; go_simp; try with_reducible rfl
              try simp only [Act.put, List.setIfInBounds_toArray, List.set_cons_zero, List.set_cons_succ]
              refine Kt.G.done (by kernel_rfl) (NoPanic.normal ?_) _
              go_wp2_with fail
              go_meet
              case rel =>
                exact ⟨kB, cc, m, q, rfl, (HS0.out.on hHeld.bel).put kB (Nat.lt_of_lt_of_le (ltRow HS0.out.rh) hk0) [.int .i64 cc, .int .i64 m, .int .i64 (ln - m), .int .i64 q], Kt.fill [.int .i64 cc, .int .i64 m, .int .i64 (ln - m), .int .i64 q] rK rfl, Nat.lt_of_lt_of_le (ltRow HS0.out.rh) hk0, hspec⟩
          · have hk0 : wc.heap.size ≤ x0.heap.size := hHeld.bel.size
            go_simp
            refine hK.out _ _ (fun _ => hHeld.alloc _) (fun hHeld => ?_)
            have hHeld := hHeld rfl
            clear hK K
            try simp only [Act.put, List.setIfInBounds_toArray, List.set_cons_zero, List.set_cons_succ]
            have rK := heap_alloc_new x0 (.cells #[.int .i64 0, .int .i64 0, .int .i64 0, .int .i64 0] 130)
            generalize hkB : x0.heap.size = kB at *
            clear hkB
            generalize x0.alloc (.cells #[.int .i64 0, .int .i64 0, .int .i64 0, .int .i64 0] 130) = xk at *
            refine Kt.G.one 4 { dst := some 63, op := Op.call { callee := Callee.value (Operand.func 75), args := #[Operand.tmp 60, Operand.tmp 62], argTypes := #[24, 9] }, type := 128, pos := "bulk.go:142", after := #[{ on := 1, ground := Ground.data }, { on := 3, ground := Ground.data }], guard := none } rfl (by kernel_rfl) (by rfl) (fun K hK => ?_)
            go_simp
            refine (HI.out _ ((HS0.out.on hHeld.bel).sv.sl.toA)).mono ?_; rintro en x4 ⟨rfl, hb4⟩
            refine hK.out _ _ (fun _ => hHeld.on hb4) (fun hHeld => ?_)
            have hHeld := hHeld rfl
            clear hK K
            try simp only [Act.put, List.setIfInBounds_toArray, List.set_cons_zero, List.set_cons_succ]
            try (replace rK := Kt.row_on hb4 rK)
            try (replace hk0 := Nat.le_trans hk0 (Nat.le_refl _))
            clear hb4
            refine Kt.G.one 5 { dst := some 64, op := Op.call { callee := Callee.value (Operand.func 74), args := #[Operand.tmp 59, Operand.tmp 63], argTypes := #[128, 128] }, type := 131, pos := "bulk.go:142", after := #[{ on := 0, ground := Ground.data }, { on := 4, ground := Ground.data }, { on := 4, ground := Ground.chain }], guard := none } rfl (by kernel_rfl) (by rfl) (fun K hK => ?_)
            go_simp
            refine (HJ.out _).mono ?_; rintro en x5 ⟨⟨cc, m, q, rfl, hspec⟩, hb5⟩
            unfold judgeV
            refine hK.out _ _ (fun _ => hHeld.on hb5) (fun hHeld => ?_)
            have hHeld := hHeld rfl
            clear hK K
            try simp only [Act.put, List.setIfInBounds_toArray, List.set_cons_zero, List.set_cons_succ]
            try (replace rK := Kt.row_on hb5 rK)
            try (replace hk0 := Nat.le_trans hk0 (Nat.le_refl _))
            clear hb5
            refine Kt.G.takeP 6 { dst := some 58, op := Op.move (Operand.tmp 64), type := 131, pos := "bulk.go:142", after := #[{ on := 5, ground := Ground.data }], guard := none } ?_ (fun _ => hHeld) rfl (by kernel_rfl) (fun _ _ _ h => h) (by rfl) ?_ ?_
            rotate_left
            · intro w; go_simp; try with_reducible rfl
            try simp only [Act.put, List.setIfInBounds_toArray, List.set_cons_zero, List.set_cons_succ]
            refine Kt.G.takeP 7 { dst := some 65, op := Op.extract (Operand.tmp 58) 0, type := 130, pos := "bulk.go:142", after := #[{ on := 6, ground := Ground.data }], guard := none } ?_ (fun _ => hHeld) rfl (by kernel_rfl) (fun _ _ _ h => h) (by rfl) ?_ ?_
            rotate_left
            · intro w; go_simp; try with_reducible rfl
            try simp only [Act.put, List.setIfInBounds_toArray, List.set_cons_zero, List.set_cons_succ]
            refine Kt.G.takeP 8 { dst := some 66, op := Op.extract (Operand.tmp 58) 1, type := 28, pos := "bulk.go:142", after := #[{ on := 6, ground := Ground.data }, { on := 10, ground := Ground.gcOnly Departure.lateStores }], guard := none } ?_ (fun _ => hHeld) rfl (by kernel_rfl) (fun _ _ _ h => h) (by rfl) ?_ ?_
            rotate_left
            · intro w; go_simp; try with_reducible rfl
            try simp only [Act.put, List.setIfInBounds_toArray, List.set_cons_zero, List.set_cons_succ]
            refine Kt.G.one 10 { dst := none, op := Op.store 130 (Operand.tmp 14) (Operand.tmp 65), type := 0, pos := "bulk.go:142", after := #[{ on := 9, ground := Ground.data }, { on := 7, ground := Ground.data }, { on := 5, ground := Ground.chain }, { on := 0, ground := Ground.phase }, { on := 1, ground := Ground.phase }, { on := 2, ground := Ground.phase }, { on := 3, ground := Ground.phase }, { on := 4, ground := Ground.phase }, { on := 5, ground := Ground.phase }, { on := 6, ground := Ground.phase }, { on := 7, ground := Ground.phase }, { on := 8, ground := Ground.textOnly Departure.lateStores }, { on := 9, ground := Ground.phase }], guard := none } rfl (by kernel_rfl) (by rfl) (fun K hK => ?_)
            have cK := fun i => cell_of_row _ _ i _ _ _ rK; have fK := fun i => frozen_of_row _ _ i _ _ rK
            go_simp
            refine hK.out _ _ (Kt.G.late (by kernel_rfl)) (fun _ => ?_)
            clear hK K
            try simp only [Act.put, List.setIfInBounds_toArray, List.set_cons_zero, List.set_cons_succ]
            refine Kt.G.takeP 11 { dst := some 15, op := Op.assign (Operand.tmp 66), type := 28, pos := "bulk.go:142", after := #[{ on := 8, ground := Ground.data }, { on := 10, ground := Ground.chain }, { on := 0, ground := Ground.phase }, { on := 1, ground := Ground.phase }, { on := 2, ground := Ground.phase }, { on := 3, ground := Ground.phase }, { on := 4, ground := Ground.phase }, { on := 5, ground := Ground.phase }, { on := 6, ground := Ground.phase }, { on := 7, ground := Ground.phase }, { on := 8, ground := Ground.phase }, { on := 9, ground := Ground.phase }, { on := 10, ground := Ground.phase }], guard := none } ?_ (Kt.G.late (by kernel_rfl)) rfl (by kernel_rfl) (fun _ _ _ h => h) (by rfl) ?_ ?_
            rotate_left
            · intro w; go_simp; try with_reducible rfl
            try simp only [Act.put, List.setIfInBounds_toArray, List.set_cons_zero, List.set_cons_succ]
            refine Kt.G.done (by kernel_rfl) (NoPanic.normal ?_) _
            go_wp2_with fail
            go_meet
            case rel =>
              exact ⟨kB, cc, m, q, rfl, (HS0.out.on hHeld.bel).put kB (Nat.lt_of_lt_of_le (ltRow HS0.out.rh) hk0) [.int .i64 cc, .int .i64 m, .int .i64 (ln - m), .int .i64 q], Kt.fill [.int .i64 cc, .int .i64 m, .int .i64 (ln - m), .int .i64 q] rK rfl, Nat.lt_of_lt_of_le (ltRow HS0.out.rh) hk0, hspec⟩
        case rest =>
          obtain ⟨kB, cc, m, q, rfl, hsv, rv, hkB, hspec⟩ := hcut
          have HE1 := Lib.hid (SvE.of hsv rv hkB)
          have HLN := Lib.hid HX.out.l1
          have HKB := Lib.hid hkB
          clear hsv rv hkB HS0 HJ HI
          have q1 := fun i => cell_of_row _ _ i _ _ _ HE1.out.r1
          have q2 := fun i => cell_of_row _ _ i _ _ _ HE1.out.r2
          have q3 := fun i => cell_of_row _ _ i _ _ _ HE1.out.rw
          have q4 := fun i => cell_of_row _ _ i _ _ _ HE1.out.rh
          have q5 := fun i => cell_of_row _ _ i _ _ _ HE1.out.rv
          have f2 := fun i => frozen_of_row _ _ i _ _ HE1.out.r2
          have l1 := ltRow HE1.out.r1
          have l5 := ltRow HE1.out.rv
          rcases hspec with ⟨hag, hm, rfl⟩ | ⟨hag, rfl, rfl⟩
          · have hm' := hm.symm
            subst hm'
            have HDL := Lib.hid (ag_le hag hTM HLN.out)
            rw [if_pos hag] at HSV
            rcases hHD with rfl | rfl | rfl
            · skip
              go_wp2_with fail
              refine (Do_calls bs s cmd ByteArray.empty A1 c1 _ HE1.out.sl.toA HN.out).mono ?_
              rintro e w5 hdo
              obtain ⟨P, t, o, g, hd5⟩ : ∃ b t o g, did bs s cmd ByteArray.empty = (b, t, o, g) := ⟨_, _, _, _, rfl⟩
              obtain ⟨A9, c9, rfl, hda, hb⟩ := hdo.open2 hd5
              have HE5 := Lib.hid ((HE1.out.on hb).next (t := t) hda (ltRow HE1.out.rv))
              have HH5 := Lib.hid (HE1.out.on hb)
              have n1 : kB ≠ w0.heap.size := by have := HKB.out; have := HE1.out.lt; omega
              have n2 : w3.heap.size ≠ w0.heap.size := by have := HE1.out.lt; omega
              have n3 : w3.heap.size + 1 ≠ w0.heap.size := by have := HE1.out.lt; omega
              have n4 : w3.heap.size ≠ kB := by have := HKB.out; omega
              have n5 : w3.heap.size + 1 ≠ kB := by have := HKB.out; omega
              clear hdo hda hb q1 q2 q3 q4 q5 f2 l1 l5
              unfold dkV
              have l1 := ltRow HH5.out.r1
              have f1 := fun i => frozen_of_row _ _ i _ _ HH5.out.r1
              have q1 := fun i => cell_of_row _ _ i _ _ _ HH5.out.r1
              go_upto_block 1 with (fail)
              refine Kt.fold (fun W => SvE w0 A9 c9 P t w3.heap.size ⟨tg, ln, true, 0, cmd⟩ 0 kB cc dl (ln - dl) 0 W) (HE5.out.on (Kt.balloc (Below.refl _ _) (.cells #[.slice A9 P.length c9, .int .i64 t] 24))) ?_
              clear l1 f1 q1 HE5 HH5
              intro W6 hE6
              have HE6 := Lib.hid hE6
              have q1 := fun i => cell_of_row _ _ i _ _ _ hE6.r1
              have q3 := fun i => cell_of_row _ _ i _ _ _ hE6.rw
              have q4 := fun i => cell_of_row _ _ i _ _ _ hE6.rh
              have q5 := fun i => cell_of_row _ _ i _ _ _ hE6.rv
              have f5 := fun i => frozen_of_row _ _ i _ _ hE6.rv
              clear hE6
              by_cases hg : g = 0
              · subst hg
                have HSS : Hid (served bs s ⟨tg, ln, true, 0, cmd⟩ data = (P, t, ⟨#[]⟩, statT ⟨tg, ln - dl, 0⟩, 0)) := Lib.hid (by rw [HSV.out]; simp [hd5]; rfl)
                clear hd5
                go_wp2_with fail
                have HEW := Lib.hid HE6.out
                have hst := writeS_calls ⟨tg, ln - dl, 0⟩
                have hok : OkS ⟨tg, ln - dl, 0⟩ := ⟨HX.out.t1, HX.out.t2, Int.sub_nonneg_of_le HDL.out.2, (lt_sub HX.out.l2 HDL.out.1), (by simp), (by simp)⟩
                have hst2 : writeS ⟨tg, ln - dl, 0⟩ = (statT ⟨tg, ln - dl, 0⟩, 0) := if_pos hok
                rw [hst2] at hst
                refine (hst _).mono ?_
                rintro e w7 ⟨rfl, hb⟩
                have HE7 := Lib.hid (HEW.out.on hb)
                clear hb hst hst2 hok HEW
                have qa := fun i => cell_of_row _ _ i _ _ _ HE7.out.r1
                have qb := fun i => cell_of_row _ _ i _ _ _ HE7.out.r2
                have fb := fun i => frozen_of_row _ _ i _ _ HE7.out.r2
                go_wp2_with fail
                have hW := ld_dk (Kt.fill [.slice A9 P.length c9, .int .i64 t] HE7.out.r2 rfl)
                simp only [World.setCells, Nat.zero_add] at hW
                refine bodyPost_ret (v := .tuple #[.agg #[.slice A9 P.length c9, .int .i64 t], .string ⟨#[]⟩, .string (statT ⟨tg, ln - dl, 0⟩), .int .i64 0]) (by simp [results, Try.results67, asAddr, hW]) rfl ?_
                rw [HSS.out]
                exact HE7.out.ret _ _ _
              · have hg1 : (g != 0) = true := by rw [bne_iff_ne]; exact hg
                have HSS : Hid (served bs s ⟨tg, ln, true, 0, cmd⟩ data = (P, t, ⟨#[]⟩, statT ⟨tg, ln - dl, 1⟩, 0)) := Lib.hid (by rw [HSV.out]; simp [hd5, hg]; try rfl)
                clear hd5 hg
                go_wp2_with fail
                have HEW := Lib.hid (HE6.out.code 1)
                have hst := writeS_calls ⟨tg, ln - dl, 1⟩
                have hok : OkS ⟨tg, ln - dl, 1⟩ := ⟨HX.out.t1, HX.out.t2, Int.sub_nonneg_of_le HDL.out.2, (lt_sub HX.out.l2 HDL.out.1), (by simp), (by simp)⟩
                have hst2 : writeS ⟨tg, ln - dl, 1⟩ = (statT ⟨tg, ln - dl, 1⟩, 0) := if_pos hok
                rw [hst2] at hst
                refine (hst _).mono ?_
                rintro e w7 ⟨rfl, hb⟩
                have HE7 := Lib.hid (HEW.out.on hb)
                clear hb hst hst2 hok HEW
                have qa := fun i => cell_of_row _ _ i _ _ _ HE7.out.r1
                have qb := fun i => cell_of_row _ _ i _ _ _ HE7.out.r2
                have fb := fun i => frozen_of_row _ _ i _ _ HE7.out.r2
                go_wp2_with fail
                have hW := ld_dk (Kt.fill [.slice A9 P.length c9, .int .i64 t] HE7.out.r2 rfl)
                simp only [World.setCells, Nat.zero_add] at hW
                refine bodyPost_ret (v := .tuple #[.agg #[.slice A9 P.length c9, .int .i64 t], .string ⟨#[]⟩, .string (statT ⟨tg, ln - dl, 1⟩), .int .i64 0]) (by simp [results, Try.results67, asAddr, hW]) rfl ?_
                rw [HSS.out]
                exact HE7.out.ret _ _ _
            · skip
              go_wp2_with fail
              refine (Do_calls bs s cmd ByteArray.empty A1 c1 _ HE1.out.sl.toA HN.out).mono ?_
              rintro e w5 hdo
              obtain ⟨P, t, o, g, hd5⟩ : ∃ b t o g, did bs s cmd ByteArray.empty = (b, t, o, g) := ⟨_, _, _, _, rfl⟩
              obtain ⟨A9, c9, rfl, hda, hb⟩ := hdo.open2 hd5
              have HE5 := Lib.hid ((HE1.out.on hb).next (t := t) hda (ltRow HE1.out.rv))
              have HH5 := Lib.hid (HE1.out.on hb)
              have n1 : kB ≠ w0.heap.size := by have := HKB.out; have := HE1.out.lt; omega
              have n2 : w3.heap.size ≠ w0.heap.size := by have := HE1.out.lt; omega
              have n3 : w3.heap.size + 1 ≠ w0.heap.size := by have := HE1.out.lt; omega
              have n4 : w3.heap.size ≠ kB := by have := HKB.out; omega
              have n5 : w3.heap.size + 1 ≠ kB := by have := HKB.out; omega
              clear hdo hda hb q1 q2 q3 q4 q5 f2 l1 l5
              unfold dkV
              have l1 := ltRow HH5.out.r1
              have f1 := fun i => frozen_of_row _ _ i _ _ HH5.out.r1
              have q1 := fun i => cell_of_row _ _ i _ _ _ HH5.out.r1
              go_upto_block 1 with (fail)
              refine Kt.fold (fun W => SvE w0 A9 c9 P t w3.heap.size ⟨tg, ln, true, 0, cmd⟩ 1 kB cc dl (ln - dl) 0 W) (HE5.out.on (Kt.balloc (Below.refl _ _) (.cells #[.slice A9 P.length c9, .int .i64 t] 24))) ?_
              clear l1 f1 q1 HE5 HH5
              intro W6 hE6
              have HE6 := Lib.hid hE6
              have q1 := fun i => cell_of_row _ _ i _ _ _ hE6.r1
              have q3 := fun i => cell_of_row _ _ i _ _ _ hE6.rw
              have q4 := fun i => cell_of_row _ _ i _ _ _ hE6.rh
              have q5 := fun i => cell_of_row _ _ i _ _ _ hE6.rv
              have f5 := fun i => frozen_of_row _ _ i _ _ hE6.rv
              clear hE6
              by_cases hg : g = 0
              · subst hg
                have hbo : 0 ≤ dl ∧ dl ≤ (o.size : Int) := ag_in hag hTM hMS.out hd5
                obtain ⟨b1, b2⟩ := hbo
                have HSS : Hid (served bs s ⟨tg, ln, true, 0, cmd⟩ data = (P, t, (o.extract 0 dl.toNat), statT ⟨tg, ln - dl, 0⟩, 0)) := Lib.hid (by rw [HSV.out]; simp [hd5])
                clear hd5
                go_wp2_with fail
                have HEW := Lib.hid HE6.out
                have hst := writeS_calls ⟨tg, ln - dl, 0⟩
                have hok : OkS ⟨tg, ln - dl, 0⟩ := ⟨HX.out.t1, HX.out.t2, Int.sub_nonneg_of_le HDL.out.2, (lt_sub HX.out.l2 HDL.out.1), (by simp), (by simp)⟩
                have hst2 : writeS ⟨tg, ln - dl, 0⟩ = (statT ⟨tg, ln - dl, 0⟩, 0) := if_pos hok
                rw [hst2] at hst
                refine (hst _).mono ?_
                rintro e w7 ⟨rfl, hb⟩
                have HE7 := Lib.hid (HEW.out.on hb)
                clear hb hst hst2 hok HEW
                have qa := fun i => cell_of_row _ _ i _ _ _ HE7.out.r1
                have qb := fun i => cell_of_row _ _ i _ _ _ HE7.out.r2
                have fb := fun i => frozen_of_row _ _ i _ _ HE7.out.r2
                go_wp2_with fail
                have hW := ld_dk (Kt.fill [.slice A9 P.length c9, .int .i64 t] HE7.out.r2 rfl)
                simp only [World.setCells, Nat.zero_add] at hW
                refine bodyPost_ret (v := .tuple #[.agg #[.slice A9 P.length c9, .int .i64 t], .string (o.extract 0 dl.toNat), .string (statT ⟨tg, ln - dl, 0⟩), .int .i64 0]) (by simp [results, Try.results67, asAddr, hW]) rfl ?_
                rw [HSS.out]
                exact HE7.out.ret _ _ _
              · have hg1 : (g != 0) = true := by rw [bne_iff_ne]; exact hg
                have HSS : Hid (served bs s ⟨tg, ln, true, 0, cmd⟩ data = (P, t, ⟨#[]⟩, statT ⟨tg, ln - dl, 1⟩, 0)) := Lib.hid (by rw [HSV.out]; simp [hd5, hg]; try rfl)
                clear hd5 hg
                go_wp2_with fail
                have HEW := Lib.hid (HE6.out.code 1)
                have hst := writeS_calls ⟨tg, ln - dl, 1⟩
                have hok : OkS ⟨tg, ln - dl, 1⟩ := ⟨HX.out.t1, HX.out.t2, Int.sub_nonneg_of_le HDL.out.2, (lt_sub HX.out.l2 HDL.out.1), (by simp), (by simp)⟩
                have hst2 : writeS ⟨tg, ln - dl, 1⟩ = (statT ⟨tg, ln - dl, 1⟩, 0) := if_pos hok
                rw [hst2] at hst
                refine (hst _).mono ?_
                rintro e w7 ⟨rfl, hb⟩
                have HE7 := Lib.hid (HEW.out.on hb)
                clear hb hst hst2 hok HEW
                have qa := fun i => cell_of_row _ _ i _ _ _ HE7.out.r1
                have qb := fun i => cell_of_row _ _ i _ _ _ HE7.out.r2
                have fb := fun i => frozen_of_row _ _ i _ _ HE7.out.r2
                go_wp2_with fail
                have hW := ld_dk (Kt.fill [.slice A9 P.length c9, .int .i64 t] HE7.out.r2 rfl)
                simp only [World.setCells, Nat.zero_add] at hW
                refine bodyPost_ret (v := .tuple #[.agg #[.slice A9 P.length c9, .int .i64 t], .string ⟨#[]⟩, .string (statT ⟨tg, ln - dl, 1⟩), .int .i64 0]) (by simp [results, Try.results67, asAddr, hW]) rfl ?_
                rw [HSS.out]
                exact HE7.out.ret _ _ _
            · by_cases hz : (data.size : Int) = ln
              · have hz1 : ((data.size : Int) != ln) = false := by rw [bne_eq_false_iff_eq]; exact hz
                have b1 := HDL.out.1
                have b2 : dl ≤ (data.size : Int) := by rw [hz]; exact HDL.out.2
                have hz0 := hz
                go_wp2_with fail
                refine (Do_calls bs s cmd (data.extract 0 dl.toNat) A1 c1 _ HE1.out.sl.toA HN.out).mono ?_
                rintro e w5 hdo
                obtain ⟨P, t, o, g, hd5⟩ : ∃ b t o g, did bs s cmd (data.extract 0 dl.toNat) = (b, t, o, g) := ⟨_, _, _, _, rfl⟩
                obtain ⟨A9, c9, rfl, hda, hb⟩ := hdo.open2 hd5
                have HE5 := Lib.hid ((HE1.out.on hb).next (t := t) hda (ltRow HE1.out.rv))
                have HH5 := Lib.hid (HE1.out.on hb)
                have n1 : kB ≠ w0.heap.size := by have := HKB.out; have := HE1.out.lt; omega
                have n2 : w3.heap.size ≠ w0.heap.size := by have := HE1.out.lt; omega
                have n3 : w3.heap.size + 1 ≠ w0.heap.size := by have := HE1.out.lt; omega
                have n4 : w3.heap.size ≠ kB := by have := HKB.out; omega
                have n5 : w3.heap.size + 1 ≠ kB := by have := HKB.out; omega
                clear hdo hda hb q1 q2 q3 q4 q5 f2 l1 l5
                unfold dkV
                have l1 := ltRow HH5.out.r1
                have f1 := fun i => frozen_of_row _ _ i _ _ HH5.out.r1
                have q1 := fun i => cell_of_row _ _ i _ _ _ HH5.out.r1
                go_upto_block 1 with (fail)
                refine Kt.fold (fun W => SvE w0 A9 c9 P t w3.heap.size ⟨tg, ln, true, 0, cmd⟩ 2 kB cc dl (ln - dl) 0 W) (HE5.out.on (Kt.balloc (Below.refl _ _) (.cells #[.slice A9 P.length c9, .int .i64 t] 24))) ?_
                clear l1 f1 q1 HE5 HH5
                intro W6 hE6
                have HE6 := Lib.hid hE6
                have q1 := fun i => cell_of_row _ _ i _ _ _ hE6.r1
                have q3 := fun i => cell_of_row _ _ i _ _ _ hE6.rw
                have q4 := fun i => cell_of_row _ _ i _ _ _ hE6.rh
                have q5 := fun i => cell_of_row _ _ i _ _ _ hE6.rv
                have f5 := fun i => frozen_of_row _ _ i _ _ hE6.rv
                clear hE6
                by_cases hg : g = 0
                · subst hg
                  have HSS : Hid (served bs s ⟨tg, ln, true, 0, cmd⟩ data = (P, t, ⟨#[]⟩, statT ⟨tg, ln - dl, 0⟩, 0)) := Lib.hid (by rw [HSV.out]; simp [hd5, hz]; rfl)
                  clear hd5
                  go_wp2_with fail
                  have HEW := HE6
                  have hst := writeS_calls ⟨tg, ln - dl, 0⟩
                  have hok : OkS ⟨tg, ln - dl, 0⟩ := ⟨HX.out.t1, HX.out.t2, Int.sub_nonneg_of_le HDL.out.2, (lt_sub HX.out.l2 HDL.out.1), (by simp), (by simp)⟩
                  have hst2 : writeS ⟨tg, ln - dl, 0⟩ = (statT ⟨tg, ln - dl, 0⟩, 0) := if_pos hok
                  rw [hst2] at hst
                  refine (hst _).mono ?_
                  rintro e w7 ⟨rfl, hb⟩
                  have HE7 := Lib.hid (HEW.out.on hb)
                  clear hb hst hst2 hok HEW
                  have qa := fun i => cell_of_row _ _ i _ _ _ HE7.out.r1
                  have qb := fun i => cell_of_row _ _ i _ _ _ HE7.out.r2
                  have fb := fun i => frozen_of_row _ _ i _ _ HE7.out.r2
                  go_wp2_with fail
                  have hW := ld_dk (Kt.fill [.slice A9 P.length c9, .int .i64 t] HE7.out.r2 rfl)
                  simp only [World.setCells, Nat.zero_add] at hW
                  refine bodyPost_ret (v := .tuple #[.agg #[.slice A9 P.length c9, .int .i64 t], .string ⟨#[]⟩, .string (statT ⟨tg, ln - dl, 0⟩), .int .i64 0]) (by simp [results, Try.results67, asAddr, hW]) rfl ?_
                  rw [HSS.out]
                  exact HE7.out.ret _ _ _
                · have hg1 : (g != 0) = true := by rw [bne_iff_ne]; exact hg
                  have HSS : Hid (served bs s ⟨tg, ln, true, 0, cmd⟩ data = (P, t, ⟨#[]⟩, statT ⟨tg, ln - dl, 1⟩, 0)) := Lib.hid (by rw [HSV.out]; simp [hd5, hg, hz]; try rfl)
                  clear hd5 hg
                  go_wp2_with fail
                  have HEW := Lib.hid (HE6.out.code 1)
                  have hst := writeS_calls ⟨tg, ln - dl, 1⟩
                  have hok : OkS ⟨tg, ln - dl, 1⟩ := ⟨HX.out.t1, HX.out.t2, Int.sub_nonneg_of_le HDL.out.2, (lt_sub HX.out.l2 HDL.out.1), (by simp), (by simp)⟩
                  have hst2 : writeS ⟨tg, ln - dl, 1⟩ = (statT ⟨tg, ln - dl, 1⟩, 0) := if_pos hok
                  rw [hst2] at hst
                  refine (hst _).mono ?_
                  rintro e w7 ⟨rfl, hb⟩
                  have HE7 := Lib.hid (HEW.out.on hb)
                  clear hb hst hst2 hok HEW
                  have qa := fun i => cell_of_row _ _ i _ _ _ HE7.out.r1
                  have qb := fun i => cell_of_row _ _ i _ _ _ HE7.out.r2
                  have fb := fun i => frozen_of_row _ _ i _ _ HE7.out.r2
                  go_wp2_with fail
                  have hW := ld_dk (Kt.fill [.slice A9 P.length c9, .int .i64 t] HE7.out.r2 rfl)
                  simp only [World.setCells, Nat.zero_add] at hW
                  refine bodyPost_ret (v := .tuple #[.agg #[.slice A9 P.length c9, .int .i64 t], .string ⟨#[]⟩, .string (statT ⟨tg, ln - dl, 1⟩), .int .i64 0]) (by simp [results, Try.results67, asAddr, hW]) rfl ?_
                  rw [HSS.out]
                  exact HE7.out.ret _ _ _
              · have hz1 : ((data.size : Int) != ln) = true := by rw [bne_iff_ne]; exact hz
                have HSS : Hid (served bs s ⟨tg, ln, true, 0, cmd⟩ data = (bs, s, ByteArray.empty, ByteArray.empty, 3)) := Lib.hid (by rw [HSV.out, if_pos ⟨rfl, hz⟩])
                clear hz hag hTM
                go_wp2_with fail
                have hW := ld_dk (Kt.fill [.slice A1 bs.length c1, .int .i64 s] HE1.out.r2 rfl)
                simp only [World.setCells, Nat.zero_add] at hW
                refine bodyPost_ret (v := .tuple #[.agg #[.slice A1 bs.length c1, .int .i64 s], .string ⟨#[]⟩, .string ⟨#[]⟩, .int .i64 3]) (by simp [results, Try.results67, asAddr, hW]) rfl ?_
                rw [HSS.out]
                exact HE1.out.ret _ _ _
          · rw [if_neg hag] at HSV
            clear hag hTM
            rcases hHD with rfl | rfl | rfl
            all_goals
              go_wp2_with fail
              have HEW := Lib.hid HE1.out
              have hst := writeS_calls ⟨tg, ln, 2⟩
              have hok : OkS ⟨tg, ln, 2⟩ := ⟨HX.out.t1, HX.out.t2, HLN.out, HX.out.l2, (by simp), (by simp)⟩
              have hst2 : writeS ⟨tg, ln, 2⟩ = (statT ⟨tg, ln, 2⟩, 0) := if_pos hok
              rw [hst2] at hst
              refine (hst _).mono ?_
              rintro e w7 ⟨rfl, hb⟩
              have HE7 := Lib.hid (HEW.out.on hb)
              clear hb hst hst2 hok HEW q1 q2 f2
              have q1 := fun i => cell_of_row _ _ i _ _ _ HE7.out.r1
              have q2 := fun i => cell_of_row _ _ i _ _ _ HE7.out.r2
              have f2 := fun i => frozen_of_row _ _ i _ _ HE7.out.r2
              go_wp2_with fail
              have hW := ld_dk (Kt.fill [.slice A1 bs.length c1, .int .i64 s] HE7.out.r2 rfl)
              simp only [World.setCells, Nat.zero_add] at hW
              refine bodyPost_ret (v := .tuple #[.agg #[.slice A1 bs.length c1, .int .i64 s], .string ⟨#[]⟩, .string (statT ⟨tg, ln, 2⟩), .int .i64 0]) (by simp [results, Try.results67, asAddr, hW]) rfl ?_
              rw [HSV.out]
              exact HE7.out.ret _ _ _
    · have hu' : (un != 0) = true := by rw [bne_iff_ne]; exact hu
      have HS : Hid (served bs s ⟨tg, ln, true, un, cmd⟩ data = (bs, s, ByteArray.empty, ByteArray.empty, 8)) := Lib.hid (by unfold served; rw [if_neg (by rw [HK.out]; decide), if_pos hu])
      have q1 := fun i => cell_of_row _ _ i _ _ _ HX3.out.r1
      have q2 := fun i => cell_of_row _ _ i _ _ _ HX3.out.r2
      have f2 := fun i => frozen_of_row _ _ i _ _ HX3.out.r2
      have l1 := ltRow HX3.out.r1
      have l2 := ltRow HX3.out.r2
      clear hu
      go_wp2_with fail
      have hW := ld_dk (Kt.fillA [.slice A1 bs.length c1, .int .i64 s] HX3.out.r2 rfl (.cells #[.int .i64 tg, .int .i64 ln, .bool true, .int .i64 un, .string cmd] 75))
      simp only [World.setCells, Nat.zero_add] at hW
      refine bodyPost_ret (v := .tuple #[.agg #[.slice A1 bs.length c1, .int .i64 s], .string ⟨#[]⟩, .string ⟨#[]⟩, .int .i64 8]) (by simp [results, Try.results67, asAddr, hW]) rfl ?_
      rw [HS.out]
      exact (HX3.out.ret _ _ _).alloc _
  · have hk' : (chkD bs s != 0) = true := by rw [bne_iff_ne]; exact hk
    have HS : Hid (served bs s ⟨tg, ln, true, un, cmd⟩ data = (bs, s, ByteArray.empty, ByteArray.empty, chkD bs s)) := Lib.hid (by unfold served; rw [if_pos hk])
    clear hk
    go_wp2_with fail
    have hW := ld_dk (row_put (x' := .slice A1 bs.length c1) (y' := .int .i64 s) HX2.out.r2)
    refine bodyPost_ret (v := .tuple #[.agg #[.slice A1 bs.length c1, .int .i64 s], .string ⟨#[]⟩, .string ⟨#[]⟩, .int .i64 (chkD bs s)]) (by simp [results, Try.results67, asAddr, hW]) rfl ?_
    rw [HS.out]
    exact HX2.out.ret _ _ _
set_option maxRecDepth 100000 in
set_option maxHeartbeats 20000000 in
theorem serve_false (bs : List ByteArray) (s : Int) (tg ln un : Int) (cmd data : ByteArray) (A : Option Addr) (cap : Nat) (w0 : World) (h : DkA w0 A cap bs) (hn : bs.length ≤ 8796093022208) (hx : OkW ⟨tg, ln, false, un, cmd⟩) :
    Calls Try.prog 67 #[dkV A cap bs s, .string (wrapT ⟨tg, ln, false, un, cmd⟩), .string data] w0 (SvIs w0 (served bs s ⟨tg, ln, false, un, cmd⟩ data)) := by
  have HA := Lib.hid h
  have HN := Lib.hid hn
  have HX := Lib.hid hx
  clear h hn hx
  unfold dkV
  go_enter Try.func67, Try.ntmps67
  have HW0 : Hid (Below w0.heap.size w0 ((w0.alloc (.cells #[.slice A bs.length cap, .int .i64 s] 24)).alloc (.cells #[.slice none 0 0, .int .i64 0] 24))) := Lib.hid (Kt.balloc (Kt.balloc (Below.refl _ w0) _) _)
  go_wp2_with (
    refine Kt.append_ar (by rfl) (.const (.slice none 0 0)) (.tmp 24) 22 rfl (w0.heap.size + 2) 9 (.string ByteArray.empty) 1 16 infoS Try.underlying22 rfl (by decide) (.slice none 0 0) 0 [] rfl (Kt.Sl.nil _ _ _ _) _ _ _ rfl (HA.out.on HW0.out) (sts_one _) (by have := HN.out; unfold maxLen; omega) (by have := HN.out; omega) (Nat.le_of_eq (sz2 _ _ _).symm) ?_
    intro A1 c1 w1 hs1 hb1 hz1 hk1 hl1
    obtain ⟨hr1, hr2⟩ := sv_rows hb1
    have f1 := fun i => frozen_of_row _ _ i _ _ hr1
    have q1 := fun i => cell_of_row _ _ i _ _ _ hr1)
  have HX1 : Hid (SvW w0 A1 c1 bs s (w1.setCell ⟨w0.heap.size, 0, none⟩ (.slice A1 bs.length c1))) := Lib.hid (SvW.first hr1 hr2 (by simpa using hs1) (HW0.out.trans (hb1.mono (by omega))))
  clear hs1 hb1 hz1 hk1 hl1 hr1 hr2 f1 q1 HW0 HA
  refine Kt.foldC (fun W => SvW w0 A1 c1 bs s W) HX1.out ?_
  clear HX1
  intro W1 hW1
  refine (dcheck_calls bs s A1 c1 _ hW1.sl.toA (by have := HN.out; omega)).mono ?_
  rintro e w2 ⟨rfl, hb⟩
  have HX2 := Lib.hid (hW1.on hb)
  clear hb hW1
  have q1 := fun i => cell_of_row _ _ i _ _ _ HX2.out.r1
  have q2 := fun i => cell_of_row _ _ i _ _ _ HX2.out.r2
  have f2 := fun i => frozen_of_row _ _ i _ _ HX2.out.r2
  by_cases hk : chkD bs s = 0
  · have HK := Lib.hid hk
    rw [hk]
    clear hk f2 q2
    go_wp2_with fail
    refine (readW_calls (wrapT ⟨tg, ln, false, un, cmd⟩) _).mono ?_
    rw [readW_wrapT ⟨tg, ln, false, un, cmd⟩ HX.out]
    rintro e w3 ⟨rfl, hb⟩
    have HX3 := Lib.hid (HX2.out.on hb)
    clear hb q1 HX2
    unfold wrV
    by_cases hu : un = 0
    · subst hu
      have l1 := ltRow HX3.out.r1
      go_upto_block 0 with (fail)
      go_cut [16] from 49 to 57 (fun _ wx => SvH w0 A1 c1 bs s w3.heap.size ⟨tg, ln, false, 0, cmd⟩ (hostD ⟨tg, ln, false, 0, cmd⟩) wx)
      case first =>
        have HH := Lib.hid (fun hd => SvH.start HX3.out ⟨tg, ln, false, 0, cmd⟩ hd)
        by_cases h0 : ln = 0
        · have hd : hostD ⟨tg, ln, false, 0, cmd⟩ = 0 := if_pos h0
          have h0' : (ln == 0) = true := by rw [beq_iff_eq]; exact h0
          have HD := Lib.hid hd
          clear h0 hd
          go_wp2_with fail
          go_meet
          rw [HD.out]
          exact HH.out 0
        · have hd : hostD ⟨tg, ln, false, 0, cmd⟩ = 2 := if_neg h0
          have h0' : (ln == 0) = false := by rw [beq_eq_false_iff_ne]; exact h0
          have HD := Lib.hid hd
          clear h0 hd
          go_wp2_with fail
          go_meet
          rw [HD.out]
          exact HH.out 2
      case rest =>
        have HS0 := Lib.hid hcut
        clear hcut HX3 l1
        have hTR := host_tr ⟨tg, ln, false, 0, cmd⟩ HX.out
        have hTM := means_tr (chkD_ok.1 HK.out) cmd
        have HSV : Hid (served bs s ⟨tg, ln, false, 0, cmd⟩ data = if agB (hostD ⟨tg, ln, false, 0, cmd⟩) ln (means bs s cmd).1 (means bs s cmd).2 then
          (if hostD ⟨tg, ln, false, 0, cmd⟩ = 2 ∧ (data.size : Int) ≠ ln then (bs, s, ByteArray.empty, ByteArray.empty, 3)
           else
            ((did bs s cmd (if hostD ⟨tg, ln, false, 0, cmd⟩ = 2 then data.extract 0 (means bs s cmd).2.toNat else ByteArray.empty)).1, (did bs s cmd (if hostD ⟨tg, ln, false, 0, cmd⟩ = 2 then data.extract 0 (means bs s cmd).2.toNat else ByteArray.empty)).2.1,
             if (did bs s cmd (if hostD ⟨tg, ln, false, 0, cmd⟩ = 2 then data.extract 0 (means bs s cmd).2.toNat else ByteArray.empty)).2.2.2 = 0 ∧ hostD ⟨tg, ln, false, 0, cmd⟩ = 1 then (did bs s cmd (if hostD ⟨tg, ln, false, 0, cmd⟩ = 2 then data.extract 0 (means bs s cmd).2.toNat else ByteArray.empty)).2.2.1.extract 0 (means bs s cmd).2.toNat else ByteArray.empty,
             statT ⟨tg, ln - (means bs s cmd).2, if (did bs s cmd (if hostD ⟨tg, ln, false, 0, cmd⟩ = 2 then data.extract 0 (means bs s cmd).2.toNat else ByteArray.empty)).2.2.2 = 0 then 0 else 1⟩, 0))
          else (bs, s, ByteArray.empty, statT ⟨tg, ln, 2⟩, 0)) := Lib.hid (by
            unfold served
            rw [if_neg (by rw [HK.out]; decide), if_neg (fun e => e rfl)])
        have hMS : Hid ((means bs s cmd).1 = 1 → (means bs s cmd).2 = ((did bs s cmd ByteArray.empty).2.2.1.size : Int) ∧ (did bs s cmd ByteArray.empty).2.2.2 = 0) := Lib.hid (means_in bs s cmd)
        have hHD := hostD_vals ⟨tg, ln, false, 0, cmd⟩
        obtain ⟨hd, hhd⟩ : ∃ z, hostD ⟨tg, ln, false, 0, cmd⟩ = z := ⟨_, rfl⟩
        have HI : Hid (∀ W, DkA W A1 c1 bs → Calls Try.prog 75 #[.agg #[.slice A1 bs.length c1, .int .i64 s], .string cmd] W fun e w' => e = .returned (.agg #[.int .i64 (means bs s cmd).1, .int .i64 (means bs s cmd).2]) ∧ Below W.heap.size W w') := Lib.hid fun W hW => intends_calls bs s cmd A1 c1 W hW HN.out
        obtain ⟨dd, hdd⟩ : ∃ z, (means bs s cmd).1 = z := ⟨_, rfl⟩
        obtain ⟨dl, hdl⟩ : ∃ z, (means bs s cmd).2 = z := ⟨_, rfl⟩
        rw [hhd] at HSV hTR HS0 hHD
        rw [hdd, hdl] at HSV hTM hMS HI
        have HJ := Lib.hid (fun W => judge_any hd ln dd dl hTR hTM W)
        clear hTR hhd hdd hdl
        go_upto_region 13 with (fail)
        go_cut [14, 15] from 58 to 66 (fun v _ wx => ∃ kB cc m q, v = .pointer (some ⟨kB, 0, none⟩) ∧ SvH w0 A1 c1 bs s w3.heap.size ⟨tg, ln, false, 0, cmd⟩ hd wx ∧ wx.heap[kB]? = some (.cells #[.int .i64 cc, .int .i64 m, .int .i64 (ln - m), .int .i64 q] 130 (0, 0)) ∧ w3.heap.size + 1 < kB ∧ ((agB hd ln dd dl ∧ m = dl ∧ q = 0) ∨ (¬ agB hd ln dd dl ∧ m = 0 ∧ q = 2)))
        case first =>
          have HF := (((Kt.Fb.nil wc (Below.refl _ _)).add HS0.out.rh).add HS0.out.rw).add HS0.out.sv.r1
          refine Kt.G.start 10 (Kt.Fb wc [(w0.heap.size, #[.slice A1 bs.length c1, .int .i64 s], 24), (w3.heap.size, #[.int .i64 tg, .int .i64 ln, .bool false, .int .i64 0, .string cmd], 75), (w3.heap.size + 1, #[.int .i64 hd, .int .i64 ln], 128)]) (by kernel_rfl) HF.drew (fun hHeld => ?_)
          clear HF
          generalize wc.drew = x0 at *
          refine Kt.G.take 0 { dst := some 59, op := Op.load 128 (Operand.tmp 13), type := 128, pos := "bulk.go:142", after := #[], guard := none } ?_ hHeld rfl (by kernel_rfl) (fun _ _ _ h => h) (by rfl) ?_ ?_
          rotate_left
          · intro w hSw; have r0 := hSw.row (w0.heap.size, #[.slice A1 bs.length c1, .int .i64 s], 24) (by simp); have c0 := fun i => cell_of_row _ _ i _ _ _ r0; have r1 := hSw.row (w3.heap.size, #[.int .i64 tg, .int .i64 ln, .bool false, .int .i64 0, .string cmd], 75) (by simp); have c1 := fun i => cell_of_row _ _ i _ _ _ r1; have r2 := hSw.row (w3.heap.size + 1, #[.int .i64 hd, .int .i64 ln], 128) (by simp); have c2 := fun i => cell_of_row _ _ i _ _ _ r2; dsimp only at *; go_simp; try with_reducible rfl
          try simp only [Act.put, List.setIfInBounds_toArray, List.set_cons_zero, List.set_cons_succ]
          refine Kt.G.take 1 { dst := some 60, op := Op.load 24 (Operand.tmp 3), type := 24, pos := "bulk.go:142", after := #[], guard := none } ?_ hHeld rfl (by kernel_rfl) (fun _ _ _ h => h) (by rfl) ?_ ?_
          rotate_left
          · intro w hSw; have r0 := hSw.row (w0.heap.size, #[.slice A1 bs.length c1, .int .i64 s], 24) (by simp); have c0 := fun i => cell_of_row _ _ i _ _ _ r0; have r1 := hSw.row (w3.heap.size, #[.int .i64 tg, .int .i64 ln, .bool false, .int .i64 0, .string cmd], 75) (by simp); have c1 := fun i => cell_of_row _ _ i _ _ _ r1; have r2 := hSw.row (w3.heap.size + 1, #[.int .i64 hd, .int .i64 ln], 128) (by simp); have c2 := fun i => cell_of_row _ _ i _ _ _ r2; dsimp only at *; go_simp; try with_reducible rfl
          try simp only [Act.put, List.setIfInBounds_toArray, List.set_cons_zero, List.set_cons_succ]
          refine Kt.G.takeP 2 { dst := some 61, op := Op.fieldAddr 75 (Operand.tmp 11) 4, type := 0, pos := "bulk.go:142", after := #[], guard := none } ?_ (fun _ => hHeld) rfl (by kernel_rfl) (fun _ _ _ h => h) (by rfl) ?_ ?_
          rotate_left
          · intro w; go_simp; try with_reducible rfl
          try simp only [Act.put, List.setIfInBounds_toArray, List.set_cons_zero, List.set_cons_succ]
          refine Kt.G.take 3 { dst := some 62, op := Op.load 9 (Operand.tmp 61), type := 9, pos := "bulk.go:142", after := #[{ on := 2, ground := Ground.data }], guard := none } ?_ hHeld rfl (by kernel_rfl) (fun _ _ _ h => h) (by rfl) ?_ ?_
          rotate_left
          · intro w hSw; have r0 := hSw.row (w0.heap.size, #[.slice A1 bs.length c1, .int .i64 s], 24) (by simp); have c0 := fun i => cell_of_row _ _ i _ _ _ r0; have r1 := hSw.row (w3.heap.size, #[.int .i64 tg, .int .i64 ln, .bool false, .int .i64 0, .string cmd], 75) (by simp); have c1 := fun i => cell_of_row _ _ i _ _ _ r1; have r2 := hSw.row (w3.heap.size + 1, #[.int .i64 hd, .int .i64 ln], 128) (by simp); have c2 := fun i => cell_of_row _ _ i _ _ _ r2; dsimp only at *; go_simp; try with_reducible rfl
          try simp only [Act.put, List.setIfInBounds_toArray, List.set_cons_zero, List.set_cons_succ]
          refine Kt.G.two 4 9 { dst := some 63, op := Op.call { callee := Callee.value (Operand.func 75), args := #[Operand.tmp 60, Operand.tmp 62], argTypes := #[24, 9] }, type := 128, pos := "bulk.go:142", after := #[{ on := 1, ground := Ground.data }, { on := 3, ground := Ground.data }], guard := none } { dst := some 14, op := Op.alloc 130, type := 0, pos := "bulk.go:142", after := #[], guard := none } rfl rfl (by kernel_rfl) (by rfl) (by rfl) (fun K hK => ?_) (fun K hK => ?_)
          · go_simp
            refine (HI.out _ ((HS0.out.on hHeld.bel).sv.sl.toA)).mono ?_; rintro en x4 ⟨rfl, hb4⟩
            refine hK.out _ _ (fun _ => hHeld.on hb4) (fun hHeld => ?_)
            have hHeld := hHeld rfl
            clear hK K
            try simp only [Act.put, List.setIfInBounds_toArray, List.set_cons_zero, List.set_cons_succ]
            try (replace rK := Kt.row_on hb4 rK)
            try (replace hk0 := Nat.le_trans hk0 (Nat.le_refl _))
            clear hb4
            refine Kt.G.two 5 9 { dst := some 64, op := Op.call { callee := Callee.value (Operand.func 74), args := #[Operand.tmp 59, Operand.tmp 63], argTypes := #[128, 128] }, type := 131, pos := "bulk.go:142", after := #[{ on := 0, ground := Ground.data }, { on := 4, ground := Ground.data }, { on := 4, ground := Ground.chain }], guard := none } { dst := some 14, op := Op.alloc 130, type := 0, pos := "bulk.go:142", after := #[], guard := none } rfl rfl (by kernel_rfl) (by rfl) (by rfl) (fun K hK => ?_) (fun K hK => ?_)
            · go_simp
              refine (HJ.out _).mono ?_; rintro en x5 ⟨⟨cc, m, q, rfl, hspec⟩, hb5⟩
              unfold judgeV
              refine hK.out _ _ (fun _ => hHeld.on hb5) (fun hHeld => ?_)
              have hHeld := hHeld rfl
              clear hK K
              try simp only [Act.put, List.setIfInBounds_toArray, List.set_cons_zero, List.set_cons_succ]
              try (replace rK := Kt.row_on hb5 rK)
              try (replace hk0 := Nat.le_trans hk0 (Nat.le_refl _))
              clear hb5
              refine Kt.G.takeP 6 { dst := some 58, op := Op.move (Operand.tmp 64), type := 131, pos := "bulk.go:142", after := #[{ on := 5, ground := Ground.data }], guard := none } ?_ (fun _ => hHeld) rfl (by kernel_rfl) (fun _ _ _ h => h) (by rfl) ?_ ?_
              rotate_left
              · intro w; go_simp; try with_reducible rfl
              try simp only [Act.put, List.setIfInBounds_toArray, List.set_cons_zero, List.set_cons_succ]
              refine Kt.G.takeP 7 { dst := some 65, op := Op.extract (Operand.tmp 58) 0, type := 130, pos := "bulk.go:142", after := #[{ on := 6, ground := Ground.data }], guard := none } ?_ (fun _ => hHeld) rfl (by kernel_rfl) (fun _ _ _ h => h) (by rfl) ?_ ?_
              rotate_left
              · intro w; go_simp; try with_reducible rfl
              try simp only [Act.put, List.setIfInBounds_toArray, List.set_cons_zero, List.set_cons_succ]
              refine Kt.G.takeP 8 { dst := some 66, op := Op.extract (Operand.tmp 58) 1, type := 28, pos := "bulk.go:142", after := #[{ on := 6, ground := Ground.data }, { on := 10, ground := Ground.gcOnly Departure.lateStores }], guard := none } ?_ (fun _ => hHeld) rfl (by kernel_rfl) (fun _ _ _ h => h) (by rfl) ?_ ?_
              rotate_left
              · intro w; go_simp; try with_reducible rfl
              try simp only [Act.put, List.setIfInBounds_toArray, List.set_cons_zero, List.set_cons_succ]
              refine Kt.G.one 9 { dst := some 14, op := Op.alloc 130, type := 0, pos := "bulk.go:142", after := #[], guard := none } rfl (by kernel_rfl) (by rfl) (fun K hK => ?_)
              have hk0 : wc.heap.size ≤ x5.heap.size := hHeld.bel.size
              go_simp
              refine hK.out _ _ (fun _ => hHeld.alloc _) (fun hHeld => ?_)
              have hHeld := hHeld rfl
              clear hK K
              try simp only [Act.put, List.setIfInBounds_toArray, List.set_cons_zero, List.set_cons_succ]
              have rK := heap_alloc_new x5 (.cells #[.int .i64 0, .int .i64 0, .int .i64 0, .int .i64 0] 130)
              generalize hkB : x5.heap.size = kB at *
              clear hkB
              generalize x5.alloc (.cells #[.int .i64 0, .int .i64 0, .int .i64 0, .int .i64 0] 130) = xk at *
              refine Kt.G.one 10 { dst := none, op := Op.store 130 (Operand.tmp 14) (Operand.tmp 65), type := 0, pos := "bulk.go:142", after := #[{ on := 9, ground := Ground.data }, { on := 7, ground := Ground.data }, { on := 5, ground := Ground.chain }, { on := 0, ground := Ground.phase }, { on := 1, ground := Ground.phase }, { on := 2, ground := Ground.phase }, { on := 3, ground := Ground.phase }, { on := 4, ground := Ground.phase }, { on := 5, ground := Ground.phase }, { on := 6, ground := Ground.phase }, { on := 7, ground := Ground.phase }, { on := 8, ground := Ground.textOnly Departure.lateStores }, { on := 9, ground := Ground.phase }], guard := none } rfl (by kernel_rfl) (by rfl) (fun K hK => ?_)
              have cK := fun i => cell_of_row _ _ i _ _ _ rK; have fK := fun i => frozen_of_row _ _ i _ _ rK
              go_simp
              refine hK.out _ _ (Kt.G.late (by kernel_rfl)) (fun _ => ?_)
              clear hK K
              try simp only [Act.put, List.setIfInBounds_toArray, List.set_cons_zero, List.set_cons_succ]
              refine Kt.G.takeP 11 { dst := some 15, op := Op.assign (Operand.tmp 66), type := 28, pos := "bulk.go:142", after := #[{ on := 8, ground := Ground.data }, { on := 10, ground := Ground.chain }, { on := 0, ground := Ground.phase }, { on := 1, ground := Ground.phase }, { on := 2, ground := Ground.phase }, { on := 3, ground := Ground.phase }, { on := 4, ground := Ground.phase }, { on := 5, ground := Ground.phase }, { on := 6, ground := Ground.phase }, { on := 7, ground := Ground.phase }, { on := 8, ground := Ground.phase }, { on := 9, ground := Ground.phase }, { on := 10, ground := Ground.phase }], guard := none } ?_ (Kt.G.late (by kernel_rfl)) rfl (by kernel_rfl) (fun _ _ _ h => h) (by rfl) ?_ ?_
              rotate_left
              · intro w; go_simp; try with_reducible rfl
              try simp only [Act.put, List.setIfInBounds_toArray, List.set_cons_zero, List.set_cons_succ]
              refine Kt.G.done (by kernel_rfl) (NoPanic.normal ?_) _
              go_wp2_with fail
              go_meet
              case rel =>
                exact ⟨kB, cc, m, q, rfl, (HS0.out.on hHeld.bel).put kB (Nat.lt_of_lt_of_le (ltRow HS0.out.rh) hk0) [.int .i64 cc, .int .i64 m, .int .i64 (ln - m), .int .i64 q], Kt.fill [.int .i64 cc, .int .i64 m, .int .i64 (ln - m), .int .i64 q] rK rfl, Nat.lt_of_lt_of_le (ltRow HS0.out.rh) hk0, hspec⟩
            · have hk0 : wc.heap.size ≤ x4.heap.size := hHeld.bel.size
              go_simp
              refine hK.out _ _ (fun _ => hHeld.alloc _) (fun hHeld => ?_)
              have hHeld := hHeld rfl
              clear hK K
              try simp only [Act.put, List.setIfInBounds_toArray, List.set_cons_zero, List.set_cons_succ]
              have rK := heap_alloc_new x4 (.cells #[.int .i64 0, .int .i64 0, .int .i64 0, .int .i64 0] 130)
              generalize hkB : x4.heap.size = kB at *
              clear hkB
              generalize x4.alloc (.cells #[.int .i64 0, .int .i64 0, .int .i64 0, .int .i64 0] 130) = xk at *
              refine Kt.G.one 5 { dst := some 64, op := Op.call { callee := Callee.value (Operand.func 74), args := #[Operand.tmp 59, Operand.tmp 63], argTypes := #[128, 128] }, type := 131, pos := "bulk.go:142", after := #[{ on := 0, ground := Ground.data }, { on := 4, ground := Ground.data }, { on := 4, ground := Ground.chain }], guard := none } rfl (by kernel_rfl) (by rfl) (fun K hK => ?_)
              go_simp
              refine (HJ.out _).mono ?_; rintro en x5 ⟨⟨cc, m, q, rfl, hspec⟩, hb5⟩
              unfold judgeV
              refine hK.out _ _ (fun _ => hHeld.on hb5) (fun hHeld => ?_)
              have hHeld := hHeld rfl
              clear hK K
              try simp only [Act.put, List.setIfInBounds_toArray, List.set_cons_zero, List.set_cons_succ]
              try (replace rK := Kt.row_on hb5 rK)
              try (replace hk0 := Nat.le_trans hk0 (Nat.le_refl _))
              clear hb5
              refine Kt.G.takeP 6 { dst := some 58, op := Op.move (Operand.tmp 64), type := 131, pos := "bulk.go:142", after := #[{ on := 5, ground := Ground.data }], guard := none } ?_ (fun _ => hHeld) rfl (by kernel_rfl) (fun _ _ _ h => h) (by rfl) ?_ ?_
              rotate_left
              · intro w; go_simp; try with_reducible rfl
              try simp only [Act.put, List.setIfInBounds_toArray, List.set_cons_zero, List.set_cons_succ]
              refine Kt.G.takeP 7 { dst := some 65, op := Op.extract (Operand.tmp 58) 0, type := 130, pos := "bulk.go:142", after := #[{ on := 6, ground := Ground.data }], guard := none } ?_ (fun _ => hHeld) rfl (by kernel_rfl) (fun _ _ _ h => h) (by rfl) ?_ ?_
              rotate_left
              · intro w; go_simp; try with_reducible rfl
              try simp only [Act.put, List.setIfInBounds_toArray, List.set_cons_zero, List.set_cons_succ]
              refine Kt.G.takeP 8 { dst := some 66, op := Op.extract (Operand.tmp 58) 1, type := 28, pos := "bulk.go:142", after := #[{ on := 6, ground := Ground.data }, { on := 10, ground := Ground.gcOnly Departure.lateStores }], guard := none } ?_ (fun _ => hHeld) rfl (by kernel_rfl) (fun _ _ _ h => h) (by rfl) ?_ ?_
              rotate_left
              · intro w; go_simp; try with_reducible rfl
              try simp only [Act.put, List.setIfInBounds_toArray, List.set_cons_zero, List.set_cons_succ]
              refine Kt.G.one 10 { dst := none, op := Op.store 130 (Operand.tmp 14) (Operand.tmp 65), type := 0, pos := "bulk.go:142", after := #[{ on := 9, ground := Ground.data }, { on := 7, ground := Ground.data }, { on := 5, ground := Ground.chain }, { on := 0, ground := Ground.phase }, { on := 1, ground := Ground.phase }, { on := 2, ground := Ground.phase }, { on := 3, ground := Ground.phase }, { on := 4, ground := Ground.phase }, { on := 5, ground := Ground.phase }, { on := 6, ground := Ground.phase }, { on := 7, ground := Ground.phase }, { on := 8, ground := Ground.textOnly Departure.lateStores }, { on := 9, ground := Ground.phase }], guard := none } rfl (by kernel_rfl) (by rfl) (fun K hK => ?_)
              have cK := fun i => cell_of_row _ _ i _ _ _ rK; have fK := fun i => frozen_of_row _ _ i _ _ rK
              go_simp
              refine hK.out _ _ (Kt.G.late (by kernel_rfl)) (fun _ => ?_)
              clear hK K
              try simp only [Act.put, List.setIfInBounds_toArray, List.set_cons_zero, List.set_cons_succ]
              refine Kt.G.takeP 11 { dst := some 15, op := Op.assign (Operand.tmp 66), type := 28, pos := "bulk.go:142", after := #[{ on := 8, ground := Ground.data }, { on := 10, ground := Ground.chain }, { on := 0, ground := Ground.phase }, { on := 1, ground := Ground.phase }, { on := 2, ground := Ground.phase }, { on := 3, ground := Ground.phase }, { on := 4, ground := Ground.phase }, { on := 5, ground := Ground.phase }, { on := 6, ground := Ground.phase }, { on := 7, ground := Ground.phase }, { on := 8, ground := Ground.phase }, { on := 9, ground := Ground.phase }, { on := 10, ground := Ground.phase }], guard := none } ?_ (Kt.G.late (by kernel_rfl)) rfl (by kernel_rfl) (fun _ _ _ h => h) (by rfl) ?_ ?_
              rotate_left
              · intro w; go_simp; try with_reducible rfl
              try simp only [Act.put, List.setIfInBounds_toArray, List.set_cons_zero, List.set_cons_succ]
              refine Kt.G.done (by kernel_rfl) (NoPanic.normal ?_) _
              go_wp2_with fail
              go_meet
              case rel =>
                exact ⟨kB, cc, m, q, rfl, (HS0.out.on hHeld.bel).put kB (Nat.lt_of_lt_of_le (ltRow HS0.out.rh) hk0) [.int .i64 cc, .int .i64 m, .int .i64 (ln - m), .int .i64 q], Kt.fill [.int .i64 cc, .int .i64 m, .int .i64 (ln - m), .int .i64 q] rK rfl, Nat.lt_of_lt_of_le (ltRow HS0.out.rh) hk0, hspec⟩
          · have hk0 : wc.heap.size ≤ x0.heap.size := hHeld.bel.size
            go_simp
            refine hK.out _ _ (fun _ => hHeld.alloc _) (fun hHeld => ?_)
            have hHeld := hHeld rfl
            clear hK K
            try simp only [Act.put, List.setIfInBounds_toArray, List.set_cons_zero, List.set_cons_succ]
            have rK := heap_alloc_new x0 (.cells #[.int .i64 0, .int .i64 0, .int .i64 0, .int .i64 0] 130)
            generalize hkB : x0.heap.size = kB at *
            clear hkB
            generalize x0.alloc (.cells #[.int .i64 0, .int .i64 0, .int .i64 0, .int .i64 0] 130) = xk at *
            refine Kt.G.one 4 { dst := some 63, op := Op.call { callee := Callee.value (Operand.func 75), args := #[Operand.tmp 60, Operand.tmp 62], argTypes := #[24, 9] }, type := 128, pos := "bulk.go:142", after := #[{ on := 1, ground := Ground.data }, { on := 3, ground := Ground.data }], guard := none } rfl (by kernel_rfl) (by rfl) (fun K hK => ?_)
            go_simp
            refine (HI.out _ ((HS0.out.on hHeld.bel).sv.sl.toA)).mono ?_; rintro en x4 ⟨rfl, hb4⟩
            refine hK.out _ _ (fun _ => hHeld.on hb4) (fun hHeld => ?_)
            have hHeld := hHeld rfl
            clear hK K
            try simp only [Act.put, List.setIfInBounds_toArray, List.set_cons_zero, List.set_cons_succ]
            try (replace rK := Kt.row_on hb4 rK)
            try (replace hk0 := Nat.le_trans hk0 (Nat.le_refl _))
            clear hb4
            refine Kt.G.one 5 { dst := some 64, op := Op.call { callee := Callee.value (Operand.func 74), args := #[Operand.tmp 59, Operand.tmp 63], argTypes := #[128, 128] }, type := 131, pos := "bulk.go:142", after := #[{ on := 0, ground := Ground.data }, { on := 4, ground := Ground.data }, { on := 4, ground := Ground.chain }], guard := none } rfl (by kernel_rfl) (by rfl) (fun K hK => ?_)
            go_simp
            refine (HJ.out _).mono ?_; rintro en x5 ⟨⟨cc, m, q, rfl, hspec⟩, hb5⟩
            unfold judgeV
            refine hK.out _ _ (fun _ => hHeld.on hb5) (fun hHeld => ?_)
            have hHeld := hHeld rfl
            clear hK K
            try simp only [Act.put, List.setIfInBounds_toArray, List.set_cons_zero, List.set_cons_succ]
            try (replace rK := Kt.row_on hb5 rK)
            try (replace hk0 := Nat.le_trans hk0 (Nat.le_refl _))
            clear hb5
            refine Kt.G.takeP 6 { dst := some 58, op := Op.move (Operand.tmp 64), type := 131, pos := "bulk.go:142", after := #[{ on := 5, ground := Ground.data }], guard := none } ?_ (fun _ => hHeld) rfl (by kernel_rfl) (fun _ _ _ h => h) (by rfl) ?_ ?_
            rotate_left
            · intro w; go_simp; try with_reducible rfl
            try simp only [Act.put, List.setIfInBounds_toArray, List.set_cons_zero, List.set_cons_succ]
            refine Kt.G.takeP 7 { dst := some 65, op := Op.extract (Operand.tmp 58) 0, type := 130, pos := "bulk.go:142", after := #[{ on := 6, ground := Ground.data }], guard := none } ?_ (fun _ => hHeld) rfl (by kernel_rfl) (fun _ _ _ h => h) (by rfl) ?_ ?_
            rotate_left
            · intro w; go_simp; try with_reducible rfl
            try simp only [Act.put, List.setIfInBounds_toArray, List.set_cons_zero, List.set_cons_succ]
            refine Kt.G.takeP 8 { dst := some 66, op := Op.extract (Operand.tmp 58) 1, type := 28, pos := "bulk.go:142", after := #[{ on := 6, ground := Ground.data }, { on := 10, ground := Ground.gcOnly Departure.lateStores }], guard := none } ?_ (fun _ => hHeld) rfl (by kernel_rfl) (fun _ _ _ h => h) (by rfl) ?_ ?_
            rotate_left
            · intro w; go_simp; try with_reducible rfl
            try simp only [Act.put, List.setIfInBounds_toArray, List.set_cons_zero, List.set_cons_succ]
            refine Kt.G.one 10 { dst := none, op := Op.store 130 (Operand.tmp 14) (Operand.tmp 65), type := 0, pos := "bulk.go:142", after := #[{ on := 9, ground := Ground.data }, { on := 7, ground := Ground.data }, { on := 5, ground := Ground.chain }, { on := 0, ground := Ground.phase }, { on := 1, ground := Ground.phase }, { on := 2, ground := Ground.phase }, { on := 3, ground := Ground.phase }, { on := 4, ground := Ground.phase }, { on := 5, ground := Ground.phase }, { on := 6, ground := Ground.phase }, { on := 7, ground := Ground.phase }, { on := 8, ground := Ground.textOnly Departure.lateStores }, { on := 9, ground := Ground.phase }], guard := none } rfl (by kernel_rfl) (by rfl) (fun K hK => ?_)
            have cK := fun i => cell_of_row _ _ i _ _ _ rK; have fK := fun i => frozen_of_row _ _ i _ _ rK
            go_simp
            refine hK.out _ _ (Kt.G.late (by kernel_rfl)) (fun _ => ?_)
            clear hK K
            try simp only [Act.put, List.setIfInBounds_toArray, List.set_cons_zero, List.set_cons_succ]
            refine Kt.G.takeP 11 { dst := some 15, op := Op.assign (Operand.tmp 66), type := 28, pos := "bulk.go:142", after := #[{ on := 8, ground := Ground.data }, { on := 10, ground := Ground.chain }, { on := 0, ground := Ground.phase }, { on := 1, ground := Ground.phase }, { on := 2, ground := Ground.phase }, { on := 3, ground := Ground.phase }, { on := 4, ground := Ground.phase }, { on := 5, ground := Ground.phase }, { on := 6, ground := Ground.phase }, { on := 7, ground := Ground.phase }, { on := 8, ground := Ground.phase }, { on := 9, ground := Ground.phase }, { on := 10, ground := Ground.phase }], guard := none } ?_ (Kt.G.late (by kernel_rfl)) rfl (by kernel_rfl) (fun _ _ _ h => h) (by rfl) ?_ ?_
            rotate_left
            · intro w; go_simp; try with_reducible rfl
            try simp only [Act.put, List.setIfInBounds_toArray, List.set_cons_zero, List.set_cons_succ]
            refine Kt.G.done (by kernel_rfl) (NoPanic.normal ?_) _
            go_wp2_with fail
            go_meet
            case rel =>
              exact ⟨kB, cc, m, q, rfl, (HS0.out.on hHeld.bel).put kB (Nat.lt_of_lt_of_le (ltRow HS0.out.rh) hk0) [.int .i64 cc, .int .i64 m, .int .i64 (ln - m), .int .i64 q], Kt.fill [.int .i64 cc, .int .i64 m, .int .i64 (ln - m), .int .i64 q] rK rfl, Nat.lt_of_lt_of_le (ltRow HS0.out.rh) hk0, hspec⟩
        case rest =>
          obtain ⟨kB, cc, m, q, rfl, hsv, rv, hkB, hspec⟩ := hcut
          have HE1 := Lib.hid (SvE.of hsv rv hkB)
          have HLN := Lib.hid HX.out.l1
          have HKB := Lib.hid hkB
          clear hsv rv hkB HS0 HJ HI
          have q1 := fun i => cell_of_row _ _ i _ _ _ HE1.out.r1
          have q2 := fun i => cell_of_row _ _ i _ _ _ HE1.out.r2
          have q3 := fun i => cell_of_row _ _ i _ _ _ HE1.out.rw
          have q4 := fun i => cell_of_row _ _ i _ _ _ HE1.out.rh
          have q5 := fun i => cell_of_row _ _ i _ _ _ HE1.out.rv
          have f2 := fun i => frozen_of_row _ _ i _ _ HE1.out.r2
          have l1 := ltRow HE1.out.r1
          have l5 := ltRow HE1.out.rv
          rcases hspec with ⟨hag, hm, rfl⟩ | ⟨hag, rfl, rfl⟩
          · have hm' := hm.symm
            subst hm'
            have HDL := Lib.hid (ag_le hag hTM HLN.out)
            rw [if_pos hag] at HSV
            rcases hHD with rfl | rfl | rfl
            · skip
              go_wp2_with fail
              refine (Do_calls bs s cmd ByteArray.empty A1 c1 _ HE1.out.sl.toA HN.out).mono ?_
              rintro e w5 hdo
              obtain ⟨P, t, o, g, hd5⟩ : ∃ b t o g, did bs s cmd ByteArray.empty = (b, t, o, g) := ⟨_, _, _, _, rfl⟩
              obtain ⟨A9, c9, rfl, hda, hb⟩ := hdo.open2 hd5
              have HE5 := Lib.hid ((HE1.out.on hb).next (t := t) hda (ltRow HE1.out.rv))
              have HH5 := Lib.hid (HE1.out.on hb)
              have n1 : kB ≠ w0.heap.size := by have := HKB.out; have := HE1.out.lt; omega
              have n2 : w3.heap.size ≠ w0.heap.size := by have := HE1.out.lt; omega
              have n3 : w3.heap.size + 1 ≠ w0.heap.size := by have := HE1.out.lt; omega
              have n4 : w3.heap.size ≠ kB := by have := HKB.out; omega
              have n5 : w3.heap.size + 1 ≠ kB := by have := HKB.out; omega
              clear hdo hda hb q1 q2 q3 q4 q5 f2 l1 l5
              unfold dkV
              have l1 := ltRow HH5.out.r1
              have f1 := fun i => frozen_of_row _ _ i _ _ HH5.out.r1
              have q1 := fun i => cell_of_row _ _ i _ _ _ HH5.out.r1
              go_upto_block 1 with (fail)
              refine Kt.fold (fun W => SvE w0 A9 c9 P t w3.heap.size ⟨tg, ln, false, 0, cmd⟩ 0 kB cc dl (ln - dl) 0 W) (HE5.out.on (Kt.balloc (Below.refl _ _) (.cells #[.slice A9 P.length c9, .int .i64 t] 24))) ?_
              clear l1 f1 q1 HE5 HH5
              intro W6 hE6
              have HE6 := Lib.hid hE6
              have q1 := fun i => cell_of_row _ _ i _ _ _ hE6.r1
              have q3 := fun i => cell_of_row _ _ i _ _ _ hE6.rw
              have q4 := fun i => cell_of_row _ _ i _ _ _ hE6.rh
              have q5 := fun i => cell_of_row _ _ i _ _ _ hE6.rv
              have f5 := fun i => frozen_of_row _ _ i _ _ hE6.rv
              clear hE6
              by_cases hg : g = 0
              · subst hg
                have HSS : Hid (served bs s ⟨tg, ln, false, 0, cmd⟩ data = (P, t, ⟨#[]⟩, statT ⟨tg, ln - dl, 0⟩, 0)) := Lib.hid (by rw [HSV.out]; simp [hd5]; rfl)
                clear hd5
                go_wp2_with fail
                have HEW := Lib.hid HE6.out
                have hst := writeS_calls ⟨tg, ln - dl, 0⟩
                have hok : OkS ⟨tg, ln - dl, 0⟩ := ⟨HX.out.t1, HX.out.t2, Int.sub_nonneg_of_le HDL.out.2, (lt_sub HX.out.l2 HDL.out.1), (by simp), (by simp)⟩
                have hst2 : writeS ⟨tg, ln - dl, 0⟩ = (statT ⟨tg, ln - dl, 0⟩, 0) := if_pos hok
                rw [hst2] at hst
                refine (hst _).mono ?_
                rintro e w7 ⟨rfl, hb⟩
                have HE7 := Lib.hid (HEW.out.on hb)
                clear hb hst hst2 hok HEW
                have qa := fun i => cell_of_row _ _ i _ _ _ HE7.out.r1
                have qb := fun i => cell_of_row _ _ i _ _ _ HE7.out.r2
                have fb := fun i => frozen_of_row _ _ i _ _ HE7.out.r2
                go_wp2_with fail
                have hW := ld_dk (Kt.fill [.slice A9 P.length c9, .int .i64 t] HE7.out.r2 rfl)
                simp only [World.setCells, Nat.zero_add] at hW
                refine bodyPost_ret (v := .tuple #[.agg #[.slice A9 P.length c9, .int .i64 t], .string ⟨#[]⟩, .string (statT ⟨tg, ln - dl, 0⟩), .int .i64 0]) (by simp [results, Try.results67, asAddr, hW]) rfl ?_
                rw [HSS.out]
                exact HE7.out.ret _ _ _
              · have hg1 : (g != 0) = true := by rw [bne_iff_ne]; exact hg
                have HSS : Hid (served bs s ⟨tg, ln, false, 0, cmd⟩ data = (P, t, ⟨#[]⟩, statT ⟨tg, ln - dl, 1⟩, 0)) := Lib.hid (by rw [HSV.out]; simp [hd5, hg]; try rfl)
                clear hd5 hg
                go_wp2_with fail
                have HEW := Lib.hid (HE6.out.code 1)
                have hst := writeS_calls ⟨tg, ln - dl, 1⟩
                have hok : OkS ⟨tg, ln - dl, 1⟩ := ⟨HX.out.t1, HX.out.t2, Int.sub_nonneg_of_le HDL.out.2, (lt_sub HX.out.l2 HDL.out.1), (by simp), (by simp)⟩
                have hst2 : writeS ⟨tg, ln - dl, 1⟩ = (statT ⟨tg, ln - dl, 1⟩, 0) := if_pos hok
                rw [hst2] at hst
                refine (hst _).mono ?_
                rintro e w7 ⟨rfl, hb⟩
                have HE7 := Lib.hid (HEW.out.on hb)
                clear hb hst hst2 hok HEW
                have qa := fun i => cell_of_row _ _ i _ _ _ HE7.out.r1
                have qb := fun i => cell_of_row _ _ i _ _ _ HE7.out.r2
                have fb := fun i => frozen_of_row _ _ i _ _ HE7.out.r2
                go_wp2_with fail
                have hW := ld_dk (Kt.fill [.slice A9 P.length c9, .int .i64 t] HE7.out.r2 rfl)
                simp only [World.setCells, Nat.zero_add] at hW
                refine bodyPost_ret (v := .tuple #[.agg #[.slice A9 P.length c9, .int .i64 t], .string ⟨#[]⟩, .string (statT ⟨tg, ln - dl, 1⟩), .int .i64 0]) (by simp [results, Try.results67, asAddr, hW]) rfl ?_
                rw [HSS.out]
                exact HE7.out.ret _ _ _
            · skip
              go_wp2_with fail
              refine (Do_calls bs s cmd ByteArray.empty A1 c1 _ HE1.out.sl.toA HN.out).mono ?_
              rintro e w5 hdo
              obtain ⟨P, t, o, g, hd5⟩ : ∃ b t o g, did bs s cmd ByteArray.empty = (b, t, o, g) := ⟨_, _, _, _, rfl⟩
              obtain ⟨A9, c9, rfl, hda, hb⟩ := hdo.open2 hd5
              have HE5 := Lib.hid ((HE1.out.on hb).next (t := t) hda (ltRow HE1.out.rv))
              have HH5 := Lib.hid (HE1.out.on hb)
              have n1 : kB ≠ w0.heap.size := by have := HKB.out; have := HE1.out.lt; omega
              have n2 : w3.heap.size ≠ w0.heap.size := by have := HE1.out.lt; omega
              have n3 : w3.heap.size + 1 ≠ w0.heap.size := by have := HE1.out.lt; omega
              have n4 : w3.heap.size ≠ kB := by have := HKB.out; omega
              have n5 : w3.heap.size + 1 ≠ kB := by have := HKB.out; omega
              clear hdo hda hb q1 q2 q3 q4 q5 f2 l1 l5
              unfold dkV
              have l1 := ltRow HH5.out.r1
              have f1 := fun i => frozen_of_row _ _ i _ _ HH5.out.r1
              have q1 := fun i => cell_of_row _ _ i _ _ _ HH5.out.r1
              go_upto_block 1 with (fail)
              refine Kt.fold (fun W => SvE w0 A9 c9 P t w3.heap.size ⟨tg, ln, false, 0, cmd⟩ 1 kB cc dl (ln - dl) 0 W) (HE5.out.on (Kt.balloc (Below.refl _ _) (.cells #[.slice A9 P.length c9, .int .i64 t] 24))) ?_
              clear l1 f1 q1 HE5 HH5
              intro W6 hE6
              have HE6 := Lib.hid hE6
              have q1 := fun i => cell_of_row _ _ i _ _ _ hE6.r1
              have q3 := fun i => cell_of_row _ _ i _ _ _ hE6.rw
              have q4 := fun i => cell_of_row _ _ i _ _ _ hE6.rh
              have q5 := fun i => cell_of_row _ _ i _ _ _ hE6.rv
              have f5 := fun i => frozen_of_row _ _ i _ _ hE6.rv
              clear hE6
              by_cases hg : g = 0
              · subst hg
                have hbo : 0 ≤ dl ∧ dl ≤ (o.size : Int) := ag_in hag hTM hMS.out hd5
                obtain ⟨b1, b2⟩ := hbo
                have HSS : Hid (served bs s ⟨tg, ln, false, 0, cmd⟩ data = (P, t, (o.extract 0 dl.toNat), statT ⟨tg, ln - dl, 0⟩, 0)) := Lib.hid (by rw [HSV.out]; simp [hd5])
                clear hd5
                go_wp2_with fail
                have HEW := Lib.hid HE6.out
                have hst := writeS_calls ⟨tg, ln - dl, 0⟩
                have hok : OkS ⟨tg, ln - dl, 0⟩ := ⟨HX.out.t1, HX.out.t2, Int.sub_nonneg_of_le HDL.out.2, (lt_sub HX.out.l2 HDL.out.1), (by simp), (by simp)⟩
                have hst2 : writeS ⟨tg, ln - dl, 0⟩ = (statT ⟨tg, ln - dl, 0⟩, 0) := if_pos hok
                rw [hst2] at hst
                refine (hst _).mono ?_
                rintro e w7 ⟨rfl, hb⟩
                have HE7 := Lib.hid (HEW.out.on hb)
                clear hb hst hst2 hok HEW
                have qa := fun i => cell_of_row _ _ i _ _ _ HE7.out.r1
                have qb := fun i => cell_of_row _ _ i _ _ _ HE7.out.r2
                have fb := fun i => frozen_of_row _ _ i _ _ HE7.out.r2
                go_wp2_with fail
                have hW := ld_dk (Kt.fill [.slice A9 P.length c9, .int .i64 t] HE7.out.r2 rfl)
                simp only [World.setCells, Nat.zero_add] at hW
                refine bodyPost_ret (v := .tuple #[.agg #[.slice A9 P.length c9, .int .i64 t], .string (o.extract 0 dl.toNat), .string (statT ⟨tg, ln - dl, 0⟩), .int .i64 0]) (by simp [results, Try.results67, asAddr, hW]) rfl ?_
                rw [HSS.out]
                exact HE7.out.ret _ _ _
              · have hg1 : (g != 0) = true := by rw [bne_iff_ne]; exact hg
                have HSS : Hid (served bs s ⟨tg, ln, false, 0, cmd⟩ data = (P, t, ⟨#[]⟩, statT ⟨tg, ln - dl, 1⟩, 0)) := Lib.hid (by rw [HSV.out]; simp [hd5, hg]; try rfl)
                clear hd5 hg
                go_wp2_with fail
                have HEW := Lib.hid (HE6.out.code 1)
                have hst := writeS_calls ⟨tg, ln - dl, 1⟩
                have hok : OkS ⟨tg, ln - dl, 1⟩ := ⟨HX.out.t1, HX.out.t2, Int.sub_nonneg_of_le HDL.out.2, (lt_sub HX.out.l2 HDL.out.1), (by simp), (by simp)⟩
                have hst2 : writeS ⟨tg, ln - dl, 1⟩ = (statT ⟨tg, ln - dl, 1⟩, 0) := if_pos hok
                rw [hst2] at hst
                refine (hst _).mono ?_
                rintro e w7 ⟨rfl, hb⟩
                have HE7 := Lib.hid (HEW.out.on hb)
                clear hb hst hst2 hok HEW
                have qa := fun i => cell_of_row _ _ i _ _ _ HE7.out.r1
                have qb := fun i => cell_of_row _ _ i _ _ _ HE7.out.r2
                have fb := fun i => frozen_of_row _ _ i _ _ HE7.out.r2
                go_wp2_with fail
                have hW := ld_dk (Kt.fill [.slice A9 P.length c9, .int .i64 t] HE7.out.r2 rfl)
                simp only [World.setCells, Nat.zero_add] at hW
                refine bodyPost_ret (v := .tuple #[.agg #[.slice A9 P.length c9, .int .i64 t], .string ⟨#[]⟩, .string (statT ⟨tg, ln - dl, 1⟩), .int .i64 0]) (by simp [results, Try.results67, asAddr, hW]) rfl ?_
                rw [HSS.out]
                exact HE7.out.ret _ _ _
            · by_cases hz : (data.size : Int) = ln
              · have hz1 : ((data.size : Int) != ln) = false := by rw [bne_eq_false_iff_eq]; exact hz
                have b1 := HDL.out.1
                have b2 : dl ≤ (data.size : Int) := by rw [hz]; exact HDL.out.2
                have hz0 := hz
                go_wp2_with fail
                refine (Do_calls bs s cmd (data.extract 0 dl.toNat) A1 c1 _ HE1.out.sl.toA HN.out).mono ?_
                rintro e w5 hdo
                obtain ⟨P, t, o, g, hd5⟩ : ∃ b t o g, did bs s cmd (data.extract 0 dl.toNat) = (b, t, o, g) := ⟨_, _, _, _, rfl⟩
                obtain ⟨A9, c9, rfl, hda, hb⟩ := hdo.open2 hd5
                have HE5 := Lib.hid ((HE1.out.on hb).next (t := t) hda (ltRow HE1.out.rv))
                have HH5 := Lib.hid (HE1.out.on hb)
                have n1 : kB ≠ w0.heap.size := by have := HKB.out; have := HE1.out.lt; omega
                have n2 : w3.heap.size ≠ w0.heap.size := by have := HE1.out.lt; omega
                have n3 : w3.heap.size + 1 ≠ w0.heap.size := by have := HE1.out.lt; omega
                have n4 : w3.heap.size ≠ kB := by have := HKB.out; omega
                have n5 : w3.heap.size + 1 ≠ kB := by have := HKB.out; omega
                clear hdo hda hb q1 q2 q3 q4 q5 f2 l1 l5
                unfold dkV
                have l1 := ltRow HH5.out.r1
                have f1 := fun i => frozen_of_row _ _ i _ _ HH5.out.r1
                have q1 := fun i => cell_of_row _ _ i _ _ _ HH5.out.r1
                go_upto_block 1 with (fail)
                refine Kt.fold (fun W => SvE w0 A9 c9 P t w3.heap.size ⟨tg, ln, false, 0, cmd⟩ 2 kB cc dl (ln - dl) 0 W) (HE5.out.on (Kt.balloc (Below.refl _ _) (.cells #[.slice A9 P.length c9, .int .i64 t] 24))) ?_
                clear l1 f1 q1 HE5 HH5
                intro W6 hE6
                have HE6 := Lib.hid hE6
                have q1 := fun i => cell_of_row _ _ i _ _ _ hE6.r1
                have q3 := fun i => cell_of_row _ _ i _ _ _ hE6.rw
                have q4 := fun i => cell_of_row _ _ i _ _ _ hE6.rh
                have q5 := fun i => cell_of_row _ _ i _ _ _ hE6.rv
                have f5 := fun i => frozen_of_row _ _ i _ _ hE6.rv
                clear hE6
                by_cases hg : g = 0
                · subst hg
                  have HSS : Hid (served bs s ⟨tg, ln, false, 0, cmd⟩ data = (P, t, ⟨#[]⟩, statT ⟨tg, ln - dl, 0⟩, 0)) := Lib.hid (by rw [HSV.out]; simp [hd5, hz]; rfl)
                  clear hd5
                  go_wp2_with fail
                  have HEW := HE6
                  have hst := writeS_calls ⟨tg, ln - dl, 0⟩
                  have hok : OkS ⟨tg, ln - dl, 0⟩ := ⟨HX.out.t1, HX.out.t2, Int.sub_nonneg_of_le HDL.out.2, (lt_sub HX.out.l2 HDL.out.1), (by simp), (by simp)⟩
                  have hst2 : writeS ⟨tg, ln - dl, 0⟩ = (statT ⟨tg, ln - dl, 0⟩, 0) := if_pos hok
                  rw [hst2] at hst
                  refine (hst _).mono ?_
                  rintro e w7 ⟨rfl, hb⟩
                  have HE7 := Lib.hid (HEW.out.on hb)
                  clear hb hst hst2 hok HEW
                  have qa := fun i => cell_of_row _ _ i _ _ _ HE7.out.r1
                  have qb := fun i => cell_of_row _ _ i _ _ _ HE7.out.r2
                  have fb := fun i => frozen_of_row _ _ i _ _ HE7.out.r2
                  go_wp2_with fail
                  have hW := ld_dk (Kt.fill [.slice A9 P.length c9, .int .i64 t] HE7.out.r2 rfl)
                  simp only [World.setCells, Nat.zero_add] at hW
                  refine bodyPost_ret (v := .tuple #[.agg #[.slice A9 P.length c9, .int .i64 t], .string ⟨#[]⟩, .string (statT ⟨tg, ln - dl, 0⟩), .int .i64 0]) (by simp [results, Try.results67, asAddr, hW]) rfl ?_
                  rw [HSS.out]
                  exact HE7.out.ret _ _ _
                · have hg1 : (g != 0) = true := by rw [bne_iff_ne]; exact hg
                  have HSS : Hid (served bs s ⟨tg, ln, false, 0, cmd⟩ data = (P, t, ⟨#[]⟩, statT ⟨tg, ln - dl, 1⟩, 0)) := Lib.hid (by rw [HSV.out]; simp [hd5, hg, hz]; try rfl)
                  clear hd5 hg
                  go_wp2_with fail
                  have HEW := Lib.hid (HE6.out.code 1)
                  have hst := writeS_calls ⟨tg, ln - dl, 1⟩
                  have hok : OkS ⟨tg, ln - dl, 1⟩ := ⟨HX.out.t1, HX.out.t2, Int.sub_nonneg_of_le HDL.out.2, (lt_sub HX.out.l2 HDL.out.1), (by simp), (by simp)⟩
                  have hst2 : writeS ⟨tg, ln - dl, 1⟩ = (statT ⟨tg, ln - dl, 1⟩, 0) := if_pos hok
                  rw [hst2] at hst
                  refine (hst _).mono ?_
                  rintro e w7 ⟨rfl, hb⟩
                  have HE7 := Lib.hid (HEW.out.on hb)
                  clear hb hst hst2 hok HEW
                  have qa := fun i => cell_of_row _ _ i _ _ _ HE7.out.r1
                  have qb := fun i => cell_of_row _ _ i _ _ _ HE7.out.r2
                  have fb := fun i => frozen_of_row _ _ i _ _ HE7.out.r2
                  go_wp2_with fail
                  have hW := ld_dk (Kt.fill [.slice A9 P.length c9, .int .i64 t] HE7.out.r2 rfl)
                  simp only [World.setCells, Nat.zero_add] at hW
                  refine bodyPost_ret (v := .tuple #[.agg #[.slice A9 P.length c9, .int .i64 t], .string ⟨#[]⟩, .string (statT ⟨tg, ln - dl, 1⟩), .int .i64 0]) (by simp [results, Try.results67, asAddr, hW]) rfl ?_
                  rw [HSS.out]
                  exact HE7.out.ret _ _ _
              · have hz1 : ((data.size : Int) != ln) = true := by rw [bne_iff_ne]; exact hz
                have HSS : Hid (served bs s ⟨tg, ln, false, 0, cmd⟩ data = (bs, s, ByteArray.empty, ByteArray.empty, 3)) := Lib.hid (by rw [HSV.out, if_pos ⟨rfl, hz⟩])
                clear hz hag hTM
                go_wp2_with fail
                have hW := ld_dk (Kt.fill [.slice A1 bs.length c1, .int .i64 s] HE1.out.r2 rfl)
                simp only [World.setCells, Nat.zero_add] at hW
                refine bodyPost_ret (v := .tuple #[.agg #[.slice A1 bs.length c1, .int .i64 s], .string ⟨#[]⟩, .string ⟨#[]⟩, .int .i64 3]) (by simp [results, Try.results67, asAddr, hW]) rfl ?_
                rw [HSS.out]
                exact HE1.out.ret _ _ _
          · rw [if_neg hag] at HSV
            clear hag hTM
            rcases hHD with rfl | rfl | rfl
            all_goals
              go_wp2_with fail
              have HEW := Lib.hid HE1.out
              have hst := writeS_calls ⟨tg, ln, 2⟩
              have hok : OkS ⟨tg, ln, 2⟩ := ⟨HX.out.t1, HX.out.t2, HLN.out, HX.out.l2, (by simp), (by simp)⟩
              have hst2 : writeS ⟨tg, ln, 2⟩ = (statT ⟨tg, ln, 2⟩, 0) := if_pos hok
              rw [hst2] at hst
              refine (hst _).mono ?_
              rintro e w7 ⟨rfl, hb⟩
              have HE7 := Lib.hid (HEW.out.on hb)
              clear hb hst hst2 hok HEW q1 q2 f2
              have q1 := fun i => cell_of_row _ _ i _ _ _ HE7.out.r1
              have q2 := fun i => cell_of_row _ _ i _ _ _ HE7.out.r2
              have f2 := fun i => frozen_of_row _ _ i _ _ HE7.out.r2
              go_wp2_with fail
              have hW := ld_dk (Kt.fill [.slice A1 bs.length c1, .int .i64 s] HE7.out.r2 rfl)
              simp only [World.setCells, Nat.zero_add] at hW
              refine bodyPost_ret (v := .tuple #[.agg #[.slice A1 bs.length c1, .int .i64 s], .string ⟨#[]⟩, .string (statT ⟨tg, ln, 2⟩), .int .i64 0]) (by simp [results, Try.results67, asAddr, hW]) rfl ?_
              rw [HSV.out]
              exact HE7.out.ret _ _ _
    · have hu' : (un != 0) = true := by rw [bne_iff_ne]; exact hu
      have HS : Hid (served bs s ⟨tg, ln, false, un, cmd⟩ data = (bs, s, ByteArray.empty, ByteArray.empty, 8)) := Lib.hid (by unfold served; rw [if_neg (by rw [HK.out]; decide), if_pos hu])
      have q1 := fun i => cell_of_row _ _ i _ _ _ HX3.out.r1
      have q2 := fun i => cell_of_row _ _ i _ _ _ HX3.out.r2
      have f2 := fun i => frozen_of_row _ _ i _ _ HX3.out.r2
      have l1 := ltRow HX3.out.r1
      have l2 := ltRow HX3.out.r2
      clear hu
      go_wp2_with fail
      have hW := ld_dk (Kt.fillA [.slice A1 bs.length c1, .int .i64 s] HX3.out.r2 rfl (.cells #[.int .i64 tg, .int .i64 ln, .bool false, .int .i64 un, .string cmd] 75))
      simp only [World.setCells, Nat.zero_add] at hW
      refine bodyPost_ret (v := .tuple #[.agg #[.slice A1 bs.length c1, .int .i64 s], .string ⟨#[]⟩, .string ⟨#[]⟩, .int .i64 8]) (by simp [results, Try.results67, asAddr, hW]) rfl ?_
      rw [HS.out]
      exact (HX3.out.ret _ _ _).alloc _
  · have hk' : (chkD bs s != 0) = true := by rw [bne_iff_ne]; exact hk
    have HS : Hid (served bs s ⟨tg, ln, false, un, cmd⟩ data = (bs, s, ByteArray.empty, ByteArray.empty, chkD bs s)) := Lib.hid (by unfold served; rw [if_pos hk])
    clear hk
    go_wp2_with fail
    have hW := ld_dk (row_put (x' := .slice A1 bs.length c1) (y' := .int .i64 s) HX2.out.r2)
    refine bodyPost_ret (v := .tuple #[.agg #[.slice A1 bs.length c1, .int .i64 s], .string ⟨#[]⟩, .string ⟨#[]⟩, .int .i64 (chkD bs s)]) (by simp [results, Try.results67, asAddr, hW]) rfl ?_
    rw [HS.out]
    exact HX2.out.ret _ _ _
-- END SERVE
theorem serve_calls (bs : List ByteArray) (s : Int) (x : Wr) (data : ByteArray) (A : Option Addr) (cap : Nat) (w0 : World) (h : DkA w0 A cap bs) (hn : bs.length ≤ 8796093022208) (hx : OkW x) :
    Calls Try.prog 67 #[dkV A cap bs s, .string (wrapT x), .string data] w0 (SvIs w0 (served bs s x data)) := by
  obtain ⟨tg, ln, inn, un, cmd⟩ := x
  cases inn
  · exact serve_false bs s tg ln un cmd data A cap w0 h hn hx
  · exact serve_true bs s tg ln un cmd data A cap w0 h hn hx
end Go.Proofs.Ytafiedhjjnapoaa
