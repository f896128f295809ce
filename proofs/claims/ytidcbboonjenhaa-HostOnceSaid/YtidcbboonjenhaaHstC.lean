/- host: copied walked. -/
import Derived.Test.YtidcbboonjenhaaHstB
import Derived.Test.YtidcbboonjenhaaApd
namespace Go.Proofs.Ytidcbboonjenhaa
open Go.RowKit Classical Go.Proofs.Ytidcbboonjenhaa.Slt
/-- a machine that can be read -/
structure MA (W : World) (M : Mv) : Prop where
  k : Mk M
  c : Kt.Ar W M.C 3 M.r.cs.length (cvs M.r.cs)
  e : Kt.Ar W M.E 3 M.v.cs.length (cvs M.v.cs)
theorem MA.on {W W' : World} {M : Mv} (h : MA W M) (hb : Below W.heap.size W W') : MA W' M := ⟨h.k, h.c.on hb, h.e.on hb⟩
/-- .. in memory of one's own -/
structure MO (W : World) (B : Nat) (M : Mv) : Prop where
  k : Mk M
  c : Kt.Sl W B 96 3 M.C M.r.cs.length (cvs M.r.cs)
  e : Kt.Sl W B 96 3 M.E M.v.cs.length (cvs M.v.cs)
theorem MO.on {W W' : World} {B : Nat} {M : Mv} (h : MO W B M) (hb : Below W.heap.size W W') : MO W' B M := ⟨h.k, h.c.on hb, h.e.on hb⟩
theorem MO.ma {W : World} {B : Nat} {M : Mv} (h : MO W B M) : MA W M := ⟨h.k, Kt.Ar.of_sl h.c, Kt.Ar.of_sl h.e⟩
theorem MO.mono {W : World} {B B' : Nat} {M : Mv} (h : MO W B M) (hb : B' ≤ B) : MO W B' M := ⟨h.k, h.c.mono hb, h.e.mono hb⟩
/-- two machines that hold the same -/
def Mv.sm (M M' : Mv) : Prop := M'.r = M.r ∧ M'.v = M.v ∧ M'.l = M.l
def CpIs (M : Mv) (w : World) (en : Ending) (w' : World) : Prop := ∃ C E, en = .returned (.agg (mA { M with C := C, E := E })) ∧ MO w' w.heap.size { M with C := C, E := E } ∧ Below w.heap.size w w'
structure RC2 (w : World) (M : Mv) (W : World) : Prop where
  b0 : Mb w.heap.size M W
  b1 : Mb (w.heap.size + 1) zM W
  bel : Below w.heap.size w W
theorem RC2.on {w : World} {M : Mv} {W W' : World} (h : RC2 w M W) (hb : Below W.heap.size W W') : RC2 w M W' := ⟨h.b0.on hb, h.b1.on hb, Kt.bthen h.bel hb⟩
theorem RC2.start (w : World) (M : Mv) : RC2 w M ((w.alloc (.cells (mA M) 45)).alloc (.cells (mA zM) 45)) := by
  have h1 : Mb w.heap.size M (w.alloc (.cells (mA M) 45)) := heap_alloc_new w _
  have h2 : Mb (w.alloc (.cells (mA M) 45)).heap.size zM ((w.alloc (.cells (mA M) 45)).alloc (.cells (mA zM) 45)) := heap_alloc_new _ _
  have e1 : (w.alloc (.cells (mA M) 45)).heap.size = w.heap.size + 1 := by simp
  rw [e1] at h2
  exact ⟨h1.on (Kt.balloc (Below.refl _ _) _), h2, Kt.balloc (Kt.balloc (Below.refl _ _) _) _⟩
theorem one_sl (A : Option Addr) (n c : Nat) : (Value.slice A n c).oneCell' = true := rfl
set_option maxRecDepth 100000 in
set_option maxHeartbeats 3200000 in
theorem hcopied_calls (M : Mv) (w : World) (hM : MA w M) (h1 : M.r.cs.length ≤ 5864062014805) (h2 : M.v.cs.length ≤ 5864062014805) : Calls Try.prog 26 #[.agg (mA M)] w (CpIs M w) := by
  have Z0 := zero_machine
  have HM := Lib.hid hM
  have HR := Lib.hid (RC2.start w M)
  have b0 := HR.out.b0
  clear hM
  go_enter Try.func26, Try.ntmps26
  go_upto_region 1 with (fail)
  refine Kt.fold (fun W => RC2 w M W) HR.out ?_
  clear HR b0
  intro W1 hr
  have HR := Lib.hid hr
  have HA := Lib.hid (HM.out.on hr.bel)
  have q0 : W1.cell? ⟨w.heap.size, 0, none⟩ = some M.C := hr.b0.cell 0
  clear hr
  go_upto_region 2 with (
    refine Kt.append_ar (by rfl) (.const (.slice none 0 0)) (.tmp 5) 33 rfl W1.heap.size 96 (.agg #[.int .u64 0, .int .i64 0, .bool false]) 3 24 infoCell Try.underlying33 rfl (by decide) _ 0 [] rfl (Kt.Sl.nil _ _ _ _) _ _ _ rfl HA.out.c (cvs_one _) (by unfold maxLen; omega) (by omega) (Nat.le_refl _) ?_
    intro A2 c2 w2 hs2 hb2 _ _ _
    have hr2 := HR.out.on hb2
    have q2 : w2.cell? ⟨w.heap.size, 0, none⟩ = some M.C := hr2.b0.cell 0
    have f2 := hr2.b0.free 0)
  have e2 := HA.out.e.on hb2
  rw [Nat.zero_add, List.nil_append] at hs2
  have hne : ∀ k, (Value.slice A2 M.r.cs.length c2).ownBlock = some k → k ≠ w.heap.size := fun k hk e => by have h3 := (hs2.lt k hk).1; have h4 := HR.out.b0.lt; omega
  have hs3 := (hs2.set (p := ⟨w.heap.size, 0, none⟩) hne (.slice A2 M.r.cs.length c2)).mono (B' := w.heap.size + 2) HR.out.b1.lt
  refine Kt.fold (fun W => Mb w.heap.size { M with C := .slice A2 M.r.cs.length c2 } W ∧ Mb (w.heap.size + 1) zM W ∧ Below w.heap.size w W ∧ Kt.Sl W (w.heap.size + 2) 96 3 (.slice A2 M.r.cs.length c2) M.r.cs.length (cvs M.r.cs) ∧ Kt.Ar W M.E 3 M.v.cs.length (cvs M.v.cs)) ⟨hr2.b0.setC _, (Below.heap_setCell _ _ _ _ (by simp)).trans hr2.b1, hr2.bel.setCell (Nat.le_refl _) _, hs3, ?_⟩ ?_
  · have := HM.out.e.on (hr2.bel.setCell (p := ⟨w.heap.size, 0, none⟩) (Nat.le_refl _) (.slice A2 M.r.cs.length c2))
    exact this
  clear hs2 hb2 hr2 q2 f2 e2 hne hs3 q0 HR HA
  rintro W2 ⟨hb0, hb1, hbl, hsl, har⟩
  have HB0 := Lib.hid hb0; have HB1 := Lib.hid hb1; have HBL := Lib.hid hbl; have HSL := Lib.hid hsl; have HAR := Lib.hid har
  have q0 : W2.cell? ⟨w.heap.size, 6, none⟩ = some M.E := hb0.cell 6
  clear hb0 hb1 hbl hsl har
  go_upto_region 3 with (
    refine Kt.append_ar (by rfl) (.const (.slice none 0 0)) (.tmp 11) 33 rfl W2.heap.size 96 (.agg #[.int .u64 0, .int .i64 0, .bool false]) 3 24 infoCell Try.underlying33 rfl (by decide) _ 0 [] rfl (Kt.Sl.nil _ _ _ _) _ _ _ rfl HAR.out (cvs_one _) (by unfold maxLen; omega) (by omega) (Nat.le_refl _) ?_
    intro A3 c3 w3 hs3 hb3 _ _ _
    have b3 := HB0.out.on hb3
    have q3 : w3.cell? ⟨w.heap.size, 6, none⟩ = some M.E := b3.cell 6
    have f3 := b3.free 6)
  rw [Nat.zero_add, List.nil_append] at hs3
  have hne : ∀ k, (Value.slice A3 M.v.cs.length c3).ownBlock = some k → k ≠ w.heap.size := fun k hk e => by have h3 := (hs3.lt k hk).1; have h4 := HB0.out.lt; omega
  have hne2 : ∀ k, (Value.slice A2 M.r.cs.length c2).ownBlock = some k → k ≠ w.heap.size := fun k hk e => by have h3 := (HSL.out.lt k hk).1; omega
  have h2b : w.heap.size + 2 ≤ W2.heap.size := HB1.out.lt
  have hs4 := (hs3.set (p := ⟨w.heap.size, 6, none⟩) hne (.slice A3 M.v.cs.length c3)).mono (B' := w.heap.size + 2) h2b
  have hs5 := (HSL.out.on hb3).set (p := ⟨w.heap.size, 6, none⟩) hne2 (.slice A3 M.v.cs.length c3)
  have b4 := b3.setE (.slice A3 M.v.cs.length c3)
  have b5 : Mb (w.heap.size + 1) zM (w3.setCell ⟨w.heap.size, 6, none⟩ (.slice A3 M.v.cs.length c3)) := (Below.heap_setCell _ _ _ _ (by simp)).trans (HB1.out.on hb3)
  have b6 := (Kt.bthen HBL.out hb3).setCell (p := ⟨w.heap.size, 6, none⟩) (Nat.le_refl _) (.slice A3 M.v.cs.length c3)
  have hk : Mk { M with C := .slice A2 M.r.cs.length c2, E := .slice A3 M.v.cs.length c3 } := ⟨HM.out.k.l, rfl, rfl⟩
  have HK := Lib.hid hk; have H4 := Lib.hid hs4; have H5 := Lib.hid hs5; have H6 := Lib.hid b6
  clear hs3 hb3 b3 q3 f3 hne hne2 h2b hs4 hs5 b6 q0
  generalize w3.setCell ⟨w.heap.size, 6, none⟩ (.slice A3 M.v.cs.length c3) = W4 at *
  go_wp2_with (first
    | (refine load_mb rfl (.tmp 1) rfl w.heap.size rfl _ b4 hk ?_)
    | (refine store_mb rfl (.tmp 2) (.tmp 15) rfl (w.heap.size + 1) rfl _ rfl hk zM b5 zM_ok ?_
       intro W5 hW5 hU5))
  refine bodyPost_ret (v := .agg (mA { M with C := .slice A2 M.r.cs.length c2, E := .slice A3 M.v.cs.length c3 })) (by simp [results, Try.results26, asAddr, ld_mb hW5 hk Try.underlying45]) rfl ?_
  have keep : ∀ {V : Value} {n : Nat} {xs : List Value}, Kt.Sl W4 (w.heap.size + 2) 96 3 V n xs → Kt.Sl W5 w.heap.size 96 3 V n xs := fun h => (h.keep fun k hk => hU5.other k (by have := (h.lt k hk).1; omega) (h.lt k hk).2).mono (by omega)
  exact ⟨_, _, rfl, ⟨hk, keep H5.out, keep H4.out⟩, H6.out.trans (hU5.below.mono (by omega))⟩
end Go.Proofs.Ytidcbboonjenhaa
