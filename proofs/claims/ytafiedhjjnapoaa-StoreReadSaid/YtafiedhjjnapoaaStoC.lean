/- The walks of package store: a cycle. -/
import Derived.Test.YtafiedhjjnapoaaStoW
namespace Go.Proofs.Ytafiedhjjnapoaa
open Go.RowKit Go.Shelf Go.Proofs.Ytafiedhjjnapoaa.Scs Go.Proofs.Ytafiedhjjnapoaa.Blk Go.Proofs.Ytafiedhjjnapoaa.Sto
/-- a cycle's box: the link, the fates that are left, how many were used -/
structure CB (w0 : World) (kc : Nat) (A : Option Addr) (c : Nat) (FA : Option Addr) (fc : Nat) (l : Ln) (fs : List Int) (u : Nat) (v : Int) (W : World) : Prop where
  row : W.heap[kc]? = some (.cells #[.slice A l.bs.length c, .int .i64 l.s, .int .i64 l.tag, .slice FA (fs.length - u) fc, .int .i64 v] 96 (0, 0))
  blk : DkS W (w0.heap.size + 4) A c l.bs
  ne : ∀ k, (Value.slice A l.bs.length c).ownBlock = some k → k ≠ kc
  fts : Kt.Ar w0 (.slice FA (fs.length - u) fc) 1 (fs.length - u) (ics (fs.drop u))
  bel : Below w0.heap.size w0 W
  ge4 : w0.heap.size + 4 ≤ kc
  ule : u ≤ fs.length
section
variable {w0 W W' : World} {kc : Nat} {A FA : Option Addr} {c fc : Nat} {l : Ln} {fs : List Int} {u : Nat} {v : Int}
theorem CB.ge (h : CB w0 kc A c FA fc l fs u v W) : w0.heap.size ≤ kc := Nat.le_trans (Nat.le_add_right _ _) h.ge4
theorem CB.on (h : CB w0 kc A c FA fc l fs u v W) (hb : Below W.heap.size W W') : CB w0 kc A c FA fc l fs u v W' :=
  ⟨Kt.row_on hb h.row, h.blk.on hb, h.ne, h.fts, Kt.bthen h.bel hb, h.ge4, h.ule⟩
theorem CB.lt (h : CB w0 kc A c FA fc l fs u v W) : kc < W.heap.size := (Array.getElem?_eq_some_iff.1 h.row).1
theorem CB.al (h : CB w0 kc A c FA fc l fs u v W) (o : Obj) : CB w0 kc A c FA fc l fs u v (W.alloc o) := h.on (Kt.balloc (Below.refl _ W) o)
theorem CB.far (h : CB w0 kc A c FA fc l fs u v W) : Kt.Ar W (.slice FA (fs.length - u) fc) 1 (fs.drop u).length (ics (fs.drop u)) := by
  rw [List.length_drop]; exact h.fts.on h.bel
theorem fates_from {k : Nat} (h : Kt.Ar w0 (.slice FA (fs.length - u) fc) 1 (fs.length - u) (ics (fs.drop u))) (hk : k ≤ fs.length - u) :
    Kt.Ar w0 (.slice (if fc = k then FA else Option.map (fun x => x.add k) FA) (fs.length - (u + k)) (fc - k)) 1 (fs.length - (u + k)) (ics (fs.drop (u + k))) := by
  obtain ⟨A', c', e, hnc, hx⟩ := h.form
  injection e with e1 e2 e3
  subst e1 e3
  rw [← Nat.sub_sub]
  refine ⟨by rw [ics_len, List.length_drop]; omega, _, _, rfl, by omega, fun h0 => ?_⟩
  obtain ⟨b, o, rfl, hb, hc⟩ := hx (by omega)
  rw [if_neg (by omega)]
  refine ⟨b, o + k, ?_, hb, fun j hj => ?_⟩
  · simp only [Option.map_some, Addr.add]
    by_cases h1 : k = 0
    · simp [h1]
    · simp [h1]
  · have hj' := hj
    rw [ics_len, List.length_drop] at hj'
    rw [Nat.add_assoc, hc (k + j) (by rw [ics_len, List.length_drop]; omega)]
    simp [ics, Nat.add_assoc]
theorem CB.used (h : CB w0 kc A c FA fc l fs u v W) (v' : Int) : CB w0 kc A c FA fc l fs u v' (W.setCell ⟨kc, 4, none⟩ (.int .i64 v')).drew := by
  refine ⟨heap_setCell_same _ _ _ _ _ _ h.row, Kt.Sl.drew (Kt.Sl.set h.blk (fun j hj => h.ne j hj) _), h.ne, h.fts, (Kt.bset h.bel h.ge _).drew, h.ge4, h.ule⟩
theorem CB.fate (h : CB w0 kc A c FA fc l fs u v W) {k : Nat} (hk : k ≤ fs.length - u) :
    CB w0 kc A c (if fc = k then FA else Option.map (fun x => x.add k) FA) (fc - k) l fs (u + k) v (W.setCell ⟨kc, 3, none⟩ (.slice (if fc = k then FA else Option.map (fun x => x.add k) FA) (fs.length - u - k) (fc - k))).drew := by
  have hu := h.ule
  rw [Nat.sub_sub]
  exact ⟨heap_setCell_same _ _ _ _ _ _ h.row, Kt.Sl.drew (Kt.Sl.set h.blk (fun j hj => h.ne j hj) _), h.ne, fates_from h.fts hk, (Kt.bset h.bel h.ge _).drew, h.ge4, by omega⟩
theorem CB.disk (h : CB w0 kc A c FA fc l fs u v W) {A' : Option Addr} {c' B : Nat} {P : List ByteArray} (hs : DkS W B A' c' P) (hB : kc < B) (s : Int) :
    CB w0 kc A' c' FA fc ⟨P, s, l.tag⟩ fs u v ((W.setCell ⟨kc, 0, none⟩ (.slice A' P.length c')).setCell ⟨kc, 1, none⟩ (.int .i64 s)) := by
  have hge := h.ge4
  refine ⟨heap_setCell_same _ _ _ _ _ _ (heap_setCell_same _ _ _ _ _ _ h.row), ?_, fun k hk => by have := (hs.lt k hk).1; omega, h.fts, Kt.bset (Kt.bset h.bel h.ge _) h.ge _, h.ge4, h.ule⟩
  exact Kt.Sl.mono (Kt.Sl.low (Kt.Sl.low hs (p := ⟨kc, 0, none⟩) hB _) (p := ⟨kc, 1, none⟩) hB _) (by omega)
end
theorem fated_of {f : Int} (h : 1 ≤ f ∧ f ≤ 5) : fated f := by unfold fated; omega
theorem args_ok {t : ByteArray} {fs : List Int} {u : Nat} (hf : OkF fs) (ht : t.size ≤ 4096) : OkArgs t 64 (fs.drop u) := by
  refine ⟨by decide, by decide, ht, ?_, by rw [List.length_drop]; have := hf.n; omega, fun k hk => fated_of (hf.all _ (List.mem_of_mem_drop (List.getElem_mem hk)))⟩
  rw [show (64 : Int).toNat = 64 from rfl, chop_len (by decide)]; omega
set_option maxRecDepth 100000 in
set_option maxHeartbeats 3200000 in
theorem ccarry_calls (w0 : World) (kc : Nat) (A : Option Addr) (c : Nat) (FA : Option Addr) (fc : Nat) (l : Ln) (fs : List Int) (u : Nat) (t : ByteArray) (W : World) (h : CB w0 kc A c FA fc l fs u u W) (hf : OkF fs) (ht : t.size ≤ 4096) :
    Calls Try.prog 63 #[.pointer (some ⟨kc, 0, none⟩), .string t] W fun e w' => e = .returned (.tuple #[.string ⟨(car t (fs.drop u)).2.1.toArray⟩, .int .i64 (car t (fs.drop u)).1]) ∧
      ∃ FA' fc', CB w0 kc A c FA' fc' l fs (u + (car t (fs.drop u)).2.2) ((u + (car t (fs.drop u)).2.2 : Nat) : Int) w' ∧ Upd kc W w' := by
  have hu := h.ule
  have hfn := hf.n
  have HH := Lib.hid h
  have HC := Lib.hid (fun W (hW : CB w0 kc A c FA fc l fs u u W) => carry_calls t 64 (fs.drop u) (.slice FA (fs.length - u) fc) W hW.far)
  have HK := Lib.hid (args_ok (u := u) hf ht)
  have q := fun i => cell_of_row _ _ i _ _ _ h.row
  clear h hf ht
  go_enter Try.func63, Try.ntmps63
  go_wp2_with fail
  refine (HC.out _ HH.out).mono ?_
  rintro e w1 (⟨_, rfl, hb⟩ | ⟨hno, _⟩)
  · have HH1 := Lib.hid (HH.out.on hb)
    have HU1 := Lib.hid (Upd.of_below hb HH.out.lt)
    have hle : (car t (fs.drop u)).2.2 ≤ fs.length - u := by have := car_used_le t (fs.drop u); rwa [List.length_drop] at this
    obtain ⟨cd, hcd⟩ : ∃ x, x = (car t (fs.drop u)).1 := ⟨_, rfl⟩
    obtain ⟨gt, hgt⟩ : ∃ x, x = (car t (fs.drop u)).2.1 := ⟨_, rfl⟩
    obtain ⟨us, hus⟩ : ∃ x, x = (car t (fs.drop u)).2.2 := ⟨_, rfl⟩
    obtain ⟨dn, hdn⟩ : ∃ x, x = doneOf (chop 64 t) (carF (p0 (chop 64 t)) 0 0 (fs.drop u)).2.1 := ⟨_, rfl⟩
    have hv : carOf (chop (64 : Int).toNat t) (carF (p0 (chop (64 : Int).toNat t)) 0 0 (fs.drop u)) = .agg #[.int .i64 cd, .string ⟨gt.toArray⟩, .int .i64 (dn : Int), .int .i64 (us : Int)] := by
      rw [hcd, hgt, hus, hdn]; rfl
    rw [hv]
    rw [← hus] at hle
    have HCD : Hid (car t (fs.drop u) = (cd, gt, us)) := Lib.hid (by rw [hcd, hgt, hus])
    clear hv hcd hgt hus hdn hb HC q
    have HU2 := Lib.hid (HU1.out.alloc HH.out.lt (.cells #[.int .i64 cd, .string ⟨gt.toArray⟩, .int .i64 (dn : Int), .int .i64 (us : Int)] 111))
    have HH2 := Lib.hid (HH1.out.al (.cells #[.int .i64 cd, .string ⟨gt.toArray⟩, .int .i64 (dn : Int), .int .i64 (us : Int)] 111))
    have rc : (w1.alloc (.cells #[.int .i64 cd, .string ⟨gt.toArray⟩, .int .i64 (dn : Int), .int .i64 (us : Int)] 111)).heap[w1.heap.size]? = some (.cells #[.int .i64 cd, .string ⟨gt.toArray⟩, .int .i64 (dn : Int), .int .i64 (us : Int)] 111 (0, 0)) := heap_alloc_new w1 _
    have hlt := HH1.out.lt
    go_upto_region 4 with (fail)
    obtain ⟨g1, hg1⟩ : ∃ g, g = w1.heap.size := ⟨_, rfl⟩
    rw [← hg1] at rc hlt ⊢
    clear HH1 hg1 HH HU1
    generalize w1.alloc (.cells #[.int .i64 cd, .string ⟨gt.toArray⟩, .int .i64 (dn : Int), .int .i64 (us : Int)] 111) = W2 at *
    have q := fun i => cell_of_row _ _ i _ _ _ HH2.out.row
    have f := fun i => frozen_of_row _ _ i _ _ HH2.out.row
    have qc := fun i => cell_of_row _ _ i _ _ _ rc
    go_region
    have HU3 := Lib.hid ((HU2.out.set 4 (.int .i64 ((u : Int) + us))).drew)
    have HH3 := Lib.hid (HH2.out.used ((u : Int) + us))
    have rc3 : ((W2.setCell ⟨kc, 4, none⟩ (.int .i64 ((u : Int) + us))).drew).heap[g1]? = _ := (heap_setCell_other W2 ⟨kc, 4, none⟩ g1 _ (show g1 ≠ kc by omega)).trans rc
    generalize (W2.setCell ⟨kc, 4, none⟩ (.int .i64 ((u : Int) + us))).drew = W3 at *
    clear q f qc rc HH2 HU2
    have q := fun i => cell_of_row _ _ i _ _ _ HH3.out.row
    have f := fun i => frozen_of_row _ _ i _ _ HH3.out.row
    have qc := fun i => cell_of_row _ _ i _ _ _ rc3
    go_upto_region 5 with (fail)
    go_region
    have HH4 := Lib.hid (HH3.out.fate hle)
    have HU4 := Lib.hid ((HU3.out.set 3 (.slice (if fc = us then FA else Option.map (fun x => x.add us) FA) (fs.length - u - us) (fc - us))).drew)
    have rc4 : ((W3.setCell ⟨kc, 3, none⟩ (.slice (if fc = us then FA else Option.map (fun x => x.add us) FA) (fs.length - u - us) (fc - us))).drew).heap[g1]? = _ := (heap_setCell_other W3 ⟨kc, 3, none⟩ g1 _ (show g1 ≠ kc by omega)).trans rc3
    generalize (W3.setCell ⟨kc, 3, none⟩ (.slice (if fc = us then FA else Option.map (fun x => x.add us) FA) (fs.length - u - us) (fc - us))).drew = W4 at *
    clear q f qc rc3 HH3 HU3
    have qc := fun i => cell_of_row _ _ i _ _ _ rc4
    obtain ⟨FA', hFA⟩ : ∃ x, x = (if fc = us then FA else Option.map (fun x => x.add us) FA) := ⟨_, rfl⟩
    rw [← hFA] at HH4 ⊢
    clear hFA
    go_upto_region 6 with (fail)
    go_region
    go_wp2_with fail
    refine bodyPost_ret (v := .tuple #[.string ⟨gt.toArray⟩, .int .i64 cd]) (by simp [results, Try.results63]) rfl ?_
    rw [HCD.out]
    exact ⟨rfl, _, _, HH4.out.on (Below.refl _ _).drew, HU4.out.drew⟩
  · exact absurd HK.out hno
set_option maxRecDepth 100000 in
set_option maxHeartbeats 3200000 in
theorem cserve_calls (w0 : World) (kc : Nat) (A : Option Addr) (c : Nat) (FA : Option Addr) (fc : Nat) (l : Ln) (fs : List Int) (u : Nat) (x : Wr) (data : ByteArray) (W : World) (h : CB w0 kc A c FA fc l fs u u W) (hn : l.bs.length ≤ 8796093022208) (hx : OkW x) :
    Calls Try.prog 64 #[.pointer (some ⟨kc, 0, none⟩), .string (wrapT x), .string data] W fun e w' => e = .returned (.tuple #[.string (served l.bs l.s x data).2.2.1, .string (served l.bs l.s x data).2.2.2.1]) ∧
      ∃ A' c', CB w0 kc A' c' FA fc ⟨(served l.bs l.s x data).1, (served l.bs l.s x data).2.1, l.tag⟩ fs u u w' ∧ Upd kc W w' := by
  have HH := Lib.hid h
  have HS := Lib.hid (fun W (hW : CB w0 kc A c FA fc l fs u u W) => serve_calls l.bs l.s x data A c W hW.blk.toA hn hx)
  have q := fun i => cell_of_row _ _ i _ _ _ h.row
  clear h hn hx
  unfold dkV at HS
  go_enter Try.func64, Try.ntmps64
  go_wp2_with fail
  refine (HS.out _ HH.out).mono ?_
  rintro e w1 ⟨A', c', rfl, hs, hb⟩
  obtain ⟨P, s, o, st, k, hP⟩ : ∃ P s o st k, served l.bs l.s x data = (P, s, o, st, k) := ⟨_, _, _, _, _, rfl⟩
  have HP := Lib.hid hP
  rw [hP] at hs ⊢
  unfold dkV
  dsimp only at hs ⊢
  have HHs := Lib.hid hs
  have HH1 := Lib.hid (HH.out.on hb)
  have HU1 := Lib.hid (Upd.of_below hb HH.out.lt)
  have hlt := HH1.out.lt
  have hlt0 := HH.out.lt
  have q1 := fun i => cell_of_row _ _ i _ _ _ HH1.out.row
  have f1 := fun i => frozen_of_row _ _ i _ _ HH1.out.row
  clear hb HS q hs hP
  go_wp2_with fail
  refine bodyPost_ret (v := .tuple #[.string o, .string st]) (by simp [results, Try.results64]) rfl ?_
  rw [HP.out]
  exact ⟨rfl, A', c', (HH1.out.disk HHs.out hlt0 s).al _, ((HU1.out.set 0 _).set 1 _).alloc hlt0 _⟩
end Go.Proofs.Ytafiedhjjnapoaa
