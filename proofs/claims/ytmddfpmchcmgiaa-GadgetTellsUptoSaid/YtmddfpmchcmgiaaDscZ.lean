/- plugref.SameConfig where both are the same. -/
import Derived.Test.YtmddfpmchcmgiaaDscE
import Derived.Test.YtmddfpmchcmgiaaDscY
import Derived.Test.YtmddfpmchcmgiaaGen
namespace Go.Proofs.Ytmddfpmchcmgiaa
open Go.RowKit Go.Proofs.Ytmddfpmchcmgiaa.Dsc
theorem en_cl (x : En) : Fr.Cl enTy (ec1 x) := by
  have h : ∀ n : Nat, 1 ≤ n + 1 := fun n => Nat.succ_le_succ (Nat.zero_le n)
  exact ⟨h _, ⟨_, rfl⟩, h _, ⟨_, rfl⟩, h _, ⟨_, rfl⟩, h _, ⟨_, rfl⟩, h _, ⟨_, rfl⟩, rfl⟩
theorem ec_drop : ∀ (l : List En) (i : Nat) (h : i < l.length), ((ecells l).drop (i * 5)).take 5 = ec1 l[i]
  | x :: l, 0, _ => rfl
  | x :: l, i + 1, h => by
    have ih := ec_drop l i (by simpa using h)
    have e : (ecells (x :: l)).drop ((i + 1) * 5) = (ecells l).drop (i * 5) := by
      show (ec1 x ++ ecells l).drop _ = _
      rw [show (i + 1) * 5 = (ec1 x).length + i * 5 by show _ = 5 + i * 5; omega, List.drop_append, List.drop_of_length_le (Nat.le_add_right _ _), Nat.add_sub_cancel_left, List.nil_append]
    rw [e]
    exact ih
theorem es_cl (l : List En) (i : Nat) (h : i < l.length) : Fr.Cl enTy (((ecells l).drop (i * 5)).take 5) := by rw [ec_drop l i h]; exact en_cl _
theorem eqe_same (u v : Value) (es : List En) (w : World) (ha : Kt.Ar w u 5 es.length (ecells es)) (hb : Kt.Ar w v 5 es.length (ecells es)) (hm : es.length ≤ 35184372088832) :
    Calls Try.prog 44 #[u, v] w fun e w' => e = .returned (.bool true) ∧ Below w.heap.size w w' := by
  refine (eqe_calls u v _ _ _ _ w ha hb (es_cl es) (es_cl es) hm).mono ?_
  rintro e w' ⟨b, rfl, h, hb⟩
  rw [h.2 rfl]
  exact ⟨rfl, hb⟩
theorem xc_sts (l : List (List UInt8)) : xcells l = sts (l.map bs') := by
  unfold xcells sts
  rw [List.map_map]
  rfl
theorem eqs_same (u v : Value) (ex : List (List UInt8)) (w : World) (ha : Kt.Ar w u 1 ex.length (xcells ex)) (hb : Kt.Ar w v 1 ex.length (xcells ex)) (hm : ex.length ≤ 140737488355328) :
    Calls Try.prog 43 #[u, v] w fun e w' => e = .returned (.bool true) ∧ Below w.heap.size w w' := by
  rw [xc_sts, show ex.length = (ex.map bs').length by rw [List.length_map]] at ha hb
  refine (equal_same u v (ex.map bs') (ex.map bs') w ha hb rfl (by rw [List.length_map]; exact hm)).mono ?_
  rintro e w' ⟨rfl, h⟩
  exact ⟨by rw [decide_eq_true rfl], h⟩
theorem box2s (w : World) (c1 c2 : Array Value) (t1 t2 : TypeId) :
    ((w.alloc (.cells c1 t1)).alloc (.cells c2 t2)).heap[w.heap.size]? = some (.cells c1 t1 (0, 0)) ∧
    ((w.alloc (.cells c1 t1)).alloc (.cells c2 t2)).heap[w.heap.size + 1]? = some (.cells c2 t2 (0, 0)) ∧
    Below w.heap.size w ((w.alloc (.cells c1 t1)).alloc (.cells c2 t2)) := by
  have b1 := Kt.balloc (Below.refl _ (w.alloc (.cells c1 t1))) (.cells c2 t2)
  have r1 := heap_alloc_new w (.cells c1 t1)
  have r2 := heap_alloc_new (w.alloc (.cells c1 t1)) (.cells c2 t2)
  rw [World.size_alloc] at r2
  exact ⟨Kt.row_on b1 r1, r2, Kt.balloc (Kt.balloc (Below.refl _ w) _) _⟩
def faceVl (f : Fa) (X E : Value) : Value := .agg #[.int .i64 f.cl, .int .i64 f.su, .int .i64 f.pr, .int .i64 f.nm, X, E]
set_option maxRecDepth 100000 in
set_option maxHeartbeats 1600000 in
theorem samef_calls (f : Fa) (X E X' E' : Value) (w : World) (hX : Kt.Ar w X 1 f.ex.length (xcells f.ex)) (hE : Kt.Ar w E 5 f.es.length (ecells f.es)) (hX' : Kt.Ar w X' 1 f.ex.length (xcells f.ex)) (hE' : Kt.Ar w E' 5 f.es.length (ecells f.es))
    (h1 : f.ex.length ≤ 140737488355328) (h2 : f.es.length ≤ 35184372088832) :
    Calls Try.prog 42 #[faceVl f X E, faceVl f X' E'] w fun e w' => e = .returned (.bool true) ∧ Below w.heap.size w w' := by
  have HS := Lib.hid (fun W (hW : Below w.heap.size w W) => eqs_same X X' f.ex W (hX.on hW) (hX'.on hW) h1)
  have HE := Lib.hid (fun W (hW : Below w.heap.size w W) => eqe_same E E' f.es W (hE.on hW) (hE'.on hW) h2)
  obtain ⟨XA, xc, rfl, _, _⟩ := hX.form
  obtain ⟨EA, ec, rfl, _, _⟩ := hE.form
  obtain ⟨XA', xc', rfl, _, _⟩ := hX'.form
  obtain ⟨EA', ec', rfl, _, _⟩ := hE'.form
  obtain ⟨cl, su, pr, nm, ex, es⟩ := f
  unfold faceVl
  dsimp only at *
  obtain ⟨r1, r2, b2⟩ := box2s w #[.int .i64 cl, .int .i64 su, .int .i64 pr, .int .i64 nm, .slice XA ex.length xc, .slice EA es.length ec] #[.int .i64 cl, .int .i64 su, .int .i64 pr, .int .i64 nm, .slice XA' ex.length xc', .slice EA' es.length ec'] 32 32
  have HR := Lib.hid (And.intro r1 r2)
  have HB := Lib.hid b2
  have q1 := fun i => cell_of_row _ _ i _ _ _ r1
  have q2 := fun i => cell_of_row _ _ i _ _ _ r2
  clear hX hE hX' hE' h1 h2 r1 r2 b2
  go_enter Try.func42, Try.ntmps42
  go_wp2_with fail
  refine (HS.out _ HB.out).mono ?_
  rintro e w1 ⟨rfl, hb⟩
  have HB1 := Lib.hid (Kt.bthen HB.out hb)
  have r1 := Kt.row_on hb HR.out.1
  have r2 := Kt.row_on hb HR.out.2
  have q1 := fun i => cell_of_row _ _ i _ _ _ r1
  have q2 := fun i => cell_of_row _ _ i _ _ _ r2
  clear hb r1 r2
  go_wp2_with fail
  refine (HE.out _ HB1.out).mono ?_
  rintro e w2 ⟨rfl, hb⟩
  have HB2 := Lib.hid (Kt.bthen HB1.out hb)
  clear hb
  go_wp2_with fail
  go_ret
  exact ⟨rfl, HB2.out⟩
theorem egSame : ∀ args w, (callFunc 42 args).run Try.prog w = .ok (.enter 42 args) w := enters_of Try.func42 (by kernel_rfl) rfl
set_option maxRecDepth 100000 in
set_option maxHeartbeats 1600000 in
theorem eqf_calls (fs : List Fa) (cs cs' : List (List Value)) (F F' : Value) (w : World) (hF : Kt.Ar w F 6 fs.length cs.flatten) (hF' : Kt.Ar w F' 6 fs.length cs'.flatten) (hl : cs.length = fs.length) (hl' : cs'.length = fs.length)
    (hr : ∀ i (h : i < fs.length) (h2 : i < cs.length), FRd w fs[i] cs[i]) (hr' : ∀ i (h : i < fs.length) (h2 : i < cs'.length), FRd w fs[i] cs'[i])
    (hb : fs.length ≤ 35184372088832) (hb2 : ∀ f ∈ fs, f.ex.length ≤ 140737488355328 ∧ f.es.length ≤ 35184372088832) :
    Calls Try.prog 41 #[F, F', .func (.func 42) #[] #[]] w fun e w' => e = .returned (.bool true) ∧ Below w.heap.size w w' := by
  obtain ⟨A, c, rfl, _, hx⟩ := hF.form
  obtain ⟨A', c', rfl, _, hx'⟩ := hF'.form
  have HX := Lib.hid hx
  have HX' := Lib.hid hx'
  have HL := Lib.hid (And.intro hl hl')
  have HR := Lib.hid hr
  have HR' := Lib.hid hr'
  have HB := Lib.hid hb
  have HB2 := Lib.hid hb2
  clear hF hF' hx hx' hl hl' hr hr' hb hb2
  go_enter Try.func41, Try.ntmps41
  go_wp2_with fail
  go_loopw [17] (fun vi wr => ∃ k : Nat, k ≤ fs.length ∧ vi = .int .i64 k ∧ Hid (Below w.heap.size w wr)) (fun vi _ => fs.length - (intOf vi).toNat)
  case atStart => exact ⟨0, Nat.zero_le _, rfl, Lib.hid (Below.refl _ _)⟩
  case round =>
    obtain ⟨k, hk, rfl, HBW⟩ := hrel
    by_cases hlt : k < fs.length
    · obtain ⟨f, hf⟩ : ∃ f, fs[k] = f := ⟨_, rfl⟩
      obtain ⟨b, o, rfl, hb0, hbc⟩ := HX.out (by omega)
      obtain ⟨b', o', rfl, hb0', hbc'⟩ := HX'.out (by omega)
      obtain ⟨X, E, hcs, hX, hE⟩ := HR.out k hlt (by rw [HL.out.1]; exact hlt)
      obtain ⟨X', E', hcs', hX', hE'⟩ := HR'.out k hlt (by rw [HL.out.2]; exact hlt)
      rw [hf] at hcs hX hE hcs' hX' hE'
      have HFB := Lib.hid (hf ▸ HB2.out fs[k] (List.getElem_mem _))
      have hcell : ∀ j u, [Value.int .i64 f.cl, .int .i64 f.su, .int .i64 f.pr, .int .i64 f.nm, X, E][j]? = some u → wr.cell? ⟨b, o + k * 6 + j, none⟩ = some u := fun j u hj => by
        have hl6 : ∀ x ∈ cs, x.length = 6 := fun x hx => by
          obtain ⟨i, hi, rfl⟩ := List.getElem_of_mem hx
          obtain ⟨_, _, he, _, _⟩ := HR.out i (by rw [← HL.out.1]; exact hi) hi
          rw [he]; rfl
        have hj6 : j < 6 := (List.getElem?_eq_some_iff.1 hj).1
        have h1 := flat_get cs hl6 k (by rw [HL.out.1]; exact hlt) j hj6
        rw [hcs, hj] at h1
        obtain ⟨h2, h3⟩ := List.getElem?_eq_some_iff.1 h1
        rw [Nat.add_assoc]
        exact (HBW.out.cell (p := ⟨b, o + (k * 6 + j), none⟩) hb0).trans ((hbc _ h2).trans (by rw [h3]))
      have hcell' : ∀ j u, [Value.int .i64 f.cl, .int .i64 f.su, .int .i64 f.pr, .int .i64 f.nm, X', E'][j]? = some u → wr.cell? ⟨b', o' + k * 6 + j, none⟩ = some u := fun j u hj => by
        have hl6 : ∀ x ∈ cs', x.length = 6 := fun x hx => by
          obtain ⟨i, hi, rfl⟩ := List.getElem_of_mem hx
          obtain ⟨_, _, he, _, _⟩ := HR'.out i (by rw [← HL.out.2]; exact hi) hi
          rw [he]; rfl
        have hj6 : j < 6 := (List.getElem?_eq_some_iff.1 hj).1
        have h1 := flat_get cs' hl6 k (by rw [HL.out.2]; exact hlt) j hj6
        rw [hcs', hj] at h1
        obtain ⟨h2, h3⟩ := List.getElem?_eq_some_iff.1 h1
        rw [Nat.add_assoc]
        exact (HBW.out.cell (p := ⟨b', o' + (k * 6 + j), none⟩) hb0').trans ((hbc' _ h2).trans (by rw [h3]))
      have hlb : b < wr.heap.size := Nat.lt_of_lt_of_le hb0 HBW.out.size
      have hlb' : b' < wr.heap.size := Nat.lt_of_lt_of_le hb0' HBW.out.size
      have HSM := Lib.hid (fun W (hW : Below w.heap.size w W) => samef_calls f X E X' E' W (hX.on hW) (hE.on hW) (hX'.on hW) (hE'.on hW) HFB.out.1 HFB.out.2)
      obtain ⟨XA, xc, rfl, _, _⟩ := hX.form
      obtain ⟨EA, ec, rfl, _, _⟩ := hE.form
      obtain ⟨XA', xc', rfl, _, _⟩ := hX'.form
      obtain ⟨EA', ec', rfl, _, _⟩ := hE'.form
      unfold faceVl at HSM
      obtain ⟨cl, su, pr, nm, ex, es⟩ := f
      dsimp only at *
      have k0 : wr.cell? ⟨b, o + k * 6, none⟩ = some (.int .i64 cl) := hcell 0 _ rfl
      have k1 : wr.cell? ⟨b, o + k * 6 + 1, none⟩ = some (.int .i64 su) := hcell 1 _ rfl
      have k2 : wr.cell? ⟨b, o + k * 6 + 2, none⟩ = some (.int .i64 pr) := hcell 2 _ rfl
      have k3 : wr.cell? ⟨b, o + k * 6 + 3, none⟩ = some (.int .i64 nm) := hcell 3 _ rfl
      have k4 : wr.cell? ⟨b, o + k * 6 + 4, none⟩ = some (.slice XA ex.length xc) := hcell 4 _ rfl
      have k5 : wr.cell? ⟨b, o + k * 6 + 5, none⟩ = some (.slice EA es.length ec) := hcell 5 _ rfl
      have j0 : wr.cell? ⟨b', o' + k * 6, none⟩ = some (.int .i64 cl) := hcell' 0 _ rfl
      have j1 : wr.cell? ⟨b', o' + k * 6 + 1, none⟩ = some (.int .i64 su) := hcell' 1 _ rfl
      have j2 : wr.cell? ⟨b', o' + k * 6 + 2, none⟩ = some (.int .i64 pr) := hcell' 2 _ rfl
      have j3 : wr.cell? ⟨b', o' + k * 6 + 3, none⟩ = some (.int .i64 nm) := hcell' 3 _ rfl
      have j4 : wr.cell? ⟨b', o' + k * 6 + 4, none⟩ = some (.slice XA' ex.length xc') := hcell' 4 _ rfl
      have j5 : wr.cell? ⟨b', o' + k * 6 + 5, none⟩ = some (.slice EA' es.length ec') := hcell' 5 _ rfl
      have HB1 := Lib.hid (Kt.balloc (Kt.balloc HBW.out (.cells #[.int .i64 cl, .int .i64 su, .int .i64 pr, .int .i64 nm, .slice XA ex.length xc, .slice EA es.length ec] 32)) (.cells #[.int .i64 cl, .int .i64 su, .int .i64 pr, .int .i64 nm, .slice XA' ex.length xc', .slice EA' es.length ec'] 32))
      have hb64 : (k : Int) + 1 ≤ 35184372088832 := by have := HB.out; omega
      clear hcell hcell' hcs hX hE hcs' hX' hE' hf hb0 hbc hb0' hbc'
      go_wp2_with fail
      refine (HSM.out _ HB1.out).mono ?_
      rintro e w3 ⟨rfl, hb3⟩
      have HB3 := Lib.hid (Kt.bthen HB1.out hb3)
      have hwk : wrap64 ((k : Int) + 1) = ((k + 1 : Nat) : Int) := by unfold wrap64; omega
      have HWK := Lib.hid hwk
      clear hb3 HSM k0 k1 k2 k3 k4 k5 j0 j1 j2 j3 j4 j5 hwk
      go_wp2_with fail
      go_roundw
      case rel => exact ⟨k + 1, hlt, congrArg _ (by first | exact HWK.out | rfl), HB3⟩
      case measure => (try rw [HWK.out]); show fs.length - (k + 1) < fs.length - k; omega
    · obtain rfl : k = fs.length := by omega
      go_wp2_with fail
      go_ret
      exact ⟨rfl, HBW.out⟩
set_option maxRecDepth 100000 in
set_option maxHeartbeats 1600000 in
theorem same_calls (c : Cf) (v v' : Value) (w : World) (h : CRd w v c) (h' : CRd w v' c) (hb : c.fs.length ≤ 35184372088832) (hb2 : ∀ f ∈ c.fs, f.ex.length ≤ 140737488355328 ∧ f.es.length ≤ 35184372088832) :
    Calls Try.prog 20 #[v, v'] w fun e w' => e = .returned (.bool true) ∧ Below w.heap.size w w' := by
  obtain ⟨F, cs, rfl, hF, hl, hr⟩ := h
  obtain ⟨F', cs', rfl, hF', hl', hr'⟩ := h'
  have HE := Lib.hid (fun W (hW : Below w.heap.size w W) => eqf_calls c.fs cs cs' F F' W (hF.on hW) (hF'.on hW) hl hl' (fun i a b => (hr i a b).on hW) (fun i a b => (hr' i a b).on hW) hb hb2)
  obtain ⟨A, cp, rfl, _, _⟩ := hF.form
  obtain ⟨A', cp', rfl, _, _⟩ := hF'.form
  obtain ⟨va, nm, at_, pw, fs⟩ := c
  dsimp only at *
  obtain ⟨r1, r2, b2⟩ := box2s w #[.int .i64 va, .int .i64 nm, .int .i64 at_, .int .i64 pw, .slice A fs.length cp] #[.int .i64 va, .int .i64 nm, .int .i64 at_, .int .i64 pw, .slice A' fs.length cp'] 24 24
  have HB := Lib.hid b2
  have q1 := fun i => cell_of_row _ _ i _ _ _ r1
  have q2 := fun i => cell_of_row _ _ i _ _ _ r2
  clear hF hF' hl hl' hr hr' hb hb2 r1 r2 b2
  go_enter Try.func20, Try.ntmps20
  go_wp2_with fail
  refine (HE.out _ HB.out).mono ?_
  rintro e w1 ⟨rfl, hb⟩
  have HB1 := Lib.hid (Kt.bthen HB.out hb)
  clear hb
  go_wp2_with fail
  go_ret
  exact ⟨rfl, HB1.out⟩
end Go.Proofs.Ytmddfpmchcmgiaa
