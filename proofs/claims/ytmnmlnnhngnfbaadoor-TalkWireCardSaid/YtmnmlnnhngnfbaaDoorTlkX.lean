/- packetsOn. -/
import Derived.Test.YtmnmlnnhngnfbaaDoorTlkL
import Derived.Test.YtmnmlnnhngnfbaaDoorPktU
import Derived.Test.YtmnmlnnhngnfbaaDoorMid
namespace Go.Proofs.YtmnmlnnhngnfbaaDoor
open Go.RowKit Go.Proofs.YtmnmlnnhngnfbaaDoor.PktP Go.Proofs.YtmnmlnnhngnfbaaDoor.Phy Go.Proofs.YtmnmlnnhngnfbaaDoor.Lan
def pc1 (p : Pk) : List Value := [.int .i64 p.k, .int .i64 p.a, .int .i64 p.e, .int .i64 p.f, .string ⟨p.d.toArray⟩]
def pcells (l : List Pk) : List Value := l.flatMap pc1
theorem pcells_app (a b : List Pk) : pcells (a ++ b) = pcells a ++ pcells b := by simp [pcells]
theorem pcells_len (l : List Pk) : (pcells l).length = l.length * 5 := by
  induction l with
  | nil => rfl
  | cons p l ih => show (pcells l).length + 1 + 1 + 1 + 1 + 1 = _; rw [ih, List.length_cons]; omega
theorem pcells_at : ∀ (l : List Pk) (i : Nat) (h : i < l.length), ((pcells l).drop (i * 5)).take 5 = pc1 l[i]
  | p :: l, 0, _ => rfl
  | p :: l, i + 1, h => by
    have h' : i < l.length := by simpa using h
    have := pcells_at l i h'
    rw [Nat.succ_mul]
    show ((pc1 p ++ pcells l).drop (i * 5 + 5)).take 5 = _
    rw [List.drop_append, show (pc1 p).length = 5 from rfl, Nat.add_sub_cancel, List.drop_of_length_le (by show 5 ≤ i * 5 + 5; omega), List.nil_append, this]
    rfl
theorem pcells_get {l : List Pk} {i : Nat} (h : i < l.length) (j : Nat) (hj : j < 5) : (pcells l)[i * 5 + j]? = (pc1 l[i])[j]? := by
  rw [← pcells_at l i h, List.getElem?_take, if_pos hj, List.getElem?_drop]
theorem hcells_get : ∀ {o : List (List UInt8 × Int)} {i : Nat} (h : i < o.length), (hcells o)[i * 2]? = some (.string (bt o[i].1)) ∧ (hcells o)[i * 2 + 1]? = some (.int .i64 o[i].2)
  | p :: o, 0, _ => ⟨rfl, rfl⟩
  | p :: o, i + 1, h => by
    have h' : i < o.length := by simpa using h
    obtain ⟨q1, q2⟩ := hcells_get h'
    have e : hcells (p :: o) = [.string (bt p.1), .int .i64 p.2] ++ hcells o := rfl
    refine ⟨?_, ?_⟩
    · rw [e, List.getElem?_append_right (by simp; omega), show (i + 1) * 2 - [Value.string (bt p.1), .int .i64 p.2].length = i * 2 by simp; omega]
      exact q1
    · rw [e, List.getElem?_append_right (by simp; omega), show (i + 1) * 2 + 1 - [Value.string (bt p.1), .int .i64 p.2].length = i * 2 + 1 by simp; omega]
      exact q2
theorem info_pk : (Tryd.prog.info? 38).map (fun i => (i.zero, i.size, i.bytes)) = some (some (.agg #[.int .i64 0, .int .i64 0, .int .i64 0, .int .i64 0, .string ByteArray.empty]), 5, 48) := by kernel_rfl
def earT : Fr.Ty := .cat 1 .string .nil
theorem eq_ear0 (w : World) : (binOp .eql 63 (.agg #[.string ⟨#[]⟩]) (.agg #[.string ⟨#[]⟩])).run Tryd.prog w = .ok (.bool true) w := by
  have h1 : Fr.Cl earT [.string ⟨#[]⟩] := ⟨by simp, ⟨_, rfl⟩, rfl⟩
  have h := (Fr.eql_agg (P := Tryd.prog) w 63 earT 12 (by omega) (by kernel_rfl) (by kernel_rfl) rfl #[.string ⟨#[]⟩] #[.string ⟨#[]⟩] h1 h1 rfl rfl).1
  rw [h]
  simp
theorem guard_ear0T : Program.eqGuardType Tryd.prog Tryd.prog.depth 63 = false := by kernel_rfl
theorem guard_ear0 (p q : Operand) (a b : Array Value) (w : World) : (eqGuard .eql 63 p q (.agg a) (.agg b)).run Tryd.prog w = .ok () w := run_eqGuard_agg w .eql 63 p q a b guard_ear0T
theorem ok_wire0 (ls : List (List UInt8)) : okL ltr (wire 0 ls) = true := by
  unfold okL
  rw [List.all_eq_true]
  intro b hb
  have key : b = 74 ∨ b = 75 ∨ b = 48 := by
    induction ls with
    | nil => simp [wire] at hb
    | cons s ls ih =>
      rw [wire_cons] at hb
      split at hb
      · rcases List.mem_append.1 hb with hb | hb
        · rcases List.mem_append.1 hb with hb | hb
          · exact .inl (List.eq_of_mem_replicate hb)
          · rcases List.mem_append.1 hb with hb | hb
            · rcases levs_lv s b hb with h | h
              · exact .inl h
              · exact .inr (.inl h)
            · simp [endL] at hb
              rcases hb with h | h
              · exact .inr (.inr h)
              · exact .inl h
        · exact ih hb
      · exact ih hb
  rcases key with rfl | rfl | rfl <;> decide
theorem wrap_k4 {k : Nat} (h : k ≤ 4000) : wrap64 ((k : Int) + 1) = ((k + 1 : Nat) : Int) := by unfold wrap64; omega
set_option maxRecDepth 100000 in
set_option maxHeartbeats 1600000 in
theorem packets_calls (ps : List Pk) (w : World) (hok : ∀ p ∈ ps, Okp p) (hn : ps.length ≤ 3000) (hl : (wire 0 (txts ps)).length ≤ 4294967296) :
    Calls Tryd.prog 9 #[.string (bt (wire 0 (txts ps)))] w fun en w' => ∃ A c, en = .returned (.tuple #[.slice A ps.length c, .bool true]) ∧ Kt.Sl w' w.heap.size 38 5 (.slice A ps.length c) ps.length (pcells ps) ∧ Below w.heap.size w w' := by
  have HH := Lib.hid (fun W => hear_good [] (wire 0 (txts ps)) W (by decide) hl (ok_wire0 _) rfl)
  rw [hear_wire, txts_ok hok] at HH
  dsimp only at HH
  have hln : ((txts ps).map (fun s => (s, (0 : Int)))).length = ps.length := by rw [List.length_map]; exact List.length_map _
  rw [hln] at HH
  have HO := Lib.hid hok
  have HN := Lib.hid hn
  have HHC : Hid (∀ i (h : i < ps.length), (hcells ((txts ps).map (fun s => (s, (0 : Int)))))[i * 2]? = some (.string (bt (text ps[i]))) ∧ (hcells ((txts ps).map (fun s => (s, (0 : Int)))))[i * 2 + 1]? = some (.int .i64 0)) := Lib.hid fun i h => by
    have := hcells_get (o := (txts ps).map (fun s => (s, (0 : Int)))) (i := i) (by rw [hln]; exact h)
    rw [List.getElem_map] at this
    simpa [txts] using this
  generalize hcells ((txts ps).map (fun s => (s, (0 : Int)))) = HC at *
  generalize bt (wire 0 (txts ps)) = X at *
  have hb0 : bt [] = ⟨#[]⟩ := rfl
  rw [hb0] at HH
  have EQ := fun w => eq_ear0 w
  have EG := fun p q a b w => guard_ear0 p q a b w
  clear hok hn hl hln hb0
  go_enter Tryd.func9, Tryd.ntmps9
  go_wp2_with fail
  refine (HH.out _).mono ?_; rintro en w1 ⟨A0, c0, rfl, hs, hb1⟩
  have HB1 := Lib.hid hb1
  have HS1 := Lib.hid hs
  obtain ⟨_, hA0⟩ : True ∧ (0 < ps.length → ∃ g o cap, Value.slice A0 ps.length c0 = .slice (some ⟨g, o, none⟩) ps.length cap ∧ g < w1.heap.size ∧ ∀ j (hj : j < HC.length), w1.cell? ⟨g, o + j, none⟩ = some HC[j]) := ⟨trivial, fun h0 => by
    obtain ⟨g, o, cap, h1, h2, h3, h4, h5, h6, h7⟩ := hs.cells h0
    exact ⟨g, o, cap, h1, h3, h6⟩⟩
  have HA0 := Lib.hid hA0
  clear hb1 hs hA0 HH
  go_wp2_with fail
  have HE : Hid ((w1.alloc (.cells #[.string ⟨#[]⟩] 63)).heap[w1.heap.size]? = some (.cells #[.string ⟨#[]⟩] 63 (0, 0))) := Lib.hid (heap_alloc_new w1 _)
  have HW0 : Hid (w1.heap.size + 1 = (w1.alloc (.cells #[.string ⟨#[]⟩] 63)).heap.size) := Lib.hid (by rw [World.size_alloc])
  have HB2 := Lib.hid (Kt.balloc HB1.out (.cells #[.string ⟨#[]⟩] 63))
  have HA2 : Hid (0 < ps.length → ∃ g o cap, Value.slice A0 ps.length c0 = .slice (some ⟨g, o, none⟩) ps.length cap ∧ g < w1.heap.size ∧ ∀ j (hj : j < HC.length), (w1.alloc (.cells #[.string ⟨#[]⟩] 63)).cell? ⟨g, o + j, none⟩ = some HC[j]) := Lib.hid (fun h0 => by
    obtain ⟨g, o, cap, h1, h2, h3⟩ := HA0.out h0
    exact ⟨g, o, cap, h1, h2, fun j hj => by rw [World.cell?_alloc_lt _ _ _ (by exact h2)]; exact h3 j hj⟩)
  generalize (w1.alloc (.cells #[.string ⟨#[]⟩] 63)) = W at *
  clear HA0 HS1 HB1
  go_loopw [7, 21] (fun vo vi wr => ∃ (k co : Nat) (A : Option Addr), k ≤ ps.length ∧ vi = .int .i64 k ∧ vo = .slice A k co ∧ Hid (Kt.Sl wr W.heap.size 38 5 vo k (pcells (ps.take k))) ∧ Hid (Below W.heap.size W wr)) (fun _ vi _ => ps.length - (intOf vi).toNat)
  case atStart => exact ⟨0, 0, none, Nat.zero_le _, rfl, rfl, Lib.hid (Kt.Sl.nil _ _ _ _), Lib.hid (Below.refl _ _)⟩
  case round =>
    obtain ⟨k, co, A, hk, rfl, rfl, HSL, HB⟩ := hrel
    by_cases hlt : k < ps.length
    · obtain ⟨g, o, cap, hv, hg, hc⟩ := HA2.out (Nat.lt_of_le_of_lt (Nat.zero_le _) hlt)
      injection hv with hv1 _ hv2
      subst hv1 hv2
      obtain ⟨p, hp⟩ : ∃ p, ps[k] = p := ⟨_, rfl⟩
      obtain ⟨q1, q2⟩ := HHC.out k hlt
      rw [hp] at q1
      have hgw : g < W.heap.size := by have := HW0.out; omega
      have c1 : wr.cell? ⟨g, o + k * 2, none⟩ = some (.string (bt (text p))) := by
        obtain ⟨hj, he⟩ := List.getElem?_eq_some_iff.1 q1
        exact (HB.out.cell (p := ⟨g, o + k * 2, none⟩) hgw).trans ((hc _ hj).trans (by rw [he]))
      have c2 : wr.cell? ⟨g, o + k * 2 + 1, none⟩ = some (.int .i64 0) := by
        obtain ⟨hj, he⟩ := List.getElem?_eq_some_iff.1 q2
        exact (HB.out.cell (p := ⟨g, o + k * 2 + 1, none⟩) hgw).trans (by rw [Nat.add_assoc]; exact (hc _ hj).trans (by rw [he]))
      have hokp : Okp p := by rw [← hp]; exact HO.out _ (List.getElem_mem ..)
      have HRD := Lib.hid (fun W => read_calls (bt (text p)) (by rw [bt_size]; have := text_len p hokp; unfold maxLen; omega) W)
      rw [bt_list, back p hokp] at HRD
      dsimp only [rdV, pkV] at HRD
      have HTK : Hid (pcells (ps.take (k + 1)) = pcells (ps.take k) ++ pc1 p) := Lib.hid (by rw [List.take_succ_eq_append_getElem hlt, pcells_app, hp]; simp [pcells])
      generalize bt (text p) = TX at *
      clear hp q1 q2 hc hgw hokp
      go_wp2_with fail
      refine (HRD.out _).mono ?_; rintro en w2 ⟨rfl, hb2⟩
      have d0 := Kt.box1 hb2
      have dc := fun i => cell_of_row _ _ i _ _ _ d0
      have dz := (Array.getElem?_eq_some_iff.1 d0).1
      have HB3 := Lib.hid (Kt.bthen (Kt.balloc HB.out (.cells #[.string TX, .int .i64 0] 68)) hb2)
      have HSL3 := Lib.hid ((HSL.out.alloc (.cells #[.string TX, .int .i64 0] 68)).on hb2)
      have HZ3 := Lib.hid HB3.out.size
      clear hb2 d0 HB HSL HRD c1 c2
      obtain ⟨pd, hpd⟩ : ∃ x, (⟨p.d.toArray⟩ : ByteArray) = x := ⟨_, rfl⟩
      rw [hpd]
      have HPD : Hid (pc1 p = [.int .i64 p.k, .int .i64 p.a, .int .i64 p.e, .int .i64 p.f, .string pd]) := Lib.hid (by rw [← hpd]; rfl)
      clear hpd
      go_wp2_with (refine Kt.append_sl _ (by rfl) (.tmp 38) (.tmp 40) 34 rfl W.heap.size 38 (.agg #[.int .i64 0, .int .i64 0, .int .i64 0, .int .i64 0, .string ByteArray.empty]) 5 48 info_pk Tryd.underlying34 rfl (by decide) _ _ _ rfl ((HSL3.out.alloc _).alloc _) ⟨w2.heap.size + 1, 0, none⟩ 1 1 [.int .i64 p.k, .int .i64 p.a, .int .i64 p.e, .int .i64 p.f, .string pd] rfl rfl (Kt.new_cells' (w2.alloc (.cells #[.int .i64 p.k, .int .i64 p.a, .int .i64 p.e, .int .i64 p.f, .string pd] 38)) #[.int .i64 p.k, .int .i64 p.a, .int .i64 p.e, .int .i64 p.f, .string pd] _ (w2.heap.size + 1) (World.size_alloc w2 _)) (by simp [Value.oneCell']) (by have := HN.out; unfold maxLen; omega) (by have := HN.out; omega) (by have := HZ3.out; rw [World.size_alloc, World.size_alloc]; omega) ?_; intro A2 c2 w6 hs6 hb6 hz6 hk6 hl6)
      have hwk := wrap_k4 (show k ≤ 4000 by have := HN.out; omega)
      rw [hwk]
      refine ⟨⟨k + 1, c2, A2, hlt, rfl, rfl, Lib.hid (by rw [HTK.out, HPD.out]; exact hs6), Lib.hid ((Kt.balloc (Kt.balloc HB3.out _) _).trans hb6)⟩, ?_⟩
      exact meas3 hlt
    · obtain rfl : k = ps.length := by omega
      have he := (HB.out.block w1.heap.size (by have := HW0.out; omega)).trans HE.out
      have hec := cell_of_row _ _ 0 _ _ _ he
      have hez := (Array.getElem?_eq_some_iff.1 he).1
      clear he
      go_upto_region 11 with (fail)
      go_quiet (fail)
      go_wp2_with fail
      go_ret2
      refine ⟨A, co, rfl, ?_, ?_⟩
      · have := HSL.out
        rw [List.take_length] at this
        exact this.mono HB2.out.size
      · exact bdrewN (HB2.out.trans (HB.out.mono HB2.out.size)) _
end Go.Proofs.YtmnmlnnhngnfbaaDoor
