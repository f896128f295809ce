/- The laws of budgets, walked: Other, Fewer. -/
import Derived.Test.YthmcnopogahffaaBudM
import Derived.Test.YthmcnopogahffaaShelf
import Derived.Laws.IdiomCopy
namespace Go.Proofs.Ythmcnopogahffaa
open Go.RowKit Go.Shelf Go.Proofs.Ythmcnopogahffaa.Bud
theorem pairs_of {w : World} {B : Nat} : ∀ (els : List (List Value)), (∀ x ∈ els, x.length = 2 ∧ Fr.Rd w B beTy x) → ∃ l : List (Int × Int), l.length = els.length ∧ els.flatten = spv l
  | [], _ => ⟨[], rfl, rfl⟩
  | x :: els, h => by
    obtain ⟨l, h1, h2⟩ := pairs_of els (fun y hy => h y (by simp [hy]))
    obtain ⟨hl, _, ⟨a, ha, _⟩, _, ⟨b, hb, _⟩, _⟩ := h x (by simp)
    refine ⟨(a, b) :: l, by simp [h1], ?_⟩
    have e : x = [.int .i64 a, .int .i64 b] := by
      match x, hl with
      | [p, q], _ =>
        simp only [List.take_succ_cons, List.take_zero, List.drop_succ_cons, List.drop_zero, List.cons.injEq, and_true] at ha hb
        rw [ha, hb]
    rw [List.flatten_cons, h2, e]; rfl
theorem bs_of {w : World} {v : Value} (r : Fr.RdV w reachBytes (.slice 2 beTy) v) (m : ∀ a l c, v = .slice a l c → l * Try.prog.bytesOf 31 ≤ reachBytes) : ∃ A c n l, l.length = n ∧ v = .slice A n c ∧ Kt.Ar w (.slice A n c) 2 n (spv l) ∧ n ≤ 17592186044416 := by
  obtain ⟨els, he, _, h⟩ := Kt.ar_open r (by decide)
  obtain ⟨l, h1, h2⟩ := pairs_of els he
  rw [h2, ← h1] at h
  obtain ⟨A, c, rfl, _, _⟩ := h.form
  have hby : Try.prog.bytesOf 31 = 16 := by kernel_rfl
  have b := m _ _ _ rfl
  rw [hby] at b
  refine ⟨A, c, l.length, l, rfl, rfl, h, ?_⟩
  unfold reachBytes at b
  omega
theorem gd_share {lanes : Int} {ps : List Int} {bs : List (Int × Int)} (h : Gd lanes ps bs) : shareN ps ≤ 32 * lanes.toNat := by
  obtain ⟨_, _, hall⟩ := args_zero h.a
  exact rt_share (fun t ht => pw_nats hall t (List.mem_range.1 ht)) h.r
theorem told_ok {lanes : Int} {ps : List Int} {B : Nat} {w' : World} {V : Value} {c : Int} (h : Told lanes ps B w' V c) (ha : args lanes ps = 0) (hs : shareN ps ≤ 32 * lanes.toNat) : c = 0 := by
  cases h with
  | bad _ h1 _ => exact absurd ha h1
  | full _ h2 => omega
  | ok => rfl
theorem told_yes {lanes : Int} {ps : List Int} {B : Nat} {w' : World} {V : Value} {c : Int} (h : Told lanes ps B w' V c) (hc : c = 0) : args lanes ps = 0 ∧ shareN ps ≤ 32 * lanes.toNat := by
  cases h with
  | bad _ _ h => rcases h with h | h <;> rw [h] at hc <;> cases hc
  | full => cases hc
  | ok _ _ h1 h2 => exact ⟨h1, h2⟩
set_option maxRecDepth 100000 in
set_option maxHeartbeats 6400000 in
theorem other_walk (v0 v1 v2 : Value) (w : World) (r0 : Fr.RdV w reachBytes (.slice 1 (.int .i64)) v0) (r1 : Fr.RdV w reachBytes (.slice 2 (.cat 1 (.int .i64) (.cat 1 (.int .i64) .nil))) v1) (r2 : Fr.RdV w reachBytes (.int .i64) v2) (m0 : ∀ a l c, v0 = .slice a l c → l * Try.prog.bytesOf 3 ≤ reachBytes) (m1 : ∀ a l c, v1 = .slice a l c → l * Try.prog.bytesOf 31 ≤ reachBytes) :
    Calls Try.prog 5 #[v0, v1, v2] w fun e w' => e = .returned (.bool true) ∧ Below w.heap.size w w' := by
  obtain ⟨A0, c0, n, ps, hn, rfl, hv, hm⟩ := ps_of r0 m0
  obtain ⟨A1, c1, n1, bs, hn1, rfl, hv1, hm1⟩ := bs_of r1 m1
  obtain ⟨lanes, e1, _⟩ := r2
  cases e1
  clear r0 m0 r1 m1
  have HP := Lib.hid (fun W (hb : Below w.heap.size w W) => plan_calls lanes ps A0 n c0 hn W (hv.on hb) hm)
  have HC := Lib.hid (fun W (hb : Below w.heap.size w W) => check_calls lanes ps bs A0 A1 n n1 c0 c1 hn hn1 W (hv.on hb) (hv1.on hb) hm hm1)
  have HL := Lib.hid lives_calls
  have HV := Lib.hid hv
  clear hv hm hv1 hm1
  go_enter Try.func5, Try.ntmps5
  go_wp2_with fail
  refine (HL.out w).mono ?_
  rintro _ w1 ⟨rfl, hb⟩
  have HB1 := Lib.hid hb
  clear hb
  go_wp2_with fail
  refine (HC.out w1 HB1.out).mono ?_
  rintro _ w2 ⟨hb, c, rfl, hc⟩
  have HB2 := Lib.hid (Kt.bthen HB1.out hb)
  have HCC := Lib.hid hc
  clear hb HB1 HC hc
  by_cases h0 : c = 0
  · subst h0
    have HG := Lib.hid (HCC.out.1 rfl)
    obtain ⟨⟨hl1, hl2⟩, hlen, hall⟩ := args_zero HG.out.a
    have HSH := Lib.hid (fun W (hb : Below w.heap.size w W) => share_calls ps A0 n c0 hn W (HV.out.on hb) hall (by rw [← hn]; exact hlen))
    obtain ⟨L, hL⟩ : ∃ L : Nat, lanes = (L : Int) := ⟨lanes.toNat, by omega⟩
    subst hL
    have hss : (shareN ps : Int) ≤ 32 * (L : Int) := by have h := gd_share HG.out; rw [Int.toNat_natCast] at h; omega
    obtain ⟨S, hS⟩ : ∃ S : Int, S = (shareN ps : Int) := ⟨_, rfl⟩
    rw [← hS] at HSH hss
    clear hS hlen hall HV HCC
    go_wp2_with fail
    refine (HP.out w2 HB2.out).mono ?_
    rintro _ w3 ⟨hb, V, c, rfl, hpl⟩
    obtain rfl : c = 0 := told_ok (told_of hpl) HG.out.a (gd_share HG.out)
    have HB3 := Lib.hid (Kt.bthen HB2.out hb)
    clear hb HB2 hpl
    go_wp2_with fail
    refine (HSH.out w3 HB3.out).mono ?_
    rintro _ w4 ⟨rfl, hb⟩
    have HB4 := Lib.hid (Kt.bthen HB3.out hb)
    clear hb HB3 HSH
    go_wp2_with fail
    go_ret
    exact ⟨rfl, HB4.out⟩
  · go_wp2_with fail
    refine (HL.out w2).mono ?_
    rintro _ w3 ⟨rfl, hb⟩
    have HB3 := Lib.hid (Kt.bthen HB2.out hb)
    clear hb HB2
    go_wp2_with fail
    go_ret
    exact ⟨rfl, HB3.out⟩
theorem shr_sum (qs : List Nat) : shr qs (List.range qs.length) = (qs.map fun q => 32 / q).sum := by
  unfold shr
  refine congrArg List.sum (List.ext_getElem (by simp) fun i h1 h2 => ?_)
  have hi : i < qs.length := by simpa using h1
  simp [per, List.getD_eq_getElem?_getD, List.getElem?_eq_getElem hi]
theorem share_sum (ps : List Int) : shareN ps = ((nats ps).map fun q => 32 / q).sum := by
  unfold shareN
  rw [← nats_len, shr_sum]
def without (ps : List Int) (o : Nat) : List Int := ps.take o ++ ps.drop (o + 1)
theorem without_len {ps : List Int} {o : Nat} (h : o < ps.length) : (without ps o).length = ps.length - 1 := by simp [without]; omega
theorem without_sub (ps : List Int) (o : Nat) : (without ps o).Sublist ps := by
  unfold without
  have h1 : (ps.take o ++ ps.drop (o + 1)).Sublist (ps.take o ++ ps.drop o) := by
    refine List.Sublist.append_left ?_ _
    rw [← List.drop_drop]
    exact List.drop_sublist _ _
  rwa [List.take_append_drop] at h1
theorem without_ok {lanes : Int} {ps : List Int} {o : Nat} (ha : args lanes ps = 0) : args lanes (without ps o) = 0 := by
  obtain ⟨hl, hlen, hall⟩ := args_zero ha
  have hs := without_sub ps o
  unfold args
  rw [if_neg (by omega), if_neg (by have := hs.length_le; omega), if_pos]
  rw [List.all_eq_true] at hall ⊢
  exact fun x hx => hall x (hs.subset hx)
theorem sub_sum {a b : List Nat} (h : a.Sublist b) : a.sum ≤ b.sum := by
  induction h with
  | slnil => exact Nat.le_refl _
  | cons x _ ih => rw [List.sum_cons]; omega
  | cons_cons x _ ih => rw [List.sum_cons, List.sum_cons]; omega
theorem without_share (ps : List Int) (o : Nat) : shareN (without ps o) ≤ shareN ps := by
  rw [share_sum, share_sum]
  unfold nats
  exact sub_sum (((without_sub ps o).map _).map _)
theorem more_lane {L : Nat} {ps : List Int} (ha : args (L : Int) ps = 0) : (L = 8 ∧ args ((L + 1 : Nat) : Int) ps = 1) ∨ (L < 8 ∧ args ((L + 1 : Nat) : Int) ps = 0) := by
  obtain ⟨hl, hlen, hall⟩ := args_zero ha
  by_cases h : L = 8
  · refine .inl ⟨h, ?_⟩
    unfold args
    rw [if_pos (by omega)]
  · refine .inr ⟨by omega, ?_⟩
    unfold args
    rw [if_neg (by omega), if_neg (by omega), if_pos hall]
theorem del_ar {W : World} {g o n c k : Nat} {ps : List Int} {q : Nat} (hn : ps.length = n) (hk : k < n) (hc : n ≤ c) (hcell : ∀ j, j < n → (W.cell? ⟨g, o + j, none⟩).isSome = true) :
    Kt.Ar ((W.drewN q).setCells g o (((ps.take n).take k ++ (ps.take n).drop (k + 1) ++ List.replicate (k + 1 - k) 0).map (Value.int .i64))) (.slice (some ⟨g, o, none⟩) (n - (k + 1 - k)) c) 1 (n - 1) (iv (without ps k)) := by
  have e1 : ps.take n = ps := List.take_of_length_le (by omega)
  have e2 : k + 1 - k = 1 := by omega
  rw [e1, e2]
  have hwl : (without ps k).length = n - 1 := by rw [without_len (by omega), hn]
  have hg : g < W.heap.size := by
    have := hcell 0 (by omega)
    obtain ⟨v, hv⟩ := Option.isSome_iff_exists.1 this
    exact World.block_lt_of_cell? W _ hv
  refine ⟨by simp [iv, hwl], _, _, rfl, by omega, fun _ => ⟨g, o, rfl, ?_, fun j hj => ?_⟩⟩
  · exact Nat.lt_of_lt_of_le hg (Kt.below_setCells _ g o (W.drewN q) _ (Nat.le_refl g) (Below.refl g (W.drewN q))).size
  · have hj2 : j < n - 1 := by simp [iv, hwl] at hj; exact hj
    have hl : ((ps.take k ++ ps.drop (k + 1) ++ List.replicate 1 0).map (Value.int .i64)).length = n := by simp; omega
    rw [World.cell?_setCells_in g _ o (W.drewN q) (fun i hi => hcell i (by rw [hl] at hi; exact hi)) j (by rw [hl]; omega)]
    congr 1
    simp only [iv, List.getElem_map]
    congr 1
    exact List.getElem_append_left (by rw [← without, hwl]; exact hj2)
theorem iv_cells (ps : List Int) : ∀ u ∈ iv ps, u.oneCell' = true := fun u hu => by
  obtain ⟨x, _, rfl⟩ := List.mem_map.1 hu
  rfl
theorem iv_getD {ps : List Int} {j : Nat} (h : j < ps.length) : (iv ps)[j]? = some (.int .i64 (ps.getD j 0)) := by
  simp [iv, List.getElem?_eq_getElem h, List.getD_eq_getElem?_getD]
set_option maxRecDepth 100000 in
set_option maxHeartbeats 6400000 in
theorem fewer_walk (v0 v1 v2 : Value) (w : World) (r0 : Fr.RdV w reachBytes (.slice 1 (.int .i64)) v0) (r1 : Fr.RdV w reachBytes (.int .i64) v1) (r2 : Fr.RdV w reachBytes (.int .i64) v2) (m0 : ∀ a l c, v0 = .slice a l c → l * Try.prog.bytesOf 3 ≤ reachBytes) :
    Calls Try.prog 6 #[v0, v1, v2] w fun e w' => e = .returned (.bool true) ∧ Below w.heap.size w w' := by
  obtain ⟨A0, c0, n, ps, hn, rfl, hv, hm⟩ := ps_of r0 m0
  obtain ⟨lanes, e1, _⟩ := r1
  obtain ⟨out, e2, _⟩ := r2
  cases e1; cases e2
  clear r0 m0
  have HP := Lib.hid (fun lanes W (hb : Below w.heap.size w W) => plan_calls lanes ps A0 n c0 hn W (hv.on hb) hm)
  have HCL := Lib.hid (fun W (hb : Below w.heap.size w W) => clonen_calls (.slice A0 n c0) n (iv ps) W (hv.on hb) (iv_cells ps) hm)
  have HL := Lib.hid lives_calls
  have HN := Lib.hid hn
  clear hv hm hn
  go_enter Try.func6, Try.ntmps6
  go_wp2_with fail
  refine (HP.out lanes w (Below.refl _ _)).mono ?_
  rintro _ w1 ⟨hb, V, c, rfl, hpl⟩
  have HB1 := Lib.hid hb
  have HT := Lib.hid (told_of hpl)
  clear hb hpl
  by_cases h0 : c = 0
  · subst h0
    by_cases h1 : 0 ≤ out
    · by_cases h2 : out < n
      · obtain ⟨hargs, hsh⟩ := told_yes HT.out rfl
        obtain ⟨o, ho⟩ : ∃ o : Nat, out = (o : Int) := ⟨out.toNat, by omega⟩
        subst ho
        obtain ⟨⟨hl1, hl2⟩, hlen, hall⟩ := args_zero hargs
        obtain ⟨L, hL⟩ : ∃ L : Nat, lanes = (L : Int) := ⟨lanes.toNat, by omega⟩
        subst hL
        rw [Int.toNat_natCast] at hsh
        have hon : o < n := by omega
        have hn64 : n ≤ 64 := by rw [← HN.out]; exact hlen
        have HO := Lib.hid hon; have HN64 := Lib.hid hn64
        have HAR := Lib.hid hargs; have HSH := Lib.hid hsh
        have hwo : wrap64 ((o : Int) + 1) = ((o + 1 : Nat) : Int) := by unfold wrap64; omega
        have HWL : Hid (((L + 1 : Nat) : Int) = (L : Int) + 1) := Lib.hid rfl
        clear hargs hsh hlen hall hon hn64 HT
        go_wp2_with fail
        refine (HL.out w1).mono ?_
        rintro _ w2 ⟨rfl, hb⟩
        have HB2 := Lib.hid (Kt.bthen HB1.out hb)
        clear hb HB1
        go_wp2_with fail
        refine (HCL.out w2 HB2.out).mono ?_
        rintro _ w3 ⟨A, c, rfl, hs, hb⟩
        have HB3 := Lib.hid (Kt.bthen HB2.out hb)
        obtain ⟨g, oo, cap, e, hg1, _, hnc, hcm, hcells, hfr⟩ := hs.cells (Nat.lt_of_le_of_lt (Nat.zero_le _) HO.out)
        cases e
        have hlen2 : (iv ps).length = n := by simp [iv]; exact HN.out
        have HCE : Hid (∀ j, j < n → w3.cell? ⟨g, oo + j, none⟩ = some (.int .i64 (ps.getD j 0))) := Lib.hid (fun j hj => by
          rw [hcells j (by rw [hlen2]; exact hj), ← List.getElem?_eq_getElem, iv_getD (by rw [HN.out]; exact hj)])
        have HDL := Lib.hid (Try.slices_Delete_int_cells g oo n c o (o + 1) ps w3 (by rw [HN.out]; exact Nat.le_refl _) hnc (by unfold maxLen at hcm; omega) (Nat.le_succ _) HO.out (fun j hj => HCE.out j (by rw [← HN.out]; exact hj)) (fun j _ => hfr (oo + j)))
        have HGE : Hid (w.heap.size ≤ g) := Lib.hid (Nat.le_trans HB2.out.size hg1)
        have HAD := Lib.hid (fun q => del_ar (W := w3) (g := g) (o := oo) (c := c) (k := o) (q := q) HN.out HO.out hnc (fun j hj => by rw [HCE.out j hj]; rfl))
        clear hs hb hg1 hnc hcm hcells hfr HB2 HCE HCL hlen2
        go_wp2_with fail
        refine HDL.out.mono ?_
        rintro _ w4 ⟨rfl, q, rfl⟩
        have HB4 := Lib.hid (Kt.below_setCells (((ps.take n).take o ++ (ps.take n).drop (o + 1) ++ List.replicate (o + 1 - o) 0).map (Value.int .i64)) g oo (w3.drewN q) w HGE.out (bdrewN HB3.out q))
        have HA4 := Lib.hid (HAD.out q)
        have e1 : n - (o + 1 - o) = n - 1 := by omega
        rw [e1] at HA4 ⊢
        have HP2 := Lib.hid (plan_calls (L : Int) (without ps o) (some ⟨g, oo, none⟩) (n - 1) c (by rw [without_len (by rw [HN.out]; exact HO.out), HN.out]) _ HA4.out (by have := HN64.out; omega))
        clear HAD HDL e1 HB3 HA4
        generalize (w3.drewN q).setCells g oo (((ps.take n).take o ++ (ps.take n).drop (o + 1) ++ List.replicate (o + 1 - o) 0).map (Value.int .i64)) = W4 at *
        go_wp2_with fail
        refine HP2.out.mono ?_
        rintro _ w5 ⟨hb, V5, c5, rfl, hpl⟩
        obtain rfl : c5 = 0 := told_ok (told_of hpl) (without_ok HAR.out) (Nat.le_trans (without_share ps o) HSH.out)
        have HB5 := Lib.hid (Kt.bthen HB4.out hb)
        clear hb hpl HB4 HP2
        go_wp2_with fail
        refine (HP.out ((L + 1 : Nat) : Int) w5 HB5.out).mono ?_
        rintro _ w6 ⟨hb, V6, c6, rfl, hpl⟩
        have HB6 := Lib.hid (Kt.bthen HB5.out hb)
        have hc6 : c6 = 0 ∨ L = 8 := by
          rcases more_lane HAR.out with ⟨h, _⟩ | ⟨_, h⟩
          · exact .inr h
          · exact .inl (told_ok (told_of hpl) h (by rw [Int.toNat_natCast]; have := HSH.out; omega))
        clear hb hpl HB5
        by_cases h6 : c6 = 0
        · subst h6
          go_wp2_with fail
          go_ret
          exact ⟨rfl, HB6.out⟩
        · obtain rfl : L = 8 := by rcases hc6 with h | h <;> first | exact absurd h h6 | exact h
          go_wp2_with fail
          go_ret
          exact ⟨rfl, HB6.out⟩
      · go_wp2_with fail
        refine (HL.out w1).mono ?_
        rintro _ w2 ⟨rfl, hb⟩
        have HB2 := Lib.hid (Kt.bthen HB1.out hb)
        clear hb HB1
        go_wp2_with fail
        refine (HL.out w2).mono ?_
        rintro _ w3 ⟨rfl, hb⟩
        have HB3 := Lib.hid (Kt.bthen HB2.out hb)
        clear hb HB2
        go_wp2_with fail
        go_ret
        exact ⟨rfl, HB3.out⟩
    · go_wp2_with fail
      refine (HL.out w1).mono ?_
      rintro _ w2 ⟨rfl, hb⟩
      have HB2 := Lib.hid (Kt.bthen HB1.out hb)
      clear hb HB1
      go_wp2_with fail
      refine (HL.out w2).mono ?_
      rintro _ w3 ⟨rfl, hb⟩
      have HB3 := Lib.hid (Kt.bthen HB2.out hb)
      clear hb HB2
      go_wp2_with fail
      go_ret
      exact ⟨rfl, HB3.out⟩
  · go_wp2_with fail
    refine (HL.out w1).mono ?_
    rintro _ w2 ⟨rfl, hb⟩
    have HB2 := Lib.hid (Kt.bthen HB1.out hb)
    clear hb HB1
    go_wp2_with fail
    refine (HL.out w2).mono ?_
    rintro _ w3 ⟨rfl, hb⟩
    have HB3 := Lib.hid (Kt.bthen HB2.out hb)
    clear hb HB2
    go_wp2_with fail
    go_ret
    exact ⟨rfl, HB3.out⟩
end Go.Proofs.Ythmcnopogahffaa
