/- Disks: blocks walked. -/
import Derived.Test.YtafiedhjjnapoaaScsC
import Derived.Test.YtafiedhjjnapoaaAny
import Derived.StillTactics
import Derived.Deep.CutBlock
import Derived.Deep.CutRange
namespace Go.Proofs.Ytafiedhjjnapoaa
open Go.RowKit Go.Proofs.Ytafiedhjjnapoaa.Scs
theorem join_scs (l : List ByteArray) : (⟨(Lib.join (l.map (·.data.toList)) (⟨#[]⟩ : ByteArray).data.toList).toArray⟩ : ByteArray) = joinS l := by
  have key : Lib.join (l.map (·.data.toList)) (⟨#[]⟩ : ByteArray).data.toList = (l.map (·.data.toList)).flatten := by
    show List.intercalate ([] : List UInt8) (l.map (·.data.toList)) = _
    generalize l.map (·.data.toList) = m
    induction m with
    | nil => rfl
    | cons x m ih =>
      cases m with
      | nil => simp
      | cons y m => rw [List.intercalate_cons_cons, ih]; simp
  have k2 : ∀ (l : List ByteArray) (s : ByteArray), (l.foldl (· ++ ·) s).data.toList = s.data.toList ++ (l.map (·.data.toList)).flatten := by
    intro l
    induction l with
    | nil => intro s; simp
    | cons x l ih => intro s; rw [List.foldl_cons, ih]; simp [ByteArray.data_append]
  rw [key]
  apply ByteArray.ext
  apply Array.toList_inj.1
  have := k2 l ByteArray.empty
  rw [show joinS l = l.foldl (· ++ ·) ByteArray.empty from rfl, this]
  simp
theorem join_le (l : List ByteArray) (h : ∀ x ∈ l, x.size = 16) : (Lib.join (l.map (·.data.toList)) (⟨#[]⟩ : ByteArray).data.toList).length ≤ 16 * l.length := by
  show (List.intercalate ([] : List UInt8) (l.map (·.data.toList))).length ≤ _
  induction l with
  | nil => simp
  | cons x m ih =>
    have h1 : x.data.toList.length = 16 := by have := h x (by simp); simpa using this
    have h2 := ih (fun y hy => h y (by simp [hy]))
    cases m with
    | nil => simp; simp at h1; omega
    | cons y m =>
      rw [List.map_cons, List.map_cons, List.intercalate_cons_cons]
      rw [List.map_cons] at h2
      simp only [List.append_nil, List.length_append, List.length_cons] at h2 ⊢
      omega
theorem joins_calls (V : Value) (xs : List ByteArray) (w : World) (h : Kt.Ar w V 1 xs.length (sts xs)) (hn : xs.length ≤ 64) (hs : ∀ x ∈ xs, x.size = 16) : Calls Try.prog 13 #[V, .string ⟨#[]⟩] w fun e w' => e = .returned (.string (joinS xs)) ∧ Below w.heap.size w w' := by
  obtain ⟨A, c, rfl, hc, hx⟩ := h.form
  by_cases h0 : 0 < xs.length
  · obtain ⟨b, o, rfl, hb, hx⟩ := hx h0
    have hj := Try.strings_Join b o c xs ⟨#[]⟩ w (fun j x hj => by
      have hlt : j < xs.length := (List.getElem?_eq_some_iff.1 hj).1
      rw [hx j (by rw [sts_len]; exact hlt)]
      have := (List.getElem?_eq_some_iff.1 hj).2
      simp [sts, this]) hb (by omega) hc (by have := join_le xs hs; omega)
    rw [join_scs] at hj
    exact hj
  · obtain rfl : xs = [] := List.eq_nil_of_length_eq_zero (by omega)
    exact (Try.strings_Join_none A c ⟨#[]⟩ w).mono fun e w' ⟨h1, h2⟩ => ⟨h1, h2 ▸ Below.refl _ _⟩
theorem slice_win (W : World) (b o len cap l h : Nat) (z : Int) (hz : (h : Int) = z) (hlh : l ≤ h) (hh : h ≤ cap) :
    (Instr.slice 22 (.slice (some ⟨b, o, none⟩) len cap) (some (.int .i64 (l : Int))) (some (.int .i64 z)) none).run Try.prog W = .ok (.slice (some ⟨b, if cap = l then o else o + l, none⟩) (h - l) (cap - l)) W := by
  subst hz
  have ht' : Try.prog.underlying 22 = some (.slice (Try.prog.elem 22)) := by kernel_rfl
  have hz : (Go.sizeOf (Try.prog.elem 22)).run Try.prog W = .ok 1 W := by kernel_rfl
  rw [run_slice_lh W _ _ _ _ ht' .i64 .i64 _ _ (by omega) (by omega) (by omega), hz]
  by_cases hc : cap = l
  · subst hc; simp [Result.andThen, sliced]
  · by_cases h0 : l = 0
    · subst h0; simp [Result.andThen, sliced, Addr.add, hc]
    · simp [Result.andThen, sliced, Addr.add, hc, h0]
theorem putB_zero (bs : List ByteArray) (a : Nat) (d : ByteArray) : putB bs a d 0 = bs := by simp [putB]
theorem next_i {k n : Nat} (h : k < n) : (n - (intOf (.int .i64 ((k : Int) + 1))).toNat : Nat) < n - (intOf (.int .i64 (k : Int))).toNat := by
  show n - ((k : Int) + 1).toNat < n - ((k : Int)).toNat
  omega
theorem wr_in (x : Nat) (h : x < 9223372036854775808) : IntKind.i64.wrap (x : Int) = (x : Int) := by
  exact IntWalk.i64_in _ (by omega)
theorem or_pow (i a b : Nat) (hb : b < 2 ^ i) (h : a * 2 ^ i < 9223372036854775808) (hb2 : b < 9223372036854775808) : bits .or .i64 ((a * 2 ^ i : Nat) : Int) (b : Int) = ((a * 2 ^ i + b : Nat) : Int) := by
  rw [Kt.i64_or_nat _ _ h hb2, Nat.mul_comm a, ← Nat.two_pow_add_eq_or_of_lt hb]
theorem or_sum (x y : Nat) (i : Nat) (a : Nat) (hx : x = a * 2 ^ i) (hy : y < 2 ^ i) (h : x < 9223372036854775808) (h2 : y < 9223372036854775808) : bits .or .i64 (x : Int) (y : Int) = ((x + y : Nat) : Int) := by
  subst hx; exact or_pow i a y hy h h2
theorem sh_in (x k : Nat) (h : x * k < 9223372036854775808) (hx : x < 9223372036854775808) : IntKind.i64.wrap (IntKind.i64.wrap (x : Int) * (k : Int)) = ((x * k : Nat) : Int) := by
  rw [wr_in x hx, show (x : Int) * (k : Int) = ((x * k : Nat) : Int) by push_cast; rfl, wr_in _ h]
theorem lba_eq (x2 x3 x4 x5 : Nat) (h2 : x2 < 256) (h3 : x3 < 256) (h4 : x4 < 256) (h5 : x5 < 256) :
    bits .or .i64 (bits .or .i64 (bits .or .i64 (IntKind.i64.wrap (IntKind.i64.wrap (x2 : Int) * 16777216)) (IntKind.i64.wrap (IntKind.i64.wrap (x3 : Int) * 65536))) (IntKind.i64.wrap (IntKind.i64.wrap (x4 : Int) * 256))) (IntKind.i64.wrap (x5 : Int)) = ((x2 * 16777216 + x3 * 65536 + x4 * 256 + x5 : Nat) : Int) := by
  have a2 : IntKind.i64.wrap (IntKind.i64.wrap (x2 : Int) * 16777216) = ((x2 * 16777216 : Nat) : Int) := sh_in x2 16777216 (by omega) (by omega)
  have a3 : IntKind.i64.wrap (IntKind.i64.wrap (x3 : Int) * 65536) = ((x3 * 65536 : Nat) : Int) := sh_in x3 65536 (by omega) (by omega)
  have a4 : IntKind.i64.wrap (IntKind.i64.wrap (x4 : Int) * 256) = ((x4 * 256 : Nat) : Int) := sh_in x4 256 (by omega) (by omega)
  have a5 := wr_in x5 (by omega)
  rw [a2, a3, a4, a5]
  rw [or_sum _ _ 24 x2 (by omega) (by omega) (by omega) (by omega)]
  rw [or_sum _ _ 16 (x2 * 256 + x3) (by omega) (by omega) (by omega) (by omega)]
  rw [or_sum _ _ 8 (x2 * 65536 + x3 * 256 + x4) (by omega) (by omega) (by omega) (by omega)]
theorem cnt_eq (x7 x8 : Nat) (h7 : x7 < 256) (h8 : x8 < 256) : bits .or .i64 (IntKind.i64.wrap (IntKind.i64.wrap (x7 : Int) * 256)) (IntKind.i64.wrap (x8 : Int)) = ((x7 * 256 + x8 : Nat) : Int) := by
  have a7 : IntKind.i64.wrap (IntKind.i64.wrap (x7 : Int) * 256) = ((x7 * 256 : Nat) : Int) := sh_in x7 256 (by omega) (by omega)
  rw [a7, wr_in x8 (by omega), or_sum _ _ 8 x7 (by omega) (by omega) (by omega) (by omega)]
theorem lba_lt (c : ByteArray) : lba c < 4294967296 := by
  have := bt_lt c 2; have := bt_lt c 3; have := bt_lt c 4; have := bt_lt c 5
  unfold lba; omega
theorem cnt_lt (c : ByteArray) : cnt c < 65536 := by
  have := bt_lt c 7; have := bt_lt c 8
  unfold cnt; omega
/-- what blocks and do leave -/
structure DkW (g B : Nat) (bs : List ByteArray) (s : Int) (A : Option Addr) (cap : Nat) (W : World) : Prop where
  row : W.heap[g]? = some (.cells #[.slice A bs.length cap, .int .i64 s] 24 (0, 0))
  sl : Kt.Sl W B 9 1 (.slice A bs.length cap) bs.length (sts bs)
  lt : g < B
theorem DkW.on {g B : Nat} {bs : List ByteArray} {s : Int} {A : Option Addr} {cap : Nat} {W W' : World} (h : DkW g B bs s A cap W) (hb : Below W.heap.size W W') : DkW g B bs s A cap W' := ⟨Kt.row_on hb h.row, h.sl.on hb, h.lt⟩
def AnsIs (g B : Nat) (bs : List ByteArray) (s : Int) (c d : ByteArray) (A : Option Addr) (cap : Nat) (w : World) (e : Ending) (w' : World) : Prop :=
  (∃ f, ans bs s c d = .error f ∧ e = .returned (.tuple #[.string ⟨#[]⟩, errV f]) ∧ DkW g B bs s A cap w' ∧ Below B w w') ∨
  (∃ b o, ans bs s c d = .ok (b, o) ∧ b.length = bs.length ∧ e = .returned (.tuple #[.string o, errV 0]) ∧ DkW g B b s A cap w' ∧ Below B w w')
theorem hk_up {k n : Nat} (h : (k : Int) < n) : k + 1 ≤ n := by omega
theorem putB_step (bs : List ByteArray) (a : Nat) (d : ByteArray) (k : Nat) (h : a + (k + 1) ≤ bs.length) : (putB bs a d k).set (a + k) (d.extract (k * 16) (k * 16 + 16)) = putB bs a d (k + 1) := by
  apply List.ext_getElem?
  intro i
  have hl := putB_len bs a d k (by omega)
  rw [List.getElem?_set, putB_get _ _ _ _ h, putB_get _ _ _ _ (by omega)]
  by_cases hi : a + k = i
  · subst hi
    rw [if_pos rfl, if_pos (by omega), if_pos ⟨by omega, by omega⟩]
    simp [piece]
  · rw [if_neg hi]
    by_cases h2 : a ≤ i ∧ i < a + k
    · rw [if_pos h2, if_pos ⟨by omega, by omega⟩]
    · rw [if_neg h2, if_neg (by omega)]
theorem DkW.put {g B : Nat} {X Y : List ByteArray} {s : Int} {g2 o2 cap : Nat} {W : World} {N : Nat} (h : DkW g B X s (some ⟨g2, o2, none⟩) cap W) (hl : X.length = N) (j : Nat) (hj : j < N) (v : ByteArray) (hY : X.set j v = Y) (hg : B ≤ g2) :
    DkW g B Y s (some ⟨g2, o2, none⟩) cap (W.setCell ⟨g2, o2 + j, none⟩ (.string v)).drew := by
  subst hl hY
  have e : (sts X).set j (.string v) = sts (X.set j v) := by simp [sts, List.map_set]
  have hs := h.sl.put j (by omega) (.string v)
  have hne : g ≠ g2 := by have := h.lt; omega
  refine ⟨?_, ?_, h.lt⟩
  · rw [List.length_set]
    exact (heap_setCell_other _ _ _ _ hne).trans h.row
  · rw [List.length_set, ← e]; exact hs
theorem rnd_in {L a n k : Nat} (hL : L ≤ 64) (h : ¬ L < a + n) (hk : k < n) : (a : Int) + k < L ∧ (k : Int) < 64 := by omega
theorem rnd_at {g B : Nat} {X : List ByteArray} {s : Int} {g2 o2 cap : Nat} {W : World} (h : DkW g B X s (some ⟨g2, o2, none⟩) cap W) (N : Nat) (hl : X.length = N) (j : Nat) (hj : j < N) :
    (∀ i, W.cell? ⟨g, i, none⟩ = #[Value.slice (some ⟨g2, o2, none⟩) N cap, Value.int .i64 s][i]?) ∧ W.frozen? ⟨g2, o2 + j, none⟩ = false ∧ ∃ v, W.cell? ⟨g2, o2 + j, none⟩ = some v := by
  subst hl
  have hx : (sts X)[j]? = some (.string X[j]) := by simp [sts, hj]
  exact ⟨fun i => cell_of_row _ _ i _ _ _ h.row, Kt.sl_free h.sl _, _, Kt.sl_cell h.sl j _ hx⟩
theorem rnd_nums (a k : Nat) (hk : (k : Int) < 64) (ha : (a : Int) < 4294967296) : ((a : Int) + (k : Int)).toNat = a + k ∧ IntKind.i64.wrap ((k : Int) * 16) = (k : Int) * 16 ∧ IntKind.i64.wrap ((k : Int) + 1) = (k : Int) + 1 ∧ IntKind.i64.wrap (((k : Int) + 1) * 16) = ((k : Int) + 1) * 16 ∧ IntKind.i64.wrap ((a : Int) + k) = (a : Int) + k ∧ (0 : Int) ≤ ((k : Int) + 1) * 16 ∧ (0 : Int) ≤ (k : Int) * 16 ∧ (k : Int) * 16 ≤ ((k : Int) + 1) * 16 ∧ (k : Int) ≤ (k : Int) + 1 ∧ (0 : Int) ≤ (a : Int) + k ∧ ((k : Int) * 16).toNat = k * 16 ∧ (((k : Int) + 1) * 16).toNat = k * 16 + 16 :=
  ⟨by omega, IntWalk.i64_in _ (by omega), IntWalk.i64_in _ (by omega), IntWalk.i64_in _ (by omega), IntWalk.i64_in _ (by omega), by omega, by omega, by omega, by omega, by omega, by omega, by omega⟩
set_option maxRecDepth 100000 in
set_option maxHeartbeats 3200000 in
theorem blocks_calls (g B : Nat) (bs : List ByteArray) (s : Int) (c d : ByteArray) (A : Option Addr) (cap : Nat) (w : World) (h : DkW g B bs s A cap w) (hc : c.size = 10) (hf : formC c = 0) (hop : bt c 0 = 40 ∨ bt c 0 = 42 ∨ bt c 0 = 53) (hb1 : 1 ≤ bs.length) (hbn : bs.length ≤ 64) (hbz : ∀ b ∈ bs, b.size = 16) : Calls Try.prog 84 #[.pointer (some ⟨g, 0, none⟩), .string c, .string d] w (AnsIs g B bs s c d A cap w) := by
  have hc10 : (c.size : Int) = 10 := by omega
  go_enter Try.func84, Try.ntmps84
  go_upto_region 1 with (fail)
  have HLB : Hid (bits .or .i64 (bits .or .i64 (bits .or .i64 (IntKind.i64.wrap (IntKind.i64.wrap ((c[2]'(by omega)).toNat : Int) * 16777216)) (IntKind.i64.wrap (IntKind.i64.wrap ((c[3]'(by omega)).toNat : Int) * 65536))) (IntKind.i64.wrap (IntKind.i64.wrap ((c[4]'(by omega)).toNat : Int) * 256))) (IntKind.i64.wrap ((c[5]'(by omega)).toNat : Int)) = (lba c : Int)) := Lib.hid (by
    have b2 := bt_get c 2 (by omega); have b3 := bt_get c 3 (by omega); have b4 := bt_get c 4 (by omega); have b5 := bt_get c 5 (by omega)
    rw [← b2, ← b3, ← b4, ← b5]
    exact lba_eq _ _ _ _ (bt_lt _ _) (bt_lt _ _) (bt_lt _ _) (bt_lt _ _))
  have HCN : Hid (bits .or .i64 (IntKind.i64.wrap (IntKind.i64.wrap ((c[7]'(by omega)).toNat : Int) * 256)) (IntKind.i64.wrap ((c[8]'(by omega)).toNat : Int)) = (cnt c : Int)) := Lib.hid (by
    have b7 := bt_get c 7 (by omega); have b8 := bt_get c 8 (by omega)
    rw [← b7, ← b8]
    exact cnt_eq _ _ (bt_lt _ _) (bt_lt _ _))
  go_cut [8] from 11 to 28 (fun v wx => v = .int .i64 (lba c) ∧ wx = w.drew)
  case first =>
    refine wp_region_still_lit (by kernel_rfl) (by kernel_rfl) ?_
    change wpStill _ _ w.drew _ _ _
    iterate 19 still_step
    refine wpStill_nil ?_
    change Exit.then _ _ _ _ w.drew
    go_wp2_with fail
    go_meet
    exact ⟨by rw [HLB.out], rfl⟩
  case rest =>
    obtain ⟨rfl, rfl⟩ := hcut
    go_upto_region 2 with (fail)
    go_cut [9] from 29 to 36 (fun v wx => v = .int .i64 (cnt c) ∧ wx = w.drew.drew)
    case first =>
      refine wp_region_still_lit (by kernel_rfl) (by kernel_rfl) ?_
      change wpStill _ _ w.drew.drew _ _ _
      iterate 9 still_step
      refine wpStill_nil ?_
      change Exit.then _ _ _ _ w.drew.drew
      go_wp2_with fail
      go_meet
      exact ⟨by rw [HCN.out], rfl⟩
    case rest =>
      obtain ⟨rfl, rfl⟩ := hcut
      have HD : Hid (DkW g B bs s A cap w.drew.drew) := Lib.hid ⟨h.row, h.sl, h.lt⟩
      have HB : Hid (Below B w w.drew.drew) := Lib.hid (Below.refl _ _).drew.drew
      have q := fun i => cell_of_row _ _ i _ _ _ HD.out.row
      have hl1 : ((lba c : Nat) : Int) < 4294967296 := Int.ofNat_lt.2 (lba_lt c)
      have hn1 : ((cnt c : Nat) : Int) < 65536 := Int.ofNat_lt.2 (cnt_lt c)
      clear HLB HCN h
      generalize w.drew.drew = W at *
      have HANS : Hid (ans bs s c d = if bs.length < lba c + cnt c then .error 33 else if bt c 0 = 40 then .ok (bs, joinS ((bs.drop (lba c)).take (cnt c))) else if bt c 0 = 42 then (if d.size = cnt c * 16 then .ok (putB bs (lba c) d (cnt c), ByteArray.empty) else .error 36) else .ok (bs, ByteArray.empty)) := Lib.hid (by
        unfold ans
        rw [hf, if_neg (by decide), if_neg (by omega), if_neg (by omega), if_neg (by omega), if_neg (by omega), if_neg (by omega)])
      have hb0 := bt_get c 0 (by omega)
      generalize lba c = a at *
      generalize cnt c = n at *
      by_cases hbd : bs.length < a + n
      · have hbd' : (bs.length : Int) < (a : Int) + n := by omega
        have HE : Hid (ans bs s c d = .error 33) := Lib.hid (by rw [HANS.out, if_pos hbd])
        clear hbd HANS hb0
        go_wp2_with fail
        refine bodyPost_ret (v := .tuple #[.string ⟨#[]⟩, errV 33]) (by simp [results, Try.results84, go_sem, errV]) rfl ?_
        exact .inl ⟨33, HE.out, rfl, HD.out, HB.out⟩
      · have hbd' : ¬ (bs.length : Int) < (a : Int) + n := by omega
        rw [if_neg hbd] at HANS
        have HBD := Lib.hid hbd
        clear hbd
        by_cases h40 : bt c 0 = 40
        · rw [if_pos h40] at HANS
          have f1 : (((c[0]'(by omega)).toNat : Int) == 40) = true := by rw [beq_iff_eq, ← hb0]; omega
          clear hb0 h40 hop
          have HHB := Lib.hid (And.intro hbn hbz)
          obtain ⟨g2, o2, cap2, hA, hg2, hg2s, hcp, hcm, hce, _⟩ := HD.out.sl.cells hb1
          cases hA
          have HCE := Lib.hid hce
          have hac : (a : Int) + n ≤ cap := by omega
          clear hbz hce hcm hg2
          go_upto_region 7 with (fail)
          obtain ⟨o', ho'⟩ : ∃ x : Nat, x = if cap = a then o2 else o2 + a := ⟨_, rfl⟩
          have hsl := slice_win W g2 o2 bs.length cap a (a + n) ((a : Int) + n) (by omega) (by omega) (by omega)
          rw [← ho', show a + n - a = n from by omega] at hsl
          have HAR : Hid (Kt.Ar W (.slice (some ⟨g2, o', none⟩) n (cap - a)) 1 ((bs.drop a).take n).length (sts ((bs.drop a).take n))) := Lib.hid (by
            have hl : ((bs.drop a).take n).length = n := by simp; omega
            refine ⟨by rw [hl, sts_len, hl, Nat.mul_one], some ⟨g2, o', none⟩, cap - a, by rw [hl], by omega, fun h0 => ?_⟩
            refine ⟨g2, o', rfl, hg2s, fun j hj => ?_⟩
            rw [sts_len, hl] at hj
            rw [ho', if_neg (by omega), Nat.add_assoc, HCE.out (a + j) (by rw [sts_len]; omega)]
            simp [sts])
          have HJ : Hid (((bs.drop a).take n).length ≤ 64 ∧ ∀ x ∈ (bs.drop a).take n, x.size = 16) := Lib.hid ⟨by simp; omega, fun x hx => HHB.out.2 x (List.mem_of_mem_drop (List.mem_of_mem_take hx))⟩
          clear f1 hbd' hc10 hac ho' HCE HBD HHB hg2s
          go_wp2_with fail
          refine (joins_calls _ _ _ HAR.out HJ.out.1 HJ.out.2).mono ?_
          rintro e w1 ⟨rfl, hb⟩
          have HB1 := Lib.hid hb
          clear hb HAR HJ
          go_wp2_with fail
          have hBW : B ≤ W.heap.size := by have := HD.out.sl.lt g2 rfl; omega
          refine bodyPost_ret (v := .tuple #[.string (joinS (List.take n (List.drop a bs))), errV 0]) (by simp [results, Try.results84, go_sem, errV]) rfl ?_
          exact .inr ⟨bs, _, HANS.out, rfl, rfl, HD.out.on HB1.out, HB.out.trans (HB1.out.mono hBW)⟩
        rw [if_neg h40] at HANS
        have f40 : (((c[0]'(by omega)).toNat : Int) == 40) = false := by rw [beq_eq_false_iff_ne, ← hb0]; omega
        by_cases h42 : bt c 0 = 42
        · rw [if_pos h42] at HANS
          have f42 : (((c[0]'(by omega)).toNat : Int) == 42) = true := by rw [beq_iff_eq, ← hb0]; omega
          by_cases hd : d.size = n * 16
          · have HE : Hid (ans bs s c d = .ok (putB bs a d n, ByteArray.empty)) := Lib.hid (by rw [HANS.out, if_pos hd])
            have fd : ((d.size : Int) != (n : Int) * 16) = false := by rw [bne_eq_false_iff_eq]; omega
            have HDZ := Lib.hid hd
            have HG2 := HD.out.sl.cells hb1
            obtain ⟨g2, o2, cap2, hA, hg2, hg2s, hcp, hcm, hce, _⟩ := HG2
            cases hA
            have HL := Lib.hid (And.intro hb1 (And.intro hbn (And.intro hg2 hcp)))
            have hlt := HD.out.lt
            clear hd HANS hb0 h40 h42 hop hbz hce hcm hb1 hbn hg2s hg2 hcp hlt
            go_wp2_with fail
            go_loopw [70] (fun ii wr => ∃ k : Nat, ii = .int .i64 k ∧ Hid (k ≤ n) ∧ Hid (DkW g B (putB bs a d k) s (some ⟨g2, o2, none⟩) cap wr) ∧ Hid (Below B w wr)) (fun ii _ => n - (intOf ii).toNat)
            case atStart => exact ⟨0, rfl, Lib.hid (Nat.zero_le _), Lib.hid (by rw [putB_zero]; exact HD.out), HB⟩
            case round =>
              clear HD HB q
              obtain ⟨k, rfl, HK, HD, HB⟩ := hrel
              by_cases hk : k < n
              · have hk' : (k : Int) < n := by omega
                have hkc : ((k : Int) + 1) * 16 ≤ d.size := by have := HDZ.out; omega
                obtain ⟨hka, hkb⟩ := rnd_in HL.out.2.1 HBD.out hk
                obtain ⟨q, fz, old, cz⟩ := rnd_at HD.out bs.length (putB_len _ _ _ _ (by have := HBD.out; omega)) (a + k) (by have := HBD.out; omega)
                obtain ⟨htn, w1, w2, w3, w4, z1, z2, z3, z5, z4, t1, t3⟩ := rnd_nums a k (by omega) hl1
                clear hk
                go_wp2_with fail
                -- REGION 14
                refine Kt.G.start 15 (fun X => X = wr.drew) (by kernel_rfl) rfl (fun hHeld => ?_)
                refine Kt.G.takeP 0 { dst := some 73, op := Op.move (Operand.tmp 0), type := 140, pos := "scsi.go:130", after := #[], guard := none } ?_ (fun _ => hHeld) rfl (by kernel_rfl) (fun _ _ _ h => h) (by rfl) ?_ ?_
                rotate_left
                · intro w; go_simp; try with_reducible rfl
                try simp only [Act.put, List.setIfInBounds_toArray, List.set_cons_zero, List.set_cons_succ]
                refine Kt.G.takeP 1 { dst := some 74, op := Op.nilCheck (Operand.tmp 73), type := 0, pos := "scsi.go:130", after := #[{ on := 0, ground := Ground.data }], guard := none } ?_ (fun _ => hHeld) rfl (by kernel_rfl) (fun _ _ _ h => h) (by rfl) ?_ ?_
                rotate_left
                · intro w; go_simp; try with_reducible rfl
                try simp only [Act.put, List.setIfInBounds_toArray, List.set_cons_zero, List.set_cons_succ]
                refine Kt.G.takeP 2 { dst := some 75, op := Op.fieldAddr 24 (Operand.tmp 74) 0, type := 0, pos := "scsi.go:130", after := #[{ on := 1, ground := Ground.data }], guard := none } ?_ (fun _ => hHeld) rfl (by kernel_rfl) (fun _ _ _ h => h) (by rfl) ?_ ?_
                rotate_left
                · intro w; go_simp; try with_reducible rfl
                try simp only [Act.put, List.setIfInBounds_toArray, List.set_cons_zero, List.set_cons_succ]
                refine Kt.G.take 3 { dst := some 76, op := Op.load 22 (Operand.tmp 75), type := 22, pos := "scsi.go:130", after := #[{ on := 2, ground := Ground.data }], guard := none } ?_ hHeld rfl (by kernel_rfl) (fun _ _ _ h => h) (by rfl) ?_ ?_
                rotate_left
                · intro w hSw; subst hSw; go_simp; try with_reducible rfl
                try simp only [Act.put, List.setIfInBounds_toArray, List.set_cons_zero, List.set_cons_succ]
                refine Kt.G.takeP 4 { dst := some 77, op := Op.move (Operand.tmp 8), type := 3, pos := "scsi.go:130", after := #[], guard := none } ?_ (fun _ => hHeld) rfl (by kernel_rfl) (fun _ _ _ h => h) (by rfl) ?_ ?_
                rotate_left
                · intro w; go_simp; try with_reducible rfl
                try simp only [Act.put, List.setIfInBounds_toArray, List.set_cons_zero, List.set_cons_succ]
                refine Kt.G.takeP 5 { dst := some 78, op := Op.move (Operand.tmp 10), type := 3, pos := "scsi.go:130", after := #[], guard := none } ?_ (fun _ => hHeld) rfl (by kernel_rfl) (fun _ _ _ h => h) (by rfl) ?_ ?_
                rotate_left
                · intro w; go_simp; try with_reducible rfl
                try simp only [Act.put, List.setIfInBounds_toArray, List.set_cons_zero, List.set_cons_succ]
                refine Kt.G.takeP 6 { dst := some 79, op := Op.binOp BinOp.add 3 (Operand.tmp 77) (Operand.tmp 78) 3, type := 3, pos := "scsi.go:130", after := #[{ on := 4, ground := Ground.data }, { on := 5, ground := Ground.data }], guard := none } ?_ (fun _ => hHeld) rfl (by kernel_rfl) (fun _ _ _ h => h) (by rfl) ?_ ?_
                rotate_left
                · intro w; go_simp; try with_reducible rfl
                try simp only [Act.put, List.setIfInBounds_toArray, List.set_cons_zero, List.set_cons_succ]
                refine Kt.G.takeP 7 { dst := some 80, op := Op.move (Operand.tmp 2), type := 9, pos := "scsi.go:130", after := #[], guard := none } ?_ (fun _ => hHeld) rfl (by kernel_rfl) (fun _ _ _ h => h) (by rfl) ?_ ?_
                rotate_left
                · intro w; go_simp; try with_reducible rfl
                try simp only [Act.put, List.setIfInBounds_toArray, List.set_cons_zero, List.set_cons_succ]
                refine Kt.G.takeP 8 { dst := some 81, op := Op.move (Operand.tmp 10), type := 3, pos := "scsi.go:130", after := #[], guard := none } ?_ (fun _ => hHeld) rfl (by kernel_rfl) (fun _ _ _ h => h) (by rfl) ?_ ?_
                rotate_left
                · intro w; go_simp; try with_reducible rfl
                try simp only [Act.put, List.setIfInBounds_toArray, List.set_cons_zero, List.set_cons_succ]
                refine Kt.G.takeP 9 { dst := some 82, op := Op.binOp BinOp.mul 3 (Operand.tmp 81) (Operand.const (Value.int IntKind.i64 16)) 3, type := 3, pos := "scsi.go:130", after := #[{ on := 8, ground := Ground.data }], guard := none } ?_ (fun _ => hHeld) rfl (by kernel_rfl) (fun _ _ _ h => h) (by rfl) ?_ ?_
                rotate_left
                · intro w; go_simp; try with_reducible rfl
                try simp only [Act.put, List.setIfInBounds_toArray, List.set_cons_zero, List.set_cons_succ]
                refine Kt.G.takeP 10 { dst := some 83, op := Op.move (Operand.tmp 10), type := 3, pos := "scsi.go:130", after := #[], guard := none } ?_ (fun _ => hHeld) rfl (by kernel_rfl) (fun _ _ _ h => h) (by rfl) ?_ ?_
                rotate_left
                · intro w; go_simp; try with_reducible rfl
                try simp only [Act.put, List.setIfInBounds_toArray, List.set_cons_zero, List.set_cons_succ]
                refine Kt.G.takeP 11 { dst := some 84, op := Op.binOp BinOp.add 3 (Operand.tmp 83) (Operand.const (Value.int IntKind.i64 1)) 3, type := 3, pos := "scsi.go:130", after := #[{ on := 10, ground := Ground.data }], guard := none } ?_ (fun _ => hHeld) rfl (by kernel_rfl) (fun _ _ _ h => h) (by rfl) ?_ ?_
                rotate_left
                · intro w; go_simp; try with_reducible rfl
                try simp only [Act.put, List.setIfInBounds_toArray, List.set_cons_zero, List.set_cons_succ]
                refine Kt.G.takeP 12 { dst := some 85, op := Op.binOp BinOp.mul 3 (Operand.tmp 84) (Operand.const (Value.int IntKind.i64 16)) 3, type := 3, pos := "scsi.go:130", after := #[{ on := 11, ground := Ground.data }], guard := none } ?_ (fun _ => hHeld) rfl (by kernel_rfl) (fun _ _ _ h => h) (by rfl) ?_ ?_
                rotate_left
                · intro w; go_simp; try with_reducible rfl
                try simp only [Act.put, List.setIfInBounds_toArray, List.set_cons_zero, List.set_cons_succ]
                refine Kt.G.takeP 13 { dst := some 86, op := Op.slice 9 (Operand.tmp 80) (some (Operand.tmp 82)) (some (Operand.tmp 85)) none, type := 9, pos := "scsi.go:130", after := #[{ on := 7, ground := Ground.data }, { on := 9, ground := Ground.data }, { on := 12, ground := Ground.data }], guard := none } ?_ (fun _ => hHeld) rfl (by kernel_rfl) (fun _ _ _ h => h) (by rfl) ?_ ?_
                rotate_left
                · intro w; go_simp; try with_reducible rfl
                try simp only [Act.put, List.setIfInBounds_toArray, List.set_cons_zero, List.set_cons_succ]
                refine Kt.G.takeP 14 { dst := some 87, op := Op.indexAddr 22 (Operand.tmp 76) (Operand.tmp 79), type := 0, pos := "scsi.go:130", after := #[{ on := 3, ground := Ground.data }, { on := 6, ground := Ground.data }, { on := 0, ground := Ground.phase }, { on := 1, ground := Ground.phase }, { on := 2, ground := Ground.phase }, { on := 3, ground := Ground.phase }, { on := 4, ground := Ground.phase }, { on := 5, ground := Ground.phase }, { on := 6, ground := Ground.phase }, { on := 7, ground := Ground.phase }, { on := 8, ground := Ground.phase }, { on := 9, ground := Ground.phase }, { on := 10, ground := Ground.phase }, { on := 11, ground := Ground.phase }, { on := 12, ground := Ground.phase }, { on := 13, ground := Ground.phase }], guard := none } ?_ (fun _ => hHeld) rfl (by kernel_rfl) (fun _ _ _ h => h) (by rfl) ?_ ?_
                rotate_left
                · intro w; go_simp; try with_reducible rfl
                try simp only [Act.put, List.setIfInBounds_toArray, List.set_cons_zero, List.set_cons_succ]
                refine Kt.G.one 15 { dst := none, op := Op.store 9 (Operand.tmp 87) (Operand.tmp 86), type := 0, pos := "scsi.go:130", after := #[{ on := 14, ground := Ground.data }, { on := 13, ground := Ground.data }, { on := 0, ground := Ground.phase }, { on := 1, ground := Ground.phase }, { on := 2, ground := Ground.phase }, { on := 3, ground := Ground.phase }, { on := 4, ground := Ground.phase }, { on := 5, ground := Ground.phase }, { on := 6, ground := Ground.phase }, { on := 7, ground := Ground.phase }, { on := 8, ground := Ground.phase }, { on := 9, ground := Ground.phase }, { on := 10, ground := Ground.phase }, { on := 11, ground := Ground.phase }, { on := 12, ground := Ground.phase }, { on := 13, ground := Ground.phase }], guard := none } rfl (by kernel_rfl) (by rfl) (fun K hK => ?_)
                go_simp
                refine hK.out _ _ (Kt.G.late (by kernel_rfl)) (fun _ => ?_)
                clear hK K
                try simp only [Act.put, List.setIfInBounds_toArray, List.set_cons_zero, List.set_cons_succ]
                refine Kt.G.done (by kernel_rfl) (NoPanic.normal ?_) _
                -- END 14
                go_wp2_with fail
                exact ⟨⟨k + 1, rfl, Lib.hid (hk_up hk'), Lib.hid (HD.out.put (putB_len _ _ _ _ (by have := HBD.out; omega)) _ (by have := HBD.out; omega) _ (putB_step bs a d k (by have := HBD.out; omega)) HL.out.2.2.1), Lib.hid (HB.out.trans ((Below.refl _ _).setCell HL.out.2.2.1 _).drew)⟩, next_i (hk_up hk')⟩
              · have hk' : ¬ (k : Int) < n := by omega
                go_wp2_with fail
                obtain rfl : k = n := by have := HK.out; omega
                refine bodyPost_ret (v := .tuple #[.string ⟨#[]⟩, errV 0]) (by simp [results, Try.results84, go_sem, errV]) rfl ?_
                exact .inr ⟨_, _, HE.out, putB_len _ _ _ _ (by have := HBD.out; omega), rfl, HD.out, HB.out⟩
          · have HE : Hid (ans bs s c d = .error 36) := Lib.hid (by rw [HANS.out, if_neg hd])
            have fd : ((d.size : Int) != (n : Int) * 16) = true := by rw [bne_iff_ne]; omega
            clear hd HANS hb0 h40 h42 hop
            go_wp2_with fail
            refine bodyPost_ret (v := .tuple #[.string ⟨#[]⟩, errV 36]) (by simp [results, Try.results84, go_sem, errV]) rfl ?_
            exact .inl ⟨36, HE.out, rfl, HD.out, HB.out⟩
        · rw [if_neg h42] at HANS
          have f42 : (((c[0]'(by omega)).toNat : Int) == 42) = false := by rw [beq_eq_false_iff_ne, ← hb0]; omega
          clear hb0 h40 h42 hop
          go_wp2_with fail
          refine bodyPost_ret (v := .tuple #[.string ⟨#[]⟩, errV 0]) (by simp [results, Try.results84, go_sem, errV]) rfl ?_
          exact .inr ⟨bs, _, HANS.out, rfl, rfl, HD.out, HB.out⟩
end Go.Proofs.Ytafiedhjjnapoaa
