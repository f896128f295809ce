/- budget: the comparison by periods, SortStableFunc, Plan walked. -/
import Derived.Test.YthmcnopogahffaaBudC
import Derived.Test.YthmcnopogahffaaAny
import Derived.Laws.MakeOwn
import Derived.Laws.OwnMore
namespace Go.Proofs.Ythmcnopogahffaa
open Go.RowKit Go.Shelf Go.Proofs.Ythmcnopogahffaa.Bud
theorem dif_bd {p q : Nat} (hp : pw p) (hq : pw q) : wrap64 ((p : Int) - (q : Int)) = (p : Int) - q ∧ IntKind.i64.wrap ((p : Int) - (q : Int)) = (p : Int) - q := by
  have := pw_pos hp
  have := pw_pos hq
  exact ⟨wrap_i (by omega), wrap_k (by omega)⟩
set_option maxRecDepth 100000 in
set_option maxHeartbeats 1600000 in
theorem cmp_ok (w0 : World) (b n : Nat) (qs : List Nat) (QA : Option Addr) (qc : Nat) (hn : qs.length = n) (hb : w0.heap[b]? = some (.cells #[.slice QA n qc] 22 (0, 0))) (hq : Kt.Ar w0 (.slice QA n qc) 1 n (iz qs)) (hpw : ∀ i, i < n → pw (per qs i)) : CmpOk w0 w0.heap.size b n (fun x => (per qs x : Int)) := by
  refine ⟨fun x hx => by have := pw_pos (hpw x hx); show 1 ≤ (per qs x : Int) ∧ (per qs x : Int) ≤ 32; omega, fun W hB x y hx hy => ?_⟩
  have HB := Lib.hid (Below.refl W.heap.size W)
  obtain ⟨g1, o1, rfl, _, x1⟩ := (hq.on hB).izAt hn x hx
  obtain ⟨g2, o2, e2, _, x2⟩ := (hq.on hB).izAt hn y hy
  cases e2
  have z1 := fun i => cell_of_row _ _ i _ _ _ (Kt.row_on hB hb)
  obtain ⟨d1, d2⟩ := dif_bd (hpw x hx) (hpw y hy)
  have t1 := lt_int hx
  have t2 := lt_int hy
  have HD := Lib.hid d1
  show Calls Try.prog 21 _ W fun e w' => e = .returned (.int .i64 ((per qs x : Int) - (per qs y : Int))) ∧ ∃ m, w' = W.drewN m
  generalize per qs x = p at *
  generalize per qs y = q at *
  clear hb hq hpw hB hx hy
  go_enter Try.func21, Try.ntmps21
  go_wp2_with fail
  go_quiet (fail)
  go_wp2_with fail
  go_ret
  exact ⟨rfl, _, rfl⟩
set_option maxRecDepth 100000 in
set_option maxHeartbeats 1600000 in
theorem sort_calls (w0 : World) (g b0 n : Nat) (k : Nat → Int) (HC : CmpOk w0 g b0 n k) (hn : n ≤ 64) (l : List Nat) (hl : Lo n l) (W : World) (hH : Hd g l W) (hB : Below g w0 W) :
    Calls Try.prog 20 #[.slice (some ⟨g, 0, none⟩) n n, cmpV b0] W fun e w' => e = .returned (.tuple #[]) ∧ Below g w0 w' ∧ ∃ l', Hd g l' w' ∧ l'.Perm l ∧ Srt k l' 0 n ∧ (n < 20 → l' = insl k 0 1 (n - 1) l) := by
  have HS := Lib.hid (stab_calls w0 g b0 n k HC hn l hl W hH hB)
  unfold cmpV at *
  clear HC hn hl hH hB
  go_enter Try.func20, Try.ntmps20
  go_wp2_with fail
  refine HS.out.mono ?_
  rintro _ w1 ⟨rfl, hb, l', h1, h2, h3, h4⟩
  have H1 : Hid (Below g w0 w1 ∧ ∃ l', Hd g l' w1 ∧ l'.Perm l ∧ Srt k l' 0 n ∧ (n < 20 → l' = insl k 0 1 (n - 1) l)) := Lib.hid ⟨hb, l', h1, h2, h3, h4⟩
  clear hb h1 h2 h3 h4 HS
  go_wp2_with fail
  go_end0
  exact ⟨rfl, H1.out⟩
def nats (ps : List Int) : List Nat := ps.map Int.toNat
theorem pw_of {x : Int} (h : pwI x = true) : pw x.toNat ∧ ((x.toNat : Nat) : Int) = x := by
  have := of_decide_eq_true h
  refine ⟨?_, by omega⟩
  unfold pw
  omega
theorem args_zero {lanes : Int} {ps : List Int} (h : args lanes ps = 0) : (1 ≤ lanes ∧ lanes ≤ 8) ∧ ps.length ≤ 64 ∧ ps.all pwI = true := by
  unfold args at h
  split at h
  · cases h
  split at h
  · cases h
  split at h
  · rename_i a b c; exact ⟨by omega, by omega, c⟩
  · cases h
theorem iv_nats {ps : List Int} (h : ps.all pwI = true) : iv ps = iz (nats ps) := by
  unfold iv iz nats
  rw [List.map_map]
  refine List.map_congr_left fun x hx => ?_
  have := (pw_of (List.all_eq_true.1 h x hx)).2
  show Value.int .i64 x = .int .i64 ((x.toNat : Nat) : Int)
  rw [this]
theorem pw_nats {ps : List Int} (h : ps.all pwI = true) : ∀ i, i < ps.length → pw (per (nats ps) i) := fun i hi => by
  unfold per nats
  rw [List.getD_eq_getElem?_getD, List.getElem?_map, List.getElem?_eq_getElem hi]
  exact (pw_of (List.all_eq_true.1 h _ (List.getElem_mem hi))).1
structure OrdIs (qs : List Nat) (n : Nat) (ord : List Nat) : Prop where
  perm : ord.Perm (List.range n)
  srt : Srt (fun x => (per qs x : Int)) ord 0 n
  few : n < 20 → ord = insl (fun x => (per qs x : Int)) 0 1 (n - 1) (List.range n)
inductive PlanIs (lanes : Int) (ps : List Int) (B : Nat) (w' : World) : Value → Int → Prop
  | bad : args lanes ps ≠ 0 → PlanIs lanes ps B w' (.slice none 0 0) (args lanes ps)
  | full (ord : List Nat) : args lanes ps = 0 → OrdIs (nats ps) ps.length ord → pl (nats ps) lanes.toNat ord [] (List.replicate ps.length (0, 0)) = none → PlanIs lanes ps B w' (.slice none 0 0) 11
  | ok (ord : List Nat) (plan : List Bt) (g : Nat) : args lanes ps = 0 → OrdIs (nats ps) ps.length ord → pl (nats ps) lanes.toNat ord [] (List.replicate ps.length (0, 0)) = some plan → B ≤ g → w'.heap[g]? = some (.cells (bv plan).toArray 31 (0, 0)) → PlanIs lanes ps B w' (.slice (some ⟨g, 0, none⟩) ps.length ps.length) 0
theorem infoI : (Try.prog.info? 3).map (fun i => (i.zero, i.size, i.bytes)) = some (some (.int .i64 0), 1, 8) := by kernel_rfl
theorem infoBe : (Try.prog.info? 31).map (fun i => (i.zero, i.size, i.bytes)) = some (some (.agg #[.int .i64 0, .int .i64 0]), 2, 16) := by kernel_rfl
theorem mk_ints (n : Nat) (hn : n ≤ 64) (w : World) : (Instr.makeSlice 22 (.int .i64 n) (.int .i64 n)).run Try.prog w = .ok (.slice (some ⟨w.heap.size, 0, none⟩) n n) (w.alloc (.cells (iz (List.replicate n 0)).toArray 3)) := by
  obtain ⟨i, hi, hz, hz1, hz2⟩ := info_parts infoI
  have h := run_make (P := Try.prog) w 22 3 i (.int .i64 0) Try.underlying22 hi hz .i64 .i64 n n (by omega) (by omega) (by rw [hz2]; omega) (by omega)
  have e : madeCells #[.int .i64 0] n = (iz (List.replicate n 0)).toArray := by
    apply Array.toList_inj.1
    rw [toList_madeCells_one]
    simp [iz]
  rw [h, hz1, Int.toNat_natCast, Nat.mul_one]
  exact congrArg (fun c => Result.ok _ (w.alloc (.cells c 3))) e
theorem made_bv (n : Nat) : (madeCells (Value.agg #[.int .i64 0, .int .i64 0]).cells (n * 2)) = (bv (List.replicate n (0, 0))).toArray := by
  apply Array.toList_inj.1
  apply List.ext_getElem?
  intro i
  have hd : i / 2 * 2 + i % 2 = i := by omega
  unfold madeCells
  by_cases hi : i < n * 2
  · simp only [Array.toList_map, Array.toList_range, List.getElem?_map, List.getElem?_range hi, Option.map_some]
    obtain ⟨h1, h2⟩ := bv_at (List.replicate n (0, 0)) (i / 2) (by simp; omega)
    have hz : bt (List.replicate n (0, 0)) (i / 2) = (0, 0) := by
      unfold bt
      rw [List.getD_eq_getElem?_getD, List.getElem?_replicate, if_pos (by omega)]; rfl
    rw [hz] at h1 h2
    have : i % 2 = 0 ∨ i % 2 = 1 := by omega
    rcases this with h | h
    · rw [show i / 2 * 2 = i by omega] at h1
      rw [h1]
      show some (#[Value.int .i64 0, .int .i64 0][i % 2]!) = _
      rw [h]; rfl
    · rw [show i / 2 * 2 + 1 = i by omega] at h2
      rw [h2]
      show some (#[Value.int .i64 0, .int .i64 0][i % 2]!) = _
      rw [h]; rfl
  · have e1 : (bv (List.replicate n (0, 0)))[i]? = none := List.getElem?_eq_none (by rw [bv_len, List.length_replicate]; omega)
    simp [e1]; omega
theorem mk_berths (n : Nat) (hn : n ≤ 64) (w : World) : (Instr.makeSlice 23 (.int .i64 n) (.int .i64 n)).run Try.prog w = .ok (.slice (some ⟨w.heap.size, 0, none⟩) n n) (w.alloc (.cells (bv (List.replicate n (0, 0))).toArray 31)) := by
  obtain ⟨i0, hi, hz0, hz1, hz2⟩ := info_parts infoBe
  have hmk := run_makeSlice (P := Try.prog) w 23 31 i0 _ Try.underlying23 hi hz0 .i64 .i64 n n (by omega) (Int.le_refl _) (by rw [hz1]; omega) (by rw [hz2]; omega) (by omega)
  rw [hz1, Int.toNat_natCast, made_bv] at hmk
  exact hmk
def ups (i n : Nat) : List Nat := List.range i ++ List.replicate (n - i) 0
theorem ups_len {i n : Nat} (h : i ≤ n) : (ups i n).length = n := by simp [ups]; omega
theorem ups_next {i n : Nat} (h : i < n) : (ups i n).set i i = ups (i + 1) n := by
  unfold ups
  rw [List.set_append_right _ _ (by simp), List.length_range, Nat.sub_self, List.range_succ, show n - i = n - (i + 1) + 1 by omega, List.replicate_succ, List.append_assoc]
  rfl
theorem ups_end (n : Nat) : ups n n = List.range n := by simp [ups]
theorem lo_range (n : Nat) : Lo n (List.range n) := ⟨List.length_range, fun _x hx => List.mem_range.1 hx⟩
theorem pl_next (qs : List Nat) (L : Nat) (ord : List Nat) (j n : Nat) (plan : List Bt) (hn : ord.length = n) (hj : j < n) : pl qs L (ord.drop j) (ord.take j) plan = match Bud.place qs plan (ord.take j) (at' ord j) L with
    | none => none
    | some b => pl qs L (ord.drop (j + 1)) (ord.take (j + 1)) (plan.set (at' ord j) b) := by
  have hjl : j < ord.length := by omega
  have e1 : ord[j] = at' ord j := by unfold at'; rw [List.getD_eq_getElem?_getD, List.getElem?_eq_getElem hjl]; rfl
  rw [List.drop_eq_getElem_cons hjl, List.take_succ_eq_append_getElem hjl, e1]
  rfl
theorem ar_of_row {w : World} {g e n sz m : Nat} {cs : Array Value} {xs : List Value} (h : w.heap[g]? = some (.cells cs e (0, 0))) (hm : m ≤ n) (hl : xs.length = m * sz) (hx : ∀ j (hj : j < xs.length), cs[j]? = some xs[j]) : Kt.Ar w (.slice (some ⟨g, 0, none⟩) m n) sz m xs :=
  ⟨hl, _, _, rfl, hm, fun _ => ⟨g, 0, rfl, (Array.getElem?_eq_some_iff.1 h).1, fun j hj => by rw [Nat.zero_add, cell_of_row _ _ _ _ _ _ h]; exact hx j hj⟩⟩
theorem ar_plan {w : World} {g n : Nat} {plan : List Bt} (h : w.heap[g]? = some (.cells (bv plan).toArray 31 (0, 0))) (hn : plan.length = n) : Kt.Ar w (.slice (some ⟨g, 0, none⟩) n n) 2 n (bv plan) :=
  ar_of_row h (Nat.le_refl _) (by rw [bv_len, hn]) (fun j hj => by simp [hj])
theorem ar_pre {w : World} {g n j : Nat} {ord : List Nat} (h : Hd g ord w) (hn : ord.length = n) (hj : j ≤ n) : Kt.Ar w (.slice (some ⟨g, 0, none⟩) j n) 1 j (iz (ord.take j)) :=
  ar_of_row h hj (by simp [iz]; omega) (fun k hk => by
    have hk2 : k < j := by simp [iz] at hk; omega
    have hk3 : k < ord.length := by omega
    simp [iz, List.getElem_take, hk3])
theorem row_set2 {w : World} {b : Nat} {c d : Value} {t : TypeId} (x y : Value) (h : w.heap[b]? = some (.cells #[c, d] t (0, 0))) : ((w.setCell ⟨b, 0, none⟩ x).setCell ⟨b, 1, none⟩ y).heap[b]? = some (.cells #[x, y] t (0, 0)) := by
  have h1 : (w.setCell ⟨b, 0, none⟩ x).heap[b]? = some (.cells (#[c, d].setIfInBounds 0 x) t (0, 0)) := heap_setCell_same _ _ _ _ _ _ h
  have h2 : ((w.setCell ⟨b, 0, none⟩ x).setCell ⟨b, 1, none⟩ y).heap[b]? = some (.cells ((#[c, d].setIfInBounds 0 x).setIfInBounds 1 y) t (0, 0)) := heap_setCell_same _ _ _ _ _ _ h1
  exact h2
theorem bv_cells {w : World} {H t : Nat} {plan : List Bt} (h : w.heap[H]? = some (.cells (bv plan).toArray 31 (0, 0))) (ht : t < plan.length) : w.cell? ⟨H, t * 2, none⟩ = some (.int .i64 ((bt plan t).1 : Int)) ∧ w.cell? ⟨H, t * 2 + 1, none⟩ = some (.int .i64 ((bt plan t).2 : Int)) := by
  obtain ⟨h1, h2⟩ := bv_at plan t ht
  rw [cell_of_row _ _ _ _ _ _ h, cell_of_row _ _ _ _ _ _ h]
  exact ⟨by simpa using h1, by simpa using h2⟩
theorem bv_set : ∀ (plan : List Bt) (t X Y : Nat), t < plan.length → ((bv plan).set (t * 2) (.int .i64 (X : Int))).set (t * 2 + 1) (.int .i64 (Y : Int)) = bv (plan.set t (X, Y))
  | [], t, _, _, h => by cases h
  | x :: l, 0, X, Y, _ => rfl
  | x :: l, t + 1, X, Y, h => by
    rw [show (t + 1) * 2 = t * 2 + 1 + 1 by omega, show t * 2 + 1 + 1 + 1 = t * 2 + 1 + 1 + 1 by rfl]
    show _ :: _ :: ((bv l).set (t * 2) _).set (t * 2 + 1) _ = _ :: _ :: bv (l.set t (X, Y))
    rw [bv_set l t X Y (by simpa using h)]
theorem bv_store {w : World} {H t : Nat} {plan : List Bt} (h : w.heap[H]? = some (.cells (bv plan).toArray 31 (0, 0))) (X Y : Nat) (ht : t < plan.length) : ((w.setCell ⟨H, t * 2, none⟩ (.int .i64 (X : Int))).setCell ⟨H, t * 2 + 1, none⟩ (.int .i64 (Y : Int))).heap[H]? = some (.cells (bv (plan.set t (X, Y))).toArray 31 (0, 0)) := by
  have h1 : (w.setCell ⟨H, t * 2, none⟩ (.int .i64 (X : Int))).heap[H]? = some (.cells ((bv plan).toArray.setIfInBounds (t * 2) (.int .i64 (X : Int))) 31 (0, 0)) := heap_setCell_same _ _ _ _ _ _ h
  have h2 : ((w.setCell ⟨H, t * 2, none⟩ (.int .i64 (X : Int))).setCell ⟨H, t * 2 + 1, none⟩ (.int .i64 (Y : Int))).heap[H]? = some (.cells (((bv plan).toArray.setIfInBounds (t * 2) (.int .i64 (X : Int))).setIfInBounds (t * 2 + 1) (.int .i64 (Y : Int))) 31 (0, 0)) := heap_setCell_same _ _ _ _ _ _ h1
  rw [h2, ← bv_set plan t X Y ht]
  simp
theorem hd_other {w : World} {g H i : Nat} {l : List Nat} (h : Hd g l w) (hne : H ≠ g) (v : Value) (_u : Unit) : Hd g l (w.setCell ⟨H, i, none⟩ v) := by
  unfold Hd at h ⊢
  rw [← h]
  exact Below.heap_setCell w _ _ _ (fun e => hne e.symm)
theorem plR_eq (r : Option Bt) : plR r = .tuple #[.agg #[.int .i64 ((r.getD (0, 0)).1 : Int), .int .i64 ((r.getD (0, 0)).2 : Int)], .bool r.isSome] := by cases r <;> rfl
set_option maxRecDepth 100000 in
set_option maxHeartbeats 3200000 in
theorem plan_calls (lanes : Int) (ps : List Int) (QA : Option Addr) (n qc : Nat) (hn : ps.length = n) (w : World) (hq : Kt.Ar w (.slice QA n qc) 1 n (iv ps)) (hm : n ≤ 17592186044416) :
    Calls Try.prog 9 #[.slice QA n qc, .int .i64 lanes] w fun e w' => Below w.heap.size w w' ∧ ∃ V c, e = .returned (.tuple #[V, .int .i64 c]) ∧ PlanIs lanes ps w.heap.size w' V c := by
  have HQ1 := Lib.hid (hq.on (Kt.balloc (Below.refl _ w) (.cells #[.slice QA n qc] 22)))
  have HR1 := Lib.hid (heap_alloc_new w (.cells #[.slice QA n qc] 22))
  have HB1 := Lib.hid (Kt.balloc (Below.refl _ w) (.cells #[.slice QA n qc] 22))
  have HS1 : Hid ((w.alloc (.cells #[.slice QA n qc] 22)).heap.size = w.heap.size + 1) := Lib.hid (World.size_alloc _ _)
  have HA := Lib.hid (args_calls lanes ps (.slice QA n qc) (w.alloc (.cells #[.slice QA n qc] 22)) (by subst hn; exact HQ1.out) (by omega))
  have q1 := fun i => cell_of_row _ _ i _ _ _ HR1.out
  have HN := Lib.hid hn
  clear hq hm hn
  go_enter Try.func9, Try.ntmps9
  go_wp2_with fail
  refine HA.out.mono ?_
  rintro _ w1 ⟨rfl, hb⟩
  have HR := Lib.hid (Kt.row_on hb HR1.out)
  have HQ := Lib.hid (HQ1.out.on hb)
  have HB := Lib.hid (Kt.bthen HB1.out hb)
  have HSZ : Hid (w.heap.size + 1 ≤ w1.heap.size) := Lib.hid (by have := hb.size; have := HS1.out; omega)
  clear hb HA HQ1 HR1 HB1 q1
  by_cases ha : args lanes ps = 0
  · obtain ⟨⟨hl1, hl2⟩, hlen, hall⟩ := args_zero ha
    have HQN := Lib.hid (show Kt.Ar w1 (.slice QA n qc) 1 n (iz (nats ps)) by rw [← iv_nats hall]; exact HQ.out)
    have HPW : Hid (∀ i, i < n → pw (per (nats ps) i)) := Lib.hid (fun i hi => pw_nats hall i (by rw [HN.out]; exact hi))
    have HNN : Hid ((nats ps).length = n) := Lib.hid (by unfold nats; rw [List.length_map]; exact HN.out)
    have hn64 : n ≤ 64 := by rw [← HN.out]; exact hlen
    have HN64 := Lib.hid hn64
    have HAZ := Lib.hid ha
    obtain ⟨L, hL⟩ : ∃ L : Nat, lanes = (L : Int) := ⟨lanes.toNat, by omega⟩
    subst hL
    have HL8 : Hid (L ≤ 8) := Lib.hid (by omega)
    rw [ha]
    have q1 := fun i => cell_of_row _ _ i _ _ _ HR.out
    have n0 : (0 : Int) ≤ n := Int.natCast_nonneg n
    have n1 : (n : Int) ≤ 64 := by omega
    clear hl1 hl2 hlen hall ha HQ hn64
    have hmk := mk_ints n HN64.out
    go_wp2_with fail
    clear hmk q1
    have HHD : Hid (Hd w1.heap.size (ups 0 n) (w1.alloc (.cells (iz (List.replicate n 0)).toArray 3))) := Lib.hid (heap_alloc_new w1 (.cells (iz (List.replicate n 0)).toArray 3))
    have HBD := Lib.hid (Kt.balloc (Below.refl w1.heap.size w1) (.cells (iz (List.replicate n 0)).toArray 3))
    go_loopw [25] (fun vi wr => ∃ i : Nat, Hid (i ≤ n) ∧ vi = .int .i64 i ∧ Hid (Hd w1.heap.size (ups i n) wr) ∧ Hid (Below w1.heap.size w1 wr)) (fun vi _ => n - (intOf vi).toNat)
    case atStart => exact ⟨0, Lib.hid (Nat.zero_le _), rfl, HHD, HBD⟩
    case round =>
      clear HHD HBD
      obtain ⟨i, HI, rfl, HHD, HBD⟩ := hrel
      by_cases hlt : i < n
      · have t1 := lt_int hlt
        have f1 := HHD.out.free i
        have d1 := HHD.out.cell i (by rw [ups_len (Nat.le_of_lt hlt)]; exact hlt)
        have hw := i_next hlt HN64.out
        have HW := Lib.hid hw
        have HLT := Lib.hid hlt
        have HH2 := Lib.hid (HHD.out.set i i)
        rw [ups_next hlt] at HH2
        have HB2 := Lib.hid (HBD.out.setCell (p := ⟨w1.heap.size, i, none⟩) (Nat.le_refl _) (.int .i64 (i : Int)))
        clear hw hlt
        go_wp2_with fail
        go_roundw
        case rel => exact ⟨i + 1, HLT, congrArg _ (by first | rfl | exact HW.out), HH2, HB2⟩
        case measure => (try rw [HW.out]); exact meas_up HLT.out
      · obtain rfl : i = n := Nat.le_antisymm HI.out (Nat.not_lt.1 hlt)
        have HH2 : Hid (Hd w1.heap.size (List.range i) wr) := Lib.hid (by rw [← ups_end i]; exact HHD.out)
        have HCK := Lib.hid (cmp_ok w1 w.heap.size i (nats ps) QA qc HNN.out HR.out HQN.out HPW.out)
        have HSR := Lib.hid (sort_calls w1 w1.heap.size w.heap.size i _ HCK.out HN64.out (List.range i) (lo_range i) wr HH2.out HBD.out)
        unfold cmpV at HSR
        clear hlt HHD
        go_wp2_with fail
        refine HSR.out.mono ?_
        rintro _ w2 ⟨rfl, hb, ord, h1, h2, h3, h4⟩
        have HB2 := Lib.hid hb; have HO := Lib.hid h1; have HOI : Hid (OrdIs (nats ps) i ord) := Lib.hid ⟨h2, h3, h4⟩
        have q1 := fun j => cell_of_row _ _ j _ _ _ (Kt.row_on hb HR.out)
        clear hb h1 h2 h3 h4 HSR HCK HH2 HBD
        have hmk := mk_berths i HN64.out
        go_wp2_with fail
        clear hmk q1
        have HPR : Hid ((w2.alloc (.cells (bv (List.replicate i (0, 0))).toArray 31)).heap[w2.heap.size]? = some (.cells (bv (List.replicate i (0, 0))).toArray 31 (0, 0))) := Lib.hid (heap_alloc_new w2 _)
        have HB3 := Lib.hid (Kt.balloc HB2.out (.cells (bv (List.replicate i (0, 0))).toArray 31))
        have HO3 : Hid (Hd w1.heap.size ord (w2.alloc (.cells (bv (List.replicate i (0, 0))).toArray 31))) := Lib.hid (Kt.row_on (Kt.balloc (Below.refl _ w2) _) HO.out)
        have HNE : Hid (w1.heap.size < w2.heap.size) := Lib.hid HO.out.lt
        have HLO : Hid (Lo i ord) := Lib.hid ((lo_range i).perm HOI.out.perm)
        clear HO HB2
        obtain ⟨H, hH⟩ : ∃ H, H = w2.heap.size := ⟨_, rfl⟩
        rw [← hH] at HPR HNE ⊢
        clear hH
        generalize w2.alloc (.cells (bv (List.replicate i (0, 0))).toArray 31) = w3 at *
        go_loopw [41] (fun vi wr => ∃ (j : Nat) (plan : List Bt), Hid (j ≤ i) ∧ vi = .int .i64 j ∧ Hid (plan.length = i) ∧ Hid (Hd w1.heap.size ord wr) ∧ Hid (wr.heap[H]? = some (.cells (bv plan).toArray 31 (0, 0))) ∧ Hid (Below w1.heap.size w1 wr) ∧ Hid (pl (nats ps) L (ord.drop j) (ord.take j) plan = pl (nats ps) L ord [] (List.replicate i (0, 0)))) (fun vi _ => i - (intOf vi).toNat)
        case atStart => exact ⟨0, List.replicate i (0, 0), Lib.hid (Nat.zero_le _), rfl, Lib.hid List.length_replicate, HO3, HPR, HB3, Lib.hid rfl⟩
        case round =>
          clear HO3 HPR HB3
          obtain ⟨j, plan, HJ, rfl, HPL, HO, HPR, HBD, HE⟩ := hrel
          by_cases hlt : j < i
          · have t1 := lt_int hlt
            have d1 := HO.out.cell j (by rw [HLO.out.1]; exact hlt)
            have hw := i_next hlt HN64.out
            have HW := Lib.hid hw
            have HLT := Lib.hid hlt
            obtain ⟨t, ht⟩ : ∃ t, t = at' ord j := ⟨_, rfl⟩
            have HTI : Hid (t < i) := Lib.hid (by rw [ht]; exact HLO.out.at j hlt)
            rw [← ht] at d1
            have HNX := Lib.hid (pl_next (nats ps) L ord j i plan HLO.out.1 hlt)
            rw [← ht] at HNX
            clear hw hlt ht
            have HPC := Lib.hid (fun W (hb : Below wr.heap.size wr W) => place_calls QA (some ⟨H, 0, none⟩) (some ⟨w1.heap.size, 0, none⟩) qc i i i j (nats ps) plan (ord.take j) t L W HNN.out HPL.out (by rw [List.length_take, HLO.out.1]; exact Nat.min_eq_left HJ.out) ((HQN.out.on HBD.out).on hb) ((ar_plan HPR.out HPL.out).on hb) ((ar_pre HO.out HLO.out.1 HJ.out).on hb) HPW.out HTI.out (fun k hk => HLO.out.2 k (List.mem_of_mem_take hk)) (Nat.le_trans HJ.out HN64.out) HL8.out)
            obtain ⟨r, hr⟩ : ∃ r, r = Bud.place (nats ps) plan (ord.take j) t L := ⟨_, rfl⟩
            rw [← hr] at HPC HNX
            rw [plR_eq r] at HPC
            obtain ⟨X, hX⟩ : ∃ X, X = (r.getD (0, 0)).1 := ⟨_, rfl⟩
            obtain ⟨Y, hY⟩ : ∃ Y, Y = (r.getD (0, 0)).2 := ⟨_, rfl⟩
            obtain ⟨ok, hok⟩ : ∃ ok, ok = r.isSome := ⟨_, rfl⟩
            rw [← hX, ← hY, ← hok] at HPC
            have HXY := Lib.hid (And.intro hX (And.intro hY hok))
            have HRB := Lib.hid (Kt.row_on HBD.out HR.out)
            have t2 : (j : Int) ≤ i := Int.ofNat_le.2 (Nat.le_of_lt HLT.out)
            clear hr hX hY hok
            go_upto_region 15 with (fail)
            go_cut [12, 13] from 46 to 56 (fun vp vb wx => ∃ m, vp = .pointer (some ⟨m, 0, none⟩) ∧ vb = .bool ok ∧ Hid (wx.heap[m]? = some (.cells #[.int .i64 (X : Int), .int .i64 (Y : Int)] 31 (0, 0))) ∧ Hid (Below wr.heap.size wr wx))
            case first =>
              refine Kt.G.start 12 (fun X => Below wr.heap.size wr X) (by kernel_rfl) (bdrewN (Below.refl wr.heap.size wr) 1) (fun hHeld => ?_)
              refine Kt.G.take 0 { dst := some 47, op := Op.load 22 (Operand.tmp 2), type := 22, pos := "budget.go:59", after := #[], guard := none } ?_ hHeld rfl (by kernel_rfl) (fun _ _ _ h => h) (by rfl) ?_ ?_
              rotate_left
              · intro x hSx; have qc := fun i => cell_of_row _ _ i _ _ _ (Kt.row_on hSx HRB.out); go_simp; try with_reducible rfl
              try simp only [Act.put, List.setIfInBounds_toArray, List.set_cons_zero, List.set_cons_succ]
              refine Kt.G.takeP 1 { dst := some 48, op := Op.move (Operand.tmp 9), type := 23, pos := "budget.go:59", after := #[], guard := none } ?_ (fun _ => hHeld) rfl (by kernel_rfl) (fun _ _ _ h => h) (by rfl) ?_ ?_
              rotate_left
              · intro w; go_simp; try with_reducible rfl
              try simp only [Act.put, List.setIfInBounds_toArray, List.set_cons_zero, List.set_cons_succ]
              refine Kt.G.takeP 2 { dst := some 49, op := Op.move (Operand.tmp 7), type := 22, pos := "budget.go:59", after := #[], guard := none } ?_ (fun _ => hHeld) rfl (by kernel_rfl) (fun _ _ _ h => h) (by rfl) ?_ ?_
              rotate_left
              · intro w; go_simp; try with_reducible rfl
              try simp only [Act.put, List.setIfInBounds_toArray, List.set_cons_zero, List.set_cons_succ]
              refine Kt.G.takeP 3 { dst := some 50, op := Op.move (Operand.tmp 10), type := 3, pos := "budget.go:59", after := #[], guard := none } ?_ (fun _ => hHeld) rfl (by kernel_rfl) (fun _ _ _ h => h) (by rfl) ?_ ?_
              rotate_left
              · intro w; go_simp; try with_reducible rfl
              try simp only [Act.put, List.setIfInBounds_toArray, List.set_cons_zero, List.set_cons_succ]
              refine Kt.G.takeP 4 { dst := some 51, op := Op.slice 22 (Operand.tmp 49) none (some (Operand.tmp 50)) none, type := 22, pos := "budget.go:59", after := #[{ on := 2, ground := Ground.data }, { on := 3, ground := Ground.data }], guard := none } ?_ (fun _ => hHeld) rfl (by kernel_rfl) (fun _ _ _ h => h) (by rfl) ?_ ?_
              rotate_left
              · intro w; go_simp; try with_reducible rfl
              try simp only [Act.put, List.setIfInBounds_toArray, List.set_cons_zero, List.set_cons_succ]
              refine Kt.G.takeP 5 { dst := some 52, op := Op.move (Operand.tmp 11), type := 3, pos := "budget.go:59", after := #[], guard := none } ?_ (fun _ => hHeld) rfl (by kernel_rfl) (fun _ _ _ h => h) (by rfl) ?_ ?_
              rotate_left
              · intro w; go_simp; try with_reducible rfl
              try simp only [Act.put, List.setIfInBounds_toArray, List.set_cons_zero, List.set_cons_succ]
              refine Kt.G.takeP 6 { dst := some 53, op := Op.move (Operand.tmp 1), type := 3, pos := "budget.go:59", after := #[], guard := none } ?_ (fun _ => hHeld) rfl (by kernel_rfl) (fun _ _ _ h => h) (by rfl) ?_ ?_
              rotate_left
              · intro w; go_simp; try with_reducible rfl
              try simp only [Act.put, List.setIfInBounds_toArray, List.set_cons_zero, List.set_cons_succ]
              refine Kt.G.two 7 11 { dst := some 54, op := Op.call { callee := Callee.value (Operand.func 22), args := #[Operand.tmp 47, Operand.tmp 48, Operand.tmp 51, Operand.tmp 52, Operand.tmp 53], argTypes := #[22, 23, 22, 3, 3] }, type := 46, pos := "budget.go:59", after := #[{ on := 0, ground := Ground.data }, { on := 1, ground := Ground.data }, { on := 4, ground := Ground.data }, { on := 5, ground := Ground.data }, { on := 6, ground := Ground.data }], guard := none } { dst := some 12, op := Op.alloc 31, type := 0, pos := "budget.go:59", after := #[], guard := none } rfl rfl (by kernel_rfl) (by rfl) (by rfl) (fun K hK => ?_) (fun K hK => ?_)
              · go_simp
                refine (HPC.out _ hHeld).mono ?_; rintro en x7 ⟨rfl, hb7⟩
                try (replace rK := Kt.row_on hb7 rK)
                refine hK.out _ _ (fun _ => Kt.bthen hHeld hb7) (fun hHeld => ?_)
                have hHeld := hHeld rfl
                clear hK K
                try simp only [Act.put, List.setIfInBounds_toArray, List.set_cons_zero, List.set_cons_succ]
                clear hb7
                refine Kt.G.takeP 8 { dst := some 46, op := Op.move (Operand.tmp 54), type := 46, pos := "budget.go:59", after := #[{ on := 7, ground := Ground.data }], guard := none } ?_ (fun _ => hHeld) rfl (by kernel_rfl) (fun _ _ _ h => h) (by rfl) ?_ ?_
                rotate_left
                · intro w; go_simp; try with_reducible rfl
                try simp only [Act.put, List.setIfInBounds_toArray, List.set_cons_zero, List.set_cons_succ]
                refine Kt.G.takeP 9 { dst := some 55, op := Op.extract (Operand.tmp 46) 0, type := 31, pos := "budget.go:59", after := #[{ on := 8, ground := Ground.data }], guard := none } ?_ (fun _ => hHeld) rfl (by kernel_rfl) (fun _ _ _ h => h) (by rfl) ?_ ?_
                rotate_left
                · intro w; go_simp; try with_reducible rfl
                try simp only [Act.put, List.setIfInBounds_toArray, List.set_cons_zero, List.set_cons_succ]
                refine Kt.G.takeP 10 { dst := some 56, op := Op.extract (Operand.tmp 46) 1, type := 4, pos := "budget.go:59", after := #[{ on := 8, ground := Ground.data }, { on := 12, ground := Ground.gcOnly Departure.lateStores }], guard := none } ?_ (fun _ => hHeld) rfl (by kernel_rfl) (fun _ _ _ h => h) (by rfl) ?_ ?_
                rotate_left
                · intro w; go_simp; try with_reducible rfl
                try simp only [Act.put, List.setIfInBounds_toArray, List.set_cons_zero, List.set_cons_succ]
                refine Kt.G.one 11 { dst := some 12, op := Op.alloc 31, type := 0, pos := "budget.go:59", after := #[], guard := none } rfl (by kernel_rfl) (by rfl) (fun K hK => ?_)
                have hHeld0 := hHeld
                go_simp
                refine hK.out _ _ (fun _ => Kt.balloc hHeld _) (fun hHeld => ?_)
                have hHeld := hHeld rfl
                clear hK K
                try simp only [Act.put, List.setIfInBounds_toArray, List.set_cons_zero, List.set_cons_succ]
                obtain ⟨kB, hkB⟩ : ∃ k, k = x7.heap.size := ⟨_, rfl⟩
                have rK : ((x7).alloc (.cells #[.int .i64 0, .int .i64 0] 31)).heap[x7.heap.size]? = some (.cells #[.int .i64 0, .int .i64 0] 31 (0, 0)) := heap_alloc_new (x7) (.cells #[.int .i64 0, .int .i64 0] 31); rw [← hkB] at rK
                have hkk : wr.heap.size ≤ kB := by rw [hkB]; first | exact Nat.le_refl _ | exact hHeld0.size
                generalize (x7).alloc (.cells #[.int .i64 0, .int .i64 0] 31) = xk at *
                refine Kt.G.one 12 { dst := none, op := Op.store 31 (Operand.tmp 12) (Operand.tmp 55), type := 0, pos := "budget.go:59", after := #[{ on := 11, ground := Ground.data }, { on := 9, ground := Ground.data }, { on := 7, ground := Ground.chain }, { on := 0, ground := Ground.phase }, { on := 1, ground := Ground.phase }, { on := 2, ground := Ground.phase }, { on := 3, ground := Ground.phase }, { on := 4, ground := Ground.phase }, { on := 5, ground := Ground.phase }, { on := 6, ground := Ground.phase }, { on := 7, ground := Ground.phase }, { on := 8, ground := Ground.phase }, { on := 9, ground := Ground.phase }, { on := 10, ground := Ground.textOnly Departure.lateStores }, { on := 11, ground := Ground.phase }], guard := none } rfl (by kernel_rfl) (by rfl) (fun K hK => ?_)
                have cK := fun i => cell_of_row _ _ i _ _ _ rK; have fK := fun i => frozen_of_row _ _ i _ _ rK
                rw [hkB] at cK fK
                go_simp
                refine hK.out _ _ (Kt.G.late (by kernel_rfl)) (fun _ => ?_)
                clear hK K
                try simp only [Act.put, List.setIfInBounds_toArray, List.set_cons_zero, List.set_cons_succ]
                refine Kt.G.takeP 13 { dst := some 13, op := Op.assign (Operand.tmp 56), type := 4, pos := "budget.go:59", after := #[{ on := 10, ground := Ground.data }, { on := 12, ground := Ground.chain }, { on := 0, ground := Ground.phase }, { on := 1, ground := Ground.phase }, { on := 2, ground := Ground.phase }, { on := 3, ground := Ground.phase }, { on := 4, ground := Ground.phase }, { on := 5, ground := Ground.phase }, { on := 6, ground := Ground.phase }, { on := 7, ground := Ground.phase }, { on := 8, ground := Ground.phase }, { on := 9, ground := Ground.phase }, { on := 10, ground := Ground.phase }, { on := 11, ground := Ground.phase }, { on := 12, ground := Ground.phase }], guard := none } ?_ (Kt.G.late (by kernel_rfl)) rfl (by kernel_rfl) (fun _ _ _ h => h) (by rfl) ?_ ?_
                rotate_left
                · intro w; go_simp; try with_reducible rfl
                try simp only [Act.put, List.setIfInBounds_toArray, List.set_cons_zero, List.set_cons_succ]
                refine Kt.G.done (by kernel_rfl) (NoPanic.normal ?_) _
                go_wp2_with fail
                go_meet
                case rel =>
                  rw [hkB] at rK hkk
                  exact ⟨_, rfl, rfl, Lib.hid (row_set2 _ _ rK), Lib.hid ((hHeld.setCell (p := ⟨_, 0, none⟩) hkk _).setCell (p := ⟨_, 1, none⟩) hkk _)⟩
              · have hHeld0 := hHeld
                go_simp
                refine hK.out _ _ (fun _ => Kt.balloc hHeld _) (fun hHeld => ?_)
                have hHeld := hHeld rfl
                clear hK K
                try simp only [Act.put, List.setIfInBounds_toArray, List.set_cons_zero, List.set_cons_succ]
                obtain ⟨kB, hkB⟩ : ∃ k, k = wr.heap.size := ⟨_, rfl⟩
                have rK : ((wr.drew).alloc (.cells #[.int .i64 0, .int .i64 0] 31)).heap[wr.heap.size]? = some (.cells #[.int .i64 0, .int .i64 0] 31 (0, 0)) := heap_alloc_new (wr.drew) (.cells #[.int .i64 0, .int .i64 0] 31); rw [← hkB] at rK
                have hkk : wr.heap.size ≤ kB := by rw [hkB]; first | exact Nat.le_refl _ | exact hHeld0.size
                refine Kt.G.one 7 { dst := some 54, op := Op.call { callee := Callee.value (Operand.func 22), args := #[Operand.tmp 47, Operand.tmp 48, Operand.tmp 51, Operand.tmp 52, Operand.tmp 53], argTypes := #[22, 23, 22, 3, 3] }, type := 46, pos := "budget.go:59", after := #[{ on := 0, ground := Ground.data }, { on := 1, ground := Ground.data }, { on := 4, ground := Ground.data }, { on := 5, ground := Ground.data }, { on := 6, ground := Ground.data }], guard := none } rfl (by kernel_rfl) (by rfl) (fun K hK => ?_)
                go_simp
                refine (HPC.out _ hHeld).mono ?_; rintro en x7 ⟨rfl, hb7⟩
                try (replace rK := Kt.row_on hb7 rK)
                refine hK.out _ _ (fun _ => Kt.bthen hHeld hb7) (fun hHeld => ?_)
                have hHeld := hHeld rfl
                clear hK K
                try simp only [Act.put, List.setIfInBounds_toArray, List.set_cons_zero, List.set_cons_succ]
                clear hb7
                refine Kt.G.takeP 8 { dst := some 46, op := Op.move (Operand.tmp 54), type := 46, pos := "budget.go:59", after := #[{ on := 7, ground := Ground.data }], guard := none } ?_ (fun _ => hHeld) rfl (by kernel_rfl) (fun _ _ _ h => h) (by rfl) ?_ ?_
                rotate_left
                · intro w; go_simp; try with_reducible rfl
                try simp only [Act.put, List.setIfInBounds_toArray, List.set_cons_zero, List.set_cons_succ]
                refine Kt.G.takeP 9 { dst := some 55, op := Op.extract (Operand.tmp 46) 0, type := 31, pos := "budget.go:59", after := #[{ on := 8, ground := Ground.data }], guard := none } ?_ (fun _ => hHeld) rfl (by kernel_rfl) (fun _ _ _ h => h) (by rfl) ?_ ?_
                rotate_left
                · intro w; go_simp; try with_reducible rfl
                try simp only [Act.put, List.setIfInBounds_toArray, List.set_cons_zero, List.set_cons_succ]
                refine Kt.G.takeP 10 { dst := some 56, op := Op.extract (Operand.tmp 46) 1, type := 4, pos := "budget.go:59", after := #[{ on := 8, ground := Ground.data }, { on := 12, ground := Ground.gcOnly Departure.lateStores }], guard := none } ?_ (fun _ => hHeld) rfl (by kernel_rfl) (fun _ _ _ h => h) (by rfl) ?_ ?_
                rotate_left
                · intro w; go_simp; try with_reducible rfl
                try simp only [Act.put, List.setIfInBounds_toArray, List.set_cons_zero, List.set_cons_succ]
                refine Kt.G.one 12 { dst := none, op := Op.store 31 (Operand.tmp 12) (Operand.tmp 55), type := 0, pos := "budget.go:59", after := #[{ on := 11, ground := Ground.data }, { on := 9, ground := Ground.data }, { on := 7, ground := Ground.chain }, { on := 0, ground := Ground.phase }, { on := 1, ground := Ground.phase }, { on := 2, ground := Ground.phase }, { on := 3, ground := Ground.phase }, { on := 4, ground := Ground.phase }, { on := 5, ground := Ground.phase }, { on := 6, ground := Ground.phase }, { on := 7, ground := Ground.phase }, { on := 8, ground := Ground.phase }, { on := 9, ground := Ground.phase }, { on := 10, ground := Ground.textOnly Departure.lateStores }, { on := 11, ground := Ground.phase }], guard := none } rfl (by kernel_rfl) (by rfl) (fun K hK => ?_)
                have cK := fun i => cell_of_row _ _ i _ _ _ rK; have fK := fun i => frozen_of_row _ _ i _ _ rK
                rw [hkB] at cK fK
                go_simp
                refine hK.out _ _ (Kt.G.late (by kernel_rfl)) (fun _ => ?_)
                clear hK K
                try simp only [Act.put, List.setIfInBounds_toArray, List.set_cons_zero, List.set_cons_succ]
                refine Kt.G.takeP 13 { dst := some 13, op := Op.assign (Operand.tmp 56), type := 4, pos := "budget.go:59", after := #[{ on := 10, ground := Ground.data }, { on := 12, ground := Ground.chain }, { on := 0, ground := Ground.phase }, { on := 1, ground := Ground.phase }, { on := 2, ground := Ground.phase }, { on := 3, ground := Ground.phase }, { on := 4, ground := Ground.phase }, { on := 5, ground := Ground.phase }, { on := 6, ground := Ground.phase }, { on := 7, ground := Ground.phase }, { on := 8, ground := Ground.phase }, { on := 9, ground := Ground.phase }, { on := 10, ground := Ground.phase }, { on := 11, ground := Ground.phase }, { on := 12, ground := Ground.phase }], guard := none } ?_ (Kt.G.late (by kernel_rfl)) rfl (by kernel_rfl) (fun _ _ _ h => h) (by rfl) ?_ ?_
                rotate_left
                · intro w; go_simp; try with_reducible rfl
                try simp only [Act.put, List.setIfInBounds_toArray, List.set_cons_zero, List.set_cons_succ]
                refine Kt.G.done (by kernel_rfl) (NoPanic.normal ?_) _
                go_wp2_with fail
                go_meet
                case rel =>
                  rw [hkB] at rK hkk
                  exact ⟨_, rfl, rfl, Lib.hid (row_set2 _ _ rK), Lib.hid ((hHeld.setCell (p := ⟨_, 0, none⟩) hkk _).setCell (p := ⟨_, 1, none⟩) hkk _)⟩
            case rest =>
            obtain ⟨m, rfl, rfl, HM, HBW⟩ := hcut
            have z1 := fun i => cell_of_row _ _ i _ _ _ HM.out
            have HHR := Lib.hid (Kt.row_on HBW.out HPR.out)
            have HOW : Hid (Hd w1.heap.size ord wc) := Lib.hid (Kt.row_on HBW.out HO.out)
            have HBC := Lib.hid (Kt.bthen HBD.out HBW.out)
            clear HRB HPC t2 d1
            cases hr : r with
            | none =>
              subst hr
              obtain ⟨_, _, e3⟩ := HXY.out
              obtain rfl : ok = false := e3
              have HFL := Lib.hid (HE.out.symm.trans HNX.out)
              clear HXY HNX HE
              have HO' := Lib.hid HOI.out
              go_wp2_with fail
              go_ret2
              exact ⟨Kt.bthen HB.out HBC.out, _, _, rfl, .full ord HAZ.out (by rw [HN.out]; exact HOI.out) (by rw [HN.out, ← HFL.out]; rfl)⟩
            | some b =>
              subst hr
              obtain ⟨e1, e2, e3⟩ := HXY.out
              obtain rfl : ok = true := e3
              have HE2 := Lib.hid (HNX.out.symm.trans HE.out)
              have HBP : Hid (b = (X, Y)) := Lib.hid (by rw [e1, e2]; rfl)
              have z2 := fun i => frozen_of_row _ _ i _ _ HHR.out
              have t2 := lt_int HTI.out
              obtain ⟨p1, p2⟩ := bv_cells HHR.out (by rw [HPL.out]; exact HTI.out)
              have HSET := Lib.hid (bv_store HHR.out (t := t) X Y (by rw [HPL.out]; exact HTI.out))
              have HNH : Hid (H ≠ w1.heap.size) := Lib.hid (Nat.ne_of_gt HNE.out)
              have HSO : Hid (Hd w1.heap.size ord ((wc.setCell ⟨H, t * 2, none⟩ (.int .i64 (X : Int))).setCell ⟨H, t * 2 + 1, none⟩ (.int .i64 (Y : Int)))) := Lib.hid (hd_other (hd_other HOW.out HNH.out _ ()) HNH.out _ ())
              have HSB := Lib.hid ((HBC.out.setCell (p := ⟨H, t * 2, none⟩) (Nat.le_of_lt HNE.out) (.int .i64 (X : Int))).setCell (p := ⟨H, t * 2 + 1, none⟩) (Nat.le_of_lt HNE.out) (.int .i64 (Y : Int)))
              have HSL : Hid ((plan.set t b).length = i) := Lib.hid (by rw [List.length_set]; exact HPL.out)
              rw [← HBP.out] at HSET
              clear e1 e2 HXY HNX HE HHR HOW HBC
              go_wp2_with fail
              go_roundw
              case rel => exact ⟨j + 1, plan.set t b, HLT, congrArg _ (by first | rfl | exact HW.out), HSL, HSO, HSET, HSB, HE2⟩
              case measure => (try rw [HW.out]); exact meas_up HLT.out
          · obtain rfl : j = i := Nat.le_antisymm HJ.out (Nat.not_lt.1 hlt)
            have HFL : Hid (pl (nats ps) L ord [] (List.replicate j (0, 0)) = some plan) := Lib.hid (by rw [← HE.out, List.drop_of_length_le (by rw [HLO.out.1]; exact Nat.le_refl _)]; rfl)
            have HGE : Hid (w.heap.size ≤ H) := Lib.hid (Nat.le_trans (Nat.le_trans (Nat.le_succ _) HSZ.out) (Nat.le_of_lt HNE.out))
            clear hlt HE
            go_wp2_with fail
            go_ret2
            refine ⟨Kt.bthen HB.out HBD.out, _, _, rfl, ?_⟩
            have h := PlanIs.ok (lanes := (L : Int)) (ps := ps) (B := w.heap.size) (w' := wr) ord plan H HAZ.out (by rw [HN.out]; exact HOI.out) (by rw [HN.out]; exact HFL.out) HGE.out HPR.out
            rw [HN.out] at h
            exact h
  · have HA := Lib.hid ha
    have q1 := fun i => cell_of_row _ _ i _ _ _ HR.out
    have ha2 : ¬ args lanes ps = 0 := ha
    obtain ⟨c, hc⟩ : ∃ c, c = args lanes ps := ⟨_, rfl⟩
    have HC := Lib.hid hc
    rw [← hc] at ha2 ⊢
    clear ha hc
    go_wp2_with fail
    go_ret2
    refine ⟨HB.out, _, _, rfl, ?_⟩
    have h := PlanIs.bad (B := w.heap.size) (w' := w1) HA.out
    rw [← HC.out] at h
    exact h
end Go.Proofs.Ythmcnopogahffaa
