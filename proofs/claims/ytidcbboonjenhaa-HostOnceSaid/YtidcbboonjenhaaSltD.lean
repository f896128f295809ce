/- The walks of package slots: Do. -/
import Derived.Test.YtidcbboonjenhaaSltN
import Derived.Test.YtidcbboonjenhaaAny
import Derived.Deep.CutBlock
namespace Go.Proofs.Ytidcbboonjenhaa
open Go.RowKit Classical Go.Proofs.Ytidcbboonjenhaa.Slt
def zb : List Int := List.replicate 594 0
theorem zb_len : zb.length = 594 := List.length_replicate
theorem zero_board (w : World) : (zeroValue 43).run Try.prog w = .ok (.agg (Kt.ia .i64 zb)) w := by kernel_rfl
def cmdV (k s e a : Int) : Array Value := #[.int .i64 k, .int .i64 s, .int .i64 e, .int .i64 a]
/-- the boxes of Do -/
structure Bxs (w : World) (l : List Int) (c : Array Value) (W : World) : Prop where
  b0 : Bx 43 w.heap.size l W
  bc : W.heap[w.heap.size + 1]? = some (.cells c 23 (0, 0))
  b2 : Bx 43 (w.heap.size + 1 + 1) zb W
  bel : Below w.heap.size w W
theorem Bxs.start (w : World) (l : List Int) (c : Array Value) : Bxs w l c (((w.alloc (.cells (Kt.ia .i64 l) 43)).alloc (.cells c 23)).alloc (.cells (Kt.ia .i64 zb) 43)) := by
  have h1 : Bx 43 w.heap.size l (w.alloc (.cells (Kt.ia .i64 l) 43)) := heap_alloc_new w _
  have h2 : ((w.alloc (.cells (Kt.ia .i64 l) 43)).alloc (.cells c 23)).heap[(w.alloc (.cells (Kt.ia .i64 l) 43)).heap.size]? = some (.cells c 23 (0, 0)) := heap_alloc_new _ _
  have h3 : Bx 43 ((w.alloc (.cells (Kt.ia .i64 l) 43)).alloc (.cells c 23)).heap.size zb (((w.alloc (.cells (Kt.ia .i64 l) 43)).alloc (.cells c 23)).alloc (.cells (Kt.ia .i64 zb) 43)) := heap_alloc_new _ _
  have e1 : (w.alloc (.cells (Kt.ia .i64 l) 43)).heap.size = w.heap.size + 1 := by simp
  have e2 : ((w.alloc (.cells (Kt.ia .i64 l) 43)).alloc (.cells c 23)).heap.size = w.heap.size + 1 + 1 := by simp
  rw [e1] at h2
  rw [e2] at h3
  exact ⟨(h1.on (Kt.balloc (Below.refl _ _) _)).on (Kt.balloc (Below.refl _ _) _), Kt.row_on (Kt.balloc (Below.refl _ _) _) h2, h3, Kt.balloc (Kt.balloc (Kt.balloc (Below.refl _ _) _) _) _⟩
theorem Bxs.on {w : World} {l : List Int} {c : Array Value} {W W' : World} (h : Bxs w l c W) (hb : Below W.heap.size W W') : Bxs w l c W' :=
  ⟨h.b0.on hb, Kt.row_on hb h.bc, h.b2.on hb, Kt.bthen h.bel hb⟩
theorem Bxs.lt {w : World} {l : List Int} {c : Array Value} {W : World} (h : Bxs w l c W) : w.heap.size + 1 + 1 < W.heap.size := h.b2.lt
theorem Bxs.upd {w : World} {l : List Int} {c : Array Value} {W W' : World} {g : Nat} (h : Bxs w l c W) (hu : Upd g W W') (hg : w.heap.size + 1 + 1 < g) : Bxs w l c W' :=
  ⟨hu.box h.b0 (by omega), (hu.other _ (by omega) (by have := h.lt; omega)).trans h.bc, hu.box h.b2 (by omega), hu.to h.bel (by omega)⟩
/-- cells stored one behind the other -/
def sets (l : List Int) : Nat → List Int → List Int
  | _, [] => l
  | o, v :: r => sets (l.set o v) (o + 1) r
theorem sets_len : ∀ (x : List Int) (l : List Int) (o : Nat), (sets l o x).length = l.length
  | [], _, _ => rfl
  | v :: r, l, o => by rw [sets, sets_len r, List.length_set]
theorem G_sets : ∀ (x : List Int) (l : List Int) (o j : Nat), o + x.length ≤ l.length → G (sets l o x) j = if o ≤ j ∧ j < o + x.length then G x (j - o) else G l j
  | [], l, o, j, _ => by rw [sets, if_neg (by simp only [List.length_nil]; omega)]
  | v :: r, l, o, j, h => by
    rw [List.length_cons] at h
    rw [sets, G_sets r _ _ _ (by rw [List.length_set]; omega), G_set _ _ _ _ (by omega), List.length_cons]
    by_cases e : j = o
    · subst e
      rw [if_neg (by omega), if_pos rfl, if_pos (by omega), Nat.sub_self]; rfl
    · rw [if_neg e]
      by_cases c : o + 1 ≤ j ∧ j < o + 1 + r.length
      · rw [if_pos c, if_pos (by omega)]
        obtain ⟨q, hq⟩ : ∃ q, j - o = q + 1 := ⟨j - o - 1, by omega⟩
        rw [hq, show j - (o + 1) = q by omega]; rfl
      · rw [if_neg c, if_neg (by omega)]
theorem sets_put (l : List Int) (hl : l.length = 594) (n : Nat) (hn : n < 9) (x : List Int) (hx : x.length = 66) : sets l (n * 66) x = put l n x :=
  G_ext (by rw [sets_len, put_len l hl n hn x hx, hl]) fun j _ => by rw [G_sets _ _ _ _ (by omega), G_put l hl n hn x hx, hx]
theorem Bx.sets {t : TypeId} {b : Nat} : ∀ (x : List Int) {l : List Int} {w : World} (o : Nat), Bx t b l w → Bx t b (sets l o x) (w.setCells b o (x.map (Value.int .i64)))
  | [], _, _, _, h => h
  | v :: r, _, _, o, h => Bx.sets r (o + 1) (h.set o v)
theorem Upd.sets {g : Nat} {w : World} : ∀ (x : List Int) {w' : World} (o : Nat), Upd g w w' → Upd g w (w'.setCells g o (x.map (Value.int .i64)))
  | [], _, _, h => h
  | _v :: r, _, o, h => Upd.sets r (o + 1) (h.set o _)
theorem Bx.there {t : TypeId} {b : Nat} {l : List Int} {w : World} (h : Bx t b l w) (o n : Nat) (hn : o + n ≤ l.length) : w.there b o n := fun j hj => ⟨by rw [h.cell (o + j) (by omega)]; rfl, h.free _⟩
def Joined (w : World) (l : List Int) (k e a : Int) (n g : Nat) (v : Value) (W : World) : Prop :=
  ∃ code l2, v = .int .i64 code ∧ Hid (code = cmdCode (at_ l n) k e a) ∧ Hid (code = 1 → ∃ y, Made l n k e a y ∧ l2 = put l n y) ∧ Hid (l2.length = 594) ∧ Hid (Bx 43 g l2 W) ∧ Hid (Bxs w l #[.int .i64 k, .int .i64 n, .int .i64 e, .int .i64 a] W)
theorem size_cmd : (Try.prog.info? 23).map (·.size) = some 4 := by kernel_rfl
def DoIs (l : List Int) (k s e a : Int) (w : World) (en : Ending) (w' : World) : Prop :=
  ∃ l' c n, Did l k s e a l' c n ∧ en = .returned (.tuple #[.agg (Kt.ia .i64 l'), .int .i64 c, .int .i64 n]) ∧ Below w.heap.size w w'
set_option maxRecDepth 100000 in
set_option maxHeartbeats 3200000 in
theorem do_calls (l : List Int) (hl : l.length = 594) (k s e a : Int) (w : World) : Calls Try.prog 19 #[.agg (Kt.ia .i64 l), .agg (cmdV k s e a)] w (DoIs l k s e a w) := by
  have Z0 := zero_board
  have S := Bxs.start w l (cmdV k s e a)
  have b0 := S.b0
  have HS := Lib.hid S
  have HC := Lib.hid (fun W => check_calls l hl W)
  have hsz : (Try.prog.info? 43).map (·.size) = some l.length := by rw [hl]; exact size_board
  clear S
  unfold cmdV at *
  go_enter Try.func19, Try.ntmps19
  go_wp2_with (refine load_bx rfl 43 (.tmp 2) rfl w.heap.size rfl l b0 Try.underlying43 hsz ?_)
  refine (HC.out _).mono ?_
  rintro en w1 ⟨rfl, hb⟩
  replace HS := Lib.hid (HS.out.on hb)
  clear b0 hb
  have b0 := HS.out.b0
  have hz : zb.length = l.length := by rw [zb_len, hl]
  by_cases hok : Ok l
  · rw [chk_ok hok]
    have HO := Lib.hid hok
    clear hok
    have LD : Bxs w l #[.int .i64 k, .int .i64 s, .int .i64 e, .int .i64 a] w1 := HS.out
    have HS2 := Lib.hid (LD.on (Kt.balloc (Below.refl _ _) (.cells (Kt.ia .i64 l) 43)))
    have HG := Lib.hid LD.lt
    have hb7 : Bx 43 w1.heap.size l (w1.alloc (.cells (Kt.ia .i64 l) 43)) := heap_alloc_new _ _
    have HB7 := Lib.hid hb7
    clear LD HS hb7
    go_upto_region 4 with (first
      | (refine load_bx rfl 43 (.tmp 2) rfl w.heap.size rfl l b0 Try.underlying43 hsz ?_)
      | (refine store_new rfl 43 (.tmp 7) (.tmp 16) rfl w1.heap.size rfl rfl l rfl _ (by rw [Kt.ia_size, zb_len, hl]) hsz ?_))
    clear b0
    generalize w1.alloc (.cells (Kt.ia .i64 l) 43) = W at *
    generalize w1.heap.size = g at *
    have b0 := HS2.out.b0
    have b2 := HS2.out.b2
    have b7 := HB7.out
    have ck : W.cell? ⟨w.heap.size + 1, 0, none⟩ = some (.int .i64 k) := cell_of_row _ _ 0 _ _ _ HS2.out.bc
    have cs : W.cell? ⟨w.heap.size + 1, 1, none⟩ = some (.int .i64 s) := cell_of_row _ _ 1 _ _ _ HS2.out.bc
    have ca : W.cell? ⟨w.heap.size + 1, 3, none⟩ = some (.int .i64 a) := cell_of_row _ _ 3 _ _ _ HS2.out.bc
    by_cases k1 : k = 1
    · subst k1
      have HD := Lib.hid (Did.noop (k := 1) (s := s) (e := e) (a := a) HO.out rfl)
      go_wp2_with (first
        | (refine load_bx rfl 43 (.tmp 2) rfl w.heap.size rfl l b0 Try.underlying43 hsz ?_)
        | (refine store_bx rfl 43 (.tmp 4) (.tmp 21) rfl (w.heap.size + 1 + 1) rfl l rfl zb b2 hz hsz ?_
           intro W2 hW2 hU2))
      refine bodyPost_ret (v := .tuple #[.agg (Kt.ia .i64 l), .int .i64 1, .int .i64 0]) (by simp [results, Try.results19, asAddr, ld_bx hW2 Try.underlying43 hsz]) rfl ?_
      exact ⟨l, 1, 0, HD.out, rfl, hU2.to HS2.out.bel (by omega)⟩
    by_cases k2 : k = 2
    · subst k2
      have HE := Lib.hid (fun W h => enable_calls l hl g W h)
      go_wp2_with fail
      refine (HE.out _ HB7.out).mono ?_
      rintro en w2 (⟨i, hF, rfl, hb3, hu3⟩ | ⟨hN, rfl, rfl⟩)
      · have b2' := (HS2.out.upd hu3 HG.out).b2
        have HS3 := Lib.hid (HS2.out.upd hu3 HG.out)
        have HD := Lib.hid (Did.enable (k := 2) (s := s) (e := e) (a := a) i HO.out rfl hF)
        have hl' : zb.length = (l.set (i * 66) 1).length := by rw [zb_len, List.length_set, hl]
        have hsz' : (Try.prog.info? 43).map (·.size) = some (l.set (i * 66) 1).length := by rw [List.length_set]; exact hsz
        clear hF hu3 b0 b2 b7 ck cs ca
        go_wp2_with (first
          | (refine load_bx rfl 43 (.tmp 7) rfl g rfl (l.set (i * 66) 1) hb3 Try.underlying43 hsz' ?_)
          | (refine store_bx rfl 43 (.tmp 4) (.tmp 30) rfl (w.heap.size + 1 + 1) rfl (l.set (i * 66) 1) rfl zb b2' hl' hsz' ?_
             intro W2 hW2 hU2))
        refine bodyPost_ret (v := .tuple #[.agg (Kt.ia .i64 (l.set (i * 66) 1)), .int .i64 1, .int .i64 i]) (by simp [results, Try.results19, asAddr, ld_bx hW2 Try.underlying43 hsz']) rfl ?_
        exact ⟨_, _, _, HD.out, rfl, hU2.to HS3.out.bel (by omega)⟩
      · have HD := Lib.hid (Did.full (k := 2) (s := s) (e := e) (a := a) HO.out rfl hN)
        clear hN b0 ck cs ca
        go_wp2_with (first
          | (refine load_bx rfl 43 (.tmp 7) rfl g rfl l b7 Try.underlying43 hsz ?_)
          | (refine store_bx rfl 43 (.tmp 4) (.tmp 30) rfl (w.heap.size + 1 + 1) rfl l rfl zb b2 hz hsz ?_
             intro W2 hW2 hU2))
        refine bodyPost_ret (v := .tuple #[.agg (Kt.ia .i64 l), .int .i64 9, .int .i64 0]) (by simp [results, Try.results19, asAddr, ld_bx hW2 Try.underlying43 hsz]) rfl ?_
        exact ⟨_, _, _, HD.out, rfl, hU2.to HS2.out.bel (by omega)⟩
    by_cases kb : k < 1 ∨ 9 < k ∨ s < 1 ∨ 8 < s
    · have HD := Lib.hid (Did.trb (k := k) (s := s) (e := e) (a := a) HO.out k1 k2 kb)
      have f1 : (k == 1) = false := beq_eq_false_iff_ne.2 k1
      have f2 : (k == 2) = false := beq_eq_false_iff_ne.2 k2
      have kb' : k < 1 ∨ (1 ≤ k ∧ 9 < k) ∨ (1 ≤ k ∧ k ≤ 9 ∧ s < 1) ∨ (1 ≤ k ∧ k ≤ 9 ∧ 1 ≤ s ∧ 8 < s) := by omega
      clear kb k1 k2
      rcases kb' with h1 | ⟨h1, h2⟩ | ⟨h1, h2, h3⟩ | ⟨h1, h2, h3, h4⟩
      rotate_right 1
      · have g1 : decide (k < 1) = false := decide_eq_false (by omega)
        have g2 : decide (9 < k) = false := decide_eq_false (by omega)
        have g3 : decide (s < 1) = false := decide_eq_false (by omega)
        go_wp2_with (first
          | (refine load_bx rfl 43 (.tmp 2) rfl w.heap.size rfl l b0 Try.underlying43 hsz ?_)
          | (refine store_bx rfl 43 (.tmp 4) (.tmp 52) rfl (w.heap.size + 1 + 1) rfl l rfl zb b2 hz hsz ?_
             intro W2 hW2 hU2))
        refine bodyPost_ret (v := .tuple #[.agg (Kt.ia .i64 l), .int .i64 5, .int .i64 0]) (by simp [results, Try.results19, asAddr, ld_bx hW2 Try.underlying43 hsz]) rfl ?_
        exact ⟨_, _, _, HD.out, rfl, hU2.to HS2.out.bel (by omega)⟩
      all_goals
        go_wp2_with (first
          | (refine load_bx rfl 43 (.tmp 2) rfl w.heap.size rfl l b0 Try.underlying43 hsz ?_)
          | (refine store_bx rfl 43 (.tmp 4) (.tmp 52) rfl (w.heap.size + 1 + 1) rfl l rfl zb b2 hz hsz ?_
             intro W2 hW2 hU2))
        refine bodyPost_ret (v := .tuple #[.agg (Kt.ia .i64 l), .int .i64 5, .int .i64 0]) (by simp [results, Try.results19, asAddr, ld_bx hW2 Try.underlying43 hsz]) rfl ?_
        exact ⟨_, _, _, HD.out, rfl, hU2.to HS2.out.bel (by omega)⟩
    · obtain ⟨n, rfl, n1, n2⟩ : ∃ n : Nat, s = n ∧ 1 ≤ n ∧ n ≤ 8 := ⟨s.toNat, by omega, by omega, by omega⟩
      have HK := Lib.hid (show 3 ≤ k ∧ k ≤ 9 by omega)
      have HN := Lib.hid (And.intro n1 n2)
      have f1 : (k == 1) = false := beq_eq_false_iff_ne.2 k1
      have f2 : (k == 2) = false := beq_eq_false_iff_ne.2 k2
      have g1 : decide (k < 1) = false := decide_eq_false (by omega)
      have g2 : decide (9 < k) = false := decide_eq_false (by omega)
      have g3 : decide ((n : Int) < 1) = false := decide_eq_false (by omega)
      have g4 : decide (8 < (n : Int)) = false := decide_eq_false (by omega)
      have n9 : (n : Int) < 9 := by omega
      clear kb k1 k2 n1 n2
      go_upto_block 1 with (fail)
      clear f1 f2 g1 g2 g3 g4
      have c0 := b7.cell (n * 66) (by omega)
      have x0 : G (at_ l n) 0 = G l (n * 66) := G_at l n 0 (by omega)
      go_cut [11] from 57 to 87 (fun c wx => Joined w l k e a n g c wx)
      case first =>
        by_cases hst : G l (n * 66) = 0
        · have HCC := Lib.hid (show (11 : Int) = cmdCode (at_ l n) k e a by unfold cmdCode; rw [if_pos (x0.trans hst)])
          rw [hst] at c0
          clear x0 hst
          go_wp2_with fail
          go_meet
          exact ⟨11, l, rfl, HCC, Lib.hid (fun h => absurd h (by decide)), Lib.hid hl, HB7, HS2⟩
        have f0 : (G l (n * 66) == 0) = false := beq_eq_false_iff_ne.2 hst
        have HX := Lib.hid (show G (at_ l n) 0 ≠ 0 by rw [x0]; exact hst)
        clear x0 hst
        by_cases k3 : k = 3
        · subst k3
          have HCC := Lib.hid (show (1 : Int) = cmdCode (at_ l n) 3 e a by unfold cmdCode; rw [if_neg HX.out, if_pos rfl])
          have hth := b7.there (n * 66) 66 (by omega)
          have Z3 := zero_slot
          have Z4 := ia_ne 0
          go_wp2_with (refine store_part rfl 40 (.tmp 72) (.tmp 71) rfl g (n * 66) rfl (0 :: zs) rfl hth size_slot ?_)
          go_meet
          exact ⟨1, put l n (0 :: zs), rfl, HCC, Lib.hid (fun _ => ⟨_, .off rfl, rfl⟩), Lib.hid (put_len l hl n (by omega) _ rfl), Lib.hid (by rw [← sets_put l hl n (by omega) _ rfl]; exact HB7.out.sets (0 :: zs) (n * 66)), Lib.hid (HS2.out.upd ((Upd.refl _ _).sets (0 :: zs) (n * 66)) HG.out)⟩
        have f3 : (k == 3) = false := beq_eq_false_iff_ne.2 k3
        by_cases k4 : k = 4
        · subst k4
          have HA := Lib.hid (address_calls l hl n (by omega) g W b7)
          go_wp2_with fail
          refine HA.out.mono ?_
          rintro en w2 (⟨h1, ad, hL, rfl, hb3, hu3⟩ | ⟨h1, rfl, rfl⟩)
          · have HCC := Lib.hid (show (1 : Int) = cmdCode (at_ l n) 4 e a by unfold cmdCode; rw [if_neg HX.out, if_neg (by decide), if_pos rfl, if_pos (by rw [G_at l n 0 (by omega)]; exact h1)])
            have HB3 := Lib.hid hb3
            have HS3 := Lib.hid (HS2.out.upd hu3 HG.out)
            have HL := Lib.hid hL
            clear h1 hL hb3 hu3
            go_wp2_with fail
            go_meet
            exact ⟨1, _, rfl, HCC, Lib.hid (fun _ => ⟨_, .call ad rfl HL.out, rfl⟩), Lib.hid (put_len l hl n (by omega) _ (by rw [called_len, at_len l hl n (by omega)])), HB3, HS3⟩
          · have HCC := Lib.hid (show (19 : Int) = cmdCode (at_ l n) 4 e a by unfold cmdCode; rw [if_neg HX.out, if_neg (by decide), if_pos rfl, if_neg (by rw [G_at l n 0 (by omega)]; exact h1)])
            clear h1
            go_wp2_with fail
            go_meet
            exact ⟨19, l, rfl, HCC, Lib.hid (fun h => absurd h (by decide)), Lib.hid hl, HB7, HS2⟩
        have f4 : (k == 4) = false := beq_eq_false_iff_ne.2 k4
        by_cases k5 : k = 5
        · subst k5
          have HA := Lib.hid (configure_calls l hl n (by omega) g W b7 a)
          have HCC : Hid (confCode (at_ l n) a = cmdCode (at_ l n) 5 e a) := Lib.hid (by unfold cmdCode; rw [if_neg HX.out, if_neg (by decide), if_neg (by decide), if_pos rfl])
          go_wp2_with fail
          refine HA.out.mono ?_
          rintro en w2 ⟨rfl, ⟨h1, y, hy, hb3, hu3⟩ | ⟨h1, rfl⟩⟩
          · have HB3 := Lib.hid hb3
            have HS3 := Lib.hid (HS2.out.upd hu3 HG.out)
            have HY := Lib.hid hy
            clear h1 hy hb3 hu3
            go_wp2_with fail
            go_meet
            exact ⟨_, _, rfl, HCC, Lib.hid (fun _ => ⟨_, .conf y rfl HY.out, rfl⟩), Lib.hid (put_len l hl n (by omega) _ HY.out.len), HB3, HS3⟩
          · have H1 := Lib.hid h1
            clear h1
            go_wp2_with fail
            go_meet
            exact ⟨_, l, rfl, HCC, Lib.hid (fun h => absurd h H1.out), Lib.hid hl, HB7, HS2⟩
        have f5 : (k == 5) = false := beq_eq_false_iff_ne.2 k5
        have HA := Lib.hid (endpoint_calls l hl n (by omega) g W b7 k n e a)
        have HCC : Hid (endCode (at_ l n) k e a = cmdCode (at_ l n) k e a) := Lib.hid (by unfold cmdCode; rw [if_neg HX.out, if_neg k3, if_neg k4, if_neg k5])
        have H6 := Lib.hid (show 6 ≤ k by have := HK.out; omega)
        have hbc : W.heap[w.heap.size + 1]? = some (.cells #[.int .i64 k, .int .i64 n, .int .i64 e, .int .i64 a] 23 (0, 0)) := HS2.out.bc
        clear k3 k4 k5
        go_wp2_with (refine wpList_load_row rfl 23 (.tmp 3) rfl (w.heap.size + 1) rfl 23 #[.int .i64 k, .int .i64 n, .int .i64 e, .int .i64 a] (0, 0) _ hbc Try.underlying23 rfl size_cmd ?_)
        refine HA.out.mono ?_
        rintro en w2 ⟨rfl, ⟨h1, hb3, hu3⟩ | ⟨h1, hb3⟩⟩
        · have HB3 := Lib.hid hb3
          have HS3 := Lib.hid (HS2.out.upd hu3 HG.out)
          clear h1 hb3 hu3
          go_wp2_with fail
          go_meet
          exact ⟨_, _, rfl, HCC, Lib.hid (fun _ => ⟨_, .ends H6.out, rfl⟩), Lib.hid (put_len l hl n (by omega) _ (by rw [endMade_len, at_len l hl n (by omega)])), HB3, HS3⟩
        · have H1 := Lib.hid h1
          have HB3 := Lib.hid (HB7.out.on hb3)
          have HS3 := Lib.hid (HS2.out.on hb3)
          clear h1 hb3
          go_wp2_with fail
          go_meet
          exact ⟨_, l, rfl, HCC, Lib.hid (fun h => absurd h H1.out), Lib.hid hl, HB3, HS3⟩
      case rest =>
        obtain ⟨code, l2, rfl, HCC, HMD, HL2, HB7, HS3⟩ := hcut
        have b0 := HS3.out.b0
        have b7 := HB7.out
        by_cases hc : code = 1
        · subst hc
          obtain ⟨y, hM, rfl⟩ := HMD.out rfl
          have HD := Lib.hid (Did.done (s := n) n y HO.out HK.out.1 HK.out.2 rfl HN.out.1 HN.out.2 HCC.out.symm hM)
          have hl2 : zb.length = (put l n y).length := by rw [zb_len, HL2.out]
          have hs2 : (Try.prog.info? 43).map (·.size) = some (put l n y).length := by rw [HL2.out]; exact size_board
          have HB3 := HB7
          clear hM c0 x0
          go_upto_region 24 with (fail)
          refine Kt.G.start 4 (fun x => Bxs w l #[.int .i64 k, .int .i64 n, .int .i64 e, .int .i64 a] x ∧ Bx 43 g (put l n y) x) (by kernel_rfl) ⟨HS3.out.on (Below.refl _ _).drew, HB3.out.on (Below.refl _ _).drew⟩ (fun hHeld => ?_)
          refine Kt.G.load_row 0 { dst := some 91, op := Op.load 43 (Operand.tmp 7), type := 43, pos := "slots.go:152", after := #[], guard := none } 43 (Operand.tmp 7) g 43 (Kt.ia .i64 (put l n y)) _ hHeld rfl (by kernel_rfl) (fun _ _ _ h => h) (by rfl) rfl rfl (fun _ h => h.2) Try.underlying43 rfl (by rw [Kt.ia_size]; exact hs2) ?_
          try simp only [Act.put, List.setIfInBounds_toArray, List.set_cons_zero, List.set_cons_succ]
          refine Kt.G.takeP 1 { dst := some 92, op := Op.move (Operand.tmp 11), type := 3, pos := "slots.go:152", after := #[{ on := 4, ground := Ground.gcOnly Departure.lateStores }], guard := none } ?_ (fun _ => hHeld) rfl (by kernel_rfl) (fun _ _ _ h => h) (by rfl) ?_ ?_
          rotate_left
          · intro w; go_simp; try with_reducible rfl
          try simp only [Act.put, List.setIfInBounds_toArray, List.set_cons_zero, List.set_cons_succ]
          refine Kt.G.takeP 2 { dst := some 93, op := Op.fieldAddr 23 (Operand.tmp 3) 1, type := 0, pos := "slots.go:152", after := #[{ on := 5, ground := Ground.gcOnly Departure.lateStores }], guard := none } ?_ (fun _ => hHeld) rfl (by kernel_rfl) (fun _ _ _ h => h) (by rfl) ?_ ?_
          rotate_left
          · intro w; go_simp; try with_reducible rfl
          try simp only [Act.put, List.setIfInBounds_toArray, List.set_cons_zero, List.set_cons_succ]
          refine Kt.G.two 3 4 { dst := some 94, op := Op.load 3 (Operand.tmp 93), type := 3, pos := "slots.go:152", after := #[{ on := 2, ground := Ground.data }, { on := 5, ground := Ground.gcOnly Departure.lateStores }], guard := none } { dst := none, op := Op.store 43 (Operand.tmp 4) (Operand.tmp 91), type := 0, pos := "slots.go:152", after := #[{ on := 0, ground := Ground.data }, { on := 0, ground := Ground.phase }, { on := 1, ground := Ground.textOnly Departure.lateStores }, { on := 2, ground := Ground.textOnly Departure.lateStores }, { on := 3, ground := Ground.textOnly Departure.lateStores }], guard := none } rfl rfl (by kernel_rfl) (by rfl) (by rfl) (fun K hK => ?_) (fun K hK => ?_)
          · have hcs := cell_of_row _ _ 1 _ _ _ hHeld.1.bc
            go_simp
            clear hcs
            refine hK.out _ _ (fun _ => hHeld) (fun hHeld => ?_)
            have hHeld := hHeld rfl
            clear hK K
            try simp only [Act.put, List.setIfInBounds_toArray, List.set_cons_zero, List.set_cons_succ]
            refine Kt.G.one 4 { dst := none, op := Op.store 43 (Operand.tmp 4) (Operand.tmp 91), type := 0, pos := "slots.go:152", after := #[{ on := 0, ground := Ground.data }, { on := 0, ground := Ground.phase }, { on := 1, ground := Ground.textOnly Departure.lateStores }, { on := 2, ground := Ground.textOnly Departure.lateStores }, { on := 3, ground := Ground.textOnly Departure.lateStores }], guard := none } rfl (by kernel_rfl) (by rfl) (fun K hK => ?_)
            refine wp_store_row 43 (.tmp 4) (.tmp 91) rfl (w.heap.size + 1 + 1) (Kt.ia .i64 (put l n y)) rfl rfl 43 (Kt.ia .i64 zb) hHeld.1.b2 (by rw [Kt.ia_size]; exact hs2) (by rw [Kt.ia_size, Kt.ia_size]; exact hl2) (Kt.ia_one _ _) ?_
            refine hK.out _ _ (Kt.G.late (by kernel_rfl)) (fun _ => ?_)
            clear hK K
            try simp only [Act.put]
            refine Kt.G.takeP 5 { dst := some 5, op := Op.assign (Operand.tmp 92), type := 3, pos := "slots.go:152", after := #[{ on := 1, ground := Ground.data }, { on := 4, ground := Ground.chain }, { on := 0, ground := Ground.phase }, { on := 1, ground := Ground.phase }, { on := 2, ground := Ground.textOnly Departure.lateStores }, { on := 3, ground := Ground.textOnly Departure.lateStores }, { on := 4, ground := Ground.phase }], guard := none } ?_ (Kt.G.late (by kernel_rfl)) rfl (by kernel_rfl) (fun _ _ _ h => h) (by rfl) ?_ ?_
            rotate_left
            · intro w; go_simp; try with_reducible rfl
            try simp only [Act.put, List.setIfInBounds_toArray, List.set_cons_zero, List.set_cons_succ]
            refine Kt.G.takeP 6 { dst := some 6, op := Op.assign (Operand.tmp 94), type := 3, pos := "slots.go:152", after := #[{ on := 3, ground := Ground.data }, { on := 5, ground := Ground.chain }, { on := 0, ground := Ground.phase }, { on := 1, ground := Ground.phase }, { on := 2, ground := Ground.phase }, { on := 3, ground := Ground.phase }, { on := 4, ground := Ground.phase }, { on := 5, ground := Ground.phase }], guard := none } ?_ (Kt.G.late (by kernel_rfl)) rfl (by kernel_rfl) (fun _ _ _ h => h) (by rfl) ?_ ?_
            rotate_left
            · intro w; go_simp; try with_reducible rfl
            try simp only [Act.put, List.setIfInBounds_toArray, List.set_cons_zero, List.set_cons_succ]
            refine Kt.G.done (by kernel_rfl) (NoPanic.normal ?_) _
            have hW2 : Bx 43 (w.heap.size + 1 + 1) (put l n y) _ := setRow_heap _ _ _ _ _ _ hHeld.1.b2
            have hU2 := (Upd.row _ (w.heap.size + 1 + 1) (Kt.ia .i64 (put l n y))).to hHeld.1.bel (by omega)
            go_wp2_with fail
            refine bodyPost_ret (v := .tuple #[.agg (Kt.ia .i64 (put l n y)), .int .i64 1, .int .i64 n]) (by simp [results, Try.results19, asAddr, ld_bx hW2 Try.underlying43 hs2]) rfl ?_
            exact ⟨_, _, _, HD.out, rfl, hU2⟩
          · refine wp_store_row 43 (.tmp 4) (.tmp 91) rfl (w.heap.size + 1 + 1) (Kt.ia .i64 (put l n y)) rfl rfl 43 (Kt.ia .i64 zb) hHeld.1.b2 (by rw [Kt.ia_size]; exact hs2) (by rw [Kt.ia_size, Kt.ia_size]; exact hl2) (Kt.ia_one _ _) ?_
            refine hK.out _ _ (Kt.G.late (by kernel_rfl)) (fun _ => ?_)
            clear hK K
            try simp only [Act.put]
            refine Kt.G.takeP 5 { dst := some 5, op := Op.assign (Operand.tmp 92), type := 3, pos := "slots.go:152", after := #[{ on := 1, ground := Ground.data }, { on := 4, ground := Ground.chain }, { on := 0, ground := Ground.phase }, { on := 1, ground := Ground.phase }, { on := 2, ground := Ground.textOnly Departure.lateStores }, { on := 3, ground := Ground.textOnly Departure.lateStores }, { on := 4, ground := Ground.phase }], guard := none } ?_ (Kt.G.late (by kernel_rfl)) rfl (by kernel_rfl) (fun _ _ _ h => h) (by rfl) ?_ ?_
            rotate_left
            · intro w; go_simp; try with_reducible rfl
            try simp only [Act.put, List.setIfInBounds_toArray, List.set_cons_zero, List.set_cons_succ]
            refine Kt.G.one 3 { dst := some 94, op := Op.load 3 (Operand.tmp 93), type := 3, pos := "slots.go:152", after := #[{ on := 2, ground := Ground.data }, { on := 5, ground := Ground.gcOnly Departure.lateStores }], guard := none } rfl (by kernel_rfl) (by rfl) (fun K hK => ?_)
            have hcs := (cell_setRow_other _ (w.heap.size + 1 + 1) (Kt.ia .i64 (put l n y)) ⟨w.heap.size + 1, 1, none⟩ (by simp)).trans (cell_of_row _ _ 1 _ _ _ hHeld.1.bc)
            go_simp
            clear hcs
            refine hK.out _ _ (Kt.G.late (by kernel_rfl)) (fun _ => ?_)
            clear hK K
            try simp only [Act.put, List.setIfInBounds_toArray, List.set_cons_zero, List.set_cons_succ]
            refine Kt.G.takeP 6 { dst := some 6, op := Op.assign (Operand.tmp 94), type := 3, pos := "slots.go:152", after := #[{ on := 3, ground := Ground.data }, { on := 5, ground := Ground.chain }, { on := 0, ground := Ground.phase }, { on := 1, ground := Ground.phase }, { on := 2, ground := Ground.phase }, { on := 3, ground := Ground.phase }, { on := 4, ground := Ground.phase }, { on := 5, ground := Ground.phase }], guard := none } ?_ (Kt.G.late (by kernel_rfl)) rfl (by kernel_rfl) (fun _ _ _ h => h) (by rfl) ?_ ?_
            rotate_left
            · intro w; go_simp; try with_reducible rfl
            try simp only [Act.put, List.setIfInBounds_toArray, List.set_cons_zero, List.set_cons_succ]
            refine Kt.G.done (by kernel_rfl) (NoPanic.normal ?_) _
            have hW2 : Bx 43 (w.heap.size + 1 + 1) (put l n y) _ := setRow_heap _ _ _ _ _ _ hHeld.1.b2
            have hU2 := (Upd.row _ (w.heap.size + 1 + 1) (Kt.ia .i64 (put l n y))).to hHeld.1.bel (by omega)
            go_wp2_with fail
            refine bodyPost_ret (v := .tuple #[.agg (Kt.ia .i64 (put l n y)), .int .i64 1, .int .i64 n]) (by simp [results, Try.results19, asAddr, ld_bx hW2 Try.underlying43 hs2]) rfl ?_
            exact ⟨_, _, _, HD.out, rfl, hU2⟩
        · have f1 : (code != 1) = true := bne_iff_ne.2 hc
          have HD := Lib.hid (Did.refused (s := n) (k := k) (e := e) (a := a) n HO.out HK.out.1 HK.out.2 rfl HN.out.1 HN.out.2 (by rw [← HCC.out]; exact hc))
          rw [← HCC.out] at HD
          have hl2 : l2.length = l.length := by rw [HL2.out, hl]
          clear hc c0 x0
          go_upto_region 24 with (first
            | (refine load_bx rfl 43 (.tmp 2) rfl w.heap.size rfl l b0 Try.underlying43 hsz ?_)
            | (refine store_bx rfl 43 (.tmp 7) (.tmp 90) rfl g rfl l rfl l2 b7 hl2 hsz ?_
               intro W2 hW2 hU2))
          have HB3 := Lib.hid hW2
          replace HS3 := Lib.hid (HS3.out.upd hU2 HG.out)
          clear b0 b7 hW2 hU2
          refine Kt.G.start 4 (fun x => Bxs w l #[.int .i64 k, .int .i64 n, .int .i64 e, .int .i64 a] x ∧ Bx 43 g (l) x) (by kernel_rfl) ⟨HS3.out.on (Below.refl _ _).drew, HB3.out.on (Below.refl _ _).drew⟩ (fun hHeld => ?_)
          refine Kt.G.load_row 0 { dst := some 91, op := Op.load 43 (Operand.tmp 7), type := 43, pos := "slots.go:152", after := #[], guard := none } 43 (Operand.tmp 7) g 43 (Kt.ia .i64 (l)) _ hHeld rfl (by kernel_rfl) (fun _ _ _ h => h) (by rfl) rfl rfl (fun _ h => h.2) Try.underlying43 rfl (by rw [Kt.ia_size]; exact hsz) ?_
          try simp only [Act.put, List.setIfInBounds_toArray, List.set_cons_zero, List.set_cons_succ]
          refine Kt.G.takeP 1 { dst := some 92, op := Op.move (Operand.tmp 11), type := 3, pos := "slots.go:152", after := #[{ on := 4, ground := Ground.gcOnly Departure.lateStores }], guard := none } ?_ (fun _ => hHeld) rfl (by kernel_rfl) (fun _ _ _ h => h) (by rfl) ?_ ?_
          rotate_left
          · intro w; go_simp; try with_reducible rfl
          try simp only [Act.put, List.setIfInBounds_toArray, List.set_cons_zero, List.set_cons_succ]
          refine Kt.G.takeP 2 { dst := some 93, op := Op.fieldAddr 23 (Operand.tmp 3) 1, type := 0, pos := "slots.go:152", after := #[{ on := 5, ground := Ground.gcOnly Departure.lateStores }], guard := none } ?_ (fun _ => hHeld) rfl (by kernel_rfl) (fun _ _ _ h => h) (by rfl) ?_ ?_
          rotate_left
          · intro w; go_simp; try with_reducible rfl
          try simp only [Act.put, List.setIfInBounds_toArray, List.set_cons_zero, List.set_cons_succ]
          refine Kt.G.two 3 4 { dst := some 94, op := Op.load 3 (Operand.tmp 93), type := 3, pos := "slots.go:152", after := #[{ on := 2, ground := Ground.data }, { on := 5, ground := Ground.gcOnly Departure.lateStores }], guard := none } { dst := none, op := Op.store 43 (Operand.tmp 4) (Operand.tmp 91), type := 0, pos := "slots.go:152", after := #[{ on := 0, ground := Ground.data }, { on := 0, ground := Ground.phase }, { on := 1, ground := Ground.textOnly Departure.lateStores }, { on := 2, ground := Ground.textOnly Departure.lateStores }, { on := 3, ground := Ground.textOnly Departure.lateStores }], guard := none } rfl rfl (by kernel_rfl) (by rfl) (by rfl) (fun K hK => ?_) (fun K hK => ?_)
          · have hcs := cell_of_row _ _ 1 _ _ _ hHeld.1.bc
            go_simp
            clear hcs
            refine hK.out _ _ (fun _ => hHeld) (fun hHeld => ?_)
            have hHeld := hHeld rfl
            clear hK K
            try simp only [Act.put, List.setIfInBounds_toArray, List.set_cons_zero, List.set_cons_succ]
            refine Kt.G.one 4 { dst := none, op := Op.store 43 (Operand.tmp 4) (Operand.tmp 91), type := 0, pos := "slots.go:152", after := #[{ on := 0, ground := Ground.data }, { on := 0, ground := Ground.phase }, { on := 1, ground := Ground.textOnly Departure.lateStores }, { on := 2, ground := Ground.textOnly Departure.lateStores }, { on := 3, ground := Ground.textOnly Departure.lateStores }], guard := none } rfl (by kernel_rfl) (by rfl) (fun K hK => ?_)
            refine wp_store_row 43 (.tmp 4) (.tmp 91) rfl (w.heap.size + 1 + 1) (Kt.ia .i64 (l)) rfl rfl 43 (Kt.ia .i64 zb) hHeld.1.b2 (by rw [Kt.ia_size]; exact hsz) (by rw [Kt.ia_size, Kt.ia_size]; exact hz) (Kt.ia_one _ _) ?_
            refine hK.out _ _ (Kt.G.late (by kernel_rfl)) (fun _ => ?_)
            clear hK K
            try simp only [Act.put]
            refine Kt.G.takeP 5 { dst := some 5, op := Op.assign (Operand.tmp 92), type := 3, pos := "slots.go:152", after := #[{ on := 1, ground := Ground.data }, { on := 4, ground := Ground.chain }, { on := 0, ground := Ground.phase }, { on := 1, ground := Ground.phase }, { on := 2, ground := Ground.textOnly Departure.lateStores }, { on := 3, ground := Ground.textOnly Departure.lateStores }, { on := 4, ground := Ground.phase }], guard := none } ?_ (Kt.G.late (by kernel_rfl)) rfl (by kernel_rfl) (fun _ _ _ h => h) (by rfl) ?_ ?_
            rotate_left
            · intro w; go_simp; try with_reducible rfl
            try simp only [Act.put, List.setIfInBounds_toArray, List.set_cons_zero, List.set_cons_succ]
            refine Kt.G.takeP 6 { dst := some 6, op := Op.assign (Operand.tmp 94), type := 3, pos := "slots.go:152", after := #[{ on := 3, ground := Ground.data }, { on := 5, ground := Ground.chain }, { on := 0, ground := Ground.phase }, { on := 1, ground := Ground.phase }, { on := 2, ground := Ground.phase }, { on := 3, ground := Ground.phase }, { on := 4, ground := Ground.phase }, { on := 5, ground := Ground.phase }], guard := none } ?_ (Kt.G.late (by kernel_rfl)) rfl (by kernel_rfl) (fun _ _ _ h => h) (by rfl) ?_ ?_
            rotate_left
            · intro w; go_simp; try with_reducible rfl
            try simp only [Act.put, List.setIfInBounds_toArray, List.set_cons_zero, List.set_cons_succ]
            refine Kt.G.done (by kernel_rfl) (NoPanic.normal ?_) _
            have hW2 : Bx 43 (w.heap.size + 1 + 1) (l) _ := setRow_heap _ _ _ _ _ _ hHeld.1.b2
            have hU2 := (Upd.row _ (w.heap.size + 1 + 1) (Kt.ia .i64 (l))).to hHeld.1.bel (by omega)
            go_wp2_with fail
            refine bodyPost_ret (v := .tuple #[.agg (Kt.ia .i64 (l)), .int .i64 code, .int .i64 n]) (by simp [results, Try.results19, asAddr, ld_bx hW2 Try.underlying43 hsz]) rfl ?_
            exact ⟨_, _, _, HD.out, rfl, hU2⟩
          · refine wp_store_row 43 (.tmp 4) (.tmp 91) rfl (w.heap.size + 1 + 1) (Kt.ia .i64 (l)) rfl rfl 43 (Kt.ia .i64 zb) hHeld.1.b2 (by rw [Kt.ia_size]; exact hsz) (by rw [Kt.ia_size, Kt.ia_size]; exact hz) (Kt.ia_one _ _) ?_
            refine hK.out _ _ (Kt.G.late (by kernel_rfl)) (fun _ => ?_)
            clear hK K
            try simp only [Act.put]
            refine Kt.G.takeP 5 { dst := some 5, op := Op.assign (Operand.tmp 92), type := 3, pos := "slots.go:152", after := #[{ on := 1, ground := Ground.data }, { on := 4, ground := Ground.chain }, { on := 0, ground := Ground.phase }, { on := 1, ground := Ground.phase }, { on := 2, ground := Ground.textOnly Departure.lateStores }, { on := 3, ground := Ground.textOnly Departure.lateStores }, { on := 4, ground := Ground.phase }], guard := none } ?_ (Kt.G.late (by kernel_rfl)) rfl (by kernel_rfl) (fun _ _ _ h => h) (by rfl) ?_ ?_
            rotate_left
            · intro w; go_simp; try with_reducible rfl
            try simp only [Act.put, List.setIfInBounds_toArray, List.set_cons_zero, List.set_cons_succ]
            refine Kt.G.one 3 { dst := some 94, op := Op.load 3 (Operand.tmp 93), type := 3, pos := "slots.go:152", after := #[{ on := 2, ground := Ground.data }, { on := 5, ground := Ground.gcOnly Departure.lateStores }], guard := none } rfl (by kernel_rfl) (by rfl) (fun K hK => ?_)
            have hcs := (cell_setRow_other _ (w.heap.size + 1 + 1) (Kt.ia .i64 (l)) ⟨w.heap.size + 1, 1, none⟩ (by simp)).trans (cell_of_row _ _ 1 _ _ _ hHeld.1.bc)
            go_simp
            clear hcs
            refine hK.out _ _ (Kt.G.late (by kernel_rfl)) (fun _ => ?_)
            clear hK K
            try simp only [Act.put, List.setIfInBounds_toArray, List.set_cons_zero, List.set_cons_succ]
            refine Kt.G.takeP 6 { dst := some 6, op := Op.assign (Operand.tmp 94), type := 3, pos := "slots.go:152", after := #[{ on := 3, ground := Ground.data }, { on := 5, ground := Ground.chain }, { on := 0, ground := Ground.phase }, { on := 1, ground := Ground.phase }, { on := 2, ground := Ground.phase }, { on := 3, ground := Ground.phase }, { on := 4, ground := Ground.phase }, { on := 5, ground := Ground.phase }], guard := none } ?_ (Kt.G.late (by kernel_rfl)) rfl (by kernel_rfl) (fun _ _ _ h => h) (by rfl) ?_ ?_
            rotate_left
            · intro w; go_simp; try with_reducible rfl
            try simp only [Act.put, List.setIfInBounds_toArray, List.set_cons_zero, List.set_cons_succ]
            refine Kt.G.done (by kernel_rfl) (NoPanic.normal ?_) _
            have hW2 : Bx 43 (w.heap.size + 1 + 1) (l) _ := setRow_heap _ _ _ _ _ _ hHeld.1.b2
            have hU2 := (Upd.row _ (w.heap.size + 1 + 1) (Kt.ia .i64 (l))).to hHeld.1.bel (by omega)
            go_wp2_with fail
            refine bodyPost_ret (v := .tuple #[.agg (Kt.ia .i64 (l)), .int .i64 code, .int .i64 n]) (by simp [results, Try.results19, asAddr, ld_bx hW2 Try.underlying43 hsz]) rfl ?_
            exact ⟨_, _, _, HD.out, rfl, hU2⟩
  · rw [chk_bad hok]
    have HD := Lib.hid (Did.bad (k := k) (s := s) (e := e) (a := a) hok)
    have b2 := HS.out.b2
    clear hok
    go_wp2_with (first
      | (refine load_bx rfl 43 (.tmp 2) rfl w.heap.size rfl l b0 Try.underlying43 hsz ?_)
      | (refine store_bx rfl 43 (.tmp 4) (.tmp 15) rfl (w.heap.size + 1 + 1) rfl l rfl zb b2 hz hsz ?_
         intro W2 hW2 hU2))
    refine bodyPost_ret (v := .tuple #[.agg (Kt.ia .i64 l), .int .i64 0, .int .i64 0]) (by simp [results, Try.results19, asAddr, ld_bx hW2 Try.underlying43 hsz]) rfl ?_
    exact ⟨l, 0, 0, HD.out, rfl, hU2.to HS.out.bel (by omega)⟩
end Go.Proofs.Ytidcbboonjenhaa
