/- The walks of package hub: Plug. -/
import Derived.Test.YtijolofnmccolaaHubC
import Derived.Test.YtijolofnmccolaaAny
namespace Go.Proofs.Ytijolofnmccolaa
open Go.RowKit
def zs : List Int := List.replicate 32 0
theorem zs_len : zs.length = 32 := by simp [zs]
theorem zeros_lit : (#[.int .i64 0, .int .i64 0, .int .i64 0, .int .i64 0, .int .i64 0, .int .i64 0, .int .i64 0, .int .i64 0, .int .i64 0, .int .i64 0, .int .i64 0, .int .i64 0, .int .i64 0, .int .i64 0, .int .i64 0, .int .i64 0, .int .i64 0, .int .i64 0, .int .i64 0, .int .i64 0, .int .i64 0, .int .i64 0, .int .i64 0, .int .i64 0, .int .i64 0, .int .i64 0, .int .i64 0, .int .i64 0, .int .i64 0, .int .i64 0, .int .i64 0, .int .i64 0, .int .i64 0] : Array Value) = Kt.ia .i64 (0 :: zs) := by rfl
structure TwoH (w W : World) (c : Int) (ps : List Int) : Prop where
  b0 : HBox w.heap.size c ps W
  b1 : HBox (w.heap.size + 1) 0 zs W
  bel : Below w.heap.size w W
theorem TwoH.size {w W : World} {c : Int} {ps : List Int} (h : TwoH w W c ps) : w.heap.size + 1 < W.heap.size := (Array.getElem?_eq_some_iff.1 h.b1).1
theorem TwoH.start (w : World) (c : Int) (ps : List Int) : TwoH w ((w.alloc (.cells (Kt.ia .i64 (c :: ps)) 26)).alloc (.cells (Kt.ia .i64 (0 :: zs)) 26)) c ps :=
  ⟨heap_alloc2_old w _ _, heap_alloc2_new w _ _, Kt.balloc (Kt.balloc (Below.refl _ w) _) _⟩
theorem TwoH.on {w W W' : World} {c : Int} {ps : List Int} (h : TwoH w W c ps) (b : Below W.heap.size W W') : TwoH w W' c ps := ⟨h.b0.on b, h.b1.on b, Kt.bthen h.bel b⟩
theorem brow {B : Nat} {w a : World} (h : Below B w a) {g : Nat} (hg : B ≤ g) (cs : Array Value) : Below B w (a.setRow g cs) :=
  h.trans ⟨rfl, rfl, rfl, by simp, fun k hk => setRow_other a g k cs (by omega)⟩
theorem hub_size (c : Int) (ps : List Int) (hl : ps.length = 32) : (Try.prog.info? 26).map (·.size) = some (Kt.ia .i64 (c :: ps)).size := by
  rw [Kt.ia_size, List.length_cons, hl]; exact size_hub
theorem ld_hub {W : World} {g : Nat} {c : Int} {ps : List Int} (h : HBox g c ps W) (hl : ps.length = 32) : (loadVar 26 ⟨g, 0, none⟩).run Try.prog W = .ok (HV c ps) W :=
  run_loadVar_row W g 26 26 (Kt.ia .i64 (c :: ps)) (0, 0) _ h Try.underlying26 rfl (hub_size c ps hl)
section
variable {ops : Array Oper} {rest : List Oper} {o : Oper} {a : Act} {w : World} {Q : Exit → Act → World → Prop}
theorem load_hub (hgd : o.guard = none) (x : Operand) (ho : o.op = .load 26 x) (g : Nat) (hx : a.eval x = .pointer (some ⟨g, 0, none⟩)) (c : Int) (ps : List Int) (hl : ps.length = 32) (hg : HBox g c ps w)
    (h : wpList Try.prog ops Q rest (a.put o.dst (HV c ps)) w) : wpList Try.prog ops Q (o :: rest) a w :=
  wpList_load_row hgd 26 x ho g hx 26 (Kt.ia .i64 (c :: ps)) (0, 0) _ hg Try.underlying26 rfl (hub_size c ps hl) h
theorem store_hub (hgd : o.guard = none) (x y : Operand) (ho : o.op = .store 26 x y) (g : Nat) (hx : a.eval x = .pointer (some ⟨g, 0, none⟩)) (c : Int) (ps : List Int) (hl : ps.length = 32) (hy : a.eval y = HV c ps) (c0 : Int) (ps0 : List Int) (hl0 : ps0.length = 32) (hold : HBox g c0 ps0 w)
    (h : ∀ W, HBox g c ps W → (∀ k, k ≠ g → W.heap[k]? = w.heap[k]?) → (∀ B, B ≤ g → Below B w W) → wpList Try.prog ops Q rest (a.put o.dst undef) W) : wpList Try.prog ops Q (o :: rest) a w :=
  wpList_store_row hgd 26 x y ho g (Kt.ia .i64 (c :: ps)) hx hy 26 (Kt.ia .i64 (c0 :: ps0)) hold (hub_size c ps hl) (by rw [Kt.ia_size, Kt.ia_size, List.length_cons, List.length_cons, hl, hl0]) (Kt.ia_one _ _)
    (h _ (setRow_heap w g _ _ _ _ hold) (fun k hk => setRow_other w g k _ hk) (fun B hB => brow (Below.refl _ _) hB _))
end
/-- what a call that hands back a hub and a number leaves -/
def Gives (c : Int) (ps : List Int) (n : Int) (w : World) (e : Ending) (w' : World) : Prop := e = .returned (.tuple #[HV c ps, .int .i64 n]) ∧ Below w.heap.size w w'
set_option maxHeartbeats 1600000 in
theorem plug_bad (c : Int) (ps : List Int) (hl : ps.length = 32) (hfit : Fit ps) (port : Int) (there : Bool) (w : World) (h : ¬ RightH c ps) : Calls Try.prog 12 #[HV c ps, .int .i64 port, .bool there] w (Gives c ps (chk c ps) w) := by
  have T0 := TwoH.start w c ps
  have HC := Lib.hid (fun W => check_calls c ps hl hfit W)
  have HN := Lib.hid h; clear h
  unfold HV
  go_enter Try.func12, Try.ntmps12
  go_upto_region 1 with (fail)
  rw [zeros_lit]
  generalize ((w.alloc (.cells (Kt.ia .i64 (c :: ps)) 26)).alloc (.cells (Kt.ia .i64 (0 :: zs)) 26)) = W at *
  go_wp2_with (refine load_hub rfl (.tmp 3) rfl w.heap.size rfl c ps hl T0.b0 ?_)
  refine (HC.out _).mono ?_
  rintro en w1 ⟨n, rfl, hn, hb1⟩
  have T1 := T0.on hb1
  have HNZ : Hid (n ≠ 0) := Lib.hid fun e => HN.out (hn.1.1 e)
  have hnz : (n != 0) = true := by rw [bne_iff_ne]; exact HNZ.out
  have HNC : Hid (n = chk c ps) := Lib.hid hn.2
  clear hn
  go_wp2_with (first
    | (refine load_hub rfl (.tmp 3) rfl w.heap.size rfl c ps hl T1.b0 ?_)
    | (refine store_hub rfl (.tmp 6) (.tmp 15) rfl (w.heap.size + 1) rfl c ps hl rfl 0 zs zs_len T1.b1 ?_
       intro W2 hW2 hk2 hb2))
  refine bodyPost_ret (v := .tuple #[HV c ps, .int .i64 n]) (by simp [results, Try.results12, asAddr, ld_hub hW2 hl]) rfl ⟨by rw [HNC.out], T1.bel.trans (hb2 _ (by omega))⟩
set_option maxHeartbeats 1600000 in
theorem plug_none (c : Int) (ps : List Int) (hl : ps.length = 32) (hfit : Fit ps) (port : Int) (there : Bool) (w : World) (h : RightH c ps) (hp : port < 1 ∨ (1 ≤ port ∧ c < port)) : Calls Try.prog 12 #[HV c ps, .int .i64 port, .bool there] w (Gives c ps 12 w) := by
  have T0 := TwoH.start w c ps
  have HC := Lib.hid (fun W => check_calls c ps hl hfit W)
  have HR := Lib.hid h; clear h
  have HP := Lib.hid hp; clear hp
  unfold HV
  go_enter Try.func12, Try.ntmps12
  go_upto_region 1 with (fail)
  rw [zeros_lit]
  generalize ((w.alloc (.cells (Kt.ia .i64 (c :: ps)) 26)).alloc (.cells (Kt.ia .i64 (0 :: zs)) 26)) = W at *
  go_wp2_with (refine load_hub rfl (.tmp 3) rfl w.heap.size rfl c ps hl T0.b0 ?_)
  refine (HC.out _).mono ?_
  rintro en w1 ⟨n, rfl, hn, hb1⟩
  obtain rfl : n = 0 := hn.1.2 HR.out
  have T1 := T0.on hb1
  have hcount := T1.b0.count
  clear hn
  rcases HP.out with hp | ⟨hp, hp2⟩
  all_goals
    go_wp2_with (first
      | (refine load_hub rfl (.tmp 3) rfl w.heap.size rfl c ps hl T1.b0 ?_)
      | (refine store_hub rfl (.tmp 6) (.tmp 25) rfl (w.heap.size + 1) rfl c ps hl rfl 0 zs zs_len T1.b1 ?_
         intro W2 hW2 hk2 hb2))
    refine bodyPost_ret (v := .tuple #[HV c ps, .int .i64 12]) (by simp [results, Try.results12, asAddr, ld_hub hW2 hl]) rfl ⟨rfl, T1.bel.trans (hb2 _ (by omega))⟩
/-- a port's two cells -/
theorem HBox.port {b : Nat} {c : Int} {ps : List Int} {w : World} (h : HBox b c ps w) (hl : ps.length = 32) (i : Nat) (hi : i < 16) : w.cell? ⟨b, 1 + i * 2, none⟩ = some (.int .i64 (ps[i * 2]'(by omega))) ∧ w.cell? ⟨b, 1 + i * 2 + 1, none⟩ = some (.int .i64 (ps[i * 2 + 1]'(by omega))) := by
  constructor
  · rw [cell_of_row _ _ _ _ _ _ h, Kt.ia_at _ _ _ (by simp; omega)]
    have : (c :: ps)[1 + i * 2]'(by simp; omega) = ps[i * 2]'(by omega) := by
      rw [List.getElem_cons, dif_neg (by omega)]
      congr 1; omega
    rw [this]
  · rw [cell_of_row _ _ _ _ _ _ h, Kt.ia_at _ _ _ (by simp; omega)]
    have : (c :: ps)[1 + i * 2 + 1]'(by simp; omega) = ps[i * 2 + 1]'(by omega) := by
      rw [List.getElem_cons, dif_neg (by omega)]
      congr 1; omega
    rw [this]
set_option maxHeartbeats 1600000 in
theorem plug_stall (c : Int) (ps : List Int) (hl : ps.length = 32) (hfit : Fit ps) (i : Nat) (there : Bool) (w : World) (h : RightH c ps) (h1 : (1 : Int) ≤ i) (h2 : (i : Int) ≤ c) (hi : i < 16) (hs : ps[i * 2]'(by omega) = 0) : Calls Try.prog 12 #[HV c ps, .int .i64 i, .bool there] w (Gives c ps 8 w) := by
  have T0 := TwoH.start w c ps
  have HC := Lib.hid (fun W => check_calls c ps hl hfit W)
  have HR := Lib.hid h; clear h
  have HS := Lib.hid hs; clear hs
  unfold HV
  go_enter Try.func12, Try.ntmps12
  go_upto_region 1 with (fail)
  rw [zeros_lit]
  generalize ((w.alloc (.cells (Kt.ia .i64 (c :: ps)) 26)).alloc (.cells (Kt.ia .i64 (0 :: zs)) 26)) = W at *
  go_wp2_with (refine load_hub rfl (.tmp 3) rfl w.heap.size rfl c ps hl T0.b0 ?_)
  refine (HC.out _).mono ?_
  rintro en w1 ⟨n, rfl, hn, hb1⟩
  obtain rfl : n = 0 := hn.1.2 HR.out
  have T1 := T0.on hb1
  have hcount := T1.b0.count
  obtain ⟨hps, hpt⟩ := T1.b0.port hl i hi
  rw [HS.out] at hps
  clear hn
  have e1 : (i : Int) < 16 := by omega
  go_wp2_with (first
    | (refine load_hub rfl (.tmp 3) rfl w.heap.size rfl c ps hl T1.b0 ?_)
    | (refine store_hub rfl (.tmp 6) (.tmp 42) rfl (w.heap.size + 1) rfl c ps hl rfl 0 zs zs_len T1.b1 ?_
       intro W2 hW2 hk2 hb2))
  refine bodyPost_ret (v := .tuple #[HV c ps, .int .i64 8]) (by simp [results, Try.results12, asAddr, ld_hub hW2 hl]) rfl ⟨rfl, T1.bel.trans (hb2 _ (by omega))⟩
/-- a hub whose port i is this -/
def upd (ps : List Int) (i : Nat) (s t : Int) : List Int := (ps.set (i * 2) s).set (i * 2 + 1) t
theorem upd_len (ps : List Int) (i : Nat) (s t : Int) : (upd ps i s t).length = ps.length := by simp [upd]
theorem HBox.setS {b : Nat} {c : Int} {ps : List Int} {w : World} (h : HBox b c ps w) (i : Nat) (s : Int) : HBox b c (ps.set (i * 2) s) (w.setCell ⟨b, 1 + i * 2, none⟩ (.int .i64 s)) := by
  have h2 := heap_setCell_same w b (1 + i * 2) _ _ (.int .i64 s) h
  rw [Kt.ia_set, show (c :: ps).set (1 + i * 2) s = c :: ps.set (i * 2) s by rw [Nat.add_comm, List.set_cons_succ]] at h2
  exact h2
theorem HBox.setT {b : Nat} {c : Int} {ps : List Int} {w : World} (h : HBox b c ps w) (i : Nat) (t : Int) : HBox b c (ps.set (i * 2 + 1) t) (w.setCell ⟨b, 1 + i * 2 + 1, none⟩ (.int .i64 t)) := by
  have h2 := heap_setCell_same w b (1 + i * 2 + 1) _ _ (.int .i64 t) h
  rw [Kt.ia_set, show (c :: ps).set (1 + i * 2 + 1) t = c :: ps.set (i * 2 + 1) t by rw [show 1 + i * 2 + 1 = (i * 2 + 1) + 1 by omega, List.set_cons_succ]] at h2
  exact h2
theorem HBox.other {b : Nat} {c : Int} {ps : List Int} {w : World} (h : HBox b c ps w) {p : Addr} (hp : b ≠ p.block) (v : Value) : HBox b c ps (w.setCell p v) := (heap_setCell_other _ _ _ _ hp).trans h
theorem HBox.free {b : Nat} {c : Int} {ps : List Int} {w : World} (h : HBox b c ps w) : ∀ i, w.frozen? ⟨b, i, none⟩ = false := fun i => frozen_of_row _ _ i _ _ h
theorem HBox.drew {b : Nat} {c : Int} {ps : List Int} {w : World} (h : HBox b c ps w) : HBox b c ps w.drew := h
/-- what Plug makes of a port -/
def plugP (s t : Int) (there : Bool) : Int × Int :=
  if there = true then (if s = 256 then (257, bits .or .i64 t 1) else (s, t)) else (if s = 256 then (s, t) else (256, bits .or .i64 t (bits .or .i64 1 (bits .and .i64 s 2))))
theorem upd_same (ps : List Int) (hl : ps.length = 32) (i : Nat) (hi : i < 16) : upd ps i (ps[i * 2]'(by omega)) (ps[i * 2 + 1]'(by omega)) = ps := by
  unfold upd
  rw [List.set_getElem_self]
  exact List.set_getElem_self _
set_option maxHeartbeats 1600000 in
theorem plug_in (c : Int) (ps : List Int) (hl : ps.length = 32) (hfit : Fit ps) (i : Nat) (there : Bool) (s t : Int) (w : World) (h : RightH c ps) (h1 : (1 : Int) ≤ i) (h2 : (i : Int) ≤ c) (hi : i < 16) (hs : ps[i * 2]'(by omega) = s) (ht : ps[i * 2 + 1]'(by omega) = t) (h4 : s = 256 ∨ s = 257 ∨ s = 259 ∨ s = 273) : Calls Try.prog 12 #[HV c ps, .int .i64 i, .bool there] w (Gives c (upd ps i (plugP s t there).1 (plugP s t there).2) 0 w) := by
  have T0 := TwoH.start w c ps
  have HC := Lib.hid (fun W => check_calls c ps hl hfit W)
  have HR := Lib.hid h; clear h
  have HST := Lib.hid (And.intro hs ht)
  have HSAME := Lib.hid (show upd ps i s t = ps by rw [← hs, ← ht]; exact upd_same ps hl i hi)
  clear hs ht
  unfold HV
  go_enter Try.func12, Try.ntmps12
  go_upto_region 1 with (fail)
  rw [zeros_lit]
  generalize ((w.alloc (.cells (Kt.ia .i64 (c :: ps)) 26)).alloc (.cells (Kt.ia .i64 (0 :: zs)) 26)) = W at *
  go_wp2_with (refine load_hub rfl (.tmp 3) rfl w.heap.size rfl c ps hl T0.b0 ?_)
  refine (HC.out _).mono ?_
  rintro en w1 ⟨n, rfl, hn, hb1⟩
  obtain rfl : n = 0 := hn.1.2 HR.out
  have T1 := T0.on hb1
  have hcount := T1.b0.count
  have hfree := T1.b0.free
  obtain ⟨hps, hpt⟩ := T1.b0.port hl i hi
  rw [HST.out.1] at hps
  rw [HST.out.2] at hpt
  have hsz := T1.size
  clear hn
  have e1 : (i : Int) < 16 := by omega
  rcases h4 with rfl | rfl | rfl | rfl <;> cases there
  · go_wp2_with (first
      | (refine load_hub rfl (.tmp 3) rfl w.heap.size rfl c ps hl T1.b0 ?_)
      | (refine store_hub rfl (.tmp 6) (.tmp 85) rfl (w.heap.size + 1) rfl c ps hl rfl 0 zs zs_len T1.b1 ?_
         intro W2 hW2 hk2 hb2))
    rw [show upd ps i (plugP 256 t false).1 (plugP 256 t false).2 = ps from HSAME.out]
    exact bodyPost_ret (v := .tuple #[HV c ps, .int .i64 0]) (by simp [results, Try.results12, asAddr, ld_hub hW2 hl]) rfl ⟨rfl, T1.bel.trans (hb2 _ (by omega))⟩
  · have hB := (T1.b0.setS i 257).setT i (bits .or .i64 t 1)
    have hB1 := (T1.b1.other (p := ⟨w.heap.size, 1 + i * 2, none⟩) (by simp) (.int .i64 257)).other (p := ⟨w.heap.size, 1 + i * 2 + 1, none⟩) (by simp) (.int .i64 (bits .or .i64 t 1))
    have hBB := Kt.bset (Kt.bset T1.bel (p := ⟨w.heap.size, 1 + i * 2, none⟩) (by simp) (.int .i64 257)) (p := ⟨w.heap.size, 1 + i * 2 + 1, none⟩) (by simp) (.int .i64 (bits .or .i64 t 1))
    have hlu : ((ps.set (i * 2) 257).set (i * 2 + 1) (bits .or .i64 t 1)).length = 32 := by simp [hl]
    have k1 : bits .or .i64 256 1 = 257 := by decide
    go_wp2_with (first
      | (refine load_hub rfl (.tmp 3) rfl w.heap.size rfl c _ hlu hB ?_)
      | (refine store_hub rfl (.tmp 6) (.tmp 85) rfl (w.heap.size + 1) rfl c _ hlu rfl 0 zs zs_len hB1 ?_
         intro W2 hW2 hk2 hb2))
    exact bodyPost_ret (v := .tuple #[HV c (upd ps i 257 (bits .or .i64 t 1)), .int .i64 0]) (by simp [results, Try.results12, asAddr, ld_hub hW2 hlu, upd]) rfl ⟨rfl, hBB.trans (hb2 _ (by omega))⟩
  · have hB := (T1.b0.setT i (bits .or .i64 t (bits .or .i64 1 (bits .and .i64 257 2)))).drew.setS i 256
    have hB1 := (T1.b1.other (p := ⟨w.heap.size, 1 + i * 2 + 1, none⟩) (by simp) (.int .i64 (bits .or .i64 t (bits .or .i64 1 (bits .and .i64 257 2))))).drew.other (p := ⟨w.heap.size, 1 + i * 2, none⟩) (by simp) (.int .i64 256)
    have hBB := Kt.bset (Kt.bset T1.bel (p := ⟨w.heap.size, 1 + i * 2 + 1, none⟩) (by simp) (.int .i64 (bits .or .i64 t (bits .or .i64 1 (bits .and .i64 257 2))))).drew (p := ⟨w.heap.size, 1 + i * 2, none⟩) (by simp) (.int .i64 256)
    have hlu : ((ps.set (i * 2 + 1) (bits .or .i64 t (bits .or .i64 1 (bits .and .i64 257 2)))).set (i * 2) 256).length = 32 := by simp [hl]
    have hcm : (ps.set (i * 2 + 1) (bits .or .i64 t (bits .or .i64 1 (bits .and .i64 257 2)))).set (i * 2) 256 = upd ps i 256 (bits .or .i64 t (bits .or .i64 1 (bits .and .i64 257 2))) := by unfold upd; rw [List.set_comm _ _ (by omega)]
    rw [hcm] at hB hlu
    have HCM := Lib.hid hcm; clear hcm
    go_wp2_with fail
    go_region
    go_wp2_with (first
      | (refine load_hub rfl (.tmp 3) rfl w.heap.size rfl c _ hlu hB ?_)
      | (refine store_hub rfl (.tmp 6) (.tmp 85) rfl (w.heap.size + 1) rfl c _ hlu rfl 0 zs zs_len hB1 ?_
         intro W2 hW2 hk2 hb2))
    exact bodyPost_ret (v := .tuple #[HV c (upd ps i 256 (bits .or .i64 t (bits .or .i64 1 (bits .and .i64 257 2)))), .int .i64 0]) (by simp [results, Try.results12, asAddr, ld_hub hW2 hlu]) rfl ⟨rfl, hBB.trans (hb2 _ (by omega))⟩
  · go_wp2_with (first
      | (refine load_hub rfl (.tmp 3) rfl w.heap.size rfl c ps hl T1.b0 ?_)
      | (refine store_hub rfl (.tmp 6) (.tmp 85) rfl (w.heap.size + 1) rfl c ps hl rfl 0 zs zs_len T1.b1 ?_
         intro W2 hW2 hk2 hb2))
    rw [show upd ps i (plugP 257 t true).1 (plugP 257 t true).2 = ps from HSAME.out]
    exact bodyPost_ret (v := .tuple #[HV c ps, .int .i64 0]) (by simp [results, Try.results12, asAddr, ld_hub hW2 hl]) rfl ⟨rfl, T1.bel.trans (hb2 _ (by omega))⟩
  · have hB := (T1.b0.setT i (bits .or .i64 t (bits .or .i64 1 (bits .and .i64 259 2)))).drew.setS i 256
    have hB1 := (T1.b1.other (p := ⟨w.heap.size, 1 + i * 2 + 1, none⟩) (by simp) (.int .i64 (bits .or .i64 t (bits .or .i64 1 (bits .and .i64 259 2))))).drew.other (p := ⟨w.heap.size, 1 + i * 2, none⟩) (by simp) (.int .i64 256)
    have hBB := Kt.bset (Kt.bset T1.bel (p := ⟨w.heap.size, 1 + i * 2 + 1, none⟩) (by simp) (.int .i64 (bits .or .i64 t (bits .or .i64 1 (bits .and .i64 259 2))))).drew (p := ⟨w.heap.size, 1 + i * 2, none⟩) (by simp) (.int .i64 256)
    have hlu : ((ps.set (i * 2 + 1) (bits .or .i64 t (bits .or .i64 1 (bits .and .i64 259 2)))).set (i * 2) 256).length = 32 := by simp [hl]
    have hcm : (ps.set (i * 2 + 1) (bits .or .i64 t (bits .or .i64 1 (bits .and .i64 259 2)))).set (i * 2) 256 = upd ps i 256 (bits .or .i64 t (bits .or .i64 1 (bits .and .i64 259 2))) := by unfold upd; rw [List.set_comm _ _ (by omega)]
    rw [hcm] at hB hlu
    have HCM := Lib.hid hcm; clear hcm
    go_wp2_with fail
    go_region
    go_wp2_with (first
      | (refine load_hub rfl (.tmp 3) rfl w.heap.size rfl c _ hlu hB ?_)
      | (refine store_hub rfl (.tmp 6) (.tmp 85) rfl (w.heap.size + 1) rfl c _ hlu rfl 0 zs zs_len hB1 ?_
         intro W2 hW2 hk2 hb2))
    exact bodyPost_ret (v := .tuple #[HV c (upd ps i 256 (bits .or .i64 t (bits .or .i64 1 (bits .and .i64 259 2)))), .int .i64 0]) (by simp [results, Try.results12, asAddr, ld_hub hW2 hlu]) rfl ⟨rfl, hBB.trans (hb2 _ (by omega))⟩
  · go_wp2_with (first
      | (refine load_hub rfl (.tmp 3) rfl w.heap.size rfl c ps hl T1.b0 ?_)
      | (refine store_hub rfl (.tmp 6) (.tmp 85) rfl (w.heap.size + 1) rfl c ps hl rfl 0 zs zs_len T1.b1 ?_
         intro W2 hW2 hk2 hb2))
    rw [show upd ps i (plugP 259 t true).1 (plugP 259 t true).2 = ps from HSAME.out]
    exact bodyPost_ret (v := .tuple #[HV c ps, .int .i64 0]) (by simp [results, Try.results12, asAddr, ld_hub hW2 hl]) rfl ⟨rfl, T1.bel.trans (hb2 _ (by omega))⟩
  · have hB := (T1.b0.setT i (bits .or .i64 t (bits .or .i64 1 (bits .and .i64 273 2)))).drew.setS i 256
    have hB1 := (T1.b1.other (p := ⟨w.heap.size, 1 + i * 2 + 1, none⟩) (by simp) (.int .i64 (bits .or .i64 t (bits .or .i64 1 (bits .and .i64 273 2))))).drew.other (p := ⟨w.heap.size, 1 + i * 2, none⟩) (by simp) (.int .i64 256)
    have hBB := Kt.bset (Kt.bset T1.bel (p := ⟨w.heap.size, 1 + i * 2 + 1, none⟩) (by simp) (.int .i64 (bits .or .i64 t (bits .or .i64 1 (bits .and .i64 273 2))))).drew (p := ⟨w.heap.size, 1 + i * 2, none⟩) (by simp) (.int .i64 256)
    have hlu : ((ps.set (i * 2 + 1) (bits .or .i64 t (bits .or .i64 1 (bits .and .i64 273 2)))).set (i * 2) 256).length = 32 := by simp [hl]
    have hcm : (ps.set (i * 2 + 1) (bits .or .i64 t (bits .or .i64 1 (bits .and .i64 273 2)))).set (i * 2) 256 = upd ps i 256 (bits .or .i64 t (bits .or .i64 1 (bits .and .i64 273 2))) := by unfold upd; rw [List.set_comm _ _ (by omega)]
    rw [hcm] at hB hlu
    have HCM := Lib.hid hcm; clear hcm
    go_wp2_with fail
    go_region
    go_wp2_with (first
      | (refine load_hub rfl (.tmp 3) rfl w.heap.size rfl c _ hlu hB ?_)
      | (refine store_hub rfl (.tmp 6) (.tmp 85) rfl (w.heap.size + 1) rfl c _ hlu rfl 0 zs zs_len hB1 ?_
         intro W2 hW2 hk2 hb2))
    exact bodyPost_ret (v := .tuple #[HV c (upd ps i 256 (bits .or .i64 t (bits .or .i64 1 (bits .and .i64 273 2)))), .int .i64 0]) (by simp [results, Try.results12, asAddr, ld_hub hW2 hlu]) rfl ⟨rfl, hBB.trans (hb2 _ (by omega))⟩
  · go_wp2_with (first
      | (refine load_hub rfl (.tmp 3) rfl w.heap.size rfl c ps hl T1.b0 ?_)
      | (refine store_hub rfl (.tmp 6) (.tmp 85) rfl (w.heap.size + 1) rfl c ps hl rfl 0 zs zs_len T1.b1 ?_
         intro W2 hW2 hk2 hb2))
    rw [show upd ps i (plugP 273 t true).1 (plugP 273 t true).2 = ps from HSAME.out]
    exact bodyPost_ret (v := .tuple #[HV c ps, .int .i64 0]) (by simp [results, Try.results12, asAddr, ld_hub hW2 hl]) rfl ⟨rfl, T1.bel.trans (hb2 _ (by omega))⟩
end Go.Proofs.Ytijolofnmccolaa
