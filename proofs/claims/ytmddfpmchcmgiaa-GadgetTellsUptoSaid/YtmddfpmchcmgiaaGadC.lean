/- Check walked. -/
import Derived.Test.YtmddfpmchcmgiaaGadD
import Derived.Test.YtmddfpmchcmgiaaDscL
import Derived.Test.YtmddfpmchcmgiaaGen
namespace Go.Proofs.Ytmddfpmchcmgiaa
open Go.RowKit Go.Proofs.Ytmddfpmchcmgiaa.Dsc Go.Proofs.Ytmddfpmchcmgiaa.Gad Go.Proofs.Ytmddfpmchcmgiaa.Utf
theorem txsC_at : ∀ (l : List (List UInt8)) (k : Nat) (h : k < l.length), (∀ t ∈ l.take k, txC t = 0) → txC l[k] ≠ 0 → txsC l = txC l[k]
  | t :: l, 0, _, _, h2 => by
    show (if txC t = 0 then txsC l else txC t) = _
    rw [if_neg (by exact h2)]; rfl
  | t :: l, k + 1, h, h1, h2 => by
    show (if txC t = 0 then txsC l else txC t) = _
    rw [if_pos (h1 t (by simp)), txsC_at l k (by simpa using h) (fun u hu => h1 u (by simp [hu])) h2]; rfl
theorem txsC_all : ∀ (l : List (List UInt8)), (∀ t ∈ l, txC t = 0) → txsC l = 0
  | [], _ => rfl
  | t :: l, h => by
    show (if txC t = 0 then txsC l else txC t) = _
    rw [if_pos (h t (by simp)), txsC_all l (fun u hu => h u (by simp [hu]))]
theorem all_take {α : Type} (p : α → Prop) (l : List α) (k : Nat) (h : k < l.length) (h1 : ∀ t ∈ l.take k, p t) (h2 : p l[k]) : ∀ t ∈ l.take (k + 1), p t := by
  rw [List.take_succ_eq_append_getElem h]
  intro t ht
  rcases List.mem_append.1 ht with ht | ht
  · exact h1 t ht
  · simp at ht; subst ht; exact h2
def nmcells (s : Sh) : List Value := (names s).map (Value.int .i64)
theorem nm_len (s : Sh) : (names s).length = 4 + s.cfg.fs.length := by simp [names]; omega
theorem nm_next (s : Sh) (i : Nat) (h : i < s.cfg.fs.length) : (nmcells s).take (4 + i + 1) = (nmcells s).take (4 + i) ++ [.int .i64 s.cfg.fs[i].nm] := by
  have hl : 4 + i < (nmcells s).length := by unfold nmcells; rw [List.length_map, nm_len]; omega
  rw [List.take_succ_eq_append_getElem hl]
  have e : (nmcells s)[4 + i]? = some (.int .i64 s.cfg.fs[i].nm) := by
    unfold nmcells names
    rw [List.getElem?_map, List.getElem?_append_right (by simp)]
    simp [h]
  rw [List.getElem?_eq_getElem hl] at e
  injection e with e
  rw [e]
theorem le8 {n i L : Nat} (h : n = 4 + i) (h1 : L ≤ 4) (h2 : i < L) : n ≤ 8 := by omega
theorem le8' {n L : Nat} (h : n = 4 + L) (h1 : L ≤ 4) : n ≤ 8 ∧ 0 < n := by omega
theorem nxt8 {k n : Nat} (h : k < n) (h1 : n ≤ 8) : wrap64 ((k : Int) + 1) = ((k + 1 : Nat) : Int) := by unfold wrap64; omega
theorem n8a {n : Nat} (h : n ≤ 8) : n + 1 ≤ maxLen := by unfold maxLen; omega
theorem n8b {n : Nat} (h : n ≤ 8) : (n + 1) * 8 ≤ 140737488355328 := by omega
theorem in2 {w : World} {a : Nat} {x y : Obj} (h : a < w.heap.size) : a + 1 ≤ ((w.alloc x).alloc y).heap.size := by simp; omega
theorem in2' {w : World} {a : Nat} {x y : Obj} (h : a < w.heap.size) : a < ((w.alloc x).alloc y).heap.size := in2 h
theorem in1' {w : World} {a : Nat} {x : Obj} (h : a < w.heap.size) : a < (w.alloc x).heap.size := by simp; omega
theorem infoN : (Try.prog.info? 3).map (fun i => (i.zero, i.size, i.bytes)) = some (some (.int .i64 0), 1, 8) := by kernel_rfl
def shCs (s : Sh) (F T : Value) : Array Value := #[.int .i64 s.dev.usb, .int .i64 s.dev.cls, .int .i64 s.dev.sub, .int .i64 s.dev.pro, .int .i64 s.dev.m0, .int .i64 s.dev.ven, .int .i64 s.dev.prd, .int .i64 s.dev.rel, .int .i64 s.dev.mak, .int .i64 s.dev.nam, .int .i64 s.dev.ser, .int .i64 s.dev.cfs,
    .int .i64 s.cfg.va, .int .i64 s.cfg.nm, .int .i64 s.cfg.at_, .int .i64 s.cfg.pw, F, T]
set_option maxRecDepth 100000 in
set_option maxHeartbeats 6400000 in
theorem check_calls (hwd : WDev) (s : Sh) (v : Value) (w : World) (hs : ShRd w v s) (hb : ∀ t ∈ s.tx, t.length ≤ 35184372088832) :
    Calls Try.prog 27 #[v] w fun e w' => e = .returned (.int .i64 (chk s)) ∧ Below w.heap.size w w' := by
  obtain ⟨F, T, rfl, hc, hT⟩ := hs
  have HC := Lib.hid hc
  have HTC := Lib.hid hT
  have HBT := Lib.hid hb
  obtain ⟨F', css, hF', hF, hcl, hcr⟩ := hc
  injection hF' with hF'
  have e5 : F = F' := by
    have := congrArg (fun a : Array Value => a[4]?) hF'
    simpa using this
  subst e5
  have HF := Lib.hid hF
  have HCL := Lib.hid hcl
  have HCR := Lib.hid hcr
  obtain ⟨FA, fc, rfl, _, _⟩ := hF.form
  obtain ⟨TA, tc, rfl, _, htc⟩ := hT.form
  have HTX := Lib.hid htc
  have HWD : Hid (∀ W : World, Calls Try.prog 21 #[dV s.dev] W fun e w' => e = .returned (.tuple #[.string (bs' (wDev s.dev).1), .int .i64 (wDev s.dev).2]) ∧ Below W.heap.size W w') := Lib.hid (fun W => hwd s.dev W)
  have HWC : Hid (∀ W : World, Below w.heap.size w W → Calls Try.prog 13 #[.agg #[.int .i64 s.cfg.va, .int .i64 s.cfg.nm, .int .i64 s.cfg.at_, .int .i64 s.cfg.pw, .slice FA s.cfg.fs.length fc]] W fun e w' => e = .returned (.tuple #[.string (bs' (wCfg s.cfg).1), .int .i64 (wCfg s.cfg).2]) ∧ Below W.heap.size W w') := Lib.hid (fun W hW => wcfg_calls s.cfg _ W (HC.out.on hW))
  unfold dV at HWD
  have HK : Hid (chk s = if (wDev s.dev).2 ≠ 0 then (wDev s.dev).2
  else if s.dev.cfs ≠ 1 then 4
  else if (wCfg s.cfg).2 ≠ 0 then (wCfg s.cfg).2
  else if 8 < s.tx.length then 2
  else if txsC s.tx ≠ 0 then txsC s.tx
  else if ∀ n ∈ names s, n ≤ s.tx.length then 0 else 12) := Lib.hid rfl
  have HOK : Hid ((wCfg s.cfg).2 = 0 → s.cfg.fs.length ≤ 4) := Lib.hid (fun h => (cfgC_ok (by unfold wCfg at h; split at h; assumption; exact h)).2.1)
  obtain ⟨C1, hC1⟩ : ∃ C1, (wDev s.dev).2 = C1 := ⟨_, rfl⟩
  obtain ⟨S1, hS1⟩ : ∃ S1, bs' (wDev s.dev).1 = S1 := ⟨_, rfl⟩
  obtain ⟨C2, hC2⟩ : ∃ C2, (wCfg s.cfg).2 = C2 := ⟨_, rfl⟩
  obtain ⟨S2, hS2⟩ : ∃ S2, bs' (wCfg s.cfg).1 = S2 := ⟨_, rfl⟩
  rw [hC1] at HWD HK
  rw [hS1] at HWD
  rw [hC2] at HWC HK HOK
  rw [hS2] at HWC
  clear hC1 hS1 hC2 hS2 hF hF' hcl hcr hT hb htc
  go_enter Try.func27, Try.ntmps27
  go_wp2_with fail
  refine (HWD.out _).mono ?_
  rintro e w1 ⟨rfl, hb1⟩
  have HR1 := Lib.hid (Kt.box1 hb1)
  have HB1 := Lib.hid (Kt.bthen (Kt.balloc (Below.refl _ w) _) hb1)
  clear hb1
  by_cases k1 : C1 = 0
  case neg =>
    have HD : Hid (chk s = C1) := Lib.hid (by rw [HK.out, if_pos k1])
    have e1 : (C1 != 0) = true := by rw [bne_iff_ne]; exact k1
    go_wp2_with fail
    go_ret
    rw [HD.out]
    exact ⟨rfl, HB1.out⟩
  subst k1
  have q := fun i => cell_of_row _ _ i _ _ _ HR1.out
  by_cases k2 : s.dev.cfs = 1
  case neg =>
    have HD : Hid (chk s = 4) := Lib.hid (by rw [HK.out, if_neg (by simp), if_pos k2])
    have e2 : (s.dev.cfs != 1) = true := by rw [bne_iff_ne]; exact k2
    go_wp2_with fail
    go_ret
    rw [HD.out]
    exact ⟨rfl, HB1.out⟩
  have e2 : (s.dev.cfs != 1) = false := by rw [k2]; rfl
  have HK2 : Hid (chk s = if C2 ≠ 0 then C2
  else if 8 < s.tx.length then 2
  else if txsC s.tx ≠ 0 then txsC s.tx
  else if ∀ n ∈ names s, n ≤ s.tx.length then 0 else 12) := Lib.hid (by rw [HK.out, if_neg (by simp), if_neg (by simp [k2])])
  clear HK k2
  go_wp2_with fail
  refine (HWC.out _ HB1.out).mono ?_
  rintro e w2 ⟨rfl, hb2⟩
  have HR2 := Lib.hid (Kt.row_on hb2 HR1.out)
  have HB2 := Lib.hid (Kt.bthen HB1.out hb2)
  clear hb2 q HR1 HB1 e2
  by_cases k1 : C2 = 0
  case neg =>
    have HD : Hid (chk s = C2) := Lib.hid (by rw [HK2.out, if_pos k1])
    have e1 : (C2 != 0) = true := by rw [bne_iff_ne]; exact k1
    go_wp2_with fail
    go_ret
    rw [HD.out]
    exact ⟨rfl, HB2.out⟩
  subst k1
  have q := fun i => cell_of_row _ _ i _ _ _ HR2.out
  by_cases k3 : 8 < s.tx.length
  · have HD : Hid (chk s = 2) := Lib.hid (by rw [HK2.out, if_neg (by simp), if_pos k3])
    have e3 : (8 : Int) < s.tx.length := by omega
    clear k3
    go_wp2_with fail
    go_ret
    rw [HD.out]
    exact ⟨rfl, HB2.out⟩
  have e3 : (s.tx.length : Int) ≤ 8 := by omega
  have HK3 : Hid (chk s = if txsC s.tx ≠ 0 then txsC s.tx
  else if ∀ n ∈ names s, n ≤ s.tx.length then 0 else 12) := Lib.hid (by rw [HK2.out, if_neg (by simp), if_neg k3])
  have HL4 := Lib.hid (HOK.out rfl)
  have HL8 := Lib.hid e3
  clear HK2 k3 HOK
  go_wp2_with fail
  clear q e3
  go_loopw [45] (fun vi wr => ∃ i : Nat, i ≤ s.tx.length ∧ vi = .int .i64 i ∧ Hid (∀ t ∈ s.tx.take i, txC t = 0) ∧ Hid (wr.heap[w.heap.size]? = some (.cells (shCs s (.slice FA s.cfg.fs.length fc) (.slice TA s.tx.length tc)) 53 (0, 0))) ∧ Hid (Below w.heap.size w wr)) (fun vi _ => s.tx.length - (intOf vi).toNat)
  case atStart => exact ⟨0, Nat.zero_le _, rfl, Lib.hid (by simp), HR2, HB2⟩
  case round =>
    clear HR2 HB2
    obtain ⟨i, hi, rfl, HA, HR, HB⟩ := hrel
    by_cases hlt : i < s.tx.length
    · obtain ⟨tb, tq, rfl, htb, hcell⟩ := HTX.out (Nat.lt_of_le_of_lt (Nat.zero_le _) hlt)
      have hx : wr.cell? ⟨tb, tq + i, none⟩ = some (.string (bs' s.tx[i])) := (HB.out.cell (p := ⟨tb, tq + i, none⟩) htb).trans ((hcell i (by unfold xcells; rw [List.length_map]; exact hlt)).trans (by unfold xcells; rw [List.getElem_map]))
      have HT1 : Hid (∀ W, Calls Try.prog 54 #[.string (bs' s.tx[i])] W fun e w' => e = .returned (.tuple #[.string (bs' (txT s.tx[i])), .int .i64 (txC s.tx[i])]) ∧ Below W.heap.size W w') := Lib.hid (fun W => text_calls s.tx[i] (HBT.out _ (List.getElem_mem _)) W)
      have HE : Hid (txC s.tx[i] ≠ 0 → txsC s.tx = txC s.tx[i]) := Lib.hid (txsC_at s.tx i hlt HA.out)
      have HN : Hid (txC s.tx[i] = 0 → ∀ t ∈ s.tx.take (i + 1), txC t = 0) := Lib.hid (all_take _ s.tx i hlt HA.out)
      generalize s.tx[i] = X at hx HT1 HE HN
      obtain ⟨C3, hC3⟩ : ∃ C3, txC X = C3 := ⟨_, rfl⟩
      rw [hC3] at HT1 HE HN
      clear hcell htb hC3
      go_wp2_with fail
      refine (HT1.out _).mono ?_
      rintro e w3 ⟨rfl, hb3⟩
      have HR3 := Lib.hid (Kt.row_on hb3 HR.out)
      have HB3 := Lib.hid (Kt.bthen HB.out hb3)
      clear hb3 hx HR HB
      by_cases k4 : C3 = 0
      case neg =>
        have HD : Hid (chk s = C3) := Lib.hid (by rw [HK3.out, HE.out k4, if_pos k4])
        have e1 : (C3 != 0) = true := by rw [bne_iff_ne]; exact k4
        go_wp2_with fail
        go_ret
        rw [HD.out]
        exact ⟨rfl, HB3.out⟩
      subst k4
      have HNX := Lib.hid (HN.out rfl)
      have hwk : wrap64 ((i : Int) + 1) = ((i + 1 : Nat) : Int) := by have := HL8.out; unfold wrap64; omega
      have HWK := Lib.hid hwk
      clear hwk
      go_wp2_with fail
      go_roundw
      case rel => exact ⟨i + 1, hlt, congrArg _ (by first | exact HWK.out | rfl), HNX, HR3, HB3⟩
      case measure => (try rw [HWK.out]); exact Nat.sub_lt_sub_left hlt (Nat.lt_succ_self i)
    · obtain rfl : s.tx.length = i := Nat.le_antisymm (Nat.not_lt.1 hlt) hi
      have HK4 : Hid (chk s = if ∀ n ∈ names s, n ≤ s.tx.length then 0 else 12) := Lib.hid (by rw [HK3.out, if_neg]; have := HA.out; rw [List.take_length] at this; simp [txsC_all _ this])
      have q := fun i => cell_of_row _ _ i _ _ _ HR.out
      unfold shCs at q
      have hz0 : w.heap.size < wr.heap.size := (Array.getElem?_eq_some_iff.1 HR.out).1
      clear HK3 HA
      go_wp2_with fail
      go_loopw [11, 75] (fun a vi wr => ∃ (i n : Nat) (A : Option Addr) (c : Nat), i ≤ s.cfg.fs.length ∧ vi = .int .i64 i ∧ n = 4 + i ∧ a = .slice A n c ∧ Hid (Kt.Sl wr (w.heap.size + 1) 3 1 (.slice A n c) n ((nmcells s).take n)) ∧ Hid (wr.heap[w.heap.size]? = some (.cells (shCs s (.slice FA s.cfg.fs.length fc) (.slice TA s.tx.length tc)) 53 (0, 0))) ∧ Hid (Below w.heap.size w wr)) (fun _ vi _ => s.cfg.fs.length - (intOf vi).toNat)
      case atStart =>
        refine ⟨0, 4, _, _, Nat.zero_le _, rfl, rfl, rfl, Lib.hid ⟨by unfold nmcells; simp [nm_len], .inr ⟨_, _, _, _, rfl, ?_, heap_alloc_new _ _, Nat.le_refl _, by decide, by simp, fun j u hj => ?_⟩⟩, Lib.hid ((Below.heap_alloc _ _ _ (Array.getElem?_eq_some_iff.1 HR.out).1).trans HR.out), Lib.hid (Kt.balloc HB.out _)⟩
        · exact (Array.getElem?_eq_some_iff.1 HR.out).1
        · have : (nmcells s).take 4 = [.int .i64 s.dev.mak, .int .i64 s.dev.nam, .int .i64 s.dev.ser, .int .i64 s.cfg.nm] := rfl
          rw [this] at hj
          rw [Nat.zero_add]; simpa using hj
      case round =>
        clear HR HB q hz0
        obtain ⟨i, n, A, c, hi, rfl, hn, rfl, HS, HR, HB⟩ := hrel
        by_cases hlt : i < s.cfg.fs.length
        · obtain ⟨f, hf⟩ : ∃ f, s.cfg.fs[i] = f := ⟨_, rfl⟩
          obtain ⟨X, E, hcs, hX, hE⟩ := HCR.out i hlt (by rw [HCL.out]; exact hlt)
          have hnx := nm_next s i hlt
          rw [hf] at hcs hX hE hnx
          have HNX := Lib.hid hnx
          obtain ⟨_, _, hfe, _, hfx⟩ := HF.out.form
          injection hfe with hfe1 _ hfe2
          subst hfe1 hfe2
          obtain ⟨fb, fo, rfl, hfb, hfc⟩ := hfx (Nat.lt_of_le_of_lt (Nat.zero_le _) hlt)
          have hcell : ∀ j u, [Value.int .i64 f.cl, .int .i64 f.su, .int .i64 f.pr, .int .i64 f.nm, X, E][j]? = some u → wr.cell? ⟨fb, fo + i * 6 + j, none⟩ = some u := fun j u hj => by
            have hl6 : ∀ x ∈ css, x.length = 6 := fun x hx => by
              obtain ⟨i, hi, rfl⟩ := List.getElem_of_mem hx
              obtain ⟨_, _, he, _, _⟩ := HCR.out i (by rw [← HCL.out]; exact hi) hi
              rw [he]; rfl
            have hj6 : j < 6 := (List.getElem?_eq_some_iff.1 hj).1
            have h1 := flat_get css hl6 i (by rw [HCL.out]; exact hlt) j hj6
            rw [hcs, hj] at h1
            obtain ⟨h2, h3⟩ := List.getElem?_eq_some_iff.1 h1
            rw [Nat.add_assoc]
            exact (HB.out.cell (p := ⟨fb, fo + (i * 6 + j), none⟩) hfb).trans ((hfc _ h2).trans (by rw [h3]))
          have k0 : wr.cell? ⟨fb, fo + i * 6, none⟩ = some (.int .i64 f.cl) := hcell 0 _ rfl
          have k1 : wr.cell? ⟨fb, fo + i * 6 + 1, none⟩ = some (.int .i64 f.su) := hcell 1 _ rfl
          have k2 : wr.cell? ⟨fb, fo + i * 6 + 2, none⟩ = some (.int .i64 f.pr) := hcell 2 _ rfl
          have k3 : wr.cell? ⟨fb, fo + i * 6 + 3, none⟩ = some (.int .i64 f.nm) := hcell 3 _ rfl
          have k4 : wr.cell? ⟨fb, fo + i * 6 + 4, none⟩ = some X := hcell 4 _ rfl
          have k5 : wr.cell? ⟨fb, fo + i * 6 + 5, none⟩ = some E := hcell 5 _ rfl
          obtain ⟨XA, xc, rfl, _, _⟩ := hX.form
          obtain ⟨EA, ec, rfl, _, _⟩ := hE.form
          have hwk := next_k hlt HL4.out
          have HWK := Lib.hid hwk
          have HBB := Lib.hid (Kt.balloc HB.out (.cells #[.int .i64 f.cl, .int .i64 f.su, .int .i64 f.pr, .int .i64 f.nm, .slice XA f.ex.length xc, .slice EA f.es.length ec] 32))
          have HN4 : Hid (n ≤ 8) := Lib.hid (le8 hn HL4.out hlt)
          have HNE := Lib.hid hn
          have HIB := Lib.hid HB.out.size
          have HI1 := Lib.hid (Array.getElem?_eq_some_iff.1 HR.out).1
          clear hcell hcs hX hE hf hfb hfc hfx hnx hn hwk
          go_wp2_with (
            at_builtin
            go_loud (refine Kt.append_sl _ (by rfl) (.tmp 79) (.tmp 82) 103 rfl (w.heap.size + 1) 3 (.int .i64 0) 1 8 infoN Try.underlying103 rfl (by decide) _ _ _ rfl ((HS.out.alloc _).alloc _) ⟨_, 0, none⟩ 1 1 [.int .i64 f.nm] rfl rfl (Kt.new_cells' _ #[.int .i64 f.nm] _ _ (by simp)) (by simp [Value.oneCell']) (n8a HN4.out) (n8b HN4.out) (in2 HI1.out) ?_)
            intro A4 c4 w4 hs4 hb4 hz4 hk4 hl4
            have HS4 := Lib.hid hs4; have HB4 := Lib.hid (Kt.balloc HBB.out (.cells #[.int .i64 f.nm] 3)); have HB5 := Lib.hid hb4; have HK4 := Lib.hid hk4
            clear hs4 hb4 hz4 hk4 hl4 k0 k1 k2 k3 k4 k5)
          go_roundw
          case rel =>
            refine ⟨i + 1, n + 1, A4, c4, hlt, congrArg _ (by first | exact HWK.out | rfl), congrArg (· + 1) HNE.out, rfl, Lib.hid ?_, Lib.hid ?_, Lib.hid (HB4.out.trans (HB5.out.mono (Nat.le_succ _)))⟩
            · have h := HNX.out
              rw [← HNE.out] at h
              rw [h]
              exact HS4.out
            · have h1 := HI1.out
              exact (HK4.out _ (in2' h1) (fun e => Nat.not_succ_le_self _ (HS.out.lt _ e).1)).trans ((Below.heap_alloc _ _ _ (in1' h1)).trans ((Below.heap_alloc _ _ _ h1).trans HR.out))
          case measure => (try rw [HWK.out]); exact Nat.sub_lt_sub_left hlt (Nat.lt_succ_self i)
        · obtain rfl : s.cfg.fs.length = i := Nat.le_antisymm (Nat.not_lt.1 hlt) hi
          have hnl : (names s).length = n := by rw [nm_len]; exact hn.symm
          have hS := HS.out
          rw [List.take_of_length_le (by unfold nmcells; rw [List.length_map, hnl]; exact Nat.le_refl _)] at hS
          obtain ⟨hn8, hn0⟩ := le8' hn HL4.out
          obtain ⟨g, o, cap, hv, _, _, _, _, hcell, _⟩ := hS.cells hn0
          cases hv
          have HCE := Lib.hid hcell
          have HNL := Lib.hid hnl
          have HN8 := Lib.hid hn8
          have q := fun i => cell_of_row _ _ i _ _ _ HR.out
          unfold shCs at q
          clear hcell hnl hS HS hn8 hn0 hn HC HF HCR HCL HBT HTX HTC
          go_wp2_with fail
          go_loopw [87] (fun vi wx => ∃ k : Nat, k ≤ n ∧ vi = .int .i64 k ∧ Hid (∀ x ∈ (names s).take k, x ≤ s.tx.length) ∧ wx = wr) (fun vi _ => n - (intOf vi).toNat)
          case atStart => exact ⟨0, Nat.zero_le _, rfl, Lib.hid (by simp), rfl⟩
          case round =>
            obtain ⟨k, hk, rfl, HA, rfl⟩ := hrel
            by_cases hk2 : k < n
            · have hkn : k < (names s).length := by rw [HNL.out]; exact hk2
              obtain ⟨x, hx⟩ : ∃ x, (names s)[k] = x := ⟨_, rfl⟩
              have m0 : wr.cell? ⟨g, o + k, none⟩ = some (.int .i64 x) := (HCE.out k (by unfold nmcells; rw [List.length_map]; exact hkn)).trans (by unfold nmcells; rw [List.getElem_map, hx])
              have HX := Lib.hid hx
              have hwk := nxt8 hk2 HN8.out
              have HWK := Lib.hid hwk
              clear hx hwk
              by_cases hle : x ≤ s.tx.length
              · have HNX := Lib.hid (all_take (fun x : Int => x ≤ s.tx.length) (names s) k hkn HA.out (by rw [HX.out]; exact hle))
                clear HA
                go_wp2_with fail
                go_roundw
                case rel => exact ⟨k + 1, hk2, congrArg _ (by first | exact HWK.out | rfl), HNX, by trivial⟩
                case measure => (try rw [HWK.out]); exact Nat.sub_lt_sub_left hk2 (Nat.lt_succ_self k)
              · have HD : Hid (chk s = 12) := Lib.hid (by rw [HK4.out, if_neg]; intro h; exact hle (HX.out ▸ h _ (List.getElem_mem hkn)))
                have hlt2 : (s.tx.length : Int) < x := Int.not_le.1 hle
                go_wp2_with fail
                go_ret
                rw [HD.out]
                exact ⟨rfl, HB.out⟩
            · obtain rfl : n = k := Nat.le_antisymm (Nat.not_lt.1 hk2) hk
              have HD : Hid (chk s = 0) := Lib.hid (by rw [HK4.out, if_pos]; have := HA.out; rwa [← HNL.out, List.take_length] at this)
              go_wp2_with fail
              go_ret
              rw [HD.out]
              exact ⟨rfl, HB.out⟩
end Go.Proofs.Ytmddfpmchcmgiaa
