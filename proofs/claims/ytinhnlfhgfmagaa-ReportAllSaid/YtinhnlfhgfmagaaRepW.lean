/- The walks of report.size and report.Write. -/
import Derived.Test.YtinhnlfhgfmagaaRepI
namespace Go.Proofs.Ytinhnlfhgfmagaa
open Go.RowKit Go.Proofs.Ytinhnlfhgfmagaa.Rep
def byv (b : UInt8) : Value := .int .u8 (b.toNat : Int)
theorem infoB : (Try.prog.info? 5).map (fun i => (i.zero, i.size, i.bytes)) = some (some (.int .u8 0), 1, 1) := by kernel_rfl
set_option maxHeartbeats 400000 in
theorem size_calls (v : Int) (w : World) : Calls Try.prog 20 #[.int .i64 v] w fun e w' => e = .returned (.tuple #[.int .i64 (code v : Nat), .int .i64 (size v : Nat)]) ∧ w = w' := by
  by_cases h0 : v = 0
  · subst h0
    go_enter Try.func20, Try.ntmps20
    go_wp2
    go_ret2
    exact ⟨rfl, rfl⟩
  have e0 : (v == 0) = false := by simp [h0]
  by_cases h1 : -128 ≤ v ∧ v < 128
  · obtain ⟨a, b⟩ := h1
    have EC : Hid (code v = 1 ∧ size v = 1) := Lib.hid ⟨by unfold code; rw [if_neg h0, if_pos ⟨a, b⟩], by unfold size; rw [if_neg h0, if_pos ⟨a, b⟩]⟩
    rw [EC.out.1, EC.out.2]
    clear h0
    go_enter Try.func20, Try.ntmps20
    go_wp2
    go_ret2
    exact ⟨rfl, rfl⟩
  by_cases h2 : -32768 ≤ v ∧ v < 32768
  · obtain ⟨a, b⟩ := h2
    have EC : Hid (code v = 2 ∧ size v = 2) := Lib.hid ⟨by unfold code; rw [if_neg h0, if_neg h1, if_pos ⟨a, b⟩], by unfold size; rw [if_neg h0, if_neg h1, if_pos ⟨a, b⟩]⟩
    rw [EC.out.1, EC.out.2]
    have hx : v < -128 ∨ (-128 ≤ v ∧ 128 ≤ v) := by omega
    clear h0 h1
    rcases hx with hx | ⟨hx, hy⟩
    · go_enter Try.func20, Try.ntmps20
      go_wp2
      go_ret2
      exact ⟨rfl, rfl⟩
    · go_enter Try.func20, Try.ntmps20
      go_wp2
      go_ret2
      exact ⟨rfl, rfl⟩
  have EC : Hid (code v = 3 ∧ size v = 4) := Lib.hid ⟨by unfold code; rw [if_neg h0, if_neg h1, if_neg h2], by unfold size; rw [if_neg h0, if_neg h1, if_neg h2]⟩
  rw [EC.out.1, EC.out.2]
  have hx : v < -32768 ∨ (-128 ≤ v ∧ 32768 ≤ v) := by omega
  clear h0 h1 h2
  rcases hx with hx | ⟨hx, hy⟩
  · go_enter Try.func20, Try.ntmps20
    go_wp2
    go_ret2
    exact ⟨rfl, rfl⟩
  · go_enter Try.func20, Try.ntmps20
    go_wp2
    go_ret2
    exact ⟨rfl, rfl⟩
/-- what Write makes of items -/
def WrR (l : List (Int × Int)) (t : ByteArray) (n : Int) : Prop :=
  (n = 0 ∧ l.length ≤ 200 ∧ (∀ x ∈ l, okI x) ∧ t.data.toList = encs l ∧ (encs l).length ≤ 512) ∨ (n ≠ 0 ∧ t = ⟨#[]⟩ ∧ (200 < l.length ∨ (∃ x ∈ l, ¬ okI x) ∨ 512 < (encs l).length))
def WrIs (l : List (Int × Int)) (w : World) (e : Ending) (w' : World) : Prop :=
  ∃ t n, e = .returned (.tuple #[.string t, .int .i64 n]) ∧ Below w.heap.size w w' ∧ WrR l t n
theorem WrIs.no {l : List (Int × Int)} {w w' : World} (n : Int) (hn : n ≠ 0) (hb : Below w.heap.size w w') (h : 200 < l.length ∨ (∃ x ∈ l, ¬ okI x) ∨ 512 < (encs l).length) : WrIs l w (.returned (.tuple #[.string ⟨#[]⟩, .int .i64 n])) w' :=
  ⟨_, n, rfl, hb, .inr ⟨hn, rfl, h⟩⟩
theorem enc_len (x : Int × Int) : (enc x).length ≤ 5 := by
  simp only [enc, List.length_cons, leB_len]; unfold size
  split; omega
  split; omega
  split <;> omega
theorem encs_len : ∀ l : List (Int × Int), (encs l).length ≤ 5 * l.length
  | [] => by simp [encs]
  | x :: l => by
    have := encs_len l
    have := enc_len x
    simp only [encs, List.flatMap_cons, List.length_append, List.length_cons] at *; omega
structure WrRel (l : List (Int × Int)) (w : World) (k : Nat) (A : Option Addr) (m c : Nat) (wr : World) : Prop where
  len : m = (encs (l.take k)).length
  sl : Kt.Sl wr w.heap.size 5 1 (.slice A m c) m ((encs (l.take k)).map byv)
  bel : Below w.heap.size w wr
  ok : ∀ x ∈ l.take k, okI x
structure WrMid (w : World) (pre : List UInt8) (g : Nat) (kk vv : Int) (n j : Nat) (A : Option Addr) (m c : Nat) (wr : World) : Prop where
  len : m = pre.length + j
  sl : Kt.Sl wr w.heap.size 5 1 (.slice A m c) m ((pre ++ (leB n vv).take j).map byv)
  bel : Below w.heap.size w wr
  row : wr.heap[g]? = some (.cells #[.int .i64 kk, .int .i64 vv] 32 (0, 0))
  ne : ∀ k, (Value.slice A m c).ownBlock = some k → k ≠ g
theorem kind_byte (k : Int) (v : Int) (h : 0 ≤ k ∧ k ≤ 63) : IntKind.u8.wrap (bits .or .i64 (k * 4) (code v)) = ((UInt8.ofNat (k * 4 + code v).toNat).toNat : Int) := by
  have hc : code v ≤ 3 := by unfold code; split; omega; split; omega; split <;> omega
  obtain ⟨n, rfl⟩ := Int.eq_ofNat_of_zero_le h.1
  have e : (n : Int) * 4 = ((2 ^ 2 * n : Nat) : Int) := by omega
  rw [e, Kt.i64_or_nat _ _ (by omega) (by omega), ← Nat.two_pow_add_eq_or_of_lt (i := 2) (by omega) n, IntKind.wrap_u8]
  simp
  omega
theorem val_byte (v : Int) (i : Nat) : IntKind.u8.wrap (v / 2 ^ (8 * i)) = ((UInt8.ofNat (v / 256 ^ i % 256).toNat).toNat : Int) := by
  have e : (2 : Int) ^ (8 * i) = 256 ^ i := by rw [Int.pow_mul]; rfl
  rw [e, IntKind.wrap_u8]
  simp
  omega
theorem leB_snoc (n : Nat) (v : Int) (j : Nat) (h : j < n) : (leB n v).take (j + 1) = (leB n v).take j ++ [UInt8.ofNat (v / 256 ^ j % 256).toNat] := by
  rw [List.take_succ_eq_append_getElem (by rw [leB_len]; exact h), leB_at n v j h]
theorem nil_text (w : World) : (convert 58 9 (.slice none ((0 : Nat) : Nat) 0)).run Try.prog w = .ok (.string ⟨([] : List UInt8).toArray⟩) w := by rfl
theorem its_at (l : List (Int × Int)) (k : Nat) (h : k < l.length) : (its l)[k * 2]? = some (.int .i64 l[k].1) ∧ (its l)[k * 2 + 1]? = some (.int .i64 l[k].2) := by
  induction l generalizing k with
  | nil => simp at h
  | cons x l ih =>
    cases k with
    | zero => exact ⟨rfl, rfl⟩
    | succ k =>
      have := ih k (by simpa using h)
      rw [show (k + 1) * 2 = k * 2 + 2 by omega]
      exact this
set_option maxRecDepth 100000 in
set_option maxHeartbeats 1600000 in
theorem write_calls (l : List (Int × Int)) (v : Value) (w : World) (hv : Kt.Ar w v 2 l.length (its l)) : Calls Try.prog 14 #[v] w (WrIs l w) := by
  obtain ⟨A0, c0, rfl, hc0, hcell⟩ := hv.form
  have HV := Lib.hid hv
  clear hv
  by_cases hbig : 200 < l.length
  · have HX : Hid (WrIs l w (.returned (.tuple #[.string ⟨#[]⟩, .int .i64 2])) w) := Lib.hid (WrIs.no 2 (by decide) (Below.refl _ _) (.inl hbig))
    have e1 : (200 : Int) < l.length := by omega
    clear hbig hcell
    go_enter Try.func14, Try.ntmps14
    go_wp2_with fail
    go_ret2
    exact HX.out
  have hl : l.length ≤ 200 := by omega
  clear hbig
  have HR : Hid (WrRel l w 0 none 0 0 w) := Lib.hid ⟨rfl, Kt.Sl.nil _ _ _ _, Below.refl _ _, by simp⟩
  have HCELL := Lib.hid hcell
  clear hcell
  go_enter Try.func14, Try.ntmps14
  go_wp2_with fail
  go_loopw [4, 15] (fun x i wr => ∃ k A m c, k ≤ l.length ∧ i = .int .i64 (k : Nat) ∧ x = .slice A m c ∧ Hid (WrRel l w k A m c wr)) (fun _ i _ => l.length - (intOf i).toNat)
  case atStart => exact ⟨0, none, 0, 0, by omega, rfl, rfl, HR⟩
  case round =>
    clear HR
    obtain ⟨k, A, m, c, hk, rfl, rfl, HR⟩ := hrel
    by_cases hlt : k < l.length
    · obtain ⟨b, o, rfl, hb0, hc1⟩ := HCELL.out (by omega)
      obtain ⟨i1, i2⟩ := its_at l k hlt
      have hz := HR.out.bel.size
      have hcx : ∀ j u, (its l)[j]? = some u → wr.cell? ⟨b, o + j, none⟩ = some u := fun j u hj => by
        obtain ⟨hj1, rfl⟩ := List.getElem?_eq_some_iff.1 hj
        exact (HR.out.bel.cell (p := ⟨b, o + j, none⟩) hb0).trans (hc1 j hj1)
      have x0 := hcx _ _ i1
      have x1 := hcx _ _ i2
      rw [← Nat.add_assoc] at x1
      have HOK : Hid ((l[k].1, l[k].2) = l[k] ∧ l.take (k + 1) = l.take k ++ [l[k]]) := Lib.hid ⟨rfl, by rw [List.take_succ_eq_append_getElem hlt]⟩
      have hbz : b < wr.heap.size := Nat.lt_of_lt_of_le hb0 hz
      clear hc1 hcx i1 i2 hz
      obtain ⟨kk, hkk⟩ : ∃ q, l[k].1 = q := ⟨_, rfl⟩
      obtain ⟨vv, hvv⟩ : ∃ q, l[k].2 = q := ⟨_, rfl⟩
      rw [hkk, hvv] at HOK
      rw [hkk] at x0
      rw [hvv] at x1
      have HMEM : Hid ((kk, vv) ∈ l) := Lib.hid (by rw [HOK.out.1]; exact List.getElem_mem hlt)
      clear hkk hvv
      by_cases hok : okI (kk, vv)
      rotate_left
      · have HX : Hid (∀ W, Below w.heap.size w W → WrIs l w (.returned (.tuple #[.string ⟨#[]⟩, .int .i64 1])) W) := Lib.hid (fun W hW => WrIs.no 1 (by decide) hW (.inr (.inl ⟨_, HMEM.out, hok⟩)))
        have HB := Lib.hid (Kt.balloc HR.out.bel (.cells #[.int .i64 kk, .int .i64 vv] 32))
        have HNO := Lib.hid hok
        clear hok HR HMEM HOK
        go_wp2_with fail
        all_goals first
          | (go_ret2; exact HX.out _ HB.out)
          | (exfalso; apply HNO.out; unfold okI; dsimp only; omega)
      have HKX : Hid (okI (kk, vv)) := Lib.hid hok
      obtain ⟨⟨g1, g2⟩, g3, g4⟩ := hok
      dsimp only at g1 g2 g3 g4
      go_wp2_with fail
      refine (size_calls vv _).mono ?_
      rintro en w1 ⟨rfl, rfl⟩
      obtain ⟨n, hn⟩ : ∃ n, size vv = n := ⟨_, rfl⟩
      have HN : Hid (size vv = n ∧ n ≤ 4) := Lib.hid ⟨hn, by rw [← hn]; unfold size; split; omega; split; omega; split <;> omega⟩
      rw [hn]
      clear hn
      have hcd : code vv ≤ 3 := by unfold code; split; omega; split; omega; split <;> omega
      have hbx : (wr.alloc (.cells #[.int .i64 kk, .int .i64 vv] 32)).heap[wr.heap.size]? = some (.cells #[.int .i64 kk, .int .i64 vv] 32 (0, 0)) := heap_alloc_new wr _
      have HSL := Lib.hid (HR.out.sl.alloc (.cells #[.int .i64 kk, .int .i64 vv] 32))
      have HBE := Lib.hid (Kt.balloc HR.out.bel (.cells #[.int .i64 kk, .int .i64 vv] 32))
      have HNE := Lib.hid (fun q hq => (HR.out.sl.lt q hq).2)
      have HZ : Hid (wr.heap.size < (wr.alloc (.cells #[.int .i64 kk, .int .i64 vv] 32)).heap.size) := Lib.hid (by simp)
      have HM : Hid (m = (encs (l.take k)).length ∧ m ≤ 1000) := Lib.hid (by
        have h1 := HR.out.len
        have h2 := encs_len (l.take k)
        have h3 : (l.take k).length ≤ k := List.length_take_le _ _
        omega)
      have HOKS := Lib.hid HR.out.ok
      have FK := kind_byte kk vv ⟨g1, g2⟩
      obtain ⟨bb, hbb⟩ : ∃ bb, UInt8.ofNat (kk * 4 + code vv).toNat = bb := ⟨_, rfl⟩
      rw [hbb] at FK
      have HBB := Lib.hid hbb
      clear hbb
      have y0 := cell_of_row _ _ 0 _ _ _ hbx
      have y1 := cell_of_row _ _ 1 _ _ _ hbx
      clear x0 x1 hbz HR
      generalize (wr.alloc (.cells #[.int .i64 kk, .int .i64 vv] 32)) = W at *
      generalize wr.heap.size = g at *
      have HB : Hid (w.heap.size ≤ W.heap.size) := Lib.hid HBE.out.size
      have hm := HM.out.2
      go_wp2_with
        (refine Kt.append_sl _ (by rfl) (.tmp 43) (.tmp 50) 58 rfl w.heap.size 5 (.int .u8 0) 1 1 infoB Try.underlying58 rfl (by decide) _ _ _ rfl (HSL.out.alloc _) ⟨W.heap.size, 0, none⟩ 1 1 [byv bb] rfl rfl (Kt.new_cells W #[byv bb] _) (by simp [Value.oneCell', byv]) (by unfold maxLen; omega) (by omega) (by rw [World.size_alloc]; have := HB.out; omega) ?_
         intro A' c' w' hsl' hb' hz' hk' ho')
      have HMID : Hid (WrMid w (encs (l.take k) ++ [bb]) g kk vv (size vv) 0 A' (m + 1) c' w') := Lib.hid ⟨by rw [List.length_append, ← HM.out.1]; rfl, by rw [List.take_zero, List.append_nil, List.map_append]; exact hsl', (Kt.balloc HBE.out _).trans hb', by
          rw [hk' g (by rw [World.size_alloc]; have := HZ.out; omega) (fun e => by have := HNE.out g e; omega)]
          exact (Below.heap_alloc _ _ _ HZ.out).trans hbx, fun q hq e => by
          rcases ho' q hq with h | h
          · have := HNE.out q h; omega
          · rw [World.size_alloc] at h; have := HZ.out; omega⟩
      clear hsl' hb' hz' hk' ho' hbx HSL HBE HNE HZ HB y0 y1 FK
      rw [HN.out.1] at HMID
      obtain ⟨pre, hpre⟩ : ∃ pre, encs (l.take k) ++ [bb] = pre := ⟨_, rfl⟩
      have HPRE := Lib.hid hpre
      rw [hpre] at HMID
      clear hpre
      have hn4 := HN.out.2
      go_wp2_with fail
      go_loopw [4, 53] (fun x i wr => ∃ j A m c, j ≤ n ∧ i = .int .i64 (j : Nat) ∧ x = .slice A m c ∧ Hid (WrMid w pre g kk vv n j A m c wr)) (fun _ i _ => n - (intOf i).toNat)
      case atStart => exact ⟨0, A', m + 1, c', by omega, rfl, rfl, HMID⟩
      case round =>
        have HPL : Hid (pre.length = m + 1) := Lib.hid HMID.out.len.symm
        clear HMID
        obtain ⟨j, A, q, c, hj, rfl, rfl, HMID⟩ := hrel
        by_cases hjn : j < n
        · have h := HMID.out
          have y1 := cell_of_row _ _ 1 _ _ _ h.row
          have FV := val_byte vv j
          obtain ⟨bj, hbj⟩ : ∃ bj, UInt8.ofNat (vv / 256 ^ j % 256).toNat = bj := ⟨_, rfl⟩
          rw [hbj] at FV
          have HSN : Hid ((leB n vv).take (j + 1) = (leB n vv).take j ++ [bj]) := Lib.hid (by rw [leB_snoc n vv j hjn, hbj])
          clear hbj
          have HSL := Lib.hid h.sl
          have hq : q ≤ 1010 := by have := h.len; have := HPL.out; omega
          have HZ : Hid (g < wr.heap.size) := Lib.hid (Array.getElem?_eq_some_iff.1 h.row).1
          have HB : Hid (w.heap.size ≤ wr.heap.size) := Lib.hid h.bel.size
          have HH := Lib.hid h
          clear h
          go_wp2_with
            (refine Kt.append_sl _ (by rfl) (.tmp 56) (.tmp 64) 58 rfl w.heap.size 5 (.int .u8 0) 1 1 infoB Try.underlying58 rfl (by decide) _ _ _ rfl (HSL.out.alloc _) ⟨wr.heap.size, 0, none⟩ 1 1 [byv bj] rfl rfl (Kt.new_cells wr #[byv bj] _) (by simp [Value.oneCell', byv]) (by unfold maxLen; omega) (by omega) (by rw [World.size_alloc]; have := HB.out; omega) ?_
             intro A2 c2 w2 hsl2 hb2 hz2 hk2 ho2)
          go_roundw
          case rel =>
            refine ⟨j + 1, A2, q + 1, c2, by omega, by go_num, rfl, Lib.hid ⟨by have := HH.out.len; omega, by rw [HSN.out, ← List.append_assoc, List.map_append]; exact hsl2, (Kt.balloc HH.out.bel _).trans hb2, ?_, fun x hx e => ?_⟩⟩
            · rw [hk2 g (by rw [World.size_alloc]; have := HZ.out; omega) (fun e => HH.out.ne g e rfl)]
              exact (Below.heap_alloc _ _ _ HZ.out).trans HH.out.row
            · rcases ho2 x hx with h | h
              · exact HH.out.ne x h e
              · rw [World.size_alloc] at h; have := HZ.out; omega
          case measure => (simp [intOf]; omega)
        · obtain rfl : j = n := by omega
          clear hjn hj
          go_wp2_with fail
          go_roundw
          case rel =>
            have h := HMID.out
            have he : encs (l.take (k + 1)) = pre ++ (leB j vv).take j := by
              have ht : (leB j vv).take j = leB j vv := List.take_of_length_le (by rw [leB_len]; exact Nat.le_refl _)
              rw [ht, HOK.out.2, ← HOK.out.1, encs_snoc, ← HPRE.out, ← HBB.out, List.append_assoc]
              unfold enc
              dsimp only
              rw [HN.out.1]; rfl
            refine ⟨k + 1, A, q, c, by omega, by go_num, rfl, Lib.hid ⟨?_, ?_, h.bel, ?_⟩⟩
            · rw [he, List.length_append, List.length_take, leB_len, h.len]; omega
            · rw [he]; exact h.sl
            · intro x hx
              rw [HOK.out.2] at hx
              rcases List.mem_append.1 hx with hx | hx
              · exact HOKS.out x hx
              · rw [List.mem_singleton.1 hx, ← HOK.out.1]; exact HKX.out
          case measure => (simp [intOf]; omega)
    · obtain rfl : k = l.length := by omega
      clear hlt hk
      have h := HR.out
      have HT : Hid (m = (encs l).length ∧ (∀ x ∈ l, okI x)) := Lib.hid (by
        have h1 := h.len; have h2 := h.ok
        rw [List.take_length] at h1 h2
        exact ⟨h1, h2⟩)
      have hm : m ≤ 1000 := by have := HT.out.1; have := encs_len l; omega
      by_cases hbig : 512 < m
      · have HX : Hid (WrIs l w (.returned (.tuple #[.string ⟨#[]⟩, .int .i64 2])) wr) := Lib.hid (WrIs.no 2 (by decide) h.bel (.inr (.inr (by rw [← HT.out.1]; exact hbig))))
        have e1 : (512 : Int) < m := by omega
        clear hbig h
        go_wp2_with fail
        go_ret2
        exact HX.out
      · have e1 : decide ((512 : Int) < m) = false := decide_eq_false (by omega)
        have HX : Hid (WrIs l w (.returned (.tuple #[.string ⟨(encs l).toArray⟩, .int .i64 0])) wr) := Lib.hid ⟨_, 0, rfl, h.bel, .inl ⟨rfl, hl, HT.out.2, rfl, by rw [← HT.out.1]; omega⟩⟩
        have hcv : (convert 58 9 (.slice A m c)).run Try.prog wr = .ok (.string ⟨(encs l).toArray⟩) wr := by
          have hs := h.sl
          rw [List.take_length] at hs
          rcases hs.2 with ⟨hv, h0⟩ | ⟨g', o', cap', cur, hv, hb, hg, hn, hc, hss, hx⟩
          · injection hv with h1 h2 h3
            subst h1 h3
            have he : encs l = [] := List.eq_nil_of_length_eq_zero (by rw [← HT.out.1]; exact h0)
            rw [he, h0]
            exact nil_text wr
          · cases hv
            exact Kt.conv_back wr 58 9 5 g' o' m c (encs l) HT.out.1 Try.underlying58 Try.underlying5 Try.underlying9 (fun j hj => by
              rw [cell_of_row wr g' (o' + j) _ _ _ hg]
              exact hx j _ (by rw [List.getElem?_map, List.getElem?_eq_getElem hj]; rfl))
        clear hbig h
        go_wp2_with fail
        go_ret2
        exact HX.out
end Go.Proofs.Ytinhnlfhgfmagaa
