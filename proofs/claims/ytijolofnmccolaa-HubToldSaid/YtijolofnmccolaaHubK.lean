/- The walks of package hub: Control. -/
import Derived.Test.YtijolofnmccolaaHubO
namespace Go.Proofs.Ytijolofnmccolaa
open Go.RowKit Go.Proofs.Ytijolofnmccolaa.SetP
/-- the first kind that the bytes ask for -/
def First (s : ByteArray) (k : Nat) : Prop := s.size = 8 ∧ 1 ≤ k ∧ k ≤ 14 ∧ Hit s k ∧ ∀ j : Nat, 1 ≤ j → j < k → ¬ Hit s j
theorem First.one {s : ByteArray} {k j : Nat} (h : First s k) (g : First s j) : k = j := by
  rcases Nat.lt_trichotomy k j with e | e | e
  · exact absurd h.2.2.2.1 (g.2.2.2.2 k h.2.1 e)
  · exact e
  · exact absurd g.2.2.2.1 (h.2.2.2.2 j g.2.1 e)
/-- nothing is asked for -/
def NoAsk (s : ByteArray) : Prop := s.size ≠ 8 ∨ ∀ k : Nat, 1 ≤ k → k ≤ 14 → ¬ Hit s k
theorem First.not {s : ByteArray} {k : Nat} (h : First s k) : ¬ NoAsk s := fun g => g.elim (fun e => e h.1) (fun e => e k h.2.1 h.2.2.1 h.2.2.2.1)
def psS (ps : List Int) (i : Nat) : Int := ps.getD (i * 2) 0
def psT (ps : List Int) (i : Nat) : Int := ps.getD (i * 2 + 1) 0
/-- how a port is, in four bytes -/
def statusT (s t : Int) : ByteArray := ⟨([s, s / 256, t, t / 256].map fun n => UInt8.ofNat (n % 256).toNat).toArray⟩
/-- what Control tells of a right hub, by the ask -/
inductive Ctl (c : Int) (ps : List Int) (s : ByteArray) : List Int → ByteArray → Int → Prop
  | unread (h : NoAsk s) : Ctl c ps s ps ⟨#[]⟩ 8
  | kind (k : Nat) (h : First s k) (hk : k ≠ 8 ∧ k ≠ 9 ∧ k ≠ 10) : Ctl c ps s ps ⟨#[]⟩ 12
  | index (k : Nat) (h : First s k) (hk : k = 8 ∨ k = 9 ∨ k = 10) (hi : c < wordAt s 4) : Ctl c ps s ps ⟨#[]⟩ 8
  | status (h : First s 8) (i : Nat) (hi : wordAt s 4 = i) (h1 : (1 : Int) ≤ i) (h2 : (i : Int) ≤ c) : Ctl c ps s ps (statusT (psS ps i) (psT ps i)) 0
  | on (h : First s 9) (i : Nat) (hi : wordAt s 4 = i) (h1 : (1 : Int) ≤ i) (h2 : (i : Int) ≤ c) (x : Int) (hx : onP (psS ps i) (wordAt s 2) = some x) : Ctl c ps s (upd ps i x (psT ps i)) ⟨#[]⟩ 0
  | onNo (h : First s 9) (i : Nat) (hi : wordAt s 4 = i) (h1 : (1 : Int) ≤ i) (h2 : (i : Int) ≤ c) (hx : onP (psS ps i) (wordAt s 2) = none) : Ctl c ps s ps ⟨#[]⟩ 8
  | off (h : First s 10) (i : Nat) (hi : wordAt s 4 = i) (h1 : (1 : Int) ≤ i) (h2 : (i : Int) ≤ c) (x y : Int) (hx : offP (psS ps i) (psT ps i) (wordAt s 2) = some (x, y)) : Ctl c ps s (upd ps i x y) ⟨#[]⟩ 0
  | offNo (h : First s 10) (i : Nat) (hi : wordAt s 4 = i) (h1 : (1 : Int) ≤ i) (h2 : (i : Int) ≤ c) (hx : offP (psS ps i) (psT ps i) (wordAt s 2) = none) : Ctl c ps s ps ⟨#[]⟩ 8
def CtlRet (c : Int) (ps : List Int) (t : ByteArray) (n : Int) (w : World) (e : Ending) (w' : World) : Prop := e = .returned (.tuple #[HV c ps, .string t, .int .i64 n]) ∧ Below w.heap.size w w'
/-- an ask for a port names one -/
theorem port_ask {s : ByteArray} {k : Nat} (h : Hit s k) (hk : k = 8 ∨ k = 9 ∨ k = 10) : 1 ≤ wordAt s 4 ∧ wordAt s 4 ≤ 15 := by
  obtain ⟨r, hr, ⟨r', hr', _, h2, _⟩, _⟩ := h
  rw [hr] at hr'; cases hr'
  have : r.ik = 5 := by
    rcases hk with rfl | rfl | rfl <;> (cases hr; rfl)
  rw [this] at h2
  unfold canP at h2
  omega
section
variable {ops : Array Oper} {rest : List Oper} {o : Oper} {a : Act} {w : World} {Q : Exit → Act → World → Prop}
theorem store_hub_new (hgd : o.guard = none) (x y : Operand) (ho : o.op = .store 26 x y) (g : Nat) (hg : w.heap.size = g) (hx : a.eval x = .pointer (some ⟨g, 0, none⟩)) (c : Int) (ps : List Int) (hl : ps.length = 32) (hy : a.eval y = HV c ps) (old : Array Value) (hold : old.size = 33)
    (h : wpList Try.prog ops Q rest (a.put o.dst undef) (w.alloc (.cells (Kt.ia .i64 (c :: ps)) 26))) : wpList Try.prog ops Q (o :: rest) a (w.alloc (.cells old 26)) := by
  subst hg
  have hsz : old.size = (Kt.ia .i64 (c :: ps)).size := by rw [hold, Kt.ia_size, List.length_cons, hl]
  refine wpList_store_row hgd 26 x y ho w.heap.size (Kt.ia .i64 (c :: ps)) hx hy 26 old (heap_alloc_new w _) (hub_size c ps hl) hsz (Kt.ia_one _ _) ?_
  rw [World.setRow_alloc_new]; exact h
end
/-- what the region of the status needs -/
structure StF (w : World) (c : Int) (ps : List Int) (nb i : Nat) (s t : Int) (w' : World) : Prop where
  h0 : HBox w.heap.size c ps w'
  s1 : w'.cell? ⟨nb, 1 + i * 2, none⟩ = some (.int .i64 s)
  t1 : w'.cell? ⟨nb, 1 + i * 2 + 1, none⟩ = some (.int .i64 t)
  bel : Below w.heap.size w w'
  nlt : nb < w'.heap.size
  lt2 : w.heap.size + 1 < nb
theorem StF.on {w w1 w2 : World} {c : Int} {ps : List Int} {nb i : Nat} {s t : Int} (h : StF w c ps nb i s t w1) (b : Below w1.heap.size w1 w2) : StF w c ps nb i s t w2 :=
  ⟨h.h0.on b, (b.cell (p := ⟨nb, 1 + i * 2, none⟩) h.nlt).trans h.s1, (b.cell (p := ⟨nb, 1 + i * 2 + 1, none⟩) h.nlt).trans h.t1, Kt.bthen h.bel b, by have := b.size; have := h.nlt; omega, h.lt2⟩
theorem StF.alloc {w w1 : World} {c : Int} {ps : List Int} {nb i : Nat} {s t : Int} (h : StF w c ps nb i s t w1) (o : Obj) : StF w c ps nb i s t (w1.alloc o) := h.on (Kt.balloc (Below.refl _ _) o)
theorem StF.drew {w w1 : World} {c : Int} {ps : List Int} {nb i : Nat} {s t : Int} (h : StF w c ps nb i s t w1) : StF w c ps nb i s t w1.drew := ⟨h.h0, h.s1, h.t1, h.bel.drew, h.nlt, h.lt2⟩
theorem cell_setRow {w : World} {g b i : Nat} (cs : Array Value) (h : b ≠ g) : (w.setRow g cs).cell? ⟨b, i, none⟩ = w.cell? ⟨b, i, none⟩ := by
  have := setRow_other w g b cs h
  unfold World.cell?
  rw [this]
theorem StF.row {w w1 : World} {c : Int} {ps : List Int} {nb i : Nat} {s t : Int} (h : StF w c ps nb i s t w1) (cs : Array Value) : StF w c ps nb i s t (w1.setRow (w.heap.size + 1) cs) := by
  have := h.lt2
  exact ⟨(setRow_other _ _ _ _ (by omega)).trans h.h0, (cell_setRow _ (by omega)).trans h.s1, (cell_setRow _ (by omega)).trans h.t1, brow h.bel (by omega) _, by rw [size_setRow]; exact h.nlt, h.lt2⟩
theorem status_conv (s t : Int) (w : World) (b : Nat) (h : w.heap[b]? = some (.cells #[.int .u8 (IntKind.u8.wrap s), .int .u8 (IntKind.u8.wrap (s / 256)), .int .u8 (IntKind.u8.wrap t), .int .u8 (IntKind.u8.wrap (t / 256))] 5 (0, 0))) : (convert 44 9 (.slice (some ⟨b, 0, none⟩) 4 4)).run Try.prog w = .ok (.string (statusT s t)) w := by
  have byte (n : Int) : ((UInt8.ofNat (n % 256).toNat).toNat : Int) = IntKind.u8.wrap n := by rw [IntKind.wrap_u8]; simp; omega
  refine Kt.conv_back w _ _ _ b 0 4 4 ([s, s / 256, t, t / 256].map fun n => UInt8.ofNat (n % 256).toNat) rfl Try.underlying44 Try.underlying5 Try.underlying9 (fun j hj => ?_)
  rw [cell_of_row w b (0 + j) _ _ _ h]
  match j, hj with
  | 0, _ => exact congrArg (fun z => some (Value.int .u8 z)) (byte s).symm
  | 1, _ => exact congrArg (fun z => some (Value.int .u8 z)) (byte (s / 256)).symm
  | 2, _ => exact congrArg (fun z => some (Value.int .u8 z)) (byte t).symm
  | 3, _ => exact congrArg (fun z => some (Value.int .u8 z)) (byte (t / 256)).symm
set_option maxHeartbeats 1600000 in
theorem ctl_bad (c : Int) (ps : List Int) (hl : ps.length = 32) (hfit : Fit ps) (s : ByteArray) (w : World) (h : ¬ RightH c ps) : Calls Try.prog 10 #[HV c ps, .string s] w (CtlRet c ps ⟨#[]⟩ (chk c ps) w) := by
  have T0 := TwoH.start w c ps
  have HC := Lib.hid (fun W => check_calls c ps hl hfit W)
  have HN := Lib.hid h; clear h
  unfold HV
  go_enter Try.func10, Try.ntmps10
  go_upto_region 1 with (fail)
  rw [zeros_lit]
  generalize ((w.alloc (.cells (Kt.ia .i64 (c :: ps)) 26)).alloc (.cells (Kt.ia .i64 (0 :: zs)) 26)) = W at *
  go_wp2_with (refine load_hub rfl (.tmp 2) rfl w.heap.size rfl c ps hl T0.b0 ?_)
  refine (HC.out _).mono ?_
  rintro en w1 ⟨n, rfl, hn, hb1⟩
  have T1 := T0.on hb1
  have HNZ : Hid (n ≠ 0) := Lib.hid fun e => HN.out (hn.1.1 e)
  have hnz : (n != 0) = true := by rw [bne_iff_ne]; exact HNZ.out
  have HNC : Hid (n = chk c ps) := Lib.hid hn.2
  clear hn
  go_wp2_with (first
    | (refine load_hub rfl (.tmp 2) rfl w.heap.size rfl c ps hl T1.b0 ?_)
    | (refine store_hub rfl (.tmp 4) (.tmp 16) rfl (w.heap.size + 1) rfl c ps hl rfl 0 zs zs_len T1.b1 ?_
       intro W2 hW2 hk2 hb2))
  refine bodyPost_ret (v := .tuple #[HV c ps, .string ⟨#[]⟩, .int .i64 n]) (by simp [results, Try.results10, asAddr, ld_hub hW2 hl]) rfl ⟨by rw [HNC.out], T1.bel.trans (hb2 _ (by omega))⟩
/-- what Control leaves -/
def CtlIs (c : Int) (ps : List Int) (s : ByteArray) (w : World) (e : Ending) (w' : World) : Prop := ∃ ps' t n, Ctl c ps s ps' t n ∧ CtlRet c ps' t n w e w'
set_option maxHeartbeats 3200000 in
set_option maxRecDepth 100000 in
theorem ctl_good (c : Int) (ps : List Int) (hl : ps.length = 32) (hfit : Fit ps) (s : ByteArray) (w : World) (h : RightH c ps) : Calls Try.prog 10 #[HV c ps, .string s] w (CtlIs c ps s w) := by
  have T0 := TwoH.start w c ps
  have HC := Lib.hid (fun W => check_calls c ps hl hfit W)
  have HR := Lib.hid h; clear h
  unfold HV
  go_enter Try.func10, Try.ntmps10
  go_upto_region 1 with (fail)
  rw [zeros_lit]
  generalize ((w.alloc (.cells (Kt.ia .i64 (c :: ps)) 26)).alloc (.cells (Kt.ia .i64 (0 :: zs)) 26)) = W at *
  go_wp2_with (refine load_hub rfl (.tmp 2) rfl w.heap.size rfl c ps hl T0.b0 ?_)
  refine (HC.out _).mono ?_
  rintro en w1 ⟨n, rfl, hn, hb1⟩
  obtain rfl : n = 0 := hn.1.2 HR.out
  have T1 := T0.on hb1
  clear hn hb1 T0
  go_wp2_with fail
  refine (readAsk_calls s _).mono ?_
  rintro en w2 ⟨⟨hz8, k, hk1, hk14, hhit, hmin, rfl⟩ | ⟨hno, n, hn, rfl⟩, hb⟩
  rotate_left
  · have T2 := T1.on hb
    have hnz : (n != 0) = true := by rw [bne_iff_ne]; exact hn
    have HNO := Lib.hid (show NoAsk s from hno)
    clear hn hno hb T1
    have T3 := T2.on (Kt.balloc (Below.refl _ w2) (.cells #[.int .i64 0, .int .i64 0, .int .i64 0, .int .i64 0] 47))
    unfold askV
    go_wp2_with (first
      | (refine load_hub rfl (.tmp 2) rfl w.heap.size rfl c ps hl T3.b0 ?_)
      | (refine store_hub rfl (.tmp 4) (.tmp 26) rfl (w.heap.size + 1) rfl c ps hl rfl 0 zs zs_len T3.b1 ?_
         intro W2 hW2 hk2 hb2))
    refine bodyPost_ret (v := .tuple #[HV c ps, .string ⟨#[]⟩, .int .i64 8]) (by simp [results, Try.results10, asAddr, ld_hub hW2 hl]) rfl ⟨ps, ⟨#[]⟩, 8, .unread HNO.out, rfl, T3.bel.trans (hb2 _ (by omega))⟩
  · have T2 := T1.on hb
    have HFI : Hid (First s k) := Lib.hid ⟨hz8, hk1, hk14, hhit, hmin⟩
    have HPA := Lib.hid (fun hk => port_ask hhit hk)
    have hbd := wordAt_bd s 2
    have hbd4 := wordAt_bd s 4
    clear hz8 hhit hmin hb T1
    unfold askV
    obtain ⟨v, hv⟩ : ∃ v, wordAt s 2 = v := ⟨_, rfl⟩
    obtain ⟨i, hi⟩ : ∃ i, wordAt s 4 = i := ⟨_, rfl⟩
    obtain ⟨l, hll⟩ : ∃ l, wordAt s 6 = l := ⟨_, rfl⟩
    rw [hv] at hbd
    rw [hi] at hbd4 HPA
    obtain ⟨kz, hkz⟩ : ∃ z : Int, (k : Int) = z := ⟨_, rfl⟩
    rw [hv, hi, hll, hkz]
    have HKZ := Lib.hid hkz; clear hkz
    have HV2 := Lib.hid hv
    have HI2 := Lib.hid hi
    clear hv hi hll
    have hrA := heap_alloc_new w2 (.cells #[.int .i64 kz, .int .i64 v, .int .i64 i, .int .i64 l] 47)
    have T3 := T2.on (Kt.balloc (Below.refl _ w2) (.cells #[.int .i64 kz, .int .i64 v, .int .i64 i, .int .i64 l] 47))
    have hzA : w.heap.size + 1 < w2.heap.size := T2.size
    clear T2
    by_cases hk : k = 8 ∨ k = 9 ∨ k = 10
    · obtain ⟨hi1, hi15⟩ := HPA.out hk
      have hcount := T3.b0.count
      by_cases hic : c < i
      · have HIX : Hid (Ctl c ps s ps ⟨#[]⟩ 8) := Lib.hid (.index k HFI.out hk (by rw [HI2.out]; exact hic))
        rcases hk with rfl | rfl | rfl
        · obtain rfl : kz = 8 := by have := HKZ.out; omega
          go_wp2_with (first
            | (refine load_hub rfl (.tmp 2) rfl w.heap.size rfl c ps hl T3.b0 ?_)
            | (refine store_hub rfl (.tmp 4) (.tmp 48) rfl (w.heap.size + 1) rfl c ps hl rfl 0 zs zs_len T3.b1 ?_
               intro W2 hW2 hk2 hb2))
          refine bodyPost_ret (v := .tuple #[HV c ps, .string ⟨#[]⟩, .int .i64 8]) (by simp [results, Try.results10, asAddr, ld_hub hW2 hl]) rfl ⟨ps, ⟨#[]⟩, 8, HIX.out, rfl, T3.bel.trans (hb2 _ (by omega))⟩
        · obtain rfl : kz = 9 := by have := HKZ.out; omega
          go_wp2_with (first
            | (refine load_hub rfl (.tmp 2) rfl w.heap.size rfl c ps hl T3.b0 ?_)
            | (refine store_hub rfl (.tmp 4) (.tmp 48) rfl (w.heap.size + 1) rfl c ps hl rfl 0 zs zs_len T3.b1 ?_
               intro W2 hW2 hk2 hb2))
          refine bodyPost_ret (v := .tuple #[HV c ps, .string ⟨#[]⟩, .int .i64 8]) (by simp [results, Try.results10, asAddr, ld_hub hW2 hl]) rfl ⟨ps, ⟨#[]⟩, 8, HIX.out, rfl, T3.bel.trans (hb2 _ (by omega))⟩
        · obtain rfl : kz = 10 := by have := HKZ.out; omega
          go_wp2_with (first
            | (refine load_hub rfl (.tmp 2) rfl w.heap.size rfl c ps hl T3.b0 ?_)
            | (refine store_hub rfl (.tmp 4) (.tmp 48) rfl (w.heap.size + 1) rfl c ps hl rfl 0 zs zs_len T3.b1 ?_
               intro W2 hW2 hk2 hb2))
          refine bodyPost_ret (v := .tuple #[HV c ps, .string ⟨#[]⟩, .int .i64 8]) (by simp [results, Try.results10, asAddr, ld_hub hW2 hl]) rfl ⟨ps, ⟨#[]⟩, 8, HIX.out, rfl, T3.bel.trans (hb2 _ (by omega))⟩
      · have hic2 : i ≤ c := by omega
        obtain ⟨ii, hii⟩ : ∃ ii : Nat, i = ii := ⟨i.toNat, by omega⟩
        subst hii
        have hi16 : ii < 16 := by omega
        have ei16 : (ii : Int) < 16 := by omega
        have h4 : TwoH w ((w2.alloc (.cells #[.int .i64 kz, .int .i64 v, .int .i64 ii, .int .i64 l] 47)).alloc (.cells (Kt.ia .i64 (c :: ps)) 26)) c ps := T3.on (Kt.balloc (Below.refl _ _) _)
        have hnx : HBox (w2.heap.size + 1) c ps ((w2.alloc (.cells #[.int .i64 kz, .int .i64 v, .int .i64 ii, .int .i64 l] 47)).alloc (.cells (Kt.ia .i64 (c :: ps)) 26)) := heap_alloc2_new w2 _ _
        have hrA4 : ((w2.alloc (.cells #[.int .i64 kz, .int .i64 v, .int .i64 ii, .int .i64 l] 47)).alloc (.cells (Kt.ia .i64 (c :: ps)) 26)).heap[w2.heap.size]? = some (.cells #[.int .i64 kz, .int .i64 v, .int .i64 ii, .int .i64 l] 47 (0, 0)) := heap_alloc2_old w2 _ _
        obtain ⟨hps, hpt⟩ := hnx.port hl ii hi16
        have hfree := hnx.free
        have hS : ps[ii * 2]'(by omega) = psS ps ii := (getD_at _ _ (by omega)).symm
        have hT : ps[ii * 2 + 1]'(by omega) = psT ps ii := (getD_at _ _ (by omega)).symm
        rw [hS] at hps
        rw [hT] at hpt
        have HSAME : Hid (upd ps ii (psS ps ii) (psT ps ii) = ps) := Lib.hid (by rw [← hS, ← hT]; exact upd_same ps hl ii hi16)
        clear hS hT
        obtain ⟨sv, hsv⟩ : ∃ sv, psS ps ii = sv := ⟨_, rfl⟩
        obtain ⟨tv, htv⟩ : ∃ tv, psT ps ii = tv := ⟨_, rfl⟩
        rw [hsv] at hps HSAME
        rw [htv] at hpt HSAME
        have HST := Lib.hid (And.intro hsv htv)
        have HBD : Hid (0 ≤ sv ∧ sv ≤ 273 ∧ 0 ≤ tv ∧ tv ≤ 19) := Lib.hid (by
          obtain ⟨⟨a, b⟩, _⟩ := HR.out.ok ii hi16
          rw [show ps.getD (ii * 2) 0 = sv from hsv] at a
          rw [show ps.getD (ii * 2 + 1) 0 = tv from htv] at b
          unfold okS at a; unfold okC at b; omega)
        clear hsv htv
        rcases hk with rfl | rfl | rfl
        · obtain rfl : kz = 8 := by have := HKZ.out; omega
          have HCT : Hid (Ctl c ps s ps (statusT sv tv) 0) := Lib.hid (by
            have := Ctl.status (c := c) (ps := ps) HFI.out ii HI2.out (by omega) hic2
            rw [HST.out.1, HST.out.2] at this; exact this)
          go_wp2_with (first
            | (refine load_hub rfl (.tmp 2) rfl w.heap.size rfl c ps hl T3.b0 ?_)
            | (refine store_hub_new rfl (.tmp 10) (.tmp 49) rfl (w2.heap.size + 1) (by simp) rfl c ps hl rfl _ rfl ?_))
          have hzW : w2.heap.size + 1 < ((w2.alloc (.cells #[.int .i64 8, .int .i64 v, .int .i64 ii, .int .i64 l] 47)).alloc (.cells (Kt.ia .i64 (c :: ps)) 26)).heap.size := by simp
          generalize ((w2.alloc (.cells #[.int .i64 8, .int .i64 v, .int .i64 ii, .int .i64 l] 47)).alloc (.cells (Kt.ia .i64 (c :: ps)) 26)) = W4 at *
          obtain ⟨hs0, hs1, ht0, ht1⟩ := HBD.out
          have hRz := h4.b1
          have HF : StF w c ps (w2.heap.size + 1) ii sv tv W4 := ⟨h4.b0, hps, hpt, h4.bel, hzW, by omega⟩
          refine Kt.G.start 26 (StF w c ps (w2.heap.size + 1) ii sv tv) (by kernel_rfl) HF.drew (fun hHeld => ?_)
          refine Kt.G.load_row 0 { dst := some 62, op := Op.load 26 (Operand.tmp 2), type := 26, pos := "hub.go:131", after := #[], guard := none } 26 (Operand.tmp 2) w.heap.size 26 (Kt.ia .i64 (c :: ps)) _ hHeld rfl (by kernel_rfl) (fun _ _ _ h => h) (by rfl) rfl rfl (fun _ h => h.h0) Try.underlying26 rfl (hub_size c ps hl) ?_
          try simp only [Act.put, List.setIfInBounds_toArray, List.set_cons_zero, List.set_cons_succ]
          refine Kt.G.takeP 1 { dst := some 63, op := Op.move (Operand.tmp 11), type := 50, pos := "hub.go:131", after := #[{ on := 25, ground := Ground.gcOnly Departure.lateStores }], guard := none } ?_ (fun _ => hHeld) rfl (by kernel_rfl) (fun _ _ _ h => h) (by rfl) ?_ ?_
          rotate_left
          · intro w; go_simp; try with_reducible rfl
          try simp only [Act.put, List.setIfInBounds_toArray, List.set_cons_zero, List.set_cons_succ]
          refine Kt.G.takeP 2 { dst := some 64, op := Op.nilCheck (Operand.tmp 63), type := 0, pos := "hub.go:131", after := #[{ on := 1, ground := Ground.data }, { on := 25, ground := Ground.gcOnly Departure.lateStores }], guard := none } ?_ (fun _ => hHeld) rfl (by kernel_rfl) (fun _ _ _ h => h) (by rfl) ?_ ?_
          rotate_left
          · intro w; go_simp; try with_reducible rfl
          try simp only [Act.put, List.setIfInBounds_toArray, List.set_cons_zero, List.set_cons_succ]
          refine Kt.G.takeP 3 { dst := some 65, op := Op.fieldAddr 23 (Operand.tmp 64) 0, type := 0, pos := "hub.go:131", after := #[{ on := 2, ground := Ground.data }, { on := 25, ground := Ground.gcOnly Departure.lateStores }], guard := none } ?_ (fun _ => hHeld) rfl (by kernel_rfl) (fun _ _ _ h => h) (by rfl) ?_ ?_
          rotate_left
          · intro w; go_simp; try with_reducible rfl
          try simp only [Act.put, List.setIfInBounds_toArray, List.set_cons_zero, List.set_cons_succ]
          refine Kt.G.take 4 { dst := some 66, op := Op.load 3 (Operand.tmp 65), type := 3, pos := "hub.go:131", after := #[{ on := 3, ground := Ground.data }, { on := 25, ground := Ground.gcOnly Departure.lateStores }], guard := none } (.int .i64 sv) hHeld rfl (by kernel_rfl) (fun _ _ _ h => h) (by rfl) ?_ ?_
          · intro w hSw; have c1 := hSw.s1; go_simp; try with_reducible rfl
          try simp only [Act.put, List.setIfInBounds_toArray, List.set_cons_zero, List.set_cons_succ]
          refine Kt.G.takeP 5 { dst := some 67, op := Op.convert 3 5 (Operand.tmp 66), type := 5, pos := "hub.go:131", after := #[{ on := 4, ground := Ground.data }, { on := 25, ground := Ground.gcOnly Departure.lateStores }], guard := none } ?_ (fun _ => hHeld) rfl (by kernel_rfl) (fun _ _ _ h => h) (by rfl) ?_ ?_
          rotate_left
          · intro w; go_simp; try with_reducible rfl
          try simp only [Act.put, List.setIfInBounds_toArray, List.set_cons_zero, List.set_cons_succ]
          refine Kt.G.takeP 6 { dst := some 68, op := Op.move (Operand.tmp 11), type := 50, pos := "hub.go:131", after := #[{ on := 25, ground := Ground.gcOnly Departure.lateStores }], guard := none } ?_ (fun _ => hHeld) rfl (by kernel_rfl) (fun _ _ _ h => h) (by rfl) ?_ ?_
          rotate_left
          · intro w; go_simp; try with_reducible rfl
          try simp only [Act.put, List.setIfInBounds_toArray, List.set_cons_zero, List.set_cons_succ]
          refine Kt.G.takeP 7 { dst := some 69, op := Op.nilCheck (Operand.tmp 68), type := 0, pos := "hub.go:131", after := #[{ on := 6, ground := Ground.data }, { on := 25, ground := Ground.gcOnly Departure.lateStores }], guard := none } ?_ (fun _ => hHeld) rfl (by kernel_rfl) (fun _ _ _ h => h) (by rfl) ?_ ?_
          rotate_left
          · intro w; go_simp; try with_reducible rfl
          try simp only [Act.put, List.setIfInBounds_toArray, List.set_cons_zero, List.set_cons_succ]
          refine Kt.G.takeP 8 { dst := some 70, op := Op.fieldAddr 23 (Operand.tmp 69) 0, type := 0, pos := "hub.go:131", after := #[{ on := 7, ground := Ground.data }, { on := 25, ground := Ground.gcOnly Departure.lateStores }], guard := none } ?_ (fun _ => hHeld) rfl (by kernel_rfl) (fun _ _ _ h => h) (by rfl) ?_ ?_
          rotate_left
          · intro w; go_simp; try with_reducible rfl
          try simp only [Act.put, List.setIfInBounds_toArray, List.set_cons_zero, List.set_cons_succ]
          refine Kt.G.take 9 { dst := some 71, op := Op.load 3 (Operand.tmp 70), type := 3, pos := "hub.go:131", after := #[{ on := 8, ground := Ground.data }, { on := 25, ground := Ground.gcOnly Departure.lateStores }], guard := none } (.int .i64 sv) hHeld rfl (by kernel_rfl) (fun _ _ _ h => h) (by rfl) ?_ ?_
          · intro w hSw; have c1 := hSw.s1; go_simp; try with_reducible rfl
          try simp only [Act.put, List.setIfInBounds_toArray, List.set_cons_zero, List.set_cons_succ]
          refine Kt.G.takeP 10 { dst := some 72, op := Op.binOp BinOp.shr 3 (Operand.tmp 71) (Operand.const (Value.int IntKind.u64 8)) 45, type := 3, pos := "hub.go:131", after := #[{ on := 9, ground := Ground.data }, { on := 25, ground := Ground.gcOnly Departure.lateStores }], guard := none } ?_ (fun _ => hHeld) rfl (by kernel_rfl) (fun _ _ _ h => h) (by rfl) ?_ ?_
          rotate_left
          · intro w; go_simp; try with_reducible rfl
          try simp only [Act.put, List.setIfInBounds_toArray, List.set_cons_zero, List.set_cons_succ]
          refine Kt.G.takeP 11 { dst := some 73, op := Op.convert 3 5 (Operand.tmp 72), type := 5, pos := "hub.go:131", after := #[{ on := 10, ground := Ground.data }, { on := 25, ground := Ground.gcOnly Departure.lateStores }], guard := none } ?_ (fun _ => hHeld) rfl (by kernel_rfl) (fun _ _ _ h => h) (by rfl) ?_ ?_
          rotate_left
          · intro w; go_simp; try with_reducible rfl
          try simp only [Act.put, List.setIfInBounds_toArray, List.set_cons_zero, List.set_cons_succ]
          refine Kt.G.takeP 12 { dst := some 74, op := Op.move (Operand.tmp 11), type := 50, pos := "hub.go:131", after := #[{ on := 25, ground := Ground.gcOnly Departure.lateStores }], guard := none } ?_ (fun _ => hHeld) rfl (by kernel_rfl) (fun _ _ _ h => h) (by rfl) ?_ ?_
          rotate_left
          · intro w; go_simp; try with_reducible rfl
          try simp only [Act.put, List.setIfInBounds_toArray, List.set_cons_zero, List.set_cons_succ]
          refine Kt.G.takeP 13 { dst := some 75, op := Op.nilCheck (Operand.tmp 74), type := 0, pos := "hub.go:131", after := #[{ on := 12, ground := Ground.data }, { on := 25, ground := Ground.gcOnly Departure.lateStores }], guard := none } ?_ (fun _ => hHeld) rfl (by kernel_rfl) (fun _ _ _ h => h) (by rfl) ?_ ?_
          rotate_left
          · intro w; go_simp; try with_reducible rfl
          try simp only [Act.put, List.setIfInBounds_toArray, List.set_cons_zero, List.set_cons_succ]
          refine Kt.G.takeP 14 { dst := some 76, op := Op.fieldAddr 23 (Operand.tmp 75) 1, type := 0, pos := "hub.go:131", after := #[{ on := 13, ground := Ground.data }, { on := 25, ground := Ground.gcOnly Departure.lateStores }], guard := none } ?_ (fun _ => hHeld) rfl (by kernel_rfl) (fun _ _ _ h => h) (by rfl) ?_ ?_
          rotate_left
          · intro w; go_simp; try with_reducible rfl
          try simp only [Act.put, List.setIfInBounds_toArray, List.set_cons_zero, List.set_cons_succ]
          refine Kt.G.take 15 { dst := some 77, op := Op.load 3 (Operand.tmp 76), type := 3, pos := "hub.go:131", after := #[{ on := 14, ground := Ground.data }, { on := 25, ground := Ground.gcOnly Departure.lateStores }], guard := none } (.int .i64 tv) hHeld rfl (by kernel_rfl) (fun _ _ _ h => h) (by rfl) ?_ ?_
          · intro w hSw; have c1 := hSw.t1; go_simp; try with_reducible rfl
          try simp only [Act.put, List.setIfInBounds_toArray, List.set_cons_zero, List.set_cons_succ]
          refine Kt.G.takeP 16 { dst := some 78, op := Op.convert 3 5 (Operand.tmp 77), type := 5, pos := "hub.go:131", after := #[{ on := 15, ground := Ground.data }, { on := 25, ground := Ground.gcOnly Departure.lateStores }], guard := none } ?_ (fun _ => hHeld) rfl (by kernel_rfl) (fun _ _ _ h => h) (by rfl) ?_ ?_
          rotate_left
          · intro w; go_simp; try with_reducible rfl
          try simp only [Act.put, List.setIfInBounds_toArray, List.set_cons_zero, List.set_cons_succ]
          refine Kt.G.takeP 17 { dst := some 79, op := Op.move (Operand.tmp 11), type := 50, pos := "hub.go:131", after := #[{ on := 25, ground := Ground.gcOnly Departure.lateStores }], guard := none } ?_ (fun _ => hHeld) rfl (by kernel_rfl) (fun _ _ _ h => h) (by rfl) ?_ ?_
          rotate_left
          · intro w; go_simp; try with_reducible rfl
          try simp only [Act.put, List.setIfInBounds_toArray, List.set_cons_zero, List.set_cons_succ]
          refine Kt.G.takeP 18 { dst := some 80, op := Op.nilCheck (Operand.tmp 79), type := 0, pos := "hub.go:131", after := #[{ on := 17, ground := Ground.data }, { on := 25, ground := Ground.gcOnly Departure.lateStores }], guard := none } ?_ (fun _ => hHeld) rfl (by kernel_rfl) (fun _ _ _ h => h) (by rfl) ?_ ?_
          rotate_left
          · intro w; go_simp; try with_reducible rfl
          try simp only [Act.put, List.setIfInBounds_toArray, List.set_cons_zero, List.set_cons_succ]
          refine Kt.G.takeP 19 { dst := some 81, op := Op.fieldAddr 23 (Operand.tmp 80) 1, type := 0, pos := "hub.go:131", after := #[{ on := 18, ground := Ground.data }, { on := 25, ground := Ground.gcOnly Departure.lateStores }], guard := none } ?_ (fun _ => hHeld) rfl (by kernel_rfl) (fun _ _ _ h => h) (by rfl) ?_ ?_
          rotate_left
          · intro w; go_simp; try with_reducible rfl
          try simp only [Act.put, List.setIfInBounds_toArray, List.set_cons_zero, List.set_cons_succ]
          refine Kt.G.take 20 { dst := some 82, op := Op.load 3 (Operand.tmp 81), type := 3, pos := "hub.go:131", after := #[{ on := 19, ground := Ground.data }, { on := 25, ground := Ground.gcOnly Departure.lateStores }], guard := none } (.int .i64 tv) hHeld rfl (by kernel_rfl) (fun _ _ _ h => h) (by rfl) ?_ ?_
          · intro w hSw; have c1 := hSw.t1; go_simp; try with_reducible rfl
          try simp only [Act.put, List.setIfInBounds_toArray, List.set_cons_zero, List.set_cons_succ]
          refine Kt.G.takeP 21 { dst := some 83, op := Op.binOp BinOp.shr 3 (Operand.tmp 82) (Operand.const (Value.int IntKind.u64 8)) 45, type := 3, pos := "hub.go:131", after := #[{ on := 20, ground := Ground.data }, { on := 25, ground := Ground.gcOnly Departure.lateStores }], guard := none } ?_ (fun _ => hHeld) rfl (by kernel_rfl) (fun _ _ _ h => h) (by rfl) ?_ ?_
          rotate_left
          · intro w; go_simp; try with_reducible rfl
          try simp only [Act.put, List.setIfInBounds_toArray, List.set_cons_zero, List.set_cons_succ]
          refine Kt.G.takeP 22 { dst := some 84, op := Op.convert 3 5 (Operand.tmp 83), type := 5, pos := "hub.go:131", after := #[{ on := 21, ground := Ground.data }, { on := 25, ground := Ground.gcOnly Departure.lateStores }], guard := none } ?_ (fun _ => hHeld) rfl (by kernel_rfl) (fun _ _ _ h => h) (by rfl) ?_ ?_
          rotate_left
          · intro w; go_simp; try with_reducible rfl
          try simp only [Act.put, List.setIfInBounds_toArray, List.set_cons_zero, List.set_cons_succ]
          refine Kt.G.two 23 25 { dst := some 85, op := Op.buildSlice 44 4 #[(0, Operand.tmp 67), (1, Operand.tmp 73), (2, Operand.tmp 78), (3, Operand.tmp 84)], type := 44, pos := "hub.go:131", after := #[{ on := 5, ground := Ground.data }, { on := 11, ground := Ground.data }, { on := 16, ground := Ground.data }, { on := 22, ground := Ground.data }, { on := 25, ground := Ground.gcOnly Departure.lateStores }], guard := none } { dst := none, op := Op.store 26 (Operand.tmp 4) (Operand.tmp 62), type := 0, pos := "hub.go:131", after := #[{ on := 0, ground := Ground.data }, { on := 0, ground := Ground.phase }, { on := 1, ground := Ground.textOnly Departure.lateStores }, { on := 2, ground := Ground.textOnly Departure.lateStores }, { on := 3, ground := Ground.textOnly Departure.lateStores }, { on := 4, ground := Ground.textOnly Departure.lateStores }, { on := 5, ground := Ground.textOnly Departure.lateStores }, { on := 6, ground := Ground.textOnly Departure.lateStores }, { on := 7, ground := Ground.textOnly Departure.lateStores }, { on := 8, ground := Ground.textOnly Departure.lateStores }, { on := 9, ground := Ground.textOnly Departure.lateStores }, { on := 10, ground := Ground.textOnly Departure.lateStores }, { on := 11, ground := Ground.textOnly Departure.lateStores }, { on := 12, ground := Ground.textOnly Departure.lateStores }, { on := 13, ground := Ground.textOnly Departure.lateStores }, { on := 14, ground := Ground.textOnly Departure.lateStores }, { on := 15, ground := Ground.textOnly Departure.lateStores }, { on := 16, ground := Ground.textOnly Departure.lateStores }, { on := 17, ground := Ground.textOnly Departure.lateStores }, { on := 18, ground := Ground.textOnly Departure.lateStores }, { on := 19, ground := Ground.textOnly Departure.lateStores }, { on := 20, ground := Ground.textOnly Departure.lateStores }, { on := 21, ground := Ground.textOnly Departure.lateStores }, { on := 22, ground := Ground.textOnly Departure.lateStores }, { on := 23, ground := Ground.textOnly Departure.lateStores }, { on := 24, ground := Ground.textOnly Departure.lateStores }], guard := none } rfl rfl (by kernel_rfl) (by rfl) (by rfl) (fun K hK => ?_) (fun K hK => ?_)
          · go_simp
            refine hK.out _ _ (fun _ => hHeld.alloc _) (fun hHeld => ?_)
            have hHeld := hHeld rfl
            clear hK K
            try simp only [Act.put, List.setIfInBounds_toArray, List.set_cons_zero, List.set_cons_succ]
            have hbuf := heap_alloc_new W4 (.cells #[.int .u8 (IntKind.u8.wrap sv), .int .u8 (IntKind.u8.wrap (sv / 256)), .int .u8 (IntKind.u8.wrap tv), .int .u8 (IntKind.u8.wrap (tv / 256))] 5)
            have hRz := HBox.on hRz (Kt.balloc (Below.refl _ _) (.cells #[.int .u8 (IntKind.u8.wrap sv), .int .u8 (IntKind.u8.wrap (sv / 256)), .int .u8 (IntKind.u8.wrap tv), .int .u8 (IntKind.u8.wrap (tv / 256))] 5))
            refine Kt.G.more (F' := fun w' => StF w c ps (w2.heap.size + 1) ii sv tv w' ∧ w'.heap[W4.heap.size]? = some (.cells #[.int .u8 (IntKind.u8.wrap sv), .int .u8 (IntKind.u8.wrap (sv / 256)), .int .u8 (IntKind.u8.wrap tv), .int .u8 (IntKind.u8.wrap (tv / 256))] 5 (0, 0))) (fun _ h => h.1) _ _ _ _ ?_
            have hHeld : StF w c ps (w2.heap.size + 1) ii sv tv _ ∧ _ := ⟨hHeld, hbuf⟩
            refine Kt.G.take 24 { dst := some 86, op := Op.convert 44 9 (Operand.tmp 85), type := 9, pos := "hub.go:131", after := #[{ on := 23, ground := Ground.data }, { on := 25, ground := Ground.gcOnly Departure.lateStores }], guard := none } (.string (statusT sv tv)) hHeld rfl (by kernel_rfl) (fun _ _ _ h => h) (by rfl) ?_ ?_
            · intro w hSw; have hcv := status_conv sv tv w _ hSw.2; go_simp; try with_reducible rfl
            try simp only [Act.put, List.setIfInBounds_toArray, List.set_cons_zero, List.set_cons_succ]
            refine Kt.G.one 25 { dst := none, op := Op.store 26 (Operand.tmp 4) (Operand.tmp 62), type := 0, pos := "hub.go:131", after := #[{ on := 0, ground := Ground.data }, { on := 0, ground := Ground.phase }, { on := 1, ground := Ground.textOnly Departure.lateStores }, { on := 2, ground := Ground.textOnly Departure.lateStores }, { on := 3, ground := Ground.textOnly Departure.lateStores }, { on := 4, ground := Ground.textOnly Departure.lateStores }, { on := 5, ground := Ground.textOnly Departure.lateStores }, { on := 6, ground := Ground.textOnly Departure.lateStores }, { on := 7, ground := Ground.textOnly Departure.lateStores }, { on := 8, ground := Ground.textOnly Departure.lateStores }, { on := 9, ground := Ground.textOnly Departure.lateStores }, { on := 10, ground := Ground.textOnly Departure.lateStores }, { on := 11, ground := Ground.textOnly Departure.lateStores }, { on := 12, ground := Ground.textOnly Departure.lateStores }, { on := 13, ground := Ground.textOnly Departure.lateStores }, { on := 14, ground := Ground.textOnly Departure.lateStores }, { on := 15, ground := Ground.textOnly Departure.lateStores }, { on := 16, ground := Ground.textOnly Departure.lateStores }, { on := 17, ground := Ground.textOnly Departure.lateStores }, { on := 18, ground := Ground.textOnly Departure.lateStores }, { on := 19, ground := Ground.textOnly Departure.lateStores }, { on := 20, ground := Ground.textOnly Departure.lateStores }, { on := 21, ground := Ground.textOnly Departure.lateStores }, { on := 22, ground := Ground.textOnly Departure.lateStores }, { on := 23, ground := Ground.textOnly Departure.lateStores }, { on := 24, ground := Ground.textOnly Departure.lateStores }], guard := none } rfl (by kernel_rfl) (by rfl) (fun K hK => ?_)
            refine wp_store_row 26 (.tmp 4) (.tmp 62) rfl (w.heap.size + 1) (Kt.ia .i64 (c :: ps)) rfl rfl 26 (Kt.ia .i64 (0 :: zs)) hRz (hub_size c ps hl) (by rw [Kt.ia_size, Kt.ia_size, List.length_cons, List.length_cons, hl, zs_len]) (Kt.ia_one _ _) ?_
            refine hK.out _ _ (fun _ => ⟨hHeld.1.row _, (setRow_other _ _ _ _ (by have := hzW; have := hzA; omega)).trans hHeld.2⟩) (fun hHeld => ?_)
            have hHeld := hHeld rfl
            clear hK K
            try simp only [Act.put, List.setIfInBounds_toArray, List.set_cons_zero, List.set_cons_succ]
            have hRd : HBox (w.heap.size + 1) c ps ((W4.alloc (.cells #[.int .u8 (IntKind.u8.wrap sv), .int .u8 (IntKind.u8.wrap (sv / 256)), .int .u8 (IntKind.u8.wrap tv), .int .u8 (IntKind.u8.wrap (tv / 256))] 5)).drew.setRow (w.heap.size + 1) (Kt.ia .i64 (c :: ps))) := setRow_heap _ _ _ _ _ _ hRz
            refine Kt.G.one 26 { dst := some 5, op := Op.assign (Operand.tmp 86), type := 9, pos := "hub.go:131", after := #[{ on := 24, ground := Ground.data }, { on := 25, ground := Ground.chain }, { on := 0, ground := Ground.phase }, { on := 1, ground := Ground.phase }, { on := 2, ground := Ground.phase }, { on := 3, ground := Ground.phase }, { on := 4, ground := Ground.phase }, { on := 5, ground := Ground.phase }, { on := 6, ground := Ground.phase }, { on := 7, ground := Ground.phase }, { on := 8, ground := Ground.phase }, { on := 9, ground := Ground.phase }, { on := 10, ground := Ground.phase }, { on := 11, ground := Ground.phase }, { on := 12, ground := Ground.phase }, { on := 13, ground := Ground.phase }, { on := 14, ground := Ground.phase }, { on := 15, ground := Ground.phase }, { on := 16, ground := Ground.phase }, { on := 17, ground := Ground.phase }, { on := 18, ground := Ground.phase }, { on := 19, ground := Ground.phase }, { on := 20, ground := Ground.phase }, { on := 21, ground := Ground.phase }, { on := 22, ground := Ground.phase }, { on := 23, ground := Ground.phase }, { on := 24, ground := Ground.phase }, { on := 25, ground := Ground.phase }], guard := none } rfl (by kernel_rfl) (by rfl) (fun K hK => ?_)
            go_simp
            refine hK.out _ _ (Kt.G.late (by kernel_rfl)) (fun _ => ?_)
            clear hK K
            try simp only [Act.put, List.setIfInBounds_toArray, List.set_cons_zero, List.set_cons_succ]
            refine Kt.G.takeP 27 { dst := some 6, op := Op.assign (Operand.const (Value.int IntKind.i64 0)), type := 27, pos := "hub.go:131", after := #[{ on := 26, ground := Ground.chain }, { on := 0, ground := Ground.phase }, { on := 1, ground := Ground.phase }, { on := 2, ground := Ground.phase }, { on := 3, ground := Ground.phase }, { on := 4, ground := Ground.phase }, { on := 5, ground := Ground.phase }, { on := 6, ground := Ground.phase }, { on := 7, ground := Ground.phase }, { on := 8, ground := Ground.phase }, { on := 9, ground := Ground.phase }, { on := 10, ground := Ground.phase }, { on := 11, ground := Ground.phase }, { on := 12, ground := Ground.phase }, { on := 13, ground := Ground.phase }, { on := 14, ground := Ground.phase }, { on := 15, ground := Ground.phase }, { on := 16, ground := Ground.phase }, { on := 17, ground := Ground.phase }, { on := 18, ground := Ground.phase }, { on := 19, ground := Ground.phase }, { on := 20, ground := Ground.phase }, { on := 21, ground := Ground.phase }, { on := 22, ground := Ground.phase }, { on := 23, ground := Ground.phase }, { on := 24, ground := Ground.phase }, { on := 25, ground := Ground.phase }, { on := 26, ground := Ground.phase }], guard := none } ?_ (Kt.G.late (by kernel_rfl)) rfl (by kernel_rfl) (fun _ _ _ h => h) (by rfl) ?_ ?_
            rotate_left
            · intro w; go_simp; try with_reducible rfl
            try simp only [Act.put, List.setIfInBounds_toArray, List.set_cons_zero, List.set_cons_succ]
            refine Kt.G.done (by kernel_rfl) (NoPanic.normal ?_) _
            go_wp2_with fail
            refine bodyPost_ret (v := .tuple #[HV c ps, .string (statusT sv tv), .int .i64 0]) (by first | (simp [results, Try.results10, asAddr, ld_hub hRd hl]; done) | (simp [results, Try.results10, asAddr, ld_hub (HBox.drew hRd) hl]; done)) rfl ⟨ps, _, 0, HCT.out, rfl, by first | exact hHeld.1.bel | exact hHeld.bel⟩
          · refine wp_store_row 26 (.tmp 4) (.tmp 62) rfl (w.heap.size + 1) (Kt.ia .i64 (c :: ps)) rfl rfl 26 (Kt.ia .i64 (0 :: zs)) hRz (hub_size c ps hl) (by rw [Kt.ia_size, Kt.ia_size, List.length_cons, List.length_cons, hl, zs_len]) (Kt.ia_one _ _) ?_
            refine hK.out _ _ (fun _ => hHeld.row _) (fun hHeld => ?_)
            have hHeld := hHeld rfl
            clear hK K
            try simp only [Act.put, List.setIfInBounds_toArray, List.set_cons_zero, List.set_cons_succ]
            have hRd : HBox (w.heap.size + 1) c ps (W4.drew.setRow (w.heap.size + 1) (Kt.ia .i64 (c :: ps))) := setRow_heap _ _ _ _ _ _ hRz
            refine Kt.G.one 23 { dst := some 85, op := Op.buildSlice 44 4 #[(0, Operand.tmp 67), (1, Operand.tmp 73), (2, Operand.tmp 78), (3, Operand.tmp 84)], type := 44, pos := "hub.go:131", after := #[{ on := 5, ground := Ground.data }, { on := 11, ground := Ground.data }, { on := 16, ground := Ground.data }, { on := 22, ground := Ground.data }, { on := 25, ground := Ground.gcOnly Departure.lateStores }], guard := none } rfl (by kernel_rfl) (by rfl) (fun K hK => ?_)
            go_simp
            refine hK.out _ _ (fun _ => hHeld.alloc _) (fun hHeld => ?_)
            have hHeld := hHeld rfl
            clear hK K
            try simp only [Act.put, List.setIfInBounds_toArray, List.set_cons_zero, List.set_cons_succ]
            have hbuf : ((W4.drew.setRow (w.heap.size + 1) (Kt.ia .i64 (c :: ps))).alloc (.cells #[.int .u8 (IntKind.u8.wrap sv), .int .u8 (IntKind.u8.wrap (sv / 256)), .int .u8 (IntKind.u8.wrap tv), .int .u8 (IntKind.u8.wrap (tv / 256))] 5)).heap[W4.heap.size]? = some (.cells #[.int .u8 (IntKind.u8.wrap sv), .int .u8 (IntKind.u8.wrap (sv / 256)), .int .u8 (IntKind.u8.wrap tv), .int .u8 (IntKind.u8.wrap (tv / 256))] 5 (0, 0)) := by have h := heap_alloc_new (W4.drew.setRow (w.heap.size + 1) (Kt.ia .i64 (c :: ps))) (.cells #[.int .u8 (IntKind.u8.wrap sv), .int .u8 (IntKind.u8.wrap (sv / 256)), .int .u8 (IntKind.u8.wrap tv), .int .u8 (IntKind.u8.wrap (tv / 256))] 5); rw [size_setRow] at h; exact h
            have hRd := HBox.on hRd (Kt.balloc (Below.refl _ _) (.cells #[.int .u8 (IntKind.u8.wrap sv), .int .u8 (IntKind.u8.wrap (sv / 256)), .int .u8 (IntKind.u8.wrap tv), .int .u8 (IntKind.u8.wrap (tv / 256))] 5))
            refine Kt.G.more (F' := fun w' => StF w c ps (w2.heap.size + 1) ii sv tv w' ∧ w'.heap[W4.heap.size]? = some (.cells #[.int .u8 (IntKind.u8.wrap sv), .int .u8 (IntKind.u8.wrap (sv / 256)), .int .u8 (IntKind.u8.wrap tv), .int .u8 (IntKind.u8.wrap (tv / 256))] 5 (0, 0))) (fun _ h => h.1) _ _ _ _ ?_
            have hHeld : StF w c ps (w2.heap.size + 1) ii sv tv _ ∧ _ := ⟨hHeld, hbuf⟩
            refine Kt.G.take 24 { dst := some 86, op := Op.convert 44 9 (Operand.tmp 85), type := 9, pos := "hub.go:131", after := #[{ on := 23, ground := Ground.data }, { on := 25, ground := Ground.gcOnly Departure.lateStores }], guard := none } (.string (statusT sv tv)) hHeld rfl (by kernel_rfl) (fun _ _ _ h => h) (by rfl) ?_ ?_
            · intro w hSw; have hcv := status_conv sv tv w _ hSw.2; go_simp; try with_reducible rfl
            try simp only [Act.put, List.setIfInBounds_toArray, List.set_cons_zero, List.set_cons_succ]
            refine Kt.G.one 26 { dst := some 5, op := Op.assign (Operand.tmp 86), type := 9, pos := "hub.go:131", after := #[{ on := 24, ground := Ground.data }, { on := 25, ground := Ground.chain }, { on := 0, ground := Ground.phase }, { on := 1, ground := Ground.phase }, { on := 2, ground := Ground.phase }, { on := 3, ground := Ground.phase }, { on := 4, ground := Ground.phase }, { on := 5, ground := Ground.phase }, { on := 6, ground := Ground.phase }, { on := 7, ground := Ground.phase }, { on := 8, ground := Ground.phase }, { on := 9, ground := Ground.phase }, { on := 10, ground := Ground.phase }, { on := 11, ground := Ground.phase }, { on := 12, ground := Ground.phase }, { on := 13, ground := Ground.phase }, { on := 14, ground := Ground.phase }, { on := 15, ground := Ground.phase }, { on := 16, ground := Ground.phase }, { on := 17, ground := Ground.phase }, { on := 18, ground := Ground.phase }, { on := 19, ground := Ground.phase }, { on := 20, ground := Ground.phase }, { on := 21, ground := Ground.phase }, { on := 22, ground := Ground.phase }, { on := 23, ground := Ground.phase }, { on := 24, ground := Ground.phase }, { on := 25, ground := Ground.phase }], guard := none } rfl (by kernel_rfl) (by rfl) (fun K hK => ?_)
            go_simp
            refine hK.out _ _ (Kt.G.late (by kernel_rfl)) (fun _ => ?_)
            clear hK K
            try simp only [Act.put, List.setIfInBounds_toArray, List.set_cons_zero, List.set_cons_succ]
            refine Kt.G.takeP 27 { dst := some 6, op := Op.assign (Operand.const (Value.int IntKind.i64 0)), type := 27, pos := "hub.go:131", after := #[{ on := 26, ground := Ground.chain }, { on := 0, ground := Ground.phase }, { on := 1, ground := Ground.phase }, { on := 2, ground := Ground.phase }, { on := 3, ground := Ground.phase }, { on := 4, ground := Ground.phase }, { on := 5, ground := Ground.phase }, { on := 6, ground := Ground.phase }, { on := 7, ground := Ground.phase }, { on := 8, ground := Ground.phase }, { on := 9, ground := Ground.phase }, { on := 10, ground := Ground.phase }, { on := 11, ground := Ground.phase }, { on := 12, ground := Ground.phase }, { on := 13, ground := Ground.phase }, { on := 14, ground := Ground.phase }, { on := 15, ground := Ground.phase }, { on := 16, ground := Ground.phase }, { on := 17, ground := Ground.phase }, { on := 18, ground := Ground.phase }, { on := 19, ground := Ground.phase }, { on := 20, ground := Ground.phase }, { on := 21, ground := Ground.phase }, { on := 22, ground := Ground.phase }, { on := 23, ground := Ground.phase }, { on := 24, ground := Ground.phase }, { on := 25, ground := Ground.phase }, { on := 26, ground := Ground.phase }], guard := none } ?_ (Kt.G.late (by kernel_rfl)) rfl (by kernel_rfl) (fun _ _ _ h => h) (by rfl) ?_ ?_
            rotate_left
            · intro w; go_simp; try with_reducible rfl
            try simp only [Act.put, List.setIfInBounds_toArray, List.set_cons_zero, List.set_cons_succ]
            refine Kt.G.done (by kernel_rfl) (NoPanic.normal ?_) _
            go_wp2_with fail
            refine bodyPost_ret (v := .tuple #[HV c ps, .string (statusT sv tv), .int .i64 0]) (by first | (simp [results, Try.results10, asAddr, ld_hub hRd hl]; done) | (simp [results, Try.results10, asAddr, ld_hub (HBox.drew hRd) hl]; done)) rfl ⟨ps, _, 0, HCT.out, rfl, by first | exact hHeld.1.bel | exact hHeld.bel⟩
        · obtain rfl : kz = 9 := by have := HKZ.out; omega
          have HON := Lib.hid (on_calls (w2.heap.size + 1) (1 + ii * 2) sv v _ hps (hfree _))
          go_wp2_with (first
            | (refine load_hub rfl (.tmp 2) rfl w.heap.size rfl c ps hl T3.b0 ?_)
            | (refine store_hub_new rfl (.tmp 10) (.tmp 49) rfl (w2.heap.size + 1) (by simp) rfl c ps hl rfl _ rfl ?_))
          generalize ((w2.alloc (.cells #[.int .i64 9, .int .i64 v, .int .i64 ii, .int .i64 l] 47)).alloc (.cells (Kt.ia .i64 (c :: ps)) 26)) = W4 at *
          refine HON.out.mono ?_
          intro en w5 hon
          cases hx : onP sv v with
          | none =>
            rw [hx] at hon
            obtain ⟨rfl, rfl⟩ := hon
            have HCT : Hid (Ctl c ps s ps ⟨#[]⟩ 8) := Lib.hid (.onNo HFI.out ii HI2.out (by omega) hic2 (by rw [HST.out.1, HV2.out]; exact hx))
            clear hx
            go_wp2_with (first
              | (refine load_hub rfl (.tmp 2) rfl w.heap.size rfl c ps hl h4.b0 ?_)
              | (refine store_hub rfl (.tmp 4) (.tmp 95) rfl (w.heap.size + 1) rfl c ps hl rfl 0 zs zs_len h4.b1 ?_
                 intro W2 hW2 hk2 hb2))
            refine bodyPost_ret (v := .tuple #[HV c ps, .string ⟨#[]⟩, .int .i64 8]) (by simp [results, Try.results10, asAddr, ld_hub hW2 hl]) rfl ⟨ps, ⟨#[]⟩, 8, HCT.out, rfl, h4.bel.trans (hb2 _ (by omega))⟩
          | some x =>
            rw [hx] at hon
            obtain ⟨rfl, rfl⟩ := hon
            have hxb := hnx.setS ii x
            have hxl : (ps.set (ii * 2) x).length = 32 := by rw [List.length_set, hl]
            have hup : ps.set (ii * 2) x = upd ps ii x tv := by
              have := HSAME.out
              unfold upd at this ⊢
              have e : (ps.set (ii * 2) x)[ii * 2 + 1]'(by omega) = tv := by
                rw [List.getElem_set_ne (by omega)]
                rw [← HST.out.2]; exact (getD_at _ _ (by omega)).symm
              rw [← e]; exact (List.set_getElem_self _).symm
            have HCT : Hid (Ctl c ps s (upd ps ii x tv) ⟨#[]⟩ 0) := Lib.hid (by
              have := Ctl.on (c := c) (ps := ps) HFI.out ii HI2.out (by omega) hic2 x (by rw [HST.out.1, HV2.out]; exact hx)
              rw [HST.out.2] at this; exact this)
            rw [hup] at hxb hxl
            have h5 : TwoH w _ c ps := ⟨h4.b0.other (p := ⟨w2.heap.size + 1, 1 + ii * 2, none⟩) (by simp; omega) (.int .i64 x), h4.b1.other (by simp; omega) _, Kt.bset h4.bel (by simp; omega) _⟩
            clear hx hup
            go_wp2_with (first
              | (refine load_hub rfl (.tmp 10) rfl (w2.heap.size + 1) rfl c _ hxl hxb ?_)
              | (refine store_hub rfl (.tmp 4) (.tmp 97) rfl (w.heap.size + 1) rfl c _ hxl rfl 0 zs zs_len h5.b1 ?_
                 intro W2 hW2 hk2 hb2))
            refine bodyPost_ret (v := .tuple #[HV c (upd ps ii x tv), .string ⟨#[]⟩, .int .i64 0]) (by simp [results, Try.results10, asAddr, ld_hub hW2 hxl]) rfl ⟨_, ⟨#[]⟩, 0, HCT.out, rfl, h5.bel.trans (hb2 _ (by omega))⟩
        · obtain rfl : kz = 10 := by have := HKZ.out; omega
          have HON := Lib.hid (off_calls (w2.heap.size + 1) (1 + ii * 2) sv tv v _ hps hpt hfree)
          go_wp2_with (first
            | (refine load_hub rfl (.tmp 2) rfl w.heap.size rfl c ps hl T3.b0 ?_)
            | (refine store_hub_new rfl (.tmp 10) (.tmp 49) rfl (w2.heap.size + 1) (by simp) rfl c ps hl rfl _ rfl ?_))
          generalize ((w2.alloc (.cells #[.int .i64 10, .int .i64 v, .int .i64 ii, .int .i64 l] 47)).alloc (.cells (Kt.ia .i64 (c :: ps)) 26)) = W4 at *
          refine HON.out.mono ?_
          intro en w5 hon
          cases hx : offP sv tv v with
          | none =>
            rw [hx] at hon
            obtain ⟨rfl, rfl⟩ := hon
            have HCT : Hid (Ctl c ps s ps ⟨#[]⟩ 8) := Lib.hid (.offNo HFI.out ii HI2.out (by omega) hic2 (by rw [HST.out.1, HST.out.2, HV2.out]; exact hx))
            clear hx
            go_wp2_with (first
              | (refine load_hub rfl (.tmp 2) rfl w.heap.size rfl c ps hl h4.b0 ?_)
              | (refine store_hub rfl (.tmp 4) (.tmp 95) rfl (w.heap.size + 1) rfl c ps hl rfl 0 zs zs_len h4.b1 ?_
                 intro W2 hW2 hk2 hb2))
            refine bodyPost_ret (v := .tuple #[HV c ps, .string ⟨#[]⟩, .int .i64 8]) (by simp [results, Try.results10, asAddr, ld_hub hW2 hl]) rfl ⟨ps, ⟨#[]⟩, 8, HCT.out, rfl, h4.bel.trans (hb2 _ (by omega))⟩
          | some xy =>
            obtain ⟨x, y⟩ := xy
            rw [hx] at hon
            have HCT : Hid (Ctl c ps s (upd ps ii x y) ⟨#[]⟩ 0) := Lib.hid (.off HFI.out ii HI2.out (by omega) hic2 x y (by rw [HST.out.1, HST.out.2, HV2.out]; exact hx))
            clear hx
            obtain ⟨rfl, ⟨rfl, rfl⟩ | ⟨rfl, rfl⟩⟩ := hon
            · have hxb := hnx.setS ii x
              have hxl : (ps.set (ii * 2) x).length = 32 := by rw [List.length_set, hl]
              have hup : ps.set (ii * 2) x = upd ps ii x y := by
                unfold upd
                have e : (ps.set (ii * 2) x)[ii * 2 + 1]'(by omega) = y := by
                  rw [List.getElem_set_ne (by omega)]
                  rw [← HST.out.2]; exact (getD_at _ _ (by omega)).symm
                rw [← e]; exact (List.set_getElem_self _).symm
              rw [hup] at hxb hxl
              have h5 : TwoH w _ c ps := ⟨h4.b0.other (p := ⟨w2.heap.size + 1, 1 + ii * 2, none⟩) (by simp; omega) (.int .i64 x), h4.b1.other (by simp; omega) _, Kt.bset h4.bel (by simp; omega) _⟩
              clear hup
              go_wp2_with (first
                | (refine load_hub rfl (.tmp 10) rfl (w2.heap.size + 1) rfl c _ hxl hxb ?_)
                | (refine store_hub rfl (.tmp 4) (.tmp 97) rfl (w.heap.size + 1) rfl c _ hxl rfl 0 zs zs_len h5.b1 ?_
                   intro W2 hW2 hk2 hb2))
              refine bodyPost_ret (v := .tuple #[HV c (upd ps ii x y), .string ⟨#[]⟩, .int .i64 0]) (by simp [results, Try.results10, asAddr, ld_hub hW2 hxl]) rfl ⟨_, ⟨#[]⟩, 0, HCT.out, rfl, h5.bel.trans (hb2 _ (by omega))⟩
            · have hxb := hnx.setT ii y
              have hxl : (ps.set (ii * 2 + 1) y).length = 32 := by rw [List.length_set, hl]
              have hup : ps.set (ii * 2 + 1) y = upd ps ii x y := by
                unfold upd
                have e : ps[ii * 2]'(by omega) = x := by
                  rw [← HST.out.1]; exact (getD_at _ _ (by omega)).symm
                rw [← e, List.set_getElem_self]
              rw [hup] at hxb hxl
              have h5 : TwoH w _ c ps := ⟨h4.b0.other (p := ⟨w2.heap.size + 1, 1 + ii * 2 + 1, none⟩) (by simp; omega) (.int .i64 y), h4.b1.other (by simp; omega) _, Kt.bset h4.bel (by simp; omega) _⟩
              clear hup
              go_wp2_with (first
                | (refine load_hub rfl (.tmp 10) rfl (w2.heap.size + 1) rfl c _ hxl hxb ?_)
                | (refine store_hub rfl (.tmp 4) (.tmp 97) rfl (w.heap.size + 1) rfl c _ hxl rfl 0 zs zs_len h5.b1 ?_
                   intro W2 hW2 hk2 hb2))
              refine bodyPost_ret (v := .tuple #[HV c (upd ps ii x y), .string ⟨#[]⟩, .int .i64 0]) (by simp [results, Try.results10, asAddr, ld_hub hW2 hxl]) rfl ⟨_, ⟨#[]⟩, 0, HCT.out, rfl, h5.bel.trans (hb2 _ (by omega))⟩
    · have HKD : Hid (Ctl c ps s ps ⟨#[]⟩ 12) := Lib.hid (.kind k HFI.out (by omega))
      have e8 : (kz != 8) = true := by rw [bne_iff_ne]; have := HKZ.out; omega
      have e9 : (kz != 9) = true := by rw [bne_iff_ne]; have := HKZ.out; omega
      have e10 : (kz != 10) = true := by rw [bne_iff_ne]; have := HKZ.out; omega
      clear hk
      go_wp2_with (first
        | (refine load_hub rfl (.tmp 2) rfl w.heap.size rfl c ps hl T3.b0 ?_)
        | (refine store_hub rfl (.tmp 4) (.tmp 41) rfl (w.heap.size + 1) rfl c ps hl rfl 0 zs zs_len T3.b1 ?_
           intro W2 hW2 hk2 hb2))
      refine bodyPost_ret (v := .tuple #[HV c ps, .string ⟨#[]⟩, .int .i64 12]) (by simp [results, Try.results10, asAddr, ld_hub hW2 hl]) rfl ⟨ps, ⟨#[]⟩, 12, HKD.out, rfl, T3.bel.trans (hb2 _ (by omega))⟩
end Go.Proofs.Ytijolofnmccolaa
