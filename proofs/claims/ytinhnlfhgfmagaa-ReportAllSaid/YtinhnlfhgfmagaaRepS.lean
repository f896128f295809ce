/- The walk of report.Set. -/
import Derived.Test.YtinhnlfhgfmagaaRepC
namespace Go.Proofs.Ytinhnlfhgfmagaa
open Go.RowKit Go.Proofs.Ytinhnlfhgfmagaa.Rep
/-- a byte with bit e other -/
def nbN (x e b : Nat) : Nat := x - x / 2 ^ e % 2 * 2 ^ e + b * 2 ^ e
theorem nb_table : ∀ (x : Fin 256) (e : Fin 8) (b : Fin 2), bits .or .u8 (bits .andNot .u8 (x.val : Int) ((2 ^ e.val : Nat) : Int)) ((b.val * 2 ^ e.val : Nat) : Int) = ((nbN x.val e.val b.val : Nat) : Int) ∧ nbN x.val e.val b.val < 256 := by decide +kernel
theorem nb_bits : ∀ (x : Fin 256) (e : Fin 8) (b : Fin 2) (j : Fin 8), nbN x.val e.val b.val / 2 ^ j.val % 2 = if j = e then b.val else x.val / 2 ^ j.val % 2 := by decide +kernel
def putB (l : List UInt8) (k b : Nat) : List UInt8 := l.set (k / 8) (UInt8.ofNat (nbN (l.getD (k / 8) 0).toNat (k % 8) b))
def vb (v : Int) (i : Nat) : Nat := (v / 2 ^ i % 2).toNat
def putN (l : List UInt8) (a : Nat) (v : Int) : Nat → List UInt8
  | 0 => l
  | n + 1 => putB (putN l a v n) (a + n) (vb v n)
theorem putN_len (l : List UInt8) (a : Nat) (v : Int) : ∀ n, (putN l a v n).length = l.length
  | 0 => rfl
  | n + 1 => by
    show (putB (putN l a v n) (a + n) (vb v n)).length = _
    unfold putB
    rw [List.length_set, putN_len l a v n]
theorem vb_lt (v : Int) (i : Nat) : vb v i < 2 := by unfold vb; omega
theorem and_one (x : Int) : bits .and .i64 x 1 = x % 2 := by
  show IntKind.i64.wrap ((BitVec.ofInt 64 x &&& BitVec.ofInt 64 1).toNat : Int) = _
  have h1 : (BitVec.ofInt 64 (1 : Int)).toNat = 1 := by decide
  have h2 : ((BitVec.ofInt 64 x).toNat : Int) = x % 2 ^ 64 := by rw [BitVec.toNat_ofInt]; omega
  rw [BitVec.toNat_and, h1, Nat.and_one_is_mod, IntKind.wrap_i64]
  omega
def lowF (f : Fld) : Int := if f.mn < 0 then -2 ^ (f.bits.toNat - 1) else 0
def highF (f : Fld) : Int := if f.mn < 0 then 2 ^ (f.bits.toNat - 1) else 2 ^ f.bits.toNat
def setR (f : Fld) (s : ByteArray) (v : Int) : ByteArray × Int :=
  if chkF f s.size = 0 then (if v < lowF f ∨ highF f ≤ v then (⟨#[]⟩, 4) else (⟨(putN s.data.toList f.at_.toNat v f.bits.toNat).toArray⟩, 0)) else (⟨#[]⟩, chkF f s.size)
theorem set_byte (x e k : Nat) (v : Int) (hx : x < 256) (he : e ≤ 7) : bits .or .u8 (bits .andNot .u8 (x : Int) (2 ^ e % 256)) (bits .and .i64 (v / 2 ^ k) 1 % 256 * 2 ^ e % 256) = ((UInt8.ofNat (nbN x e (vb v k))).toNat : Int) := by
  have h1 := (nb_table ⟨x, hx⟩ ⟨e, by omega⟩ ⟨vb v k, vb_lt v k⟩)
  dsimp only at h1
  obtain ⟨h1, h2⟩ := h1
  have e1 : (2 : Int) ^ e % 256 = ((2 ^ e : Nat) : Int) := by
    have : e = 0 ∨ e = 1 ∨ e = 2 ∨ e = 3 ∨ e = 4 ∨ e = 5 ∨ e = 6 ∨ e = 7 := by omega
    rcases this with rfl | rfl | rfl | rfl | rfl | rfl | rfl | rfl <;> decide
  have e2 : bits .and .i64 (v / 2 ^ k) 1 % 256 * 2 ^ e % 256 = ((vb v k * 2 ^ e : Nat) : Int) := by
    rw [and_one]
    have h3 : v / 2 ^ k % 2 = ((vb v k : Nat) : Int) := by unfold vb; omega
    rw [h3]
    have h4 := vb_lt v k
    have h5 : vb v k = 0 ∨ vb v k = 1 := by omega
    rcases h5 with h5 | h5
    · rw [h5]; simp
    · rw [h5]
      have e3 : ((1 : Nat) : Int) % 256 * 2 ^ e % 256 = 2 ^ e % 256 := by
        rw [show ((1 : Nat) : Int) % 256 = 1 from rfl, Int.one_mul]
      rw [e3, e1, Nat.one_mul]
  rw [e1, e2, h1]
  congr 1
  simp
  omega
theorem shl_neg (k : Nat) (h : k ≤ 31) : wrap64 (-(2 : Int) ^ k) = -2 ^ k := by
  have h1 : 2 ^ k ≤ 2 ^ 31 := Nat.pow_le_pow_right (by omega) h
  have e : (2 : Int) ^ k = ((2 ^ k : Nat) : Int) := by simp
  rw [e]
  generalize 2 ^ k = z at *
  exact IntWalk.wrap64_in _ (by omega)
theorem shl_one (k : Nat) (h : k ≤ 32) : wrap64 ((2 : Int) ^ k) = 2 ^ k := by
  have h1 : 2 ^ k ≤ 2 ^ 32 := Nat.pow_le_pow_right (by omega) h
  have e : (2 : Int) ^ k = ((2 ^ k : Nat) : Int) := by simp
  rw [e]
  generalize 2 ^ k = z at *
  exact IntWalk.wrap64_in _ (by omega)
def BxF (f : Fld) (b : Nat) (W : World) : Prop := W.heap[b]? = some (.cells #[.int .i64 f.at_, .int .i64 f.bits, .int .i64 f.page, .int .i64 f.usage, .int .i64 f.mn, .int .i64 f.mx, .bool f.pad] 29 (0, 0))
set_option maxRecDepth 100000 in
set_option maxHeartbeats 3200000 in
theorem set_good (A N : Nat) (a2 a3 a4 a5 : Int) (a6 : Bool) (s : ByteArray) (v : Int) (w : World) (hs : s.size ≤ reachBytes) (hN : 1 ≤ N) (hN2 : N ≤ 32) (hA : A ≤ 512) (hAN : A + N ≤ 8 * s.size) (hv : -9223372036854775808 ≤ v ∧ v ≤ 9223372036854775807) :
    Calls Try.prog 17 #[(⟨A, N, a2, a3, a4, a5, a6⟩ : Fld).val, .string s, .int .i64 v] w fun e w' => e = .returned (.tuple #[.string (setR ⟨A, N, a2, a3, a4, a5, a6⟩ s v).1, .int .i64 (setR ⟨A, N, a2, a3, a4, a5, a6⟩ s v).2]) ∧ Below w.heap.size w w' := by
  have HC := Lib.hid (fun W => chkF_calls ⟨A, N, a2, a3, a4, a5, a6⟩ s W hs)
  have e0 : chkF ⟨A, N, a2, a3, a4, a5, a6⟩ s.size = 0 := by
    unfold chkF
    rw [if_neg (show ¬ badF _ by unfold badF; dsimp only; omega), if_neg (by dsimp only; omega)]
  have HSR : Hid (setR ⟨A, N, a2, a3, a4, a5, a6⟩ s v = if v < lowF ⟨A, N, a2, a3, a4, a5, a6⟩ ∨ highF ⟨A, N, a2, a3, a4, a5, a6⟩ ≤ v then (⟨#[]⟩, 4) else (⟨(putN s.data.toList A v N).toArray⟩, 0)) := Lib.hid (by unfold setR; rw [if_pos e0]; rfl)
  rw [e0] at HC
  have HB := Lib.hid (Kt.balloc (Below.refl _ w) (.cells #[.int .i64 A, .int .i64 N, .int .i64 a2, .int .i64 a3, .int .i64 a4, .int .i64 a5, .bool a6] 29))
  have HBX : Hid (BxF ⟨A, N, a2, a3, a4, a5, a6⟩ w.heap.size (w.alloc (.cells #[.int .i64 A, .int .i64 N, .int .i64 a2, .int .i64 a3, .int .i64 a4, .int .i64 a5, .bool a6] 29))) := Lib.hid (heap_alloc_new w _)
  have hs2 : s.size ≤ 140737488351232 := by unfold reachBytes at hs; omega
  obtain ⟨m, hm⟩ : ∃ m, N = m + 1 := ⟨N - 1, by omega⟩
  have hm1 : (N : Int) - 1 = m := by omega
  have hm31 : m ≤ 31 := by omega
  have s1 := shl_one N hN2
  have s2 := shl_one m (by omega)
  have s3 := shl_neg m hm31
  have HLO : Hid (lowF ⟨A, N, a2, a3, a4, a5, a6⟩ = if a4 < 0 then -2 ^ m else 0) := Lib.hid (by unfold lowF; dsimp only; rw [Int.toNat_natCast, show N - 1 = m by omega])
  have HHI : Hid (highF ⟨A, N, a2, a3, a4, a5, a6⟩ = if a4 < 0 then 2 ^ m else 2 ^ N) := Lib.hid (by unfold highF; dsimp only; rw [Int.toNat_natCast, show N - 1 = m by omega])
  generalize lowF ⟨A, N, a2, a3, a4, a5, a6⟩ = lo at *
  generalize highF ⟨A, N, a2, a3, a4, a5, a6⟩ = hi at *
  generalize setR ⟨A, N, a2, a3, a4, a5, a6⟩ s v = sr at *
  clear e0 hs hm
  unfold Fld.val
  dsimp only
  go_enter Try.func17, Try.ntmps17
  go_wp2_with fail
  refine (HC.out _).mono ?_
  rintro en w1 ⟨rfl, hb⟩
  have HB1 := Lib.hid (Kt.bthen HB.out hb)
  have HX1 : Hid (BxF ⟨A, N, a2, a3, a4, a5, a6⟩ w.heap.size w1) := Lib.hid (Kt.row_on hb HBX.out)
  have c1 := fun i => cell_of_row _ _ i _ _ _ HX1.out
  dsimp only at c1
  clear hb
  go_wp2_with fail
  go_quiet (fail)
  go_upto_if 26 with (fail)
  go_cut [9, 10] from 27 to 36 (fun x y wx => x = .int .i64 lo ∧ y = .int .i64 hi ∧ Hid (BxF ⟨A, N, a2, a3, a4, a5, a6⟩ w.heap.size wx) ∧ Hid (Below w.heap.size w wx))
  case first =>
    by_cases hneg : a4 < 0
    · rw [if_pos hneg] at HLO HHI
      go_wp2_with fail
      go_quiet (fail)
      go_wp2_with fail
      go_meet
      exact ⟨by rw [HLO.out]; try rw [s3], by rw [HHI.out]; try rw [s2], Lib.hid HX1.out, Lib.hid (bdrewN (bdrewN HB1.out _) _)⟩
    · rw [if_neg hneg] at HLO HHI
      have e2 : 0 ≤ a4 := by omega
      clear hneg
      go_wp2_with fail
      go_meet
      exact ⟨by rw [HLO.out], by rw [HHI.out]; try rw [s1], Lib.hid HX1.out, Lib.hid (bdrewN HB1.out _)⟩
  obtain ⟨rfl, rfl, HX, HB2⟩ := hcut
  clear HB1 HX1 HBX HB HC c1 HLO HHI s1 s2 s3
  have c1 := fun i => cell_of_row _ _ i _ _ _ HX.out
  dsimp only at c1
  by_cases hr : v < lo ∨ hi ≤ v
  · rw [if_pos hr] at HSR
    rcases (show v < lo ∨ (lo ≤ v ∧ hi ≤ v) by omega) with h1 | ⟨h1, h2⟩
    all_goals
      clear hr
      go_wp2_with fail
      go_ret2
      rw [HSR.out]
      exact ⟨rfl, HB2.out⟩
  rw [if_neg hr] at HSR
  have hr1 : lo ≤ v := by omega
  have hr2 : v < hi := by omega
  clear hr
  have hk := fun wx : World => run_bytes_of_string (P := Try.prog) wx 9 58 5 s Try.underlying9 Try.underlying58 Try.underlying5
  have hby := (Kt.Byt.of_string wc s (grownCap wc s.size 0 5) 5).drew
  have hwz : w.heap.size < wc.heap.size := (Array.getElem?_eq_some_iff.1 HX.out).1
  have hcap := grownCap_ge wc s.size 0 5
  go_wp2_with fail
  have HBX : Hid (BxF ⟨A, N, a2, a3, a4, a5, a6⟩ w.heap.size (wc.alloc (.cells (bytesRow s (grownCap wc s.size 0 5)) 5 ((bytesRow s (grownCap wc s.size 0 5)).size, (bytesRow s (grownCap wc s.size 0 5)).size + 1))).drew) := Lib.hid ((Below.heap_alloc _ _ _ hwz).trans HX.out)
  have HB3 := Lib.hid ((Kt.balloc HB2.out (.cells (bytesRow s (grownCap wc s.size 0 5)) 5 ((bytesRow s (grownCap wc s.size 0 5)).size, (bytesRow s (grownCap wc s.size 0 5)).size + 1))).drew)
  clear hk c1 HX HB2
  generalize (wc.alloc (.cells (bytesRow s (grownCap wc s.size 0 5)) 5 ((bytesRow s (grownCap wc s.size 0 5)).size, (bytesRow s (grownCap wc s.size 0 5)).size + 1))).drew = W3 at *
  generalize grownCap wc s.size 0 5 = cap at *
  generalize wc.heap.size = g at *
  have hlen : s.data.toList.length = s.size := by simp
  obtain ⟨l, hl⟩ : ∃ l, s.data.toList = l := ⟨_, rfl⟩
  rw [hl] at hby hlen HSR
  have HBY := Lib.hid hby
  clear hby hl
  go_loopw [49] (fun i wr => ∃ k : Nat, k ≤ N ∧ i = .int .i64 k ∧ Hid (Kt.Byt wr g (putN l A v k)) ∧ Hid (BxF ⟨A, N, a2, a3, a4, a5, a6⟩ w.heap.size wr) ∧ Hid (Below w.heap.size w wr)) (fun i _ => N - (intOf i).toNat)
  case atStart => exact ⟨0, Nat.zero_le _, rfl, HBY, HBX, HB3⟩
  case round =>
    clear HBY HBX HB3
    obtain ⟨k, hk, rfl, HBY, HBX, HB3⟩ := hrel
    have c1 := fun i => cell_of_row _ _ i _ _ _ HBX.out
    dsimp only at c1
    by_cases hlt : k < N
    · obtain ⟨p, hp⟩ : ∃ p, A + k = p := ⟨_, rfl⟩
      have hp1 : (A : Int) + k = p := by omega
      have hp2 : p ≤ 600 := by omega
      obtain ⟨r, hr⟩ : ∃ r, p / 8 = r := ⟨_, rfl⟩
      have hrl : r < (putN l A v k).length := by rw [putN_len]; omega
      have hrs1 : (r : Int) < s.size := by rw [putN_len] at hrl; omega
      have hr1 : IntKind.i64.wrap ((p : Int) / 8) = r := by rw [IntKind.wrap_i64]; omega
      obtain ⟨e, he⟩ : ∃ e, p % 8 = e := ⟨_, rfl⟩
      have he1 : (p : Int).tmod 8 = e := by rw [Int.tmod_eq_emod_of_nonneg (by omega)]; omega
      have he7 : e ≤ 7 := by omega
      have x0 := HBY.out.1 r hrl
      have x1 := HBY.out.2 r hrl
      obtain ⟨x, hx⟩ : ∃ x, (putN l A v k)[r] = x := ⟨_, rfl⟩
      have FB := set_byte x.toNat e k v x.toNat_lt he7
      have HNX : Hid (putN l A v (k + 1) = (putN l A v k).set r (UInt8.ofNat (nbN x.toNat e (vb v k)))) := Lib.hid (by
        show putB (putN l A v k) (A + k) (vb v k) = _
        unfold putB
        subst hr he hp
        rw [List.getD_eq_getElem?_getD, List.getElem?_eq_getElem hrl, ← hx]; rfl)
      rw [hx] at x0
      obtain ⟨y, hy⟩ : ∃ y, UInt8.ofNat (nbN x.toNat e (vb v k)) = y := ⟨_, rfl⟩
      rw [hy] at FB HNX
      have HRL := Lib.hid hrl
      clear hx hy hp hr he hrl
      go_wp2_with fail
      go_roundw
      case rel =>
        refine ⟨k + 1, by omega, by go_num, Lib.hid ?_, Lib.hid ((heap_setCell_other _ _ _ _ (by show w.heap.size ≠ g; omega)).trans HBX.out), Lib.hid (HB3.out.setCell (p := ⟨g, r, none⟩) (by show w.heap.size ≤ g; omega) _)⟩
        rw [HNX.out]
        exact HBY.out.set r HRL.out y
      case measure => (simp [intOf] <;> omega)
    · obtain rfl : k = N := by omega
      have hcv := HBY.out.back (P := Try.prog) 58 9 5 s.size cap (by rw [putN_len]; omega) Try.underlying58 Try.underlying5 Try.underlying9
      clear hlt hk
      go_wp2_with fail
      go_ret2
      rw [HSR.out]
      exact ⟨rfl, HB3.out⟩
theorem set_bad (f : Fld) (s : ByteArray) (v : Int) (w : World) (hs : s.size ≤ reachBytes) (h : chkF f s.size ≠ 0) :
    Calls Try.prog 17 #[f.val, .string s, .int .i64 v] w fun e w' => e = .returned (.tuple #[.string ⟨#[]⟩, .int .i64 (chkF f s.size)]) ∧ Below w.heap.size w w' := by
  have HC := Lib.hid (fun W => chkF_calls f s W hs)
  obtain ⟨n, hn⟩ : ∃ n, chkF f s.size = n := ⟨_, rfl⟩
  rw [hn] at HC h ⊢
  have e0 : (n != 0) = true := by rw [bne_iff_ne]; exact h
  obtain ⟨a0, a1, a2, a3, a4, a5, a6⟩ := f
  have HB := Lib.hid (Kt.balloc (Below.refl _ w) (.cells #[.int .i64 a0, .int .i64 a1, .int .i64 a2, .int .i64 a3, .int .i64 a4, .int .i64 a5, .bool a6] 29))
  clear hn h hs
  unfold Fld.val
  dsimp only
  go_enter Try.func17, Try.ntmps17
  go_wp2_with fail
  refine (HC.out _).mono ?_
  rintro en w1 ⟨rfl, hb⟩
  have HB1 := Lib.hid (Kt.bthen HB.out hb)
  clear hb
  go_wp2_with fail
  go_ret2
  exact ⟨rfl, HB1.out⟩
theorem set_calls (f : Fld) (s : ByteArray) (v : Int) (w : World) (hs : s.size ≤ reachBytes) (hv : -9223372036854775808 ≤ v ∧ v ≤ 9223372036854775807) :
    Calls Try.prog 17 #[f.val, .string s, .int .i64 v] w fun e w' => e = .returned (.tuple #[.string (setR f s v).1, .int .i64 (setR f s v).2]) ∧ Below w.heap.size w w' := by
  by_cases h : chkF f s.size = 0
  · obtain ⟨A, N, h1, h2, h3, h4, h5, h6⟩ := chk_zeroF h
    obtain ⟨a0, a1, a2, a3, a4, a5, a6⟩ := f
    dsimp only at h1 h2
    subst h1 h2
    exact set_good A N a2 a3 a4 a5 a6 s v w hs h3 h4 h5 h6 hv
  · have e : setR f s v = (⟨#[]⟩, chkF f s.size) := if_neg h
    rw [e]
    exact set_bad f s v w hs h
/-! ### What is set, plainly -/
/-- bit k of a list -/
def btl (l : List UInt8) (k : Nat) : Nat := (l.getD (k / 8) 0).toNat / 2 ^ (k % 8) % 2
theorem bt_l (s : ByteArray) (k : Nat) : bt s k = btl s.data.toList k := rfl
theorem btl_put (l : List UInt8) (k b j : Nat) (hk : k / 8 < l.length) (hb : b < 2) : btl (putB l k b) j = if j = k then b else btl l j := by
  have hx := (l.getD (k / 8) 0).toNat_lt
  have hn := nb_table ⟨_, hx⟩ ⟨k % 8, by omega⟩ ⟨b, hb⟩
  dsimp only at hn
  have hu : (UInt8.ofNat (nbN (l.getD (k / 8) 0).toNat (k % 8) b)).toNat = nbN (l.getD (k / 8) 0).toNat (k % 8) b := by rw [UInt8.toNat_ofNat', Nat.mod_eq_of_lt hn.2]
  unfold btl putB
  by_cases h8 : j / 8 = k / 8
  · rw [h8]
    have hg : (l.set (k / 8) (UInt8.ofNat (nbN (l.getD (k / 8) 0).toNat (k % 8) b))).getD (k / 8) 0 = UInt8.ofNat (nbN (l.getD (k / 8) 0).toNat (k % 8) b) := by
      rw [List.getD_eq_getElem?_getD, List.getElem?_set_self hk]; rfl
    rw [hg, hu]
    have h3 := nb_bits ⟨_, hx⟩ ⟨k % 8, by omega⟩ ⟨b, hb⟩ ⟨j % 8, by omega⟩
    dsimp only at h3
    rw [h3]
    by_cases he : j = k
    · subst he; simp
    · rw [if_neg he, if_neg (by intro h; have := congrArg Fin.val h; dsimp only at this; omega)]
  · have hg : (l.set (k / 8) (UInt8.ofNat (nbN (l.getD (k / 8) 0).toNat (k % 8) b))).getD (j / 8) 0 = l.getD (j / 8) 0 := by
      simp only [List.getD_eq_getElem?_getD]
      rw [List.getElem?_set_ne (by omega)]
    rw [hg, if_neg (by intro e; subst e; exact h8 rfl)]
theorem btl_putN (l : List UInt8) (a : Nat) (v : Int) (j : Nat) : ∀ n, a + n ≤ 8 * l.length → btl (putN l a v n) j = if a ≤ j ∧ j < a + n then vb v (j - a) else btl l j
  | 0, _ => by rw [if_neg (by omega)]; rfl
  | n + 1, h => by
    show btl (putB (putN l a v n) (a + n) (vb v n)) j = _
    rw [btl_put _ _ _ _ (by rw [putN_len]; omega) (vb_lt v n), btl_putN l a v j n (by omega)]
    by_cases e : j = a + n
    · subst e
      rw [if_pos rfl, if_pos (by omega), Nat.add_sub_cancel_left]
    · rw [if_neg e]
      by_cases h2 : a ≤ j ∧ j < a + n
      · rw [if_pos h2, if_pos (by omega)]
      · rw [if_neg h2, if_neg (by omega)]
/-- texts of one length with the same bits are the same -/
theorem same_bits (l m : List UInt8) (hl : l.length = m.length) (h : ∀ j, j < 8 * l.length → btl l j = btl m j) : l = m := by
  apply List.ext_getElem hl
  intro i h1 h2
  have key : ∀ b, b < 8 → (l[i]).toNat / 2 ^ b % 2 = (m[i]).toNat / 2 ^ b % 2 := by
    intro b hb
    have := h (8 * i + b) (by omega)
    unfold btl at this
    rw [show (8 * i + b) / 8 = i by omega, show (8 * i + b) % 8 = b by omega, List.getD_eq_getElem?_getD, List.getD_eq_getElem?_getD, List.getElem?_eq_getElem h1, List.getElem?_eq_getElem h2] at this
    exact this
  apply UInt8.toNat_inj.1
  have hx := (l[i]).toNat_lt
  have hy := (m[i]).toNat_lt
  have k0 := key 0 (by omega)
  have k1 := key 1 (by omega)
  have k2 := key 2 (by omega)
  have k3 := key 3 (by omega)
  have k4 := key 4 (by omega)
  have k5 := key 5 (by omega)
  have k6 := key 6 (by omega)
  have k7 := key 7 (by omega)
  simp only [Nat.reducePow] at k0 k1 k2 k3 k4 k5 k6 k7
  omega
theorem two_mod (v p : Int) (hp : 0 < p) : v % (p * 2) = v % p + p * (v / p % 2) := by
  have h1 := Int.emod_nonneg v (Int.ne_of_gt hp)
  have h2 := Int.emod_lt_of_pos v hp
  have h3 := Int.mul_ediv_add_emod v p
  have h4 := Int.mul_ediv_add_emod (v / p) 2
  have h5 : v / p % 2 = 0 ∨ v / p % 2 = 1 := by omega
  have e : v = (v % p + p * (v / p % 2)) + (p * 2) * (v / p / 2) := by
    have : p * (v / p) = p * (v / p % 2) + p * 2 * (v / p / 2) := by
      rw [Int.mul_assoc, ← Int.mul_add]
      congr 1
      omega
    omega
  have e2 : v % (p * 2) = (v % p + p * (v / p % 2)) % (p * 2) := by
    conv => lhs; rw [e]
    exact Int.add_mul_emod_self_left _ _ _
  rw [e2]
  refine Int.emod_eq_of_lt ?_ ?_
  · rcases h5 with h5 | h5 <;> rw [h5] <;> omega
  · rcases h5 with h5 | h5 <;> rw [h5] <;> omega
/-- the value's lower bits, as a number -/
theorem raw_put (l : List UInt8) (a : Nat) (v : Int) (n : Nat) (s : ByteArray) (hs : s.data.toList = putN l a v n) (h : a + n ≤ 8 * l.length) : ∀ k, k ≤ n → (rawN s a k : Int) = v % 2 ^ k
  | 0, _ => by simp [rawN]
  | k + 1, hk => by
    have ih := raw_put l a v n s hs h k (by omega)
    have hb : bt s (a + k) = vb v k := by
      rw [bt_l, hs, btl_putN l a v _ n h, if_pos (by omega), Nat.add_sub_cancel_left]
    show ((rawN s a k + bt s (a + k) * 2 ^ k : Nat) : Int) = _
    rw [hb]
    have hv : (vb v k : Int) = v / 2 ^ k % 2 := by unfold vb; omega
    have e : ((rawN s a k + vb v k * 2 ^ k : Nat) : Int) = (rawN s a k : Int) + (vb v k : Int) * 2 ^ k := by simp
    rw [e, ih, hv, Int.pow_succ, Int.mul_comm (v / 2 ^ k % 2), two_mod v _ (Int.pow_pos (by omega))]
end Go.Proofs.Ytinhnlfhgfmagaa
