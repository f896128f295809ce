/- The laws of package crc, walked: the sum of three texts' sum. -/
import Derived.Test.YtikikghahedeoaaCrcN
import Derived.Deep.RegionHeld3
import Derived.Laws.Pointers
namespace Go.Proofs.Ytikikghahedeoaa
open Go.RowKit Go.Proofs.Ytikikghahedeoaa.CrcP
def xs3 (a b c : ByteArray) (k : Nat) : List UInt8 := List.zipWith (· ^^^ ·) (List.zipWith (· ^^^ ·) (a.data.toList.take k) (b.data.toList.take k)) (c.data.toList.take k)
theorem xs3_succ (a b c : ByteArray) (k : Nat) (ha : k < a.size) (hb : k < b.size) (hc : k < c.size) : xs3 a b c (k + 1) = xs3 a b c k ++ [a[k] ^^^ b[k] ^^^ c[k]] := by
  have la : k < a.data.toList.length := by simpa using ha
  have lb : k < b.data.toList.length := by simpa using hb
  have lc : k < c.data.toList.length := by simpa using hc
  unfold xs3
  rw [Kt.take_snoc a k ha, Kt.take_snoc b k hb, Kt.take_snoc c k hc, List.zipWith_append (by simp; omega), List.zipWith_append (by simp; omega)]
  rfl
theorem xs3_len (a b c : ByteArray) (k : Nat) (ha : k ≤ a.size) (hb : k ≤ b.size) (hc : k ≤ c.size) : (xs3 a b c k).length = k := by
  simp [xs3]; omega
theorem CrcO.xor3 (a b c : UInt8) : Go.bits BinOp.xor IntKind.u8 (((a ^^^ b).toNat : Nat) : Int) (c.toNat : Int) = (((a ^^^ b ^^^ c).toNat : Nat) : Int) := CrcN.xor8 _ _
def u8v (b : UInt8) : Value := .int .u8 (b.toNat : Int)
theorem CrcO.info : (Try.prog.info? 5).map (fun i => (i.zero, i.size, i.bytes)) = some (some (.int .u8 0), 1, 1) := by kernel_rfl
theorem CrcO.fin (a b c : ByteArray) (N X Y Z : Nat) (hN : N = min (min a.size b.size) c.size) (hX : X = six (a.data.toList.take N)) (hY : Y = six (b.data.toList.take N)) (hZ : Z = six (c.data.toList.take N)) :
    six (xs3 a b c N) = X ^^^ Y ^^^ Z := by
  rw [hX, hY, hZ]
  exact linear_law _ _ _ _ (by simp; omega) (by simp; omega) rfl
theorem CrcO.back (a b c : ByteArray) (N : Nat) (ha : N ≤ a.size) (hb : N ≤ b.size) (hc : N ≤ c.size) (v : Value) (wr : World) (base : Nat) (h : wr.ownsRow base 5 1 v N ((xs3 a b c N).map u8v)) :
    (convert 27 9 v).run Try.prog wr.drew = .ok (.string ⟨(xs3 a b c N).toArray⟩) wr.drew := by
  by_cases h0 : 0 < N
  · obtain ⟨g, cap, rfl, _, _, hcell⟩ := Kt.own_cells h h0
    refine Kt.conv_back (P := Try.prog) wr.drew 27 9 5 g 0 N cap (xs3 a b c N) (xs3_len a b c N ha hb hc).symm Try.underlying27 Try.underlying5 Try.underlying9 (fun j hj => ?_)
    have := hcell j (by simpa using hj)
    show wr.cell? _ = _
    rw [this]; simp [u8v]
  · obtain rfl : N = 0 := by omega
    rcases h.2 with ⟨rfl, _⟩ | ⟨g, cap, cur, rfl, _⟩
    · exact run_convert_bytes_nil _ 27 5 Try.underlying27 Try.underlying5 0 0 9 Try.underlying9
    · exact Kt.conv_back (P := Try.prog) wr.drew 27 9 5 g 0 0 cap [] rfl Try.underlying27 Try.underlying5 Try.underlying9 (fun j hj => by cases hj)
set_option maxHeartbeats 1600000 in
theorem linear_walk0 (a b c : ByteArray) (ha : a.size ≤ 140737488351232) (hb : b.size ≤ 140737488351232) (hc : c.size ≤ 140737488351232) (w : World) :
    Calls Try.prog 4 #[.string a, .string b, .string c] w fun e w' => e = .returned (.bool true) ∧ Below w.heap.size w w' := by
  by_cases hba : b.size < a.size
  all_goals
    go_enter Try.func4, Try.ntmps4
    go_wp2
  all_goals
    go_loopw [8, 9, 18] (fun v x i wr => ∃ (k : Nat), k ≤ min (min a.size b.size) c.size ∧ i = .int .i64 k ∧ wr.ownsRow w.heap.size 5 1 v k ((xs3 a b c k).map u8v) ∧ Below w.heap.size w wr) (fun _ _ i _ => min (min a.size b.size) c.size - (intOf i).toNat)
    case atStart => exact ⟨0, Nat.zero_le _, rfl, ⟨rfl, Or.inl ⟨rfl, rfl⟩⟩, Below.refl _ _⟩
    case round =>
      obtain ⟨k, hk, rfl, hown, hbel⟩ := hrel
      by_cases hlt : k < min (min a.size b.size) c.size
      · have hka : k < a.size := by omega
        have hkb : k < b.size := by omega
        have hkc : k < c.size := by omega
        have HS := Lib.hid (xs3_succ a b c k hka hkb hkc)
        have hx := CrcN.xor8 a[k] b[k]
        have hy := CrcO.xor3 a[k] b[k] c[k]
        generalize hq : a[k] ^^^ b[k] ^^^ c[k] = q at *
        clear hq
        generalize (a[k] ^^^ b[k]).toNat = p at *
        go_wp2
        have hB := hbel.size
        have hi0 : (0 : Int) ≤ (k : Int) := by omega
        have hia : (k : Int) < (a.size : Int) := by omega
        have hib : (k : Int) < (b.size : Int) := by omega
        have hic : (k : Int) < (c.size : Int) := by omega
        go_region_held3 (fun _ => True) (exact trivial)
          ((refine Kt.step_one wr rfl (.tmp 21) (.tmp 33) 27 rfl w.heap.size 5 (.int .u8 0) 1 1 CrcO.info Try.underlying27 rfl (by decide) _ k _ #[u8v q] _ 1 1 rfl rfl rfl rfl rfl (by simp [u8v, Value.oneCell']) hown (by unfold maxLen; omega) (by omega) hB ?_
            intro v' w3 hown3 hbel3))
        all_goals
          go_wp2
          go_roundw
          case rel => exact ⟨k + 1, by omega, by go_num, by rw [HS.out, List.map_append]; exact hown3, hbel.trans hbel3⟩
          case measure => simp [intOf]; omega
      · obtain rfl : k = min (min a.size b.size) c.size := by omega
        generalize hN : min (min a.size b.size) c.size = N at *
        have hNl : N ≤ a.size ∧ N ≤ b.size ∧ N ≤ c.size := by omega
        obtain ⟨X, hX⟩ : ∃ X, X = six (a.data.toList.take N) := ⟨_, rfl⟩
        obtain ⟨Y, hY⟩ : ∃ Y, Y = six (b.data.toList.take N) := ⟨_, rfl⟩
        obtain ⟨Z, hZ⟩ : ∃ Z, Z = six (c.data.toList.take N) := ⟨_, rfl⟩
        have hX2 : X < 65536 := by rw [hX]; exact more_lt _ _ (by omega)
        have hY2 : Y < 65536 := by rw [hY]; exact more_lt _ _ (by omega)
        have hZ2 : Z < 65536 := by rw [hZ]; exact more_lt _ _ (by omega)
        have hXY : X ^^^ Y < 65536 := xor_lt (k := 16) hX2 hY2
        have hlaw := Lib.hid (CrcO.fin a b c N X Y Z hN.symm hX hY hZ)
        have HX := Lib.hid hX; clear hX
        have HY := Lib.hid hY; clear hY
        have HZ := Lib.hid hZ; clear hZ
        have hx := u16_xor_nat X Y hX2 hY2
        generalize X ^^^ Y = V at *
        have hz := u16_xor_nat V Z hXY hZ2
        generalize V ^^^ Z = U at *
        have hcv := CrcO.back a b c N hNl.1 hNl.2.1 hNl.2.2 _ _ _ hown
        first
          | (have E : N = a.size := by omega
             have hge : ¬ N < a.size := by omega
             have g1 : a.size ≤ b.size := by omega
             have g2 : a.size ≤ c.size := by omega
             have HE := Lib.hid E; clear E)
          | (have E : N = b.size := by omega
             have hge : ¬ N < b.size := by omega
             have g1 : b.size ≤ a.size := by omega
             have g2 : b.size ≤ c.size := by omega
             have HE := Lib.hid E; clear E)
          | (have E : N = c.size := by omega
             have hge : ¬ N < c.size := by omega
             have g1 : c.size ≤ a.size := by omega
             have g2 : c.size ≤ b.size := by omega
             have HE := Lib.hid E; clear E)
        clear hown hN
        go_wp2
        refine wp_region_still_lit (by kernel_rfl) (by kernel_rfl) ?_
        change wpStill _ _ wr.drew _ _ _
        still_call (CrcN.lives_q _)
        iterate 3 still_step
        still_call (CrcN.six_x _ U (by rw [← hlaw.out]) (by unfold maxLen; show (xs3 a b c N).toArray.size ≤ _; simp [xs3_len a b c N hNl.1 hNl.2.1 hNl.2.2]; omega) _)
        iterate 3 still_step
        still_call (CrcN.six_x _ X (by rw [HX.out, HE.out]; first | (simp; done) | (rw [List.take_of_length_le (by simp)])) (by unfold maxLen; simp; omega) _)
        iterate 3 still_step
        still_call (CrcN.six_x _ Y (by rw [HY.out, HE.out]; first | (simp; done) | (rw [List.take_of_length_le (by simp)])) (by unfold maxLen; simp; omega) _)
        iterate 4 still_step
        still_call (CrcN.six_x _ Z (by rw [HZ.out, HE.out]; first | (simp; done) | (rw [List.take_of_length_le (by simp)])) (by unfold maxLen; simp; omega) _)
        iterate 4 still_step
        refine wpStill_nil ?_
        go_wp2
        go_ret
        exact ⟨Kt.ret_true (by simp), hbel.drew⟩
theorem linear_walk (v0 v1 v2 : Value) (w : World) (r0 : Fr.RdV w reachBytes .string v0) (r1 : Fr.RdV w reachBytes .string v1) (r2 : Fr.RdV w reachBytes .string v2) :
    Calls Try.prog 4 #[v0, v1, v2] w fun e w' => e = .returned (.bool true) ∧ Below w.heap.size w w' := by
  obtain ⟨a, e0, h0⟩ := r0; cases e0
  obtain ⟨b, e1, h1⟩ := r1; cases e1
  obtain ⟨c, e2, h2⟩ := r2; cases e2
  exact linear_walk0 a b c h0 h1 h2 w
end Go.Proofs.Ytikikghahedeoaa
