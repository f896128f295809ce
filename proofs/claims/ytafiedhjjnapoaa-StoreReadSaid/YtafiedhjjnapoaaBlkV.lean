/- bulk: small numbers, numbers out of texts. -/
import Derived.Test.YtafiedhjjnapoaaTri
import Derived.Test.YtafiedhjjnapoaaBlkP
import Derived.Test.YtafiedhjjnapoaaScsB
import Derived.BigQuiet
namespace Go.Proofs.Ytafiedhjjnapoaa
open Go.RowKit Go.Proofs.Ytafiedhjjnapoaa.Scs Go.Proofs.Ytafiedhjjnapoaa.Blk
def in32 (n : Int) : Bool := decide (0 ≤ n ∧ n < 4294967296)
theorem is32_calls (n : Int) (w : World) : Calls Try.prog 61 #[.int .i64 n] w fun e w' => e = .returned (.bool (in32 n)) ∧ w' = w := by
  by_cases h1 : n < 0
  · have e : in32 n = false := decide_eq_false (by omega)
    rw [e]
    have h1' : ¬ 0 ≤ n := by omega
    go_enter Try.func61, Try.ntmps61
    go_wp2
    go_ret
    exact ⟨rfl, rfl⟩
  · by_cases h2 : n < 4294967296
    · have e : in32 n = true := decide_eq_true (by omega)
      rw [e]
      have h1' : 0 ≤ n := by omega
      go_enter Try.func61, Try.ntmps61
      go_wp2
      go_ret
      exact ⟨rfl, rfl⟩
    · have e : in32 n = false := decide_eq_false (by omega)
      rw [e]
      have h1' : 0 ≤ n := by omega
      go_enter Try.func61, Try.ntmps61
      go_wp2
      go_ret
      exact ⟨rfl, rfl⟩
theorem cvV (ns : List Int) (cs : Array Value) (n : Nat) (hcs : cs = (ns.map (Value.int .u8)).toArray) (hn : n = ns.length) (w : World) :
    (convert 56 9 (.slice (some ⟨w.heap.size, 0, none⟩) n n)).run Try.prog (w.alloc (.cells cs 5)) = .ok (.string ⟨(ns.map fun n => UInt8.ofNat n.toNat).toArray⟩) (w.alloc (.cells cs 5)) :=
  Kt.cv_row ns cs n w.heap.size hcs hn (heap_alloc_new w _)
set_option maxRecDepth 100000 in
theorem blong_calls (n : Nat) (hn : n < 4294967296) (w : World) : Calls Try.prog 62 #[.int .i64 n] w fun e w' => e = .returned (.string (le4 n)) ∧ Below w.heap.size w w' := by
  obtain ⟨z, hz, HZ⟩ : ∃ z : Int, (n : Int) = z ∧ Hid (z = n ∧ n < 4294967296) := ⟨n, rfl, Lib.hid ⟨rfl, hn⟩⟩
  rw [hz]
  clear hz hn
  have CV := cvV [z % 256, z / 256 % 256, z / 65536 % 256, z / 16777216 % 256] #[.int .u8 (z % 256), .int .u8 (z / 256 % 256), .int .u8 (z / 65536 % 256), .int .u8 (z / 16777216 % 256)] 4 rfl rfl w
  go_enter Try.func62, Try.ntmps62
  go_wp2_with fail
  go_ret
  refine ⟨?_, Kt.balloc (Below.refl _ _) _⟩
  have e : ∀ a : Nat, UInt8.ofNat ((z / (a : Int)) % 256).toNat = UInt8.ofNat (n / a) := fun a => by
    rw [HZ.out.1]
    apply UInt8.toNat_inj.1
    rw [u8m, u8m]
    have : ((n : Int) / (a : Int)) = ((n / a : Nat) : Int) := by norm_cast
    rw [this]; omega
  have e1 := e 16777216
  have e2 := e 65536
  have e3 := e 256
  have e4 : UInt8.ofNat (z % 256).toNat = UInt8.ofNat n := by
    have := e 1
    rw [Nat.div_one] at this
    rw [← this]; simp
  show Ending.returned (.string ⟨#[UInt8.ofNat (z % 256).toNat, UInt8.ofNat (z / 256 % 256).toNat, UInt8.ofNat (z / 65536 % 256).toNat, UInt8.ofNat (z / 16777216 % 256).toNat]⟩) = _
  unfold le4
  rw [← e1, ← e2, ← e3, ← e4]; rfl
theorem or_sum2 (x y : Nat) (i : Nat) (a : Nat) (hx : y = a * 2 ^ i) (hy : x < 2 ^ i) (h : x < 9223372036854775808) (h2 : y < 9223372036854775808) : bits .or .i64 (x : Int) (y : Int) = ((x + y : Nat) : Int) := by
  have e := or_sum y x i a hx hy h2 h
  rw [Kt.i64_or_nat _ _ h2 h, Nat.or_comm, ← Kt.i64_or_nat _ _ h h2] at e
  rw [e, Nat.add_comm]
theorem num4_eq (x2 x3 x4 x5 : Nat) (h2 : x2 < 256) (h3 : x3 < 256) (h4 : x4 < 256) (h5 : x5 < 256) :
    bits .or .i64 (bits .or .i64 (bits .or .i64 (IntKind.i64.wrap (x2 : Int)) (IntKind.i64.wrap (IntKind.i64.wrap (x3 : Int) * 256))) (IntKind.i64.wrap (IntKind.i64.wrap (x4 : Int) * 65536))) (IntKind.i64.wrap (IntKind.i64.wrap (x5 : Int) * 16777216)) = ((x2 + x3 * 256 + x4 * 65536 + x5 * 16777216 : Nat) : Int) := by
  have a3 : IntKind.i64.wrap (IntKind.i64.wrap (x3 : Int) * 256) = ((x3 * 256 : Nat) : Int) := sh_in x3 256 (by omega) (by omega)
  have a4 : IntKind.i64.wrap (IntKind.i64.wrap (x4 : Int) * 65536) = ((x4 * 65536 : Nat) : Int) := sh_in x4 65536 (by omega) (by omega)
  have a5 : IntKind.i64.wrap (IntKind.i64.wrap (x5 : Int) * 16777216) = ((x5 * 16777216 : Nat) : Int) := sh_in x5 16777216 (by omega) (by omega)
  have a2 := wr_in x2 (by omega)
  rw [a2, a3, a4, a5]
  rw [or_sum2 _ _ 8 x3 (by omega) (by omega) (by omega) (by omega)]
  rw [or_sum2 _ _ 16 x4 (by omega) (by omega) (by omega) (by omega)]
  rw [or_sum2 _ _ 24 x5 (by omega) (by omega) (by omega) (by omega)]
set_option maxRecDepth 100000 in
set_option maxHeartbeats 1600000 in
theorem longAt_calls (s : ByteArray) (i : Nat) (hi : i = 4 ∨ i = 8) (hs : i + 4 ≤ s.size) (w : World) : Calls Try.prog 68 #[.string s, .int .i64 i] w fun e w' => e = .returned (.int .i64 (num4 s i)) ∧ Below w.heap.size w w' := by
  have HV : Hid (bits .or .i64 (bits .or .i64 (bits .or .i64 (IntKind.i64.wrap ((s[i]'(by omega)).toNat : Int)) (IntKind.i64.wrap (IntKind.i64.wrap ((s[i + 1]'(by omega)).toNat : Int) * 256))) (IntKind.i64.wrap (IntKind.i64.wrap ((s[i + 2]'(by omega)).toNat : Int) * 65536))) (IntKind.i64.wrap (IntKind.i64.wrap ((s[i + 3]'(by omega)).toNat : Int) * 16777216)) = (num4 s i : Int)) := Lib.hid (by
    have b2 := bt_get s i (by omega); have b3 := bt_get s (i + 1) (by omega); have b4 := bt_get s (i + 2) (by omega); have b5 := bt_get s (i + 3) (by omega)
    rw [← b2, ← b3, ← b4, ← b5]
    exact num4_eq _ _ _ _ (bt_lt _ _) (bt_lt _ _) (bt_lt _ _) (bt_lt _ _))
  rcases hi with rfl | rfl
  · have h0 : (4 : Int) < s.size := by omega
    have h1 : (5 : Int) < s.size := by omega
    have h2 : (6 : Int) < s.size := by omega
    have h3 : (7 : Int) < s.size := by omega
    go_enter Try.func68, Try.ntmps68
    go_wp2_with fail
    go_quiet (fail)
    go_wp2_with fail
    have hv : bits .or .i64 (bits .or .i64 (bits .or .i64 (IntKind.i64.wrap ((s[4]'(by omega)).toNat : Int)) (IntKind.i64.wrap (IntKind.i64.wrap ((s[5]'(by omega)).toNat : Int) * 256))) (IntKind.i64.wrap (IntKind.i64.wrap ((s[6]'(by omega)).toNat : Int) * 65536))) (IntKind.i64.wrap (IntKind.i64.wrap ((s[7]'(by omega)).toNat : Int) * 16777216)) = (num4 s 4 : Int) := HV.out
    refine bodyPost_ret (v := .int .i64 (num4 s 4)) (by simp [results, Try.results68]; simp only [IntWalk.i64_left] at hv; exact hv) rfl ⟨rfl, bdrewN (Below.refl _ _) _⟩
  · have h0 : (8 : Int) < s.size := by omega
    have h1 : (9 : Int) < s.size := by omega
    have h2 : (10 : Int) < s.size := by omega
    have h3 : (11 : Int) < s.size := by omega
    go_enter Try.func68, Try.ntmps68
    go_wp2_with fail
    go_quiet (fail)
    go_wp2_with fail
    have hv : bits .or .i64 (bits .or .i64 (bits .or .i64 (IntKind.i64.wrap ((s[8]'(by omega)).toNat : Int)) (IntKind.i64.wrap (IntKind.i64.wrap ((s[9]'(by omega)).toNat : Int) * 256))) (IntKind.i64.wrap (IntKind.i64.wrap ((s[10]'(by omega)).toNat : Int) * 65536))) (IntKind.i64.wrap (IntKind.i64.wrap ((s[11]'(by omega)).toNat : Int) * 16777216)) = (num4 s 8 : Int) := HV.out
    refine bodyPost_ret (v := .int .i64 (num4 s 8)) (by simp [results, Try.results68]; simp only [IntWalk.i64_left] at hv; exact hv) rfl ⟨rfl, bdrewN (Below.refl _ _) _⟩
end Go.Proofs.Ytafiedhjjnapoaa
