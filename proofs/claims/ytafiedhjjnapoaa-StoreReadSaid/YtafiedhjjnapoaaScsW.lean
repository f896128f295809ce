/- Disks: first, long, fields, Check walked. -/
import Derived.Test.YtafiedhjjnapoaaSlm
import Derived.Test.YtafiedhjjnapoaaStc
import Derived.Test.YtafiedhjjnapoaaShelf
import Derived.Test.YtafiedhjjnapoaaScsR
namespace Go.Proofs.Ytafiedhjjnapoaa
open Go.RowKit Go.Proofs.Ytafiedhjjnapoaa.Scs
/-- a text made of a row of bytes that lies in a block just made -/
theorem cvn (ns : List Int) (cs : Array Value) (n : Nat) (hcs : cs = (ns.map (Value.int .u8)).toArray) (hn : n = ns.length) (w : World) :
    (convert 56 9 (.slice (some ⟨w.heap.size, 0, none⟩) n n)).run Try.prog (w.alloc (.cells cs 5)) = .ok (.string ⟨(ns.map fun n => UInt8.ofNat n.toNat).toArray⟩) (w.alloc (.cells cs 5)) := by
  refine Kt.conv_ns _ 56 9 5 w.heap.size 0 n n ns hn Try.underlying56 Try.underlying5 Try.underlying9 (fun j hj => ?_)
  have := cell_of_row _ _ j _ _ _ (heap_alloc_new w (.cells cs 5))
  rw [Nat.zero_add, this, hcs]
  simp [List.getElem?_eq_getElem hj]
theorem first_calls (s : ByteArray) (n : Nat) (hn : n < 256) (w : World) : Calls Try.prog 83 #[.string s, .int .u8 n] w fun e w' => e = .returned (.string (first s n)) ∧ w' = w := by
  go_enter Try.func83, Try.ntmps83
  go_wp2_with fail
  go_ret
  refine ⟨?_, rfl⟩
  have e : (min (s.size : Int) (n : Int)).toNat = min s.size n := by omega
  show Ending.returned (.string (s.extract 0 (min (s.size : Int) (n : Int)).toNat)) = _
  rw [e]; rfl
theorem u8of (z : Int) : UInt8.ofNat (z % 256).toNat = UInt8.ofNat (z.toNat) ∨ z < 0 := by
  by_cases h : z < 0
  · exact .inr h
  · left
    apply UInt8.toNat_inj.1
    rw [u8m, u8m]; omega
set_option maxRecDepth 100000 in
theorem long_calls (n : Nat) (hn : n < 4294967296) (w : World) : Calls Try.prog 53 #[.int .i64 n] w fun e w' => e = .returned (.string (four n)) ∧ Below w.heap.size w w' := by
  obtain ⟨z, hz, HZ⟩ : ∃ z : Int, (n : Int) = z ∧ Hid (z = n ∧ n < 4294967296) := ⟨n, rfl, Lib.hid ⟨rfl, hn⟩⟩
  rw [hz]
  clear hz hn
  have CV := cvn [z / 16777216 % 256, z / 65536 % 256, z / 256 % 256, z % 256] #[.int .u8 (z / 16777216 % 256), .int .u8 (z / 65536 % 256), .int .u8 (z / 256 % 256), .int .u8 (z % 256)] 4 rfl rfl w
  go_enter Try.func53, Try.ntmps53
  go_wp2_with fail
  go_ret
  refine ⟨?_, Kt.balloc (Below.refl _ _) _⟩
  have e : ∀ a : Nat, UInt8.ofNat ((z / (a : Int)) % 256).toNat = UInt8.ofNat (n / a) := fun a => by
    rw [HZ.out.1]
    apply UInt8.toNat_inj.1
    rw [u8m, u8m]
    have : ((n : Int) / (a : Int)) = ((n / a : Nat) : Int) := by norm_cast
    rw [this]; omega
  have e1 := e 16777216
  have e2 := e 65536
  have e3 := e 256
  have e4 : UInt8.ofNat (z % 256).toNat = UInt8.ofNat n := by
    have := e 1
    rw [Nat.div_one] at this
    rw [← this]; simp
  show Ending.returned (.string ⟨#[UInt8.ofNat (z / 16777216 % 256).toNat, UInt8.ofNat (z / 65536 % 256).toNat, UInt8.ofNat (z / 256 % 256).toNat, UInt8.ofNat (z % 256).toNat]⟩) = _
  unfold four
  rw [← e1, ← e2, ← e3, ← e4]; rfl
/-- numbers as ints of the machine -/
def ints (u : List Nat) : List Value := u.map fun (n : Nat) => Value.int .i64 (n : Int)
/-- what fields tells -/
def FieldsIs (op : Nat) (w : World) (e : Ending) (w' : World) : Prop :=
  (used op = none ∧ e = .returned (.tuple #[.slice none 0 0, .bool false]) ∧ w' = w) ∨ ∃ u A c, used op = some u ∧ e = .returned (.tuple #[.slice A u.length c, .bool true]) ∧ Kt.Ar w' (.slice A u.length c) 1 u.length (ints u) ∧ Below w.heap.size w w'
theorem ar_new (w : World) (u : List Nat) (cs : Array Value) (hc : cs = (ints u).toArray) (n : Nat) (hn : n = u.length) : Kt.Ar (w.alloc (.cells cs 3)) (.slice (some ⟨w.heap.size, 0, none⟩) n n) 1 n (ints u) := by
  subst hc hn
  have := Kt.Ar.new w (ints u).toArray 3 u.length 1 (by simp [ints])
  simpa using this
theorem ar_nil (w : World) : Kt.Ar w (.slice none 0 0) 1 0 (ints []) := ⟨rfl, none, 0, rfl, Nat.le_refl _, fun h => absurd h (by omega)⟩
set_option maxRecDepth 100000 in
set_option maxHeartbeats 1600000 in
theorem fields_calls (op : Nat) (hop : op < 256) (w : World) : Calls Try.prog 85 #[.int .u8 op] w (FieldsIs op w) := by
  by_cases h0 : op = 0
  · subst h0
    go_enter Try.func85, Try.ntmps85
    go_wp2_with fail
    refine bodyPost_ret (v := .tuple #[.slice none 0 0, .bool true]) (by simp [results, Try.results85, go_sem]) rfl ?_
    exact .inr ⟨[], none, _, rfl, rfl, ar_nil _, Below.refl _ _⟩
  by_cases h37 : op = 37
  · subst h37
    go_enter Try.func85, Try.ntmps85
    go_wp2_with fail
    refine bodyPost_ret (v := .tuple #[.slice none 0 0, .bool true]) (by simp [results, Try.results85, go_sem]) rfl ?_
    exact .inr ⟨[], none, _, rfl, rfl, ar_nil _, Below.refl _ _⟩
  by_cases h3 : op = 3
  · subst h3
    go_enter Try.func85, Try.ntmps85
    go_wp2_with fail
    refine bodyPost_ret (v := .tuple #[.slice (some ⟨w.heap.size, 0, none⟩) 1 1, .bool true]) (by simp [results, Try.results85, go_sem]) rfl ?_
    exact .inr ⟨[4], _, _, rfl, rfl, ar_new w [4] _ rfl _ rfl, Kt.balloc (Below.refl _ _) _⟩
  by_cases h18 : op = 18
  · subst h18
    go_enter Try.func85, Try.ntmps85
    go_wp2_with fail
    refine bodyPost_ret (v := .tuple #[.slice (some ⟨w.heap.size, 0, none⟩) 1 1, .bool true]) (by simp [results, Try.results85, go_sem]) rfl ?_
    exact .inr ⟨[4], _, _, rfl, rfl, ar_new w [4] _ rfl _ rfl, Kt.balloc (Below.refl _ _) _⟩
  by_cases h26 : op = 26
  · subst h26
    go_enter Try.func85, Try.ntmps85
    go_wp2_with fail
    refine bodyPost_ret (v := .tuple #[.slice (some ⟨w.heap.size, 0, none⟩) 2 2, .bool true]) (by simp [results, Try.results85, go_sem]) rfl ?_
    exact .inr ⟨[2, 4], _, _, rfl, rfl, ar_new w [2, 4] _ rfl _ rfl, Kt.balloc (Below.refl _ _) _⟩
  by_cases h40 : op = 40
  · subst h40
    go_enter Try.func85, Try.ntmps85
    go_wp2_with fail
    refine bodyPost_ret (v := .tuple #[.slice (some ⟨w.heap.size, 0, none⟩) 6 6, .bool true]) (by simp [results, Try.results85, go_sem]) rfl ?_
    exact .inr ⟨[2, 3, 4, 5, 7, 8], _, _, rfl, rfl, ar_new w [2, 3, 4, 5, 7, 8] _ rfl _ rfl, Kt.balloc (Below.refl _ _) _⟩
  by_cases h42 : op = 42
  · subst h42
    go_enter Try.func85, Try.ntmps85
    go_wp2_with fail
    refine bodyPost_ret (v := .tuple #[.slice (some ⟨w.heap.size, 0, none⟩) 6 6, .bool true]) (by simp [results, Try.results85, go_sem]) rfl ?_
    exact .inr ⟨[2, 3, 4, 5, 7, 8], _, _, rfl, rfl, ar_new w [2, 3, 4, 5, 7, 8] _ rfl _ rfl, Kt.balloc (Below.refl _ _) _⟩
  by_cases h53 : op = 53
  · subst h53
    go_enter Try.func85, Try.ntmps85
    go_wp2_with fail
    refine bodyPost_ret (v := .tuple #[.slice (some ⟨w.heap.size, 0, none⟩) 6 6, .bool true]) (by simp [results, Try.results85, go_sem]) rfl ?_
    exact .inr ⟨[2, 3, 4, 5, 7, 8], _, _, rfl, rfl, ar_new w [2, 3, 4, 5, 7, 8] _ rfl _ rfl, Kt.balloc (Below.refl _ _) _⟩
  have hu : used op = none := by
    unfold used
    rw [if_neg (by omega), if_neg (by omega), if_neg (by omega), if_neg (by omega)]
  have f0 : ((op : Int) == 0) = false := beq_eq_false_iff_ne.2 (by omega)
  have f37 : ((op : Int) == 37) = false := beq_eq_false_iff_ne.2 (by omega)
  have f3 : ((op : Int) == 3) = false := beq_eq_false_iff_ne.2 (by omega)
  have f18 : ((op : Int) == 18) = false := beq_eq_false_iff_ne.2 (by omega)
  have f26 : ((op : Int) == 26) = false := beq_eq_false_iff_ne.2 (by omega)
  have f40 : ((op : Int) == 40) = false := beq_eq_false_iff_ne.2 (by omega)
  have f42 : ((op : Int) == 42) = false := beq_eq_false_iff_ne.2 (by omega)
  have f53 : ((op : Int) == 53) = false := beq_eq_false_iff_ne.2 (by omega)
  clear h0 h37 h3 h18 h26 h40 h42 h53
  have HU := Lib.hid hu
  clear hu hop
  generalize (op : Int) = z at *
  go_enter Try.func85, Try.ntmps85
  go_wp2_with fail
  refine bodyPost_ret (v := .tuple #[.slice none 0 0, .bool false]) (by simp [results, Try.results85, go_sem]) rfl ?_
  exact .inl ⟨HU.out, rfl, rfl⟩
end Go.Proofs.Ytafiedhjjnapoaa
