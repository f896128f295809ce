/- plugref.Codes walked. -/
import Derived.Test.YtfcmmeapinppaaaKeyB
namespace Go.Proofs.Ytfcmmeapinppaaa
open Go.RowKit
theorem infoI : (Try.prog.info? 3).map (fun i => (i.zero, i.size, i.bytes)) = some (some (.int .i64 0), 1, 8) := by kernel_rfl
def cds (l : List (Fin 256)) : List Value := l.map fun c => .int .i64 (c.val : Int)
theorem cds_one (l : List (Fin 256)) : ∀ u ∈ cds l, u.oneCell' = true := by
  intro u hu
  obtain ⟨c, _, rfl⟩ := List.mem_map.1 hu
  rfl
set_option maxRecDepth 100000 in
set_option maxHeartbeats 1600000 in
theorem codes_calls (h : Hd) (w : World) : Calls Try.prog 14 #[h.v] w fun e w' => ∃ A c, e = .returned (.slice A (codesL h 256).length c) ∧ Kt.Ar w' (.slice A (codesL h 256).length c) 1 (codesL h 256).length (cds (codesL h 256)) ∧ Below w.heap.size w w' := by
  have HHK := Lib.hid (fun c hc W => haskey_calls h c hc W)
  have HH0 := Lib.hid (heap_alloc_new w (.cells h.vs 27))
  have HB0 := Lib.hid (Kt.balloc (Below.refl _ w) (.cells h.vs 27))
  have HB9 : Hid (w.heap.size < (w.alloc (.cells h.vs 27)).heap.size) := Lib.hid (by rw [World.size_alloc]; omega)
  unfold Hd.v
  unfold Hd.v at HHK
  go_enter Try.func14, Try.ntmps14
  unfold Hd.vs at *
  go_wp2_with fail
  generalize w.alloc (.cells #[.int .u64 (h.a.toNat : Int), .int .u64 (h.b.toNat : Int), .int .u64 (h.c.toNat : Int), .int .u64 (h.d.toNat : Int)] 27) = w0 at *
  go_loopw [3, 5] (fun o i wr => ∃ (k : Nat) (A : Option Addr) (c : Nat), k ≤ 256 ∧ i = .int .i64 k ∧ o = .slice A (codesL h k).length c ∧ Hid (Kt.Sl wr (w.heap.size + 1) 3 1 (.slice A (codesL h k).length c) (codesL h k).length (cds (codesL h k))) ∧ Hid (wr.heap[w.heap.size]? = some (.cells #[.int .u64 (h.a.toNat : Int), .int .u64 (h.b.toNat : Int), .int .u64 (h.c.toNat : Int), .int .u64 (h.d.toNat : Int)] 27 (0, 0))) ∧ Hid (Below w.heap.size w wr)) (fun _ i _ => 256 - (intOf i).toNat)
  case atStart => exact ⟨0, none, 0, Nat.zero_le _, rfl, rfl, Lib.hid (Kt.Sl.nil _ _ _ _), HH0, HB0⟩
  case round =>
    clear HH0 HB0
    obtain ⟨k, A, c, hk, rfl, rfl, HS, HH, HB⟩ := hrel
    by_cases hlt : k < 256
    · have HC := Lib.hid (fun W => HHK.out k hlt W)
      have q := fun i => cell_of_row _ _ i _ _ _ HH.out
      have HCS := Lib.hid (codesL_succ h k hlt)
      have HLE := Lib.hid (codesL_len h k)
      have HLT := Lib.hid hlt
      have k1 : (k : Int) < 256 := by omega
      generalize hLk : codesL h k = L at *
      clear hLk
      cases hh : h.has k with
      | false =>
        rw [hh] at HC
        have HC2 : Hid (codesL h (k + 1) = L) := Lib.hid (by rw [HCS.out, hh]; rfl)
        clear HCS hh
        go_wp2_with fail
        refine (HC.out _).mono ?_
        rintro e w1 ⟨rfl, hb⟩
        have HS1 := Lib.hid (HS.out.on hb)
        have HH1 := Lib.hid (Kt.row_on hb HH.out)
        have HB1 := Lib.hid (Kt.bthen HB.out hb)
        clear hb HC HS HH HB q
        go_wp2_with fail
        have hl := HLT.out
        go_roundw
        case rel => exact ⟨k + 1, A, c, by omega, by go_num, by rw [HC2.out], by rw [HC2.out]; exact HS1, HH1, HB1⟩
        case measure => (simp [intOf] <;> omega)
      | true =>
        rw [hh] at HC
        have HC2 : Hid (codesL h (k + 1) = L ++ [⟨k, HLT.out⟩]) := Lib.hid (by rw [HCS.out, hh]; rfl)
        clear HCS hh
        go_wp2_with fail
        refine (HC.out _).mono ?_
        rintro e w1 ⟨rfl, hb⟩
        have HS1 := Lib.hid (HS.out.on hb)
        have HH1 := Lib.hid (Kt.row_on hb HH.out)
        have HB1 := Lib.hid (Kt.bthen HB.out hb)
        have HZ1 := Lib.hid ((Array.getElem?_eq_some_iff.1 HH1.out).1)
        clear hb HC HS HH HB q
        go_wp2_with
          (refine Kt.append_sl _ (by rfl) (.tmp 11) (.tmp 13) 39 rfl (w.heap.size + 1) 3 (.int .i64 0) 1 8 infoI Try.underlying39 rfl (by decide) _ _ _ rfl (HS1.out.alloc _) ⟨w1.heap.size, 0, none⟩ 1 1 [.int .i64 (k : Int)] rfl rfl (Kt.new_cells w1 #[.int .i64 (k : Int)] _) (by simp [Value.oneCell']) (by have := HLE.out; have := HLT.out; unfold maxLen; omega) (by have := HLE.out; have := HLT.out; omega) (by have := HZ1.out; rw [World.size_alloc]; omega) ?_
           intro A2 c2 w2 hs2 hb2 hz2 hk2 hl2)
        have hH2 : w2.heap[w.heap.size]? = _ := (hk2 w.heap.size (by have := HZ1.out; rw [World.size_alloc]; omega) (fun e => by have := (HS1.out.lt _ e).1; omega)).trans (Kt.row_on (Kt.balloc (Below.refl _ w1) (.cells #[.int .i64 (k : Int)] 3)) HH1.out)
        have hB2 : Below w.heap.size w w2 := (Kt.balloc HB1.out (.cells #[.int .i64 (k : Int)] 3)).trans (hb2.mono (Nat.le_succ _))
        have hL2 : (L ++ [(⟨k, HLT.out⟩ : Fin 256)]).length = L.length + 1 := by simp
        have hS2 : Kt.Sl w2 (w.heap.size + 1) 3 1 (.slice A2 (L.length + 1) c2) (L.length + 1) (cds (L ++ [⟨k, HLT.out⟩])) := by
          have : cds (L ++ [(⟨k, HLT.out⟩ : Fin 256)]) = cds L ++ [.int .i64 (k : Int)] := by simp [cds]
          rw [this]
          exact hs2
        go_roundw
        case rel => exact ⟨k + 1, A2, c2, by omega, by go_num, by rw [HC2.out, hL2], by rw [HC2.out, hL2]; exact Lib.hid hS2, Lib.hid hH2, Lib.hid hB2⟩
        case measure => (simp [intOf] <;> omega)
    · obtain rfl : k = 256 := by omega
      go_wp2_with fail
      go_ret
      exact ⟨A, c, rfl, Kt.Ar.of_sl HS.out, HB.out⟩
end Go.Proofs.Ytfcmmeapinppaaa
