/- The law BulkTagged, walked. -/
import Derived.Test.YtfhndjccghchjaaBlkO
namespace Go.Proofs.Ytfhndjccghchjaa
open Go.RowKit Go.Proofs.Ytfhndjccghchjaa.Scs Go.Proofs.Ytfhndjccghchjaa.Blk
/-- what holds of all that is served -/
theorem served_props (bs : List ByteArray) (s : Int) (x : Wr) (data : ByteArray) (hx : OkW x) :
    ((served bs s x data).2.2.2.2 ≠ 0 ∧ (served bs s x data).1 = bs ∧ (served bs s x data).2.1 = s ∧ (served bs s x data).2.2.1 = ByteArray.empty ∧ (served bs s x data).2.2.2.1 = ByteArray.empty) ∨
    ((served bs s x data).2.2.2.2 = 0 ∧ ∃ y : St, OkS y ∧ (served bs s x data).2.2.2.1 = statT y ∧ y.tag = x.tag ∧ y.res ≤ x.len ∧ ((served bs s x data).2.2.1.size : Int) ≤ x.len - y.res ∧ ((served bs s x data).2.2.1 = ByteArray.empty ∨ (x.inn = true ∧ y.code = 0))) := by
  have h1 := hx.t1; have h2 := hx.t2; have h3 := hx.l1; have h4 := hx.l2
  unfold served
  by_cases hk : chkD bs s ≠ 0
  · rw [if_pos hk]; exact .inl ⟨hk, rfl, rfl, rfl, rfl⟩
  rw [if_neg hk]
  by_cases hu : x.unit ≠ 0
  · rw [if_pos hu]; exact .inl ⟨by show (8 : Int) ≠ 0; decide, rfl, rfl, rfl, rfl⟩
  rw [if_neg hu]
  by_cases ha : agB (hostD x) x.len (means bs s x.cmd).1 (means bs s x.cmd).2
  · rw [if_pos ha]
    have hok : OkD bs s := chkD_ok.1 (by omega)
    obtain ⟨d1, d2⟩ := ag_le ha (means_tr hok x.cmd) h3
    by_cases hz : hostD x = 2 ∧ (data.size : Int) ≠ x.len
    · rw [if_pos hz]; exact .inl ⟨by show (3 : Int) ≠ 0; decide, rfl, rfl, rfl, rfl⟩
    · rw [if_neg hz]
      dsimp only
      generalize did bs s x.cmd (if hostD x = 2 then data.extract 0 (means bs s x.cmd).2.toNat else ByteArray.empty) = R
      refine .inr ⟨rfl, ⟨x.tag, x.len - (means bs s x.cmd).2, _⟩, ⟨h1, h2, by show 0 ≤ x.len - _; omega, by show x.len - _ < _; omega, ?_, ?_⟩, rfl, rfl, by show x.len - _ ≤ x.len; omega, ?_, ?_⟩
      · dsimp only; split <;> omega
      · dsimp only; split <;> omega
      · dsimp only
        split
        · rw [ByteArray.size_extract]; omega
        · show (0 : Int) ≤ _; omega
      · dsimp only
        split
        · next q =>
          refine .inr ⟨?_, if_pos q.1⟩
          have hh := q.2
          unfold hostD at hh
          split at hh
          · cases hh
          · split at hh
            · assumption
            · cases hh
        · exact .inl rfl
  · rw [if_neg ha]
    exact .inr ⟨rfl, ⟨x.tag, x.len, 2⟩, ⟨h1, h2, h3, h4, by show (0 : Int) ≤ 2; decide, by show (2 : Int) ≤ 2; decide⟩, rfl, rfl, Int.le_refl _, by show (0 : Int) ≤ x.len - x.len; omega, .inl rfl⟩
/-- both boxes -/
structure BD (w : World) (A : Option Addr) (cap : Nat) (bs : List ByteArray) (s : Int) (x : Wr) (W : World) : Prop where
  r1 : W.heap[w.heap.size]? = some (.cells #[.slice A bs.length cap, .int .i64 s] 38 (0, 0))
  r2 : W.heap[w.heap.size + 1]? = some (.cells #[.int .i64 x.tag, .int .i64 x.len, .bool x.inn, .int .i64 x.unit, .string x.cmd] 23 (0, 0))
  bel : Below w.heap.size w W
theorem BD.on {w : World} {A : Option Addr} {cap : Nat} {bs : List ByteArray} {s : Int} {x : Wr} {W W' : World} (h : BD w A cap bs s x W) (hb : Below W.heap.size W W') : BD w A cap bs s x W' := ⟨Kt.row_on hb h.r1, Kt.row_on hb h.r2, Kt.bthen h.bel hb⟩
theorem tag_num {a b : Int} (h1 : 0 ≤ a) (h2 : a < 4294967296) (h3 : 0 ≤ b) (h4 : b ≤ a) : IntKind.i64.wrap (a - b) = a - b := by
  rw [IntWalk.i64_left]; unfold wrap64; omega
set_option maxRecDepth 100000 in
set_option maxHeartbeats 6400000 in
theorem tagged_calls (bs : List ByteArray) (s : Int) (x : Wr) (data : ByteArray) (A : Option Addr) (cap : Nat) (w : World) (h : DkA w A cap bs) (hn : bs.length ≤ 8796093022208) :
    Calls Try.prog 9 #[dkV A cap bs s, wrV x, .string data] w fun e w' => e = .returned (.bool true) ∧ Below w.heap.size w w' := by
  have HA := Lib.hid h
  have HN := Lib.hid hn
  have HB0 : Hid (BD w A cap bs s x ((w.alloc (.cells #[.slice A bs.length cap, .int .i64 s] 38)).alloc (.cells #[.int .i64 x.tag, .int .i64 x.len, .bool x.inn, .int .i64 x.unit, .string x.cmd] 23))) :=
    Lib.hid ⟨heap_alloc2_old w _ _, heap_alloc2_new w _ _, Kt.balloc (Kt.balloc (Below.refl _ w) _) _⟩
  clear h hn
  unfold dkV wrV
  go_enter Try.func9, Try.ntmps9
  go_wp2_with fail
  refine (writeW_calls x _).mono ?_
  rintro e w1 ⟨rfl, hb⟩
  have HB1 := Lib.hid (HB0.out.on hb)
  clear hb HB0
  by_cases hx : OkW x
  · have e : writeW x = (wrapT x, 0) := if_pos hx
    rw [e]
    have HX := Lib.hid hx
    have HP := Lib.hid (served_props bs s x data hx)
    clear e hx
    go_wp2_with fail
    refine (blives_calls _).mono ?_
    rintro e w2 ⟨rfl, hb⟩
    have HB2 := Lib.hid (HB1.out.on hb)
    clear hb HB1
    have q1 := fun i => cell_of_row _ _ i _ _ _ HB2.out.r1
    go_wp2_with fail
    refine (serve_calls bs s x data A cap _ (HA.out.on HB2.out.bel) HN.out HX.out).mono ?_
    rintro e w3 ⟨A3, c3, rfl, hda, hb⟩
    have HB3 := Lib.hid (HB2.out.on hb)
    have HD3 := Lib.hid hda
    clear hb hda HB2 q1
    obtain ⟨P, t, o, st, g, hr⟩ : ∃ P t o st g, served bs s x data = (P, t, o, st, g) := ⟨_, _, _, _, _, rfl⟩
    rw [hr] at HP HD3 ⊢
    clear hr
    unfold dkV
    rcases HP.out with ⟨hg, hp, ht, ho, hs⟩ | ⟨hg, y, hy, hs, hy1, hy2, hy3, hy4⟩
    · change g ≠ 0 at hg
      change P = bs at hp
      change t = s at ht
      change o = ByteArray.empty at ho
      change st = ByteArray.empty at hs
      subst hp ht ho hs
      have hg' : (g != 0) = true := by rw [bne_iff_ne]; exact hg
      clear hg HP
      have q1 := fun i => cell_of_row _ _ i _ _ _ HB3.out.r1
      have l1 := ltRow HB3.out.r1
      go_wp2_with fail
      have hal := Kt.balloc (Below.refl _ w3) (.cells #[.slice A3 P.length c3, .int .i64 t] 38)
      refine (sdisk_true A3 A c3 cap P t _ (DkA.on HD3.out hal) (HA.out.on (Kt.bthen HB3.out.bel hal)) (by have := HN.out; omega)).mono ?_
      rintro e w4 ⟨rfl, hb⟩
      have HB4 := Lib.hid (HB3.out.on (Kt.bthen hal hb))
      clear hb hal
      go_wp2_with fail
      go_ret
      exact ⟨rfl, HB4.out.bel⟩
    · change g = 0 at hg
      change st = statT y at hs
      change (o.size : Int) ≤ _ at hy3
      change o = ByteArray.empty ∨ _ at hy4
      subst hg hs
      have hyr := hy.r1
      have hws := tag_num HX.out.l1 HX.out.l2 hy.r1 hy2
      have hrd := readS_statT y hy
      have HRD := Lib.hid hrd
      obtain ⟨df, hdf⟩ : ∃ z, x.len - y.res = z := ⟨_, rfl⟩
      rw [hdf] at hws hy3
      have hws' : IntKind.i64.wrap (x.len - y.res) = df := by rw [hdf]; exact hws
      clear hy hrd hws HP hdf
      go_wp2_with fail
      refine (readS_calls (statT y) _).mono ?_
      rw [HRD.out]
      rintro e w4 ⟨rfl, hb⟩
      have hb4 := Kt.bthen (Kt.balloc (Below.refl _ w3) (.cells #[.slice A3 P.length c3, .int .i64 t] 38)) hb
      have HB4 := Lib.hid (HB3.out.on hb4)
      clear hb hb4 HB3
      have q2 := fun i => cell_of_row _ _ i _ _ _ HB4.out.r2
      have l2 := ltRow HB4.out.r2
      unfold stV
      rcases hy4 with rfl | ⟨hin, hcd⟩
      · go_wp2_with fail
        go_ret
        exact ⟨rfl, Kt.balloc HB4.out.bel _⟩
      · by_cases hoz : o.size = 0
        · have : o = ByteArray.empty := ByteArray.size_eq_zero_iff.1 hoz
          subst this
          clear hoz
          go_wp2_with fail
          go_ret
          exact ⟨rfl, Kt.balloc HB4.out.bel _⟩
        · have hne := not_empty o (by omega)
          clear hoz
          go_wp2_with fail
          go_ret
          exact ⟨rfl, Kt.balloc HB4.out.bel _⟩
  · have e : writeW x = (ByteArray.empty, 1) := if_neg hx
    rw [e]
    clear e hx
    go_wp2_with fail
    refine (blives_calls _).mono ?_
    rintro e w2 ⟨rfl, hb⟩
    have HB2 := Lib.hid (HB1.out.on hb)
    clear hb
    go_wp2_with fail
    refine (blives_calls _).mono ?_
    rintro e w3 ⟨rfl, hb⟩
    have HB3 := Lib.hid (HB2.out.on hb)
    clear hb
    go_wp2_with fail
    go_ret
    exact ⟨rfl, HB3.out.bel⟩
theorem tagged_walk (v0 v1 v2 : Value) (w : World) (r0 : Fr.RdV w reachBytes (.cat 1 (.slice 1 .string) (.cat 1 (.int .i64) .nil)) v0) (r1 : Fr.RdV w reachBytes (.cat 1 (.int .i64) (.cat 1 (.int .i64) (.cat 1 .bool (.cat 1 (.int .i64) (.cat 1 .string .nil))))) v1) (r2 : Fr.RdV w reachBytes .string v2)
    (m1 : ∀ (cs : Array Value) a l c, v0 = .agg cs → (cs.toList.drop 0).take 1 = [.slice a l c] → l * Try.prog.bytesOf 9 ≤ reachBytes) :
    Calls Try.prog 9 #[v0, v1, v2] w fun e w' => e = .returned (.bool true) ∧ Below w.heap.size w w' := by
  obtain ⟨A, cap, bs, s, rfl, hd⟩ := dk_of r0
  obtain ⟨x, rfl⟩ := wr_of r1
  obtain ⟨d, e2, _⟩ := r2; cases e2
  have hby : Try.prog.bytesOf 9 = 16 := by kernel_rfl
  have hR : reachBytes ≤ 140737488355328 := by unfold reachBytes; omega
  have b1 := m1 _ A bs.length cap rfl rfl
  rw [hby] at b1
  exact tagged_calls bs s x d A cap w hd (by omega)
end Go.Proofs.Ytfhndjccghchjaa
