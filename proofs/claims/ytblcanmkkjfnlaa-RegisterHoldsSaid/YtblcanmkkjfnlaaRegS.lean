/- Handles that have ended are never taken again: the law, walked. -/
import Derived.Test.YtblcanmkkjfnlaaRegQ
import Derived.Test.YtblcanmkkjfnlaaRegR
import Derived.Test.YtblcanmkkjfnlaaAny
import Derived.Test.YtblcanmkkjfnlaaArg
namespace Go.Proofs.Ytblcanmkkjfnlaa
open Go.RowKit Go.Proofs.Ytblcanmkkjfnlaa.RegP
theorem infoI : (Try.prog.info? 3).map (fun i => (i.zero, i.size, i.bytes)) = some (some (.int .i64 0), 1, 8) := by kernel_rfl
def ics (l : List Int) : List Value := l.map (Value.int .i64)
theorem ics_app (a b : List Int) : ics (a ++ b) = ics a ++ ics b := by simp [ics]
theorem ics_len (a : List Int) : (ics a).length = a.length := by simp [ics]
theorem Row.set {w : World} {g : Nat} {rs : List Room} (h : Row w g rs) (rs2 : List Room) : Row (w.setRow g (regA rs2)) g rs2 := setRow_heap w g _ _ _ _ h
section
variable {ops : Array Oper} {rest : List Oper} {o : Oper} {a : Act} {w : World} {Q : Exit → Act → World → Prop}
theorem store_reg (hgd : o.guard = none) (x y : Operand) (ho : o.op = .store 26 x y) (g : Nat) (hx : a.eval x = .pointer (some ⟨g, 0, none⟩)) (rs : List Room) (hl : rs.length = 16) (hy : a.eval y = .agg (regA rs)) (old : List Room) (hlo : old.length = 16) (hold : Row w g old)
    (h : wpList Try.prog ops Q rest (a.put o.dst undef) (w.setRow g (regA rs))) : wpList Try.prog ops Q (o :: rest) a w :=
  wpList_store_row hgd 26 x y ho g (regA rs) hx hy 26 (regA old) hold (szR hl) (by rw [regA_size, regA_size, hl, hlo]) (regA_one rs) h
end
set_option maxHeartbeats 800000 in
theorem stale_stop (rs rs1 : List Room) (hl : rs.length = 16) (hl1 : rs1.length = 16) (u h e : Int) (A : Option Addr) (n c : Nat) (HL : Hid (Lt rs u rs1 h e)) (hend : (e != 0) = true ∨ ((e != 0) = false ∧ (300 : Int) < n)) (w : World) :
    Calls Try.prog 3 #[.agg (regA rs), .int .i64 u, .slice A n c] w fun en w' => en = .returned (.bool true) ∧ Below w.heap.size w w' := by
  rcases hend with h1 | ⟨h1, h2⟩
  all_goals
    go_enter Try.func3, Try.ntmps3
    go_wp2_with (refine load_reg rfl (.tmp 3) rfl _ rfl rs hl (Row.new _ _) ?_)
    refine (HL.out _).mono ?_; rintro en w1 ⟨rfl, hb1⟩
    have r1 : Row w1 w.heap.size rs := (Row.new w rs).on hb1
    go_wp2_with (refine store_reg rfl (.tmp 3) (.tmp 23) rfl _ rfl rs1 hl1 rfl rs hl r1 ?_)
    have hB1 := brow (Kt.bthen (Kt.balloc (Below.refl _ w) _) hb1) (Nat.le_refl _) (regA rs1)
    generalize w1.setRow w.heap.size (regA rs1) = w2 at *
    refine (lives_calls _).mono ?_; rintro en w3 ⟨rfl, hb3⟩
    go_wp2_with fail
    refine (lives_calls _).mono ?_; rintro en w4 ⟨rfl, hb4⟩
    go_wp2_with fail
    go_ret
    exact ⟨rfl, Kt.bthen (Kt.bthen hB1 hb3) hb4⟩
/-- what holds at each round's head -/
def StRel (w : World) (h : Int) (k : Nat) (v : Value) (wr : World) : Prop :=
  ∃ (rs : List Room) (own : List Int), Stale rs h own ∧ own.length ≤ k ∧ Row wr w.heap.size rs ∧ Kt.Sl wr (w.heap.size + 1) 3 1 v own.length (ics own) ∧ Below w.heap.size w wr ∧ w.heap.size < wr.heap.size
set_option maxHeartbeats 1600000 in
set_option maxRecDepth 100000 in
theorem stale_go (rs0 rs1 rs2 : List Room) (hl0 : rs0.length = 16) (hl1 : rs1.length = 16) (u h : Int) (ts : List Int) (V : Value) (w : World) (hts : Kt.Ar w V 1 ts.length (ics ts)) (h3 : ts.length ≤ 300) (HL : Hid (Lt rs0 u rs1 h 0)) (HE0 : Hid (En rs1 h rs2 0)) (HS0 : Stale rs2 h []) :
    Calls Try.prog 3 #[.agg (regA rs0), .int .i64 u, V] w fun en w' => en = .returned (.bool true) ∧ Below w.heap.size w w' := by
  obtain ⟨A, c, rfl, hAc, hcells⟩ := hts.form
  have hl2 := HS0.len
  have h3i : (ts.length : Int) ≤ 300 := by omega
  go_enter Try.func3, Try.ntmps3
  go_wp2_with (refine load_reg rfl (.tmp 3) rfl _ rfl rs0 hl0 (Row.new _ _) ?_)
  refine (HL.out _).mono ?_; rintro en w1 ⟨rfl, hb1⟩
  have r1 : Row w1 w.heap.size rs0 := (Row.new w rs0).on hb1
  go_wp2_with (refine store_reg rfl (.tmp 3) (.tmp 23) rfl _ rfl rs1 hl1 rfl rs0 hl0 r1 ?_)
  have hB1 := brow (Kt.bthen (Kt.balloc (Below.refl _ w) _) hb1) (Nat.le_refl _) (regA rs1)
  have r2 := r1.set rs1
  generalize w1.setRow w.heap.size (regA rs1) = w2 at *
  refine (lives_calls _).mono ?_; rintro en w3 ⟨rfl, hb3⟩
  have r3 := r2.on hb3
  go_wp2_with (refine load_reg rfl (.tmp 3) rfl _ rfl rs1 hl1 r3 ?_)
  refine (HE0.out _).mono ?_; rintro en w4 ⟨rfl, hb4⟩
  have r4 := r3.on hb4
  go_wp2_with (refine store_reg rfl (.tmp 3) (.tmp 42) rfl _ rfl rs2 hl2 rfl rs1 hl1 r4 ?_)
  have hB4 := brow (Kt.bthen (Kt.bthen hB1 hb3) hb4) (Nat.le_refl _) (regA rs2)
  have r5 := r4.set rs2
  generalize w4.setRow w.heap.size (regA rs2) = w5 at *
  go_loopw [48, 9] (fun i v wr => ∃ k : Nat, k ≤ ts.length ∧ i = .int .i64 k ∧ StRel w h k v wr) (fun i _ _ => ts.length - (intOf i).toNat)
  case atStart => exact ⟨0, Nat.zero_le _, rfl, rs2, [], HS0, Nat.le_refl _, r5, Kt.Sl.nil _ _ _ _, hB4, r5.lt⟩
  case round =>
    clear hb1 hb3 hb4 r1 r2 r3 r4 r5 hB1 hB4 HL HE0 HS0
    obtain ⟨k, hk, rfl, rs, own, HST, hown, hrow, hs, hbel, hsz⟩ := hrel
    by_cases hlt : k < ts.length
    · obtain ⟨tb, tq, rfl, htb, htx⟩ := hcells (by omega)
      have hcell : wr.cell? ⟨tb, tq + k, none⟩ = some (.int .i64 ts[k]) := (hbel.cell (p := ⟨tb, tq + k, none⟩) htb).trans ((htx k (by rw [ics_len]; exact hlt)).trans (by simp [ics]))
      have HCELLS := Lib.hid htx
      clear htx hcells hts
      have HK := Lib.hid (show own.length + 1 ≤ 301 by omega)
      generalize ts[k] = t at *
      have hl := HST.len
      obtain ⟨OA, oc, rfl, hoc, hom⟩ := hs.form
      by_cases hlet : 0 ≤ t ∨ (t < 0 ∧ own = [])
      · have HT := Lib.hid hlet; clear hlet
        rcases let_cases HST.ok hl t with L | ⟨m, hm, hf, L⟩
        · have HL := Lib.hid L; clear L
          have HLK := Lib.hid (HST.look)
          have HEN := Lib.hid (HST.gone_)
          rcases HT.out with ht | ⟨ht, rfl⟩
          all_goals
            go_wp2_with (refine load_reg rfl (.tmp 3) rfl _ rfl rs hl hrow ?_)
            refine (HL.out _).mono ?_; rintro en w2 ⟨rfl, hb2⟩
            have row2 := (hrow.on hb2).alloc (.cells (regA zeros) 26)
            have sl2 := (hs.on hb2).alloc (.cells (regA zeros) 26)
            have bel2 := Kt.balloc (Kt.bthen hbel hb2) (.cells (regA zeros) 26)
            go_wp2_with (first | (refine store_new rfl (.tmp 12) (.tmp 63) rfl rfl zeros zeros_len rfl _ rfl ?_) | (refine load_reg rfl (.tmp 3) rfl _ rfl rs hl row2 ?_))
            refine (HLK.out _).mono ?_; rintro en w8 ⟨rfl, hb8⟩
            have row8 := row2.on hb8
            go_wp2_with (refine load_reg rfl (.tmp 3) rfl _ rfl rs hl row8 ?_)
            refine (HEN.out _).mono ?_; rintro en w9 ⟨rfl, hb9⟩
            have row9 := row8.on hb9
            have hz9 := row9.lt
            go_wp2_with (refine store_new rfl (.tmp 17) (.tmp 100) rfl rfl zeros zeros_len rfl _ rfl ?_)
            go_roundw
            case rel => exact ⟨k + 1, by omega, by go_num, rs, _, HST, by omega, row9.alloc _, ((sl2.on hb8).on hb9).alloc _, Kt.balloc (Kt.bthen (Kt.bthen bel2 hb8) hb9) _, by simp; omega⟩
            case measure => simp [intOf]; omega

        · obtain ⟨HST2, hne⟩ := HST.let_ (hm := hm) hf t
          have hl2 := HST2.len
          generalize (m + 16 * (rs[m].gen + 1) : Int) = k0 at *
          generalize rs.set m ⟨rs[m].gen + 1, true, t⟩ = rs2 at *
          clear hm hf HST
          have hne : (k0 == h) = false := by rw [beq_eq_false_iff_ne]; exact hne
          have HL := Lib.hid L; clear L
          have HLK := Lib.hid (HST2.look)
          have HEN := Lib.hid (HST2.gone_)
          rcases HT.out with ht | ⟨ht, rfl⟩
          all_goals
            go_wp2_with (refine load_reg rfl (.tmp 3) rfl _ rfl rs hl hrow ?_)
            refine (HL.out _).mono ?_; rintro en w2 ⟨rfl, hb2⟩
            go_wp2_with (refine store_new rfl (.tmp 12) (.tmp 63) rfl rfl rs2 hl2 rfl _ rfl ?_)
            have hnew := Row.new w2 rs2
            have hrow3 := (hrow.on hb2).alloc (.cells (regA rs2) 26)
            have hs2 := (hs.on hb2).alloc (.cells (regA rs2) 26)
            have bel3 := Kt.balloc (Kt.bthen hbel hb2) (.cells (regA rs2) 26)
            have hsz3 := hrow3.lt
            generalize w2.alloc (.cells (regA rs2) 26) = w3 at *
            refine Kt.G.start 5 (fun w' => Row w' w2.heap.size rs2) (by kernel_rfl) hnew (fun hHeld => ?_)
            refine Kt.G.load_row 0 { dst := some 68, op := Op.load 26 (Operand.tmp 12), type := 26, pos := "register.go:30", after := #[], guard := none } 26 (Operand.tmp 12) w2.heap.size 26 (regA rs2) _ hHeld rfl (by kernel_rfl) (fun _ _ _ h => h) (by rfl) rfl rfl (fun _ h => h) Try.underlying26 rfl (szR hl2) ?_
            try simp only [Act.put, List.setIfInBounds_toArray, List.set_cons_zero, List.set_cons_succ]
            refine Kt.G.takeP 1 { dst := some 69, op := Op.move (Operand.tmp 9), type := 27, pos := "register.go:30", after := #[], guard := none } ?_ (fun _ => hHeld) rfl (by kernel_rfl) (fun _ _ _ h => h) (by rfl) ?_ ?_
            rotate_left
            · intro w; go_simp; try with_reducible rfl
            try simp only [Act.put, List.setIfInBounds_toArray, List.set_cons_zero, List.set_cons_succ]
            refine Kt.G.takeP 2 { dst := some 70, op := Op.move (Operand.tmp 13), type := 3, pos := "register.go:30", after := #[], guard := none } ?_ (fun _ => hHeld) rfl (by kernel_rfl) (fun _ _ _ h => h) (by rfl) ?_ ?_
            rotate_left
            · intro w; go_simp; try with_reducible rfl
            try simp only [Act.put, List.setIfInBounds_toArray, List.set_cons_zero, List.set_cons_succ]
            refine Kt.G.one 3 { dst := some 71, op := Op.buildSlice 27 1 #[(0, Operand.tmp 70)], type := 27, pos := "register.go:30", after := #[{ on := 2, ground := Ground.data }], guard := none } rfl (by kernel_rfl) (by rfl) (fun K hK => ?_)
            go_simp
            refine hK.out _ _ (fun _ => hnew.alloc _) (fun hHeld => ?_)
            have hHeld := hHeld rfl
            clear hK K
            try simp only [Act.put, List.setIfInBounds_toArray, List.set_cons_zero, List.set_cons_succ]
            refine Kt.G.one 4 { dst := some 72, op := Op.call { callee := Callee.builtin Builtin.append, args := #[Operand.tmp 69, Operand.tmp 71], argTypes := #[27, 27] }, type := 27, pos := "register.go:30", after := #[{ on := 1, ground := Ground.data }, { on := 3, ground := Ground.data }], guard := none } rfl (by kernel_rfl) (by rfl) (fun K hK => ?_)
            refine Kt.wp_append_sl _ (.tmp 69) (.tmp 71) 27 rfl (w.heap.size + 1) 3 (.int .i64 0) 1 8 infoI Try.underlying27 rfl (by decide) _ _ _ rfl (hs2.alloc _).drew ⟨w3.heap.size, 0, none⟩ 1 1 [.int .i64 k0] rfl rfl (Kt.new_cells w3 #[.int .i64 k0] _) (by simp [Value.oneCell']) (by have := HK.out; unfold maxLen; omega) (by have := HK.out; omega) (by show w.heap.size + 1 ≤ (w3.alloc _).heap.size; rw [World.size_alloc]; omega) ?_
            intro A' c' w4 hs4 hb4 hz4 hk4 hl4
            have hrow4 : Row w4 w2.heap.size rs2 := (hk4 _ (by show _ < (w3.alloc _).heap.size; rw [World.size_alloc]; have := hnew.lt; omega) (fun e => by have := (hs.lt _ e).2; have := hb2.size; omega)).trans (hnew.alloc _)
            have hrow5 : Row w4 w.heap.size rs := (hk4 _ (by show _ < (w3.alloc _).heap.size; rw [World.size_alloc]; have := hrow3.lt; omega) (fun e => by have := (hs.lt _ e).1; omega)).trans (hrow3.alloc _)
            have hB4 : Below w.heap.size w w4 := (Kt.balloc bel3 _).drew.trans (hb4.mono (by omega))
            clear hk4 hl4
            refine hK.out _ _ (fun _ => hrow4) (fun hHeld => ?_)
            have hHeld := hHeld rfl
            clear hK K
            try simp only [Act.put, List.setIfInBounds_toArray, List.set_cons_zero, List.set_cons_succ]
            refine Kt.G.one 5 { dst := none, op := Op.store 26 (Operand.tmp 3) (Operand.tmp 68), type := 0, pos := "register.go:30", after := #[{ on := 0, ground := Ground.data }, { on := 4, ground := Ground.chain }, { on := 0, ground := Ground.phase }, { on := 1, ground := Ground.textOnly Departure.lateStores }, { on := 2, ground := Ground.textOnly Departure.lateStores }, { on := 3, ground := Ground.textOnly Departure.lateStores }, { on := 4, ground := Ground.textOnly Departure.lateStoresUnsure }], guard := none } rfl (by kernel_rfl) (by rfl) (fun K hK => ?_)
            refine wp_store_row 26 (.tmp 3) (.tmp 68) rfl w.heap.size (regA rs2) rfl rfl 26 (regA rs) hrow5 (szR hl2) (by rw [regA_size, regA_size, hl, hl2]) (regA_one rs2) ?_
            refine hK.out _ _ (Kt.G.late (by kernel_rfl)) (fun _ => ?_)
            clear hK K
            try simp only [Act.put, List.setIfInBounds_toArray, List.set_cons_zero, List.set_cons_succ]
            refine Kt.G.takeP 6 { dst := some 9, op := Op.assign (Operand.tmp 72), type := 27, pos := "register.go:30", after := #[{ on := 4, ground := Ground.data }, { on := 5, ground := Ground.chain }, { on := 0, ground := Ground.phase }, { on := 1, ground := Ground.phase }, { on := 2, ground := Ground.phase }, { on := 3, ground := Ground.phase }, { on := 4, ground := Ground.phase }, { on := 5, ground := Ground.phase }], guard := none } ?_ (Kt.G.late (by kernel_rfl)) rfl (by kernel_rfl) (fun _ _ _ h => h) (by rfl) ?_ ?_
            rotate_left
            · intro w; go_simp; try with_reducible rfl
            try simp only [Act.put, List.setIfInBounds_toArray, List.set_cons_zero, List.set_cons_succ]
            refine Kt.G.done (by kernel_rfl) (NoPanic.normal ?_) _
            have row5 := hrow5.set rs2
            have hs5 := hs4.keep (w' := w4.setRow w.heap.size (regA rs2)) (fun j hj => setRow_other _ _ _ _ (by have := (hs4.lt j hj).1; omega))
            have bel5 := brow hB4 (Nat.le_refl _) (regA rs2)
            clear hrow4 hrow5 hs4 hB4 hb4 hz4 hHeld hnew hrow3 hs2 bel3 hb2 hs hrow
            generalize w4.setRow w.heap.size (regA rs2) = w5 at *
            go_wp2_with (refine load_reg rfl (.tmp 3) rfl _ rfl rs2 hl2 row5 ?_)
            refine (HLK.out _).mono ?_; rintro en w8 ⟨rfl, hb8⟩
            have row8 := row5.on hb8
            go_wp2_with (refine load_reg rfl (.tmp 3) rfl _ rfl rs2 hl2 row8 ?_)
            refine (HEN.out _).mono ?_; rintro en w9 ⟨rfl, hb9⟩
            have row9 := row8.on hb9
            have hz9 := row9.lt
            go_wp2_with (refine store_new rfl (.tmp 17) (.tmp 100) rfl rfl zeros zeros_len rfl _ rfl ?_)
            go_roundw
            case rel => exact ⟨k + 1, by omega, by go_num, rs2, _, HST2, by simp only [List.length_append, List.length_cons, List.length_nil]; omega, row9.alloc _, (((show Kt.Sl w5 (w.heap.size + 1) 3 1 _ _ (ics (_ ++ [k0])) by rw [List.length_append, ics_app]; exact hs5).on hb8).on hb9).alloc _, Kt.balloc (Kt.bthen (Kt.bthen bel5 hb8) hb9) _, by simp; omega⟩
            case measure => simp [intOf]; omega

      · have ht : t < 0 := by
          by_cases h0 : 0 ≤ t
          · exact absurd (Or.inl h0) hlet
          · omega
        obtain ⟨k0, own, rfl⟩ : ∃ k0 r, own = k0 :: r := by
          cases own with
          | nil => exact absurd (Or.inr ⟨ht, rfl⟩) hlet
          | cons a r => exact ⟨a, r, rfl⟩
        clear hlet
        obtain ⟨g, o, cap, hv, hg1, hgo, hnc, hcm, hcc, hfz⟩ := hs.cells (by simp)
        cases hv
        have hc0 := hcc 0 (by simp [ics])
        obtain ⟨m, hm, hf⟩ := HST.has k0 (by simp)
        have HST2 := HST.end_ hf
        have HE := Lib.hid (end_some rs hl k0 HST.ok m hm hf : En rs k0 _ 0)
        have hl2 := HST2.len
        generalize rs.set m ⟨rs[m].gen, false, 0⟩ = rs2 at *
        clear hm hf HST hcc
        have hc0 : wr.cell? ⟨g, o, none⟩ = some (.int .i64 k0) := by simpa [ics] using hc0
        have hlen0 : ((own.length : Int) + 1 == 0) = false := by rw [beq_eq_false_iff_ne]; omega
        go_wp2_with fail
        refine Kt.G.start 8 (fun w' => Row w' w.heap.size rs ∧ w'.cell? ⟨g, o, none⟩ = some (.int .i64 k0)) (by kernel_rfl) ⟨hrow, hc0⟩ (fun hHeld => ?_)
        refine Kt.G.load_row 0 { dst := some 77, op := Op.load 26 (Operand.tmp 3), type := 26, pos := "register.go:36", after := #[], guard := none } 26 (Operand.tmp 3) w.heap.size 26 (regA rs) _ hHeld rfl (by kernel_rfl) (fun _ _ _ h => h) (by rfl) rfl rfl (fun _ h => h.1) Try.underlying26 rfl (szR hl) ?_
        try simp only [Act.put, List.setIfInBounds_toArray, List.set_cons_zero, List.set_cons_succ]
        refine Kt.G.takeP 1 { dst := some 78, op := Op.move (Operand.tmp 9), type := 27, pos := "register.go:36", after := #[], guard := none } ?_ (fun _ => hHeld) rfl (by kernel_rfl) (fun _ _ _ h => h) (by rfl) ?_ ?_
        rotate_left
        · intro w; go_simp; try with_reducible rfl
        try simp only [Act.put, List.setIfInBounds_toArray, List.set_cons_zero, List.set_cons_succ]
        refine Kt.G.takeP 2 { dst := some 79, op := Op.indexAddr 27 (Operand.tmp 78) (Operand.const (Value.int IntKind.i64 0)), type := 0, pos := "register.go:36", after := #[{ on := 1, ground := Ground.data }], guard := none } ?_ (fun _ => hHeld) rfl (by kernel_rfl) (fun _ _ _ h => h) (by rfl) ?_ ?_
        rotate_left
        · intro w; go_simp; try with_reducible rfl
        try simp only [Act.put, List.setIfInBounds_toArray, List.set_cons_zero, List.set_cons_succ]
        refine Kt.G.take 3 { dst := some 80, op := Op.load 3 (Operand.tmp 79), type := 3, pos := "register.go:36", after := #[{ on := 2, ground := Ground.data }], guard := none } ?_ hHeld rfl (by kernel_rfl) (fun _ _ _ h => h) (by rfl) ?_ ?_
        rotate_left
        · intro w hSw; (try dsimp only at hSw); go_simp; try with_reducible rfl
        try simp only [Act.put, List.setIfInBounds_toArray, List.set_cons_zero, List.set_cons_succ]
        refine Kt.G.one 4 { dst := some 81, op := Op.call { callee := Callee.value (Operand.func 9), args := #[Operand.tmp 77, Operand.tmp 80], argTypes := #[26, 3] }, type := 32, pos := "register.go:36", after := #[{ on := 0, ground := Ground.data }, { on := 3, ground := Ground.data }], guard := none } rfl (by kernel_rfl) (by rfl) (fun K hK => ?_)
        go_simp
        go_wp2_with fail
        refine (HE.out _).mono ?_; rintro en w2 ⟨rfl, hb2⟩
        refine hK.out _ _ (fun _ => ⟨(show Row wr.drew _ _ from hrow).on hb2, (hb2.cell (p := ⟨g, o, none⟩) hgo).trans hc0⟩) (fun hHeld => ?_)
        have hHeld := hHeld rfl
        clear hK K
        try simp only [Act.put, List.setIfInBounds_toArray, List.set_cons_zero, List.set_cons_succ]
        refine Kt.G.takeP 5 { dst := some 76, op := Op.move (Operand.tmp 81), type := 32, pos := "register.go:36", after := #[{ on := 4, ground := Ground.data }], guard := none } ?_ (fun _ => hHeld) rfl (by kernel_rfl) (fun _ _ _ h => h) (by rfl) ?_ ?_
        rotate_left
        · intro w; go_simp; try with_reducible rfl
        try simp only [Act.put, List.setIfInBounds_toArray, List.set_cons_zero, List.set_cons_succ]
        refine Kt.G.takeP 6 { dst := some 82, op := Op.extract (Operand.tmp 76) 0, type := 26, pos := "register.go:36", after := #[{ on := 5, ground := Ground.data }], guard := none } ?_ (fun _ => hHeld) rfl (by kernel_rfl) (fun _ _ _ h => h) (by rfl) ?_ ?_
        rotate_left
        · intro w; go_simp; try with_reducible rfl
        try simp only [Act.put, List.setIfInBounds_toArray, List.set_cons_zero, List.set_cons_succ]
        refine Kt.G.takeP 7 { dst := some 83, op := Op.extract (Operand.tmp 76) 1, type := 28, pos := "register.go:36", after := #[{ on := 5, ground := Ground.data }, { on := 8, ground := Ground.gcOnly Departure.lateStores }], guard := none } ?_ (fun _ => hHeld) rfl (by kernel_rfl) (fun _ _ _ h => h) (by rfl) ?_ ?_
        rotate_left
        · intro w; go_simp; try with_reducible rfl
        try simp only [Act.put, List.setIfInBounds_toArray, List.set_cons_zero, List.set_cons_succ]
        refine Kt.G.one 8 { dst := none, op := Op.store 26 (Operand.tmp 3) (Operand.tmp 82), type := 0, pos := "register.go:36", after := #[{ on := 6, ground := Ground.data }, { on := 4, ground := Ground.chain }, { on := 0, ground := Ground.phase }, { on := 1, ground := Ground.phase }, { on := 2, ground := Ground.phase }, { on := 3, ground := Ground.phase }, { on := 4, ground := Ground.phase }, { on := 5, ground := Ground.phase }, { on := 6, ground := Ground.phase }, { on := 7, ground := Ground.textOnly Departure.lateStores }], guard := none } rfl (by kernel_rfl) (by rfl) (fun K hK => ?_)
        refine wp_store_row 26 (.tmp 3) (.tmp 82) rfl w.heap.size (regA rs2) rfl rfl 26 (regA rs) hHeld.1 (szR hl2) (by rw [regA_size, regA_size, hl, hl2]) (regA_one rs2) ?_
        refine hK.out _ _ (Kt.G.late (by kernel_rfl)) (fun _ => ?_)
        clear hK K
        try simp only [Act.put, List.setIfInBounds_toArray, List.set_cons_zero, List.set_cons_succ]
        refine Kt.G.takeP 9 { dst := some 8, op := Op.assign (Operand.tmp 83), type := 28, pos := "register.go:36", after := #[{ on := 7, ground := Ground.data }, { on := 8, ground := Ground.chain }, { on := 0, ground := Ground.phase }, { on := 1, ground := Ground.phase }, { on := 2, ground := Ground.phase }, { on := 3, ground := Ground.phase }, { on := 4, ground := Ground.phase }, { on := 5, ground := Ground.phase }, { on := 6, ground := Ground.phase }, { on := 7, ground := Ground.phase }, { on := 8, ground := Ground.phase }], guard := none } ?_ (Kt.G.late (by kernel_rfl)) rfl (by kernel_rfl) (fun _ _ _ h => h) (by rfl) ?_ ?_
        rotate_left
        · intro w; go_simp; try with_reducible rfl
        try simp only [Act.put, List.setIfInBounds_toArray, List.set_cons_zero, List.set_cons_succ]
        refine Kt.G.done (by kernel_rfl) (NoPanic.normal ?_) _
        have row3 : Row (w2.setRow w.heap.size (regA rs2)) w.heap.size rs2 := ((show Row wr.drew _ _ from hrow).on hb2).set rs2
        have sl0 := (hs.drew.on hb2).tail (by simp)
        have sl3 := sl0.keep (w' := w2.setRow w.heap.size (regA rs2)) (fun j hj => setRow_other _ _ _ _ (by have := (sl0.lt j hj).1; omega))
        have bel3 := brow (Kt.bthen hbel.drew hb2) (Nat.le_refl _) (regA rs2)
        have sl1 : oc = 1 → Kt.Sl (w2.setRow w.heap.size (regA rs2)) (w.heap.size + 1) 3 1 (.slice (some ⟨g, o, none⟩) own.length 0) own.length (ics own) := fun e => by subst e; simpa [ics] using sl3
        have sl2 : ¬ oc = 1 → Kt.Sl (w2.setRow w.heap.size (regA rs2)) (w.heap.size + 1) 3 1 (.slice (some ⟨g, o + 1, none⟩) own.length (oc - 1)) own.length (ics own) := fun e => by simpa [ics, e, Addr.add] using sl3
        have SL1 := Lib.hid sl1
        have SL2 := Lib.hid sl2
        clear sl0 sl3 sl1 sl2 hs hrow hb2 hHeld hc0 hfz
        generalize w2.setRow w.heap.size (regA rs2) = w3 at *
        have HLK := Lib.hid (HST2.look)
        have HEN := Lib.hid (HST2.gone_)
        go_wp2_with (refine load_reg rfl (.tmp 3) rfl _ rfl rs2 hl2 row3 ?_)
        all_goals
          refine (HLK.out _).mono ?_; rintro en w8 ⟨rfl, hb8⟩
          have row8 := row3.on hb8
          go_wp2_with (refine load_reg rfl (.tmp 3) rfl _ rfl rs2 hl2 row8 ?_)
          refine (HEN.out _).mono ?_; rintro en w9 ⟨rfl, hb9⟩
          have row9 := row8.on hb9
          have hz9 := row9.lt
          go_wp2_with (refine store_new rfl (.tmp 17) (.tmp 100) rfl rfl zeros zeros_len rfl _ rfl ?_)
          go_roundw
          case rel => exact ⟨k + 1, by omega, by go_num, rs2, _, HST2, by simp at hown; omega, row9.alloc _, (((show Kt.Sl w3 (w.heap.size + 1) 3 1 _ own.length (ics own) by first | exact SL1.out (by omega) | exact SL2.out (by omega)).on hb8).on hb9).alloc _, Kt.balloc (Kt.bthen (Kt.bthen bel3 hb8) hb9) _, by simp; omega⟩
          case measure => simp [intOf]; omega

    · obtain rfl : k = ts.length := by omega
      go_wp2
      go_ret
      exact ⟨rfl, hbel⟩
theorem stale_walk (v0 v1 v2 : Value) (w : World) (r0 : Fr.RdV w reachBytes (.cat 48 (.arr 16 3 (.cat 1 (.int .i64) (.cat 1 .bool (.cat 1 (.int .i64) .nil)))) .nil) v0) (r1 : Fr.RdV w reachBytes (.int .i64) v1) (r2 : Fr.RdV w reachBytes (.slice 1 (.int .i64)) v2) :
    Calls Try.prog 3 #[v0, v1, v2] w fun e w' => e = .returned (.bool true) ∧ Below w.heap.size w w' := by
  obtain ⟨rs, hl, rfl, _⟩ := rarg r0
  obtain ⟨u, e1, _⟩ := r1; cases e1
  obtain ⟨ts, hb, _, hts⟩ := Kt.ar_ints r2
  have hts0 := hts
  obtain ⟨A, c, e2, hAc, _⟩ := hts.form
  by_cases ha : AllOk rs
  · rcases let_cases ha hl u with L | ⟨m, hm, hf, L⟩
    · rw [e2]; exact stale_stop rs zeros hl zeros_len u 0 11 A _ c (Lib.hid L) (.inl rfl) w
    · have hl1 : (rs.set m ⟨rs[m].gen + 1, true, u⟩).length = 16 := by rw [List.length_set, hl]
      by_cases h3 : ts.length ≤ 300
      · have ho := ha m hm
        have hf2 := (free_open hf).2
        have ha1 := let_ok ha m hm hf u
        have hm1 : m < (rs.set m ⟨rs[m].gen + 1, true, u⟩).length := by rw [List.length_set]; exact hm
        have e1 : (rs.set m ⟨rs[m].gen + 1, true, u⟩)[m] = ⟨rs[m].gen + 1, true, u⟩ := by simp
        have E1 := end_some _ hl1 (m + 16 * (rs[m].gen + 1)) ha1 m hm1 (by rw [e1]; exact ⟨rfl, rfl⟩)
        rw [e1] at E1
        simp only [List.set_set] at E1
        exact stale_go rs _ _ hl hl1 u _ ts v2 w hts0 h3 (Lib.hid L) (Lib.hid E1) (stale_start ha hl hf)
      · rw [e2]; exact stale_stop rs _ hl hl1 u _ 0 A _ c (Lib.hid L) (.inr ⟨rfl, by omega⟩) w
  · rw [e2]; exact stale_stop rs zeros hl zeros_len u 0 4 A _ c (Lib.hid (let_bad rs hl u (Lib.hid (ck_bad hl ha)))) (.inl rfl) w
end Go.Proofs.Ytblcanmkkjfnlaa
