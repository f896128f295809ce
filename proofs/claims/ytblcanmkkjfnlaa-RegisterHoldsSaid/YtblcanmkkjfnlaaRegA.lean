/- The laws of registers, walked: Apart, Room. -/
import Derived.Test.YtblcanmkkjfnlaaRegL
import Derived.Deep.WholeRow
namespace Go.Proofs.Ytblcanmkkjfnlaa
open Go.RowKit Go.Proofs.Ytblcanmkkjfnlaa.RegP
def Row (w : World) (g : Nat) (rs : List Room) : Prop := w.heap[g]? = some (.cells (regA rs) 26 (0, 0))
theorem Row.lt {w : World} {g : Nat} {rs : List Room} (h : Row w g rs) : g < w.heap.size := (Array.getElem?_eq_some_iff.1 h).1
theorem Row.on {w w' : World} {g : Nat} {rs : List Room} (h : Row w g rs) (b : Below w.heap.size w w') : Row w' g rs := (b.block _ h.lt).trans h
theorem Row.new (w : World) (rs : List Room) : Row (w.alloc (.cells (regA rs) 26)) w.heap.size rs := heap_alloc_new w _
theorem Row.alloc {w : World} {g : Nat} {rs : List Room} (h : Row w g rs) (o : Obj) : Row (w.alloc o) g rs := (Below.heap_alloc w o g h.lt).trans h
section
variable {ops : Array Oper} {rest : List Oper} {o : Oper} {a : Act} {w : World} {Q : Exit → Act → World → Prop}
theorem load_reg (hgd : o.guard = none) (x : Operand) (ho : o.op = .load 26 x) (g : Nat) (hx : a.eval x = .pointer (some ⟨g, 0, none⟩)) (rs : List Room) (hl : rs.length = 16) (hg : Row w g rs)
    (h : wpList Try.prog ops Q rest (a.put o.dst (.agg (regA rs))) w) : wpList Try.prog ops Q (o :: rest) a w :=
  wpList_load_row hgd 26 x ho g hx 26 (regA rs) (0, 0) _ hg Try.underlying26 rfl (szR hl) h
theorem store_new (hgd : o.guard = none) (x y : Operand) (ho : o.op = .store 26 x y) (hx : a.eval x = .pointer (some ⟨w.heap.size, 0, none⟩)) (rs : List Room) (hl : rs.length = 16) (hy : a.eval y = .agg (regA rs)) (old : Array Value) (hold : old.size = 48)
    (h : wpList Try.prog ops Q rest (a.put o.dst undef) (w.alloc (.cells (regA rs) 26))) : wpList Try.prog ops Q (o :: rest) a (w.alloc (.cells old 26)) := by
  have hsz : old.size = (regA rs).size := by rw [hold, regA_size, hl]
  refine wpList_store_row hgd 26 x y ho w.heap.size (regA rs) hx hy 26 old (heap_alloc_new w _) (szR hl) hsz (regA_one rs) ?_
  rw [World.setRow_alloc_new]; exact h
end
theorem zeros_ok : AllOk zeros := by
  intro k hk
  have : ∀ x ∈ zeros, x = zero := by rw [zeros_eq]; intro x hx; exact List.eq_of_mem_replicate hx
  rw [this _ (List.getElem_mem hk)]
  exact ⟨by decide, by decide, fun h => (by cases h), fun _ => rfl⟩
theorem zeros_at (k : Nat) (hk : k < zeros.length) : zeros[k] = zero := by
  have : ∀ x ∈ zeros, x = zero := by rw [zeros_eq]; intro x hx; exact List.eq_of_mem_replicate hx
  exact this _ (List.getElem_mem hk)
def one7 : List Room := zeros.set 0 ⟨1, true, 7⟩
theorem one7_len : one7.length = 16 := by unfold one7; rw [List.length_set, zeros_len]
theorem let_zero (w : World) : Calls Try.prog 7 #[.agg (regA zeros), .int .i64 7] w fun e w' => e = .returned (.tuple #[.agg (regA one7), .int .i64 16, .int .i64 0]) ∧ Below w.heap.size w w' := by
  have h0 := zeros_at 0 (by rw [zeros_len]; omega)
  have h := let_good zeros zeros_len 7 zeros_ok 0 (by rw [zeros_len]; omega) (by rw [h0]; rfl) (fun j _ hj => absurd hj (by omega)) w
  rw [h0] at h
  exact h
theorem look_one7 (w : World) : Calls Try.prog 10 #[.agg (regA one7), .int .i64 16] w fun e w' => e = .returned (.tuple #[.int .i64 7, .int .i64 0]) ∧ Below w.heap.size w w' := by
  have hm : 0 < one7.length := by rw [one7_len]; omega
  have h0 : one7[0] = ⟨1, true, 7⟩ := by simp [one7]
  have h := look_some one7 one7_len 16 (all_set zeros_ok 0 _ ⟨by decide, by decide, fun _ => by decide, fun h => (by cases h)⟩) 0 hm (by rw [h0]; exact ⟨rfl, rfl⟩) w
  rw [h0] at h
  exact h
set_option maxHeartbeats 800000 in
theorem lives_calls (w : World) : Calls Try.prog 8 #[] w fun e w' => e = .returned (.bool true) ∧ Below w.heap.size w w' := by
  go_enter Try.func8, Try.ntmps8
  go_wp2_with fail
  rw [zeros_lit]
  refine (let_zero _).mono ?_; rintro en w1 ⟨rfl, hb1⟩
  go_wp2_with (first | (refine store_new rfl (.tmp 1) (.tmp 9) rfl rfl one7 one7_len rfl _ rfl ?_) | (refine load_reg rfl (.tmp 1) rfl _ rfl one7 one7_len (Row.new _ _) ?_))
  refine (look_one7 _).mono ?_; rintro en w2 ⟨rfl, hb2⟩
  go_wp2_with fail
  go_ret
  exact ⟨rfl, Kt.bthen (Kt.balloc (Kt.bthen (Below.refl _ w) hb1) _) hb2⟩
/-! totals -/
def Lk (rs : List Room) (n v e : Int) : Prop := ∀ w : World, Calls Try.prog 10 #[.agg (regA rs), .int .i64 n] w fun en w' => en = .returned (.tuple #[.int .i64 v, .int .i64 e]) ∧ Below w.heap.size w w'
def En (rs : List Room) (n : Int) (rs2 : List Room) (e : Int) : Prop := ∀ w : World, Calls Try.prog 9 #[.agg (regA rs), .int .i64 n] w fun en w' => en = .returned (.tuple #[.agg (regA rs2), .int .i64 e]) ∧ Below w.heap.size w w'
def Lt (rs : List Room) (u : Int) (rs2 : List Room) (n e : Int) : Prop := ∀ w : World, Calls Try.prog 7 #[.agg (regA rs), .int .i64 u] w fun en w' => en = .returned (.tuple #[.agg (regA rs2), .int .i64 n, .int .i64 e]) ∧ Below w.heap.size w w'
def Ck (rs : List Room) (e : Int) : Prop := ∀ w : World, Calls Try.prog 12 #[.agg (regA rs)] w fun en w' => en = .returned (.int .i64 e) ∧ Below w.heap.size w w'
theorem first_of (p : Nat → Prop) : ∀ n, (∃ m, m < n ∧ p m) → ∃ m, m < n ∧ p m ∧ ∀ j, j < m → ¬ p j
  | 0, h => by obtain ⟨m, h, _⟩ := h; omega
  | n + 1, ⟨m, hm, hp⟩ => by
    by_cases h : ∃ m, m < n ∧ p m
    · obtain ⟨m', h1, h2, h3⟩ := first_of p n h; exact ⟨m', by omega, h2, h3⟩
    · refine ⟨m, hm, hp, fun j hj hpj => h ⟨j, by omega, hpj⟩⟩
theorem bad_first {rs : List Room} (h : ¬ AllOk rs) : ∃ m, ∃ hm : m < rs.length, ¬ rs[m].ok ∧ ∀ j (hj : j < rs.length), j < m → rs[j].ok := by
  have : ∃ m, m < rs.length ∧ ∃ hm : m < rs.length, ¬ rs[m].ok := by
    refine Classical.byContradiction fun c => h fun k hk => Classical.byContradiction fun d => c ⟨k, hk, hk, d⟩
  obtain ⟨m, hm, ⟨_, hp⟩, hf⟩ := first_of _ _ this
  exact ⟨m, hm, hp, fun j hj hlt => Classical.byContradiction fun d => hf j hlt ⟨hj, d⟩⟩
theorem ck_bad {rs : List Room} (hl : rs.length = 16) (h : ¬ AllOk rs) : Ck rs 4 := by
  obtain ⟨m, hm, hb, hf⟩ := bad_first h
  exact check_bad rs hl m hm hb hf
theorem free_first {rs : List Room} (h : ¬ ∀ j (hj : j < rs.length), free rs[j] = false) : ∃ m, ∃ hm : m < rs.length, free rs[m] = true ∧ ∀ j (hj : j < rs.length), j < m → free rs[j] = false := by
  have : ∃ m, m < rs.length ∧ ∃ hm : m < rs.length, free rs[m] = true := by
    refine Classical.byContradiction fun c => h fun k hk => ?_
    cases e : free rs[k]
    · rfl
    · exact absurd ⟨k, hk, hk, e⟩ c
  obtain ⟨m, hm, ⟨_, hp⟩, hf⟩ := first_of _ _ this
  refine ⟨m, hm, hp, fun j hj hlt => ?_⟩
  cases e : free rs[j]
  · rfl
  · exact absurd ⟨hj, e⟩ (hf j hlt)
def Has (rs : List Room) (n : Int) : Prop := ∃ m, ∃ hm : m < rs.length, holds n m rs[m]
theorem lk_total {rs : List Room} (hl : rs.length = 16) (n : Int) : ∃ v e, Lk rs n v e := by
  by_cases ha : AllOk rs
  · by_cases hh : Has rs n
    · obtain ⟨m, hm, hf⟩ := hh; exact ⟨_, _, look_some rs hl n ha m hm hf⟩
    · exact ⟨_, _, look_none rs hl n ha fun j hj c => hh ⟨j, hj, c⟩⟩
  · exact ⟨_, _, look_bad rs hl n (Lib.hid (ck_bad hl ha))⟩
theorem lt_total {rs : List Room} (hl : rs.length = 16) (u : Int) : ∃ rs2 n e, rs2.length = 16 ∧ Lt rs u rs2 n e := by
  by_cases ha : AllOk rs
  · by_cases hh : ∀ j (hj : j < rs.length), free rs[j] = false
    · exact ⟨_, _, _, zeros_len, let_full rs hl u ha hh⟩
    · obtain ⟨m, hm, hf, hj⟩ := free_first hh
      exact ⟨_, _, _, by rw [List.length_set, hl], let_good rs hl u ha m hm hf hj⟩
  · exact ⟨_, _, _, zeros_len, let_bad rs hl u (Lib.hid (ck_bad hl ha))⟩
theorem apart_look {rs : List Room} (hl : rs.length = 16) (ha : AllOk rs) {x y : Int} {m : Nat} (hm : m < rs.length) (hf : holds x m rs[m]) (hxy : x ≠ y) : ∃ v e, Lk rs y v e ∧ Lk (rs.set m ⟨rs[m].gen, false, 0⟩) y v e := by
  have hl2 : (rs.set m ⟨rs[m].gen, false, 0⟩).length = 16 := by rw [List.length_set, hl]
  have ho := ha m hm
  have ha2 : AllOk (rs.set m ⟨rs[m].gen, false, 0⟩) := all_set ha m _ ⟨ho.1, ho.2.1, fun h => (by cases h), fun _ => rfl⟩
  by_cases hh : Has rs y
  · obtain ⟨k, hk, hy⟩ := hh
    have hne : m ≠ k := by
      rintro rfl
      exact hxy (hf.2.trans hy.2.symm)
    have hk2 : k < (rs.set m ⟨rs[m].gen, false, 0⟩).length := by rw [List.length_set]; exact hk
    have e : (rs.set m ⟨rs[m].gen, false, 0⟩)[k] = rs[k] := by rw [List.getElem_set]; simp [hne]
    refine ⟨_, _, look_some rs hl y ha k hk hy, ?_⟩
    have := look_some _ hl2 y ha2 k hk2 (by rw [e]; exact hy)
    rw [e] at this
    exact this
  · refine ⟨_, _, look_none rs hl y ha fun j hj c => hh ⟨j, hj, c⟩, look_none _ hl2 y ha2 fun j hj c => ?_⟩
    rw [List.getElem_set] at c
    split at c
    · exact absurd c.1 (by simp)
    · exact hh ⟨j, by simpa using hj, c⟩
set_option maxHeartbeats 800000 in
theorem apart_stop (rs rs2 : List Room) (hl : rs.length = 16) (hl2 : rs2.length = 16) (x y e : Int) (HE : Hid (En rs x rs2 e)) (h : (e != 0) = true ∨ ((e != 0) = false ∧ (x == y) = true)) (w : World) : Calls Try.prog 6 #[.agg (regA rs), .int .i64 x, .int .i64 y] w fun en w' => en = .returned (.bool true) ∧ Below w.heap.size w w' := by
  rcases h with h | ⟨h1, h2⟩
  all_goals
    go_enter Try.func6, Try.ntmps6
    go_wp2_with (refine load_reg rfl (.tmp 3) rfl _ rfl rs hl (Row.new _ _) ?_)
    refine (HE.out _).mono ?_; rintro en w1 ⟨rfl, hb1⟩
    go_wp2_with (refine store_new rfl (.tmp 7) (.tmp 17) rfl rfl rs2 hl2 rfl _ rfl ?_)
    refine (lives_calls _).mono ?_; rintro en w2 ⟨rfl, hb2⟩
    go_wp2_with fail
    refine (lives_calls _).mono ?_; rintro en w3 ⟨rfl, hb3⟩
    go_wp2_with fail
    go_ret
    exact ⟨rfl, Kt.bthen (Kt.bthen (Kt.balloc (Kt.bthen (Kt.balloc (Below.refl _ w) _) hb1) _) hb2) hb3⟩
set_option maxHeartbeats 800000 in
theorem apart_go (rs rs2 : List Room) (hl : rs.length = 16) (hl2 : rs2.length = 16) (x y v e : Int) (HE : Hid (En rs x rs2 0)) (h : (x == y) = false) (L1 : Hid (Lk rs y v e)) (L2 : Hid (Lk rs2 y v e)) (w : World) : Calls Try.prog 6 #[.agg (regA rs), .int .i64 x, .int .i64 y] w fun en w' => en = .returned (.bool true) ∧ Below w.heap.size w w' := by
  go_enter Try.func6, Try.ntmps6
  go_wp2_with (refine load_reg rfl (.tmp 3) rfl _ rfl rs hl (Row.new _ _) ?_)
  refine (HE.out _).mono ?_; rintro en w1 ⟨rfl, hb1⟩
  go_wp2_with (refine store_new rfl (.tmp 7) (.tmp 17) rfl rfl rs2 hl2 rfl _ rfl ?_)
  refine (lives_calls _).mono ?_; rintro en w2 ⟨rfl, hb2⟩
  have r1 : Row w2 w.heap.size rs := (((Row.new w rs).on hb1).alloc _).on hb2
  have r2 : Row w2 w1.heap.size rs2 := (Row.new w1 rs2).on hb2
  go_wp2_with (refine load_reg rfl (.tmp 3) rfl _ rfl rs hl r1 ?_)
  refine (L1.out _).mono ?_; rintro en w3 ⟨rfl, hb3⟩
  have r3 := r2.on hb3
  go_wp2_with (refine load_reg rfl (.tmp 7) rfl _ rfl rs2 hl2 r3 ?_)
  refine (L2.out _).mono ?_; rintro en w4 ⟨rfl, hb4⟩
  go_wp2_with fail
  go_ret
  exact ⟨by simp, Kt.bthen (Kt.bthen (Kt.bthen (Kt.balloc (Kt.bthen (Kt.balloc (Below.refl _ w) _) hb1) _) hb2) hb3) hb4⟩
theorem rarg {w : World} {B : Nat} {v : Value} (r : Fr.RdV w B (.cat 48 (.arr 16 3 (.cat 1 (.int .i64) (.cat 1 .bool (.cat 1 (.int .i64) .nil)))) .nil) v) : ∃ rs : List Room, rs.length = 16 ∧ v = .agg (regA rs) ∧ ∀ x ∈ rs, (Lit.int .i64 x.what).wf = true := by
  obtain ⟨cs, rfl, r⟩ := r
  obtain ⟨l, t, e, hl, ⟨hn, ra⟩, r1⟩ := Fr.cat_open r
  have e1 : t = [] := r1
  subst e1
  simp only [List.append_nil] at e
  have key : ∀ (n : Nat) (c : List Value), c.length = n * 3 → (∀ i, i < n → Fr.Rd w B (.cat 1 (.int .i64) (.cat 1 .bool (.cat 1 (.int .i64) .nil))) ((c.drop (i * 3)).take 3)) → ∃ rs : List Room, rs.length = n ∧ c = regL rs ∧ ∀ x ∈ rs, (Lit.int .i64 x.what).wf = true := by
    intro n
    induction n with
    | zero => intro c hc _; exact ⟨[], rfl, by simpa [regL] using hc, by simp⟩
    | succ n ih =>
      intro c hc h
      obtain ⟨rs, h1, h2, h3⟩ := ih (c.drop 3) (by simp; omega) (fun i hi => by
        have := h (i + 1) (by omega)
        rw [List.drop_drop, show 3 + i * 3 = (i + 1) * 3 by omega]; exact this)
      have h0 := h 0 (by omega)
      simp only [Nat.zero_mul, List.drop_zero] at h0
      obtain ⟨_, _, a1, _, ⟨g, rfl, _⟩, q1⟩ := Fr.cat_open h0
      obtain ⟨_, _, a2, _, ⟨b, rfl⟩, q2⟩ := Fr.cat_open q1
      obtain ⟨_, _, a3, _, ⟨u, rfl, hu⟩, q3⟩ := Fr.cat_open q2
      have q4 : _ = [] := q3
      rw [a2, a3, q4] at a1
      refine ⟨⟨g, b, u⟩ :: rs, by simp [h1], ?_, ?_⟩
      · rw [regL_cons, ← h2, ← List.take_append_drop 3 c, a1]; simp
      · intro x hx
        rcases List.mem_cons.1 hx with rfl | hx
        · exact hu
        · exact h3 x hx
  obtain ⟨rs, h1, h2, h3⟩ := key 16 l hn ra
  refine ⟨rs, h1, ?_, h3⟩
  rw [regA_eq, ← h2, Fr.arr_of e]
theorem apart_walk (v0 v1 v2 : Value) (w : World) (r0 : Fr.RdV w reachBytes (.cat 48 (.arr 16 3 (.cat 1 (.int .i64) (.cat 1 .bool (.cat 1 (.int .i64) .nil)))) .nil) v0) (r1 : Fr.RdV w reachBytes (.int .i64) v1) (r2 : Fr.RdV w reachBytes (.int .i64) v2) :
    Calls Try.prog 6 #[v0, v1, v2] w fun e w' => e = .returned (.bool true) ∧ Below w.heap.size w w' := by
  obtain ⟨rs, hl, rfl, _⟩ := rarg r0
  obtain ⟨x, e1, _⟩ := r1; cases e1
  obtain ⟨y, e2, _⟩ := r2; cases e2
  by_cases ha : AllOk rs
  · by_cases hh : Has rs x
    · obtain ⟨m, hm, hf⟩ := hh
      have hl2 : (rs.set m ⟨rs[m].gen, false, 0⟩).length = 16 := by rw [List.length_set, hl]
      have HE : Hid (En rs x _ 0) := Lib.hid (end_some rs hl x ha m hm hf)
      by_cases hxy : x = y
      · exact apart_stop rs _ hl hl2 x y 0 HE (Or.inr ⟨rfl, by simpa using hxy⟩) w
      · obtain ⟨v, e, l1, l2⟩ := apart_look hl ha hm hf hxy
        exact apart_go rs _ hl hl2 x y v e HE (by simpa using hxy) (Lib.hid l1) (Lib.hid l2) w
    · exact apart_stop rs _ hl zeros_len x y 12 (Lib.hid (end_none rs hl x ha fun j hj c => hh ⟨j, hj, c⟩)) (Or.inl rfl) w
  · exact apart_stop rs _ hl zeros_len x y 4 (Lib.hid (end_bad rs hl x (Lib.hid (ck_bad hl ha)))) (Or.inl rfl) w
end Go.Proofs.Ytblcanmkkjfnlaa
