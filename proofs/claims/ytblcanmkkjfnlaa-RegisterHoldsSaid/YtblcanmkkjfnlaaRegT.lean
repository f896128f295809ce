/- Handles that are held: the plain law; the map of the law RegisterHolds; RegisterRight walked. -/
import Derived.Test.YtblcanmkkjfnlaaRegS
import Derived.Maps.OwnOps
import Derived.Maps.Views
namespace Go.Proofs.Ytblcanmkkjfnlaa
open Go.RowKit Go.Proofs.Ytblcanmkkjfnlaa.RegP Go.Maps
/-- h was let as u, and is live; own: what was let behind it, and is live -/
structure Held (rs : List Room) (h u : Int) (own : List Int) : Prop where
  ok : AllOk rs
  len : rs.length = 16
  has : ∀ k ∈ own, Has rs k
  nodup : own.Nodup
  out : h ∉ own
  here : ∃ m, ∃ hm : m < rs.length, holds h m rs[m] ∧ rs[m].what = u
theorem Held.let_ {rs : List Room} {h u : Int} {own : List Int} (s : Held rs h u own) {m : Nat} {hm : m < rs.length} (hf : free rs[m] = true) (t : Int) :
    Held (rs.set m ⟨rs[m].gen + 1, true, t⟩) h u (own ++ [m + 16 * (rs[m].gen + 1)]) := by
  have hlen := s.len
  have hlv := (free_open hf).1
  obtain ⟨m', hm', h1, h2⟩ := s.here
  have hne : m ≠ m' := by rintro rfl; have := h1.1; rw [hlv] at this; cases this
  have hnh : (m + 16 * (rs[m].gen + 1) : Int) ≠ h := by
    intro e; have := h1.2; omega
  refine ⟨let_ok s.ok m hm hf t, by simpa using s.len, fun k hk => ?_, ?_, ?_, m', by simpa using hm', ?_⟩
  · rcases List.mem_append.1 hk with hk | hk
    · exact has_set (s.has k hk) m hm (fun c => by have := c.1; rw [hlv] at this; cases this) _
    · simp at hk; subst hk
      exact ⟨m, by simpa using hm, by simp, by simp⟩
  · rw [List.nodup_append]
    exact ⟨s.nodup, by simp, fun a ha b hb => by simp at hb; subst hb; rintro rfl; exact new_not s.len s.has hf ha⟩
  · intro hk
    rcases List.mem_append.1 hk with hk | hk
    · exact s.out hk
    · simp at hk; exact hnh hk.symm
  · rw [List.getElem_set, if_neg hne]; exact ⟨h1, h2⟩
theorem Held.end_ {rs : List Room} {h u k : Int} {own : List Int} (s : Held rs h u (k :: own)) {m : Nat} {hm : m < rs.length} (hf : holds k m rs[m]) : Held (rs.set m ⟨rs[m].gen, false, 0⟩) h u own := by
  have hn := List.nodup_cons.1 s.nodup
  obtain ⟨m', hm', h1, h2⟩ := s.here
  have hkh : k ≠ h := fun e => s.out (by simp [e])
  have hne : m ≠ m' := by
    rintro rfl
    exact hkh (hf.2.trans h1.2.symm)
  refine ⟨end_ok s.ok m hm, by simpa using s.len, fun x hx => ?_, hn.2, fun hk => s.out (by simp [hk]), m', by simpa using hm', ?_⟩
  · refine has_set (s.has x (by simp [hx])) m hm (fun c => ?_) _
    have : x = k := c.2.trans hf.2.symm
    subst this
    exact hn.1 hx
  · rw [List.getElem_set, if_neg hne]; exact ⟨h1, h2⟩
theorem held_start {rs : List Room} (ha : AllOk rs) (hl : rs.length = 16) {m : Nat} {hm : m < rs.length} (hf : free rs[m] = true) (u : Int) : Held (rs.set m ⟨rs[m].gen + 1, true, u⟩) (m + 16 * (rs[m].gen + 1)) u [] :=
  ⟨let_ok ha m hm hf u, by simpa using hl, by simp, by simp, by simp, m, by simpa using hm, by rw [List.getElem_set_self]; exact ⟨⟨rfl, rfl⟩, rfl⟩⟩
theorem Held.look {rs : List Room} {h u : Int} {own : List Int} (s : Held rs h u own) : Lk rs h u 0 := by
  obtain ⟨m, hm, h1, h2⟩ := s.here
  have := look_some rs s.len h s.ok m hm h1
  rw [h2] at this
  exact this
/-- no handle that is still to come has been seen -/
def Fresh (rs : List Room) (D : DataW Unit) : Prop := ∀ j (hj : j < rs.length) (g : Int), rs[j].gen < g → D.atKey (.int .i64 (j + 16 * g)) (.lit (.int .i64 0)) = .lit (.int .i64 0)
theorem Fresh.let_ {rs : List Room} {D : DataW Unit} (hl : rs.length = 16) (f : Fresh rs D) {m : Nat} {hm : m < rs.length} (t : Int) (d : DataW Unit) : Fresh (rs.set m ⟨rs[m].gen + 1, true, t⟩) (D.put (.int .i64 (m + 16 * (rs[m].gen + 1))) d) := by
  intro j hj g hg
  have hj' : j < rs.length := by simpa using hj
  rw [List.getElem_set] at hg
  rw [atKey_put_other (by
    intro e
    injection e with _ e
    have hjm : j = m := by omega
    subst hjm
    simp at hg
    omega)]
  by_cases hjm : m = j
  · subst hjm; rw [if_pos rfl] at hg; exact f m hm g (by simp only at hg; omega)
  · rw [if_neg hjm] at hg; exact f j hj' g hg
theorem Fresh.end_ {rs : List Room} {D : DataW Unit} (f : Fresh rs D) {m : Nat} {hm : m < rs.length} : Fresh (rs.set m ⟨rs[m].gen, false, 0⟩) D := by
  intro j hj g hg
  rw [List.getElem_set] at hg
  by_cases hjm : m = j
  · subst hjm; rw [if_pos rfl] at hg; exact f m hm g hg
  · rw [if_neg hjm] at hg; exact f j (by simpa using hj) g hg
theorem mp_keep {w w' : World} {P : Program} {k : TypeId} {R : Value → Option (DataW Unit × List MemPlace)} {b n : Nat} {D : DataW Unit} (h : w.ownsMap P k R b n D) (e : w'.heap[b]? = w.heap[b]?) : w'.ownsMap P k R b n D := by
  obtain ⟨es, clock, hb, r⟩ := h
  exact ⟨es, clock, e.trans hb, r⟩
theorem mp_map {w : World} {P : Program} {k : TypeId} {R : Value → Option (DataW Unit × List MemPlace)} {b n : Nat} {D : DataW Unit} (h : w.ownsMap P k R b n D) : IsMap D := by
  obtain ⟨es, clock, hb, _, _, rfl⟩ := h
  exact ⟨_, rfl⟩
theorem keyI : Keyed Try.prog 3 := int_keyed Try.underlying3
theorem zeroI (w : World) : (zeroValue 3).run Try.prog w = .ok (.int .i64 0) w := by kernel_rfl
theorem insert_own {P : Program} (w : World) {ops : Array Oper} {rest : List Oper} {o : Oper} {a : Act} {Q : Exit → Act → World → Prop}
    (hg : o.guard = none) (m x v : Operand) (t : TypeId) (hop : o.op = Op.insert t m x v)
    (k e : TypeId) (K : Keyed P k) (ht : P.underlying t = some (.map k e)) (R : Value → Option (DataW Unit × List MemPlace)) (b n : Nat) (D : DataW Unit)
    (hm : a.eval m = .map (some b)) (hown : w.ownsMap P k R b n D) (hn : n < maxLen) (key val : Value) (kl : Lit) (hx : a.eval x = key) (hv : a.eval v = val) (hkey : keyOf P k key = some kl)
    (d : DataW Unit) (ps : List MemPlace) (hval : R val = some (d, ps))
    (hK : ∀ w', w'.ownsMap P k R b (n + 1) (D.put kl d) → w.grownBy w' (some b) → wpList P ops Q rest (a.put o.dst undef) w') :
    wpList P ops Q (o :: rest) a w := by
  refine wpList_plain hg fun K' hK' => ?_
  obtain ⟨w', hrun, r1, r2⟩ := hown.update K ht hn hkey hval
  unfold Oper.wp
  simp [execOp, hop, hm, hx, hv, hrun, Result.andThen]
  exact hK' _ _ (hK w' r1 r2)
theorem lookup_at {P : Program} (w : World) {ops : Array Oper} {rest : List Oper} {o : Oper} {a : Act} {Q : Exit → Act → World → Prop}
    (hg : o.guard = none) (m x : Operand) (t : TypeId) (hop : o.op = Op.lookup t m x false)
    (k e : TypeId) (q : IntKind) (K : Keyed P k) (ht : P.underlying t = some (.map k e)) (he : P.underlying e = some (.int q)) (hz : (zeroValue e).run P w = .ok (.int q 0) w) (b n : Nat) (D : DataW Unit)
    (hm : a.eval m = .map (some b)) (hown : w.ownsMap P k (plainElem P e) b n D) (key : Value) (kl : Lit) (hx : a.eval x = key) (hkey : keyOf P k key = some kl) (c : Int) (hc : D.atKey kl (.lit (.int q 0)) = .lit (.int q c))
    (hK : wpList P ops Q rest (a.put o.dst (.int q c)) w) :
    wpList P ops Q (o :: rest) a w := by
  refine wpList_plain hg fun K' hK' => ?_
  obtain ⟨c', hrun, hat, hwc⟩ := hown.lookup_int K ht he hz hkey
  have : c' = c := by rw [hc] at hat; injection hat with h; injection h with _ h; exact h.symm
  subst this
  unfold Oper.wp
  simp [execOp, hop, hm, hx, hrun, Result.andThen]
  exact hK' _ _ hK
theorem between_calls (n : Int) (h : 0 ≤ n ∧ n ≤ 65535) (w : World) : Calls Try.prog 14 #[.int .i64 n, .int .i64 0, .int .i64 65535] w fun e w' => e = .returned (.bool true) ∧ w = w' := by
  go_enter Try.func14, Try.ntmps14
  go_wp2
  go_ret
  exact ⟨rfl, rfl⟩
set_option maxHeartbeats 800000 in
theorem right_calls (rs : List Room) (hl : rs.length = 16) (h : AllOk rs) (w : World) : Calls Try.prog 11 #[.agg (regA rs)] w fun e w' => e = .returned (.int .i64 0) ∧ Below w.heap.size w w' := by
  go_enter Try.func11, Try.ntmps11
  go_wp2_with ((refine wpList_load_row rfl 24 (.tmp 5) rfl w.heap.size rfl 26 (regA rs) (0, 0) _ (heap_alloc_new w _) Try.underlying24 rfl (szA hl) ?_))
  go_loopw [7] (fun i wr => ∃ k : Nat, k ≤ 16 ∧ i = .int .i64 k ∧ Below w.heap.size w wr ∧ w.heap.size < wr.heap.size) (fun i _ => 16 - (intOf i).toNat)
  case atStart => exact ⟨0, by omega, rfl, Kt.balloc (Below.refl _ w) _, by simp⟩
  case round =>
    obtain ⟨k, hk, rfl, hbel, hsz⟩ := hrel
    by_cases hlt : k < 16
    · have hx := h k (by omega)
      have hidx := part_room rs hl k (by omega)
      generalize rs[k] = x at *
      obtain ⟨g, l, u⟩ := x
      obtain ⟨x1, x2, x3, x4⟩ := hx
      simp only at x1 x2 x3 x4 hidx
      cases l
      · have e := x4 rfl
        subst e
        clear x3 x4
        go_wp2_with (go_at_call 14; refine (between_calls _ ⟨x1, x2⟩ _).mono ?_; rintro en w' ⟨rfl, rfl⟩)
        go_roundw
        case rel => exact ⟨k + 1, by omega, by go_num, Kt.balloc hbel _, by simp; omega⟩
        case measure => simp [intOf]; omega
      · have e : 1 ≤ g := by have := x3 rfl; omega
        have e0 : (g == 0) = false := by rw [beq_eq_false_iff_ne]; omega
        clear x3 x4
        go_wp2_with (go_at_call 14; refine (between_calls _ ⟨x1, x2⟩ _).mono ?_; rintro en w' ⟨rfl, rfl⟩)
        go_roundw
        case rel => exact ⟨k + 1, by omega, by go_num, Kt.balloc hbel _, by simp; omega⟩
        case measure => simp [intOf]; omega
    · obtain rfl : k = 16 := by omega
      go_wp2
      go_ret
      exact ⟨rfl, hbel⟩
end Go.Proofs.Ytblcanmkkjfnlaa
