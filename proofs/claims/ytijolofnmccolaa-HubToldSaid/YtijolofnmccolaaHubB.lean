/- hubLives; Plug, Tick, Control whole; what stays right. -/
import Derived.Test.YtijolofnmccolaaHubA
namespace Go.Proofs.Ytijolofnmccolaa
open Go.RowKit Go.Proofs.Ytijolofnmccolaa.SetP
section
variable {ops : Array Oper} {rest : List Oper} {o : Oper} {a : Act} {w : World} {Q : Exit → Act → World → Prop}
/-- a load of a hub, guarded too -/
theorem load_hub_g (hgd : Region.wanted o (yielded ops a.tmps) = true) (x : Operand) (ho : o.op = .load 26 x) (g : Nat) (hx : a.eval x = .pointer (some ⟨g, 0, none⟩)) (c : Int) (ps : List Int) (hl : ps.length = 32) (hg : HBox g c ps w)
    (h : wpList Try.prog ops Q rest (a.put o.dst (HV c ps)) w) : wpList Try.prog ops Q (o :: rest) a w := by
  refine BigFrame.wpList_want hgd fun K hK => ?_
  exact wp_load_row 26 x ho g hx 26 (Kt.ia .i64 (c :: ps)) (0, 0) _ hg Try.underlying26 rfl (hub_size c ps hl) (hK _ _ h)
end
theorem lit2 : (.agg #[.int .i64 2, .int .i64 0, .int .i64 0, .int .i64 0, .int .i64 0, .int .i64 0, .int .i64 0, .int .i64 0, .int .i64 0, .int .i64 0, .int .i64 0, .int .i64 0, .int .i64 0, .int .i64 0, .int .i64 0, .int .i64 0, .int .i64 0, .int .i64 0, .int .i64 0, .int .i64 0, .int .i64 0, .int .i64 0, .int .i64 0, .int .i64 0, .int .i64 0, .int .i64 0, .int .i64 0, .int .i64 0, .int .i64 0, .int .i64 0, .int .i64 0, .int .i64 0, .int .i64 0] : Value) = HV 2 zs := rfl
theorem lives_first : First ⟨#[35, 3, 8, 0, 2, 0, 0, 0]⟩ 9 ∧ wordAt ⟨#[35, 3, 8, 0, 2, 0, 0, 0]⟩ 2 = 8 ∧ wordAt ⟨#[35, 3, 8, 0, 2, 0, 0, 0]⟩ 4 = 2 := by
  have h := first_txt (k := 9) (v := 8) (i := 2) (l := 0) (r := ⟨35, 3, 6, 5, 0⟩) rfl ⟨⟨35, 3, 6, 5, 0⟩, rfl, by show canP 6 8; unfold canP; omega, by show canP 5 2; unfold canP; omega, .inl rfl⟩ (by omega)
  have e : txt 35 3 8 2 0 = ⟨#[35, 3, 8, 0, 2, 0, 0, 0]⟩ := by rfl
  rw [← e]
  exact h
/-- of one ask one thing comes -/
theorem ctl_one {c : Int} {ps : List Int} {s : ByteArray} {a a' : List Int} {t t' : ByteArray} {n n' : Int} (h : Ctl c ps s a t n) (g : Ctl c ps s a' t' n') : a = a' ∧ t = t' ∧ n = n' := by
  have nat {i j : Nat} (h : wordAt s 4 = i) (g : wordAt s 4 = j) : i = j := by omega
  cases h with
  | unread ha =>
    cases g with
    | unread hb => exact ⟨rfl, rfl, rfl⟩
    | kind kb hb hkb => exact absurd ha (First.not hb)
    | index kb hb hkb hib => exact absurd ha (First.not hb)
    | status hb ib hib h1b h2b => exact absurd ha (First.not hb)
    | on hb ib hib h1b h2b xb hxb => exact absurd ha (First.not hb)
    | onNo hb ib hib h1b h2b hxb => exact absurd ha (First.not hb)
    | off hb ib hib h1b h2b xb yb hxb => exact absurd ha (First.not hb)
    | offNo hb ib hib h1b h2b hxb => exact absurd ha (First.not hb)
  | kind ka ha hka =>
    cases g with
    | unread hb => exact absurd hb (First.not ha)
    | kind kb hb hkb => exact ⟨rfl, rfl, rfl⟩
    | index kb hb hkb hib => have e := First.one ha hb; omega
    | status hb ib hib h1b h2b => have e := First.one ha hb; omega
    | on hb ib hib h1b h2b xb hxb => have e := First.one ha hb; omega
    | onNo hb ib hib h1b h2b hxb => have e := First.one ha hb; omega
    | off hb ib hib h1b h2b xb yb hxb => have e := First.one ha hb; omega
    | offNo hb ib hib h1b h2b hxb => have e := First.one ha hb; omega
  | index ka ha hka hia =>
    cases g with
    | unread hb => exact absurd hb (First.not ha)
    | kind kb hb hkb => have e := First.one ha hb; omega
    | index kb hb hkb hib => exact ⟨rfl, rfl, rfl⟩
    | status hb ib hib h1b h2b => omega
    | on hb ib hib h1b h2b xb hxb => omega
    | onNo hb ib hib h1b h2b hxb => omega
    | off hb ib hib h1b h2b xb yb hxb => omega
    | offNo hb ib hib h1b h2b hxb => omega
  | status ha ia hia h1a h2a =>
    cases g with
    | unread hb => exact absurd hb (First.not ha)
    | kind kb hb hkb => have e := First.one ha hb; omega
    | index kb hb hkb hib => omega
    | status hb ib hib h1b h2b => rw [nat hia hib]; exact ⟨rfl, rfl, rfl⟩
    | on hb ib hib h1b h2b xb hxb => have e := First.one ha hb; omega
    | onNo hb ib hib h1b h2b hxb => have e := First.one ha hb; omega
    | off hb ib hib h1b h2b xb yb hxb => have e := First.one ha hb; omega
    | offNo hb ib hib h1b h2b hxb => have e := First.one ha hb; omega
  | on ha ia hia h1a h2a xa hxa =>
    cases g with
    | unread hb => exact absurd hb (First.not ha)
    | kind kb hb hkb => have e := First.one ha hb; omega
    | index kb hb hkb hib => omega
    | status hb ib hib h1b h2b => have e := First.one ha hb; omega
    | on hb ib hib h1b h2b xb hxb => obtain rfl := nat hia hib; rw [hxa] at hxb; cases hxb; exact ⟨rfl, rfl, rfl⟩
    | onNo hb ib hib h1b h2b hxb => obtain rfl := nat hia hib; rw [hxa] at hxb; cases hxb
    | off hb ib hib h1b h2b xb yb hxb => have e := First.one ha hb; omega
    | offNo hb ib hib h1b h2b hxb => have e := First.one ha hb; omega
  | onNo ha ia hia h1a h2a hxa =>
    cases g with
    | unread hb => exact absurd hb (First.not ha)
    | kind kb hb hkb => have e := First.one ha hb; omega
    | index kb hb hkb hib => omega
    | status hb ib hib h1b h2b => have e := First.one ha hb; omega
    | on hb ib hib h1b h2b xb hxb => obtain rfl := nat hia hib; rw [hxa] at hxb; cases hxb
    | onNo hb ib hib h1b h2b hxb => exact ⟨rfl, rfl, rfl⟩
    | off hb ib hib h1b h2b xb yb hxb => have e := First.one ha hb; omega
    | offNo hb ib hib h1b h2b hxb => have e := First.one ha hb; omega
  | off ha ia hia h1a h2a xa ya hxa =>
    cases g with
    | unread hb => exact absurd hb (First.not ha)
    | kind kb hb hkb => have e := First.one ha hb; omega
    | index kb hb hkb hib => omega
    | status hb ib hib h1b h2b => have e := First.one ha hb; omega
    | on hb ib hib h1b h2b xb hxb => have e := First.one ha hb; omega
    | onNo hb ib hib h1b h2b hxb => have e := First.one ha hb; omega
    | off hb ib hib h1b h2b xb yb hxb => obtain rfl := nat hia hib; rw [hxa] at hxb; cases hxb; exact ⟨rfl, rfl, rfl⟩
    | offNo hb ib hib h1b h2b hxb => obtain rfl := nat hia hib; rw [hxa] at hxb; cases hxb
  | offNo ha ia hia h1a h2a hxa =>
    cases g with
    | unread hb => exact absurd hb (First.not ha)
    | kind kb hb hkb => have e := First.one ha hb; omega
    | index kb hb hkb hib => omega
    | status hb ib hib h1b h2b => have e := First.one ha hb; omega
    | on hb ib hib h1b h2b xb hxb => have e := First.one ha hb; omega
    | onNo hb ib hib h1b h2b hxb => have e := First.one ha hb; omega
    | off hb ib hib h1b h2b xb yb hxb => obtain rfl := nat hia hib; rw [hxa] at hxb; cases hxb
    | offNo hb ib hib h1b h2b hxb => exact ⟨rfl, rfl, rfl⟩
theorem right_upd {c : Int} {ps : List Int} (h : RightH c ps) (hl : ps.length = 32) {i : Nat} (h1 : (1 : Int) ≤ i) (h2 : (i : Int) ≤ c) {s t : Int} (hst : rightP s t) : RightH c (upd ps i s t) := by
  have hi : i < 16 := by have := h.c2; omega
  refine ⟨h.c1, h.c2, fun j hj => ?_⟩
  by_cases e : j = i
  · subst e
    obtain ⟨a, b⟩ := upd_at ps hl j hi s t
    unfold okAt
    rw [a, b]
    exact ⟨hst, fun hh => by omega⟩
  · obtain ⟨a, b⟩ := upd_get ps i j s t e
    have := h.ok j hj
    unfold okAt at this ⊢
    rw [a, b]; exact this
theorem fit_upd {ps : List Int} (h : Fit ps) (i : Nat) {s t : Int} (hs : s < 9223372036854775808) (ht : t < 9223372036854775808) : Fit (upd ps i s t) := fun x hx => by
  unfold upd at hx
  rcases List.mem_or_eq_of_mem_set hx with hx | rfl
  · rcases List.mem_or_eq_of_mem_set hx with hx | rfl
    · exact h x hx
    · exact hs
  · exact ht
theorem right_bd {s t : Int} (h : rightP s t) : s < 9223372036854775808 ∧ t < 9223372036854775808 := by
  obtain ⟨a, b⟩ := h
  unfold okS at a; unfold okC at b; omega
theorem plugP_right {s t : Int} (h : rightP s t) (h0 : s ≠ 0) (b : Bool) : rightP (plugP s t b).1 (plugP s t b).2 := by
  obtain ⟨hs, ht⟩ := h
  unfold okS at hs; unfold okC at ht
  rcases hs with rfl | rfl | rfl | rfl | rfl
  · exact absurd rfl h0
  all_goals
    rcases ht with rfl | rfl | rfl | rfl | rfl | rfl | rfl | rfl <;> cases b <;> (unfold rightP okS okC; decide)
theorem tickP_right {s t : Int} (h : rightP s t) : rightP (tickP s t).1 (tickP s t).2 := by
  obtain ⟨hs, ht⟩ := h
  unfold okS at hs; unfold okC at ht
  rcases hs with rfl | rfl | rfl | rfl | rfl
  all_goals
    rcases ht with rfl | rfl | rfl | rfl | rfl | rfl | rfl | rfl <;> (unfold rightP okS okC; decide)
theorem on_right {s f x : Int} (h : okS s) (hx : onP s f = some x) : okS x := by
  unfold onP at hx
  unfold okS at h
  split at hx
  · cases hx
    rcases h with rfl | rfl | rfl | rfl | rfl <;> (unfold okS; decide)
  · split at hx
    · rename_i hc
      cases hx
      have h1 := hc.2
      rcases h with rfl | rfl | rfl | rfl | rfl
      · exact absurd h1 (by decide)
      · exact absurd h1 (by decide)
      all_goals (unfold okS; decide)
    · cases hx
theorem off_right {s t f x y : Int} (h : rightP s t) (hx : offP s t f = some (x, y)) : rightP x y := by
  obtain ⟨hs, ht⟩ := h
  unfold offP at hx
  unfold okS at hs
  unfold okC at ht
  split at hx
  · cases hx; rcases hs with rfl | rfl | rfl | rfl | rfl <;> exact ⟨by unfold okS; decide, by unfold okC; exact ht⟩
  split at hx
  · cases hx; exact ⟨.inl rfl, ht⟩
  split at hx
  · cases hx; rcases ht with rfl | rfl | rfl | rfl | rfl | rfl | rfl | rfl <;> exact ⟨hs, by unfold okC; decide⟩
  split at hx
  · cases hx; rcases ht with rfl | rfl | rfl | rfl | rfl | rfl | rfl | rfl <;> exact ⟨hs, by unfold okC; decide⟩
  split at hx
  · cases hx; rcases ht with rfl | rfl | rfl | rfl | rfl | rfl | rfl | rfl <;> exact ⟨hs, by unfold okC; decide⟩
  · cases hx
theorem ctl_right {c : Int} {ps a : List Int} {s t : ByteArray} {n : Int} (hr : RightH c ps) (hl : ps.length = 32) (hf : Fit ps) (h : Ctl c ps s a t n) : RightH c a ∧ a.length = 32 ∧ Fit a := by
  have h16 {i : Nat} (h1 : (1 : Int) ≤ i) (h2 : (i : Int) ≤ c) : i < 16 := by have := hr.c2; omega
  cases h with
  | on h i hi h1 h2 x hx =>
    have hp := (hr.ok i (h16 h1 h2)).1
    have hq : rightP x (psT ps i) := ⟨on_right hp.1 hx, hp.2⟩
    exact ⟨right_upd hr hl h1 h2 hq, by rw [upd_len, hl], fit_upd hf i (right_bd hq).1 (right_bd hq).2⟩
  | off h i hi h1 h2 x y hx =>
    have hq := off_right (hr.ok i (h16 h1 h2)).1 hx
    exact ⟨right_upd hr hl h1 h2 hq, by rw [upd_len, hl], fit_upd hf i (right_bd hq).1 (right_bd hq).2⟩
  | _ => exact ⟨hr, hl, hf⟩
theorem lives_val : chText 2 (upd zs 2 256 0) = ⟨#[0]⟩ := by decide +kernel
set_option maxHeartbeats 1600000 in
theorem lives_calls (w : World) : Calls Try.prog 9 #[] w fun e w' => e = .returned (.bool true) ∧ Below w.heap.size w w' := by
  have hrz := right_zero 2 (by omega) (by omega)
  have hq : rightP 256 0 := ⟨by unfold okS; decide, by unfold okC; decide⟩
  have hru : RightH 2 (upd zs 2 256 0) := right_upd hrz zs_len (by omega) (by omega) hq
  have hlu : (upd zs 2 256 0).length = 32 := by rw [upd_len, zs_len]
  have HCH := Lib.hid (fun W => changes_small 2 (upd zs 2 256 0) hlu (fit_upd fit_zero 2 (by omega) (by omega)) W hru (by omega) (by omega))
  rw [lives_val] at HCH
  have HLU := Lib.hid hlu
  have HCT : Hid (Ctl 2 zs ⟨#[35, 3, 8, 0, 2, 0, 0, 0]⟩ (upd zs 2 256 0) ⟨#[]⟩ 0) := Lib.hid (Ctl.on lives_first.1 2 lives_first.2.2 (by omega) (by omega) 256 (by rw [lives_first.2.1]; decide))
  have HAT : Hid (∀ h : 2 * 2 < (upd zs 2 256 0).length, (upd zs 2 256 0)[2 * 2]'h = 256) := Lib.hid fun _ => rfl
  clear hrz hq hru hlu
  go_enter Try.func9, Try.ntmps9
  go_wp2_with fail
  rw [lit2]
  refine (ctl_good 2 zs zs_len fit_zero _ _ (right_zero 2 (by omega) (by omega))).mono ?_
  rintro en w1 ⟨ps', t, n, hctl, rfl, hb⟩
  obtain ⟨rfl, rfl, rfl⟩ := ctl_one hctl HCT.out
  have hbx : HBox w1.heap.size 2 (upd zs 2 256 0) (w1.alloc (.cells (Kt.ia .i64 (2 :: upd zs 2 256 0)) 26)) := heap_alloc_new w1 _
  have hbel := Kt.balloc hb (.cells (Kt.ia .i64 (2 :: upd zs 2 256 0)) 26)
  clear hctl hb
  generalize upd zs 2 256 0 = ps at *
  go_wp2_with (first
    | (refine store_hub_new rfl (.tmp 1) (.tmp 9) rfl w1.heap.size rfl rfl 2 ps HLU.out rfl _ rfl ?_)
    | (refine load_hub rfl (.tmp 1) rfl w1.heap.size rfl 2 ps HLU.out hbx ?_))
  refine (HCH.out _).mono ?_
  rintro en w2 ⟨rfl, hb2⟩
  have hbx2 := hbx.on hb2
  have hps := (hbx2.port HLU.out 2 (by omega)).1
  rw [HAT.out] at hps
  go_wp2_with fail
  go_ret
  exact ⟨rfl, Kt.bthen hbel hb2⟩
end Go.Proofs.Ytijolofnmccolaa
