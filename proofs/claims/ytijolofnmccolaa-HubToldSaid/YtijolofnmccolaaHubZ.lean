/- The path of a port, by its values. -/
import Derived.Test.YtijolofnmccolaaHubX
namespace Go.Proofs.Ytijolofnmccolaa
open Go.RowKit Go.Proofs.Ytijolofnmccolaa.SetP
theorem upd_upd (ps : List Int) (i : Nat) (s t x y : Int) : upd (upd ps i s t) i x y = upd ps i x y := by
  unfold upd
  rw [List.set_comm t x (show i * 2 + 1 ≠ i * 2 by omega), List.set_set, List.set_set]
/-- a hub whose one port is in use -/
def onep (i : Nat) (s t : Int) : List Int := upd zs i s t
theorem onep_len (i : Nat) (s t : Int) : (onep i s t).length = 32 := by unfold onep; rw [upd_len, zs_len]
theorem onep_at (i : Nat) (hi : i < 16) (s t : Int) : psS (onep i s t) i = s ∧ psT (onep i s t) i = t := upd_at zs zs_len i hi s t
theorem onep_upd (i : Nat) (s t x y : Int) : upd (onep i s t) i x y = onep i x y := upd_upd zs i s t x y
theorem onep_fit (i : Nat) (s t : Int) (h : rightP s t) : Fit (onep i s t) := fit_upd fit_zero i (right_bd h).1 (right_bd h).2
theorem onep_right {c : Int} {i : Nat} (hr : RightH c zs) (h1 : (1 : Int) ≤ i) (h2 : (i : Int) ≤ c) {s t : Int} (h : rightP s t) : RightH c (onep i s t) := right_upd hr zs_len h1 h2 h
theorem onep_tick (i : Nat) (hi : i < 16) : tick (onep i 273 1) = onep i 259 17 := by
  refine ports_ext (by rw [tick_len, onep_len]) (onep_len _ _ _) fun j hj => ?_
  obtain ⟨a, b⟩ := tick_get (onep i 273 1) (onep_len _ _ _) j hj
  rw [a, b]
  by_cases e : j = i
  · subst e
    obtain ⟨x1, x2⟩ := onep_at j hi 273 1
    obtain ⟨y1, y2⟩ := onep_at j hi 259 17
    unfold psS at x1 y1
    unfold psT at x2 y2
    rw [x1, x2, y1, y2]
    decide
  · obtain ⟨x1, x2⟩ := upd_get zs i j 273 1 e
    obtain ⟨y1, y2⟩ := upd_get zs i j 259 17 e
    unfold onep
    rw [x1, x2, y1, y2, zs_get, zs_get]
    decide
theorem rp (s t : Int) (h : okS s) (g : okC t) : rightP s t := ⟨h, g⟩
theorem plug_one {c : Int} {i : Nat} (hr : RightH c zs) (h1 : (1 : Int) ≤ i) (h2 : (i : Int) ≤ c) (s t x y : Int) (h : rightP s t) (hs : s ≠ 0) (b : Bool) (he : plugP s t b = (x, y)) (W : World) : Calls Try.prog 12 #[HV c (onep i s t), .int .i64 i, .bool b] W (Gives c (onep i x y) 0 W) := by
  have hi : i < 16 := by have := hr.c2; omega
  have hp := plug_calls c (onep i s t) (onep_len _ _ _) (onep_fit i s t h) i b W
  unfold plugR at hp
  rw [if_pos (onep_right hr h1 h2 h), if_pos ⟨h1, h2⟩, Int.toNat_natCast, (onep_at i hi s t).1, (onep_at i hi s t).2, if_neg hs, he, onep_upd] at hp
  exact hp
theorem plug_empty {c : Int} {i : Nat} (hr : RightH c zs) (h1 : (1 : Int) ≤ i) (h2 : (i : Int) ≤ c) (b : Bool) (W : World) : Calls Try.prog 12 #[HV c zs, .int .i64 i, .bool b] W (Gives c zs 8 W) := by
  have hp := plug_calls c zs zs_len fit_zero i b W
  unfold plugR at hp
  rw [if_pos hr, if_pos ⟨h1, h2⟩, Int.toNat_natCast, if_pos (show psS zs i = 0 from zs_get _)] at hp
  exact hp
theorem ctl_is {c : Int} {ps a : List Int} {s t : ByteArray} {n : Int} (hl : ps.length = 32) (hf : Fit ps) (hr : RightH c ps) (h : Ctl c ps s a t n) (W : World) : Calls Try.prog 10 #[HV c ps, .string s] W (CtlRet c a t n W) := by
  refine (ctl_good c ps hl hf s W hr).mono ?_
  rintro e W' ⟨a', t', n', g, hg⟩
  obtain ⟨rfl, rfl, rfl⟩ := ctl_one h g
  exact hg
theorem can5 {c : Int} {i : Nat} (hr : RightH c zs) (h1 : (1 : Int) ≤ i) (h2 : (i : Int) ≤ c) : canP 5 i := by
  have := hr.c2
  unfold canP; omega
theorem can6 {v : Int} (h : 0 ≤ v ∧ v ≤ 31) : canP 6 v := by unfold canP; omega
theorem can0 : canP 0 0 := by unfold canP; omega
/-- a set: on -/
theorem okw_on {c : Int} {i : Nat} (hr : RightH c zs) (h1 : (1 : Int) ≤ i) (h2 : (i : Int) ≤ c) (v : Int) (hv : 0 ≤ v ∧ v ≤ 31) : Okw (9 : Nat) v i 0 := ⟨⟨35, 3, 6, 5, 0⟩, rfl, can6 hv, can5 hr h1 h2, .inl rfl⟩
theorem okw_off {c : Int} {i : Nat} (hr : RightH c zs) (h1 : (1 : Int) ≤ i) (h2 : (i : Int) ≤ c) (v : Int) (hv : 0 ≤ v ∧ v ≤ 31) : Okw (10 : Nat) v i 0 := ⟨⟨35, 1, 6, 5, 0⟩, rfl, can6 hv, can5 hr h1 h2, .inl rfl⟩
theorem okw_st {c : Int} {i : Nat} (hr : RightH c zs) (h1 : (1 : Int) ≤ i) (h2 : (i : Int) ≤ c) : Okw (8 : Nat) 0 i 4 := ⟨⟨163, 0, 0, 5, 4⟩, rfl, can0, can5 hr h1 h2, .inl rfl⟩
theorem on_one {c : Int} {i : Nat} (hr : RightH c zs) (h1 : (1 : Int) ≤ i) (h2 : (i : Int) ≤ c) (s t x v : Int) (h : rightP s t) (hv : 0 ≤ v ∧ v ≤ 31) (he : onP s v = some x) (W : World) : Calls Try.prog 10 #[HV c (onep i s t), .string (txt 35 3 v i 0)] W (CtlRet c (onep i x t) ⟨#[]⟩ 0 W) := by
  have hi : i < 16 := by have := hr.c2; omega
  obtain ⟨f1, f2, f3⟩ := first_txt (r := ⟨35, 3, 6, 5, 0⟩) rfl (okw_on hr h1 h2 v hv) (by omega)
  have hx := Ctl.on (c := c) (ps := onep i s t) f1 i f3 h1 h2 x (by rw [(onep_at i hi s t).1, f2]; exact he)
  rw [(onep_at i hi s t).2, onep_upd] at hx
  exact ctl_is (onep_len _ _ _) (onep_fit i s t h) (onep_right hr h1 h2 h) hx W
theorem on_zero {c : Int} {i : Nat} (hr : RightH c zs) (h1 : (1 : Int) ≤ i) (h2 : (i : Int) ≤ c) (W : World) : Calls Try.prog 10 #[HV c zs, .string (txt 35 3 8 i 0)] W (CtlRet c (onep i 256 0) ⟨#[]⟩ 0 W) := by
  obtain ⟨f1, f2, f3⟩ := first_txt (r := ⟨35, 3, 6, 5, 0⟩) rfl (okw_on hr h1 h2 8 (by omega)) (by omega)
  have hx := Ctl.on (c := c) (ps := zs) f1 i f3 h1 h2 256 (by rw [show psS zs i = 0 from zs_get _, f2]; decide)
  rw [show psT zs i = 0 from zs_get _] at hx
  exact ctl_is zs_len fit_zero hr hx W
theorem onNo_one {c : Int} {i : Nat} (hr : RightH c zs) (h1 : (1 : Int) ≤ i) (h2 : (i : Int) ≤ c) (s t v : Int) (h : rightP s t) (hv : 0 ≤ v ∧ v ≤ 31) (he : onP s v = none) (W : World) : Calls Try.prog 10 #[HV c (onep i s t), .string (txt 35 3 v i 0)] W (CtlRet c (onep i s t) ⟨#[]⟩ 8 W) := by
  have hi : i < 16 := by have := hr.c2; omega
  obtain ⟨f1, f2, f3⟩ := first_txt (r := ⟨35, 3, 6, 5, 0⟩) rfl (okw_on hr h1 h2 v hv) (by omega)
  have hx := Ctl.onNo (c := c) (ps := onep i s t) f1 i f3 h1 h2 (by rw [(onep_at i hi s t).1, f2]; exact he)
  exact ctl_is (onep_len _ _ _) (onep_fit i s t h) (onep_right hr h1 h2 h) hx W
theorem st_right {c : Int} {ps : List Int} (hl : ps.length = 32) (hf : Fit ps) (hrp : RightH c ps) {i : Nat} (hr : RightH c zs) (h1 : (1 : Int) ≤ i) (h2 : (i : Int) ≤ c) (W : World) : Calls Try.prog 10 #[HV c ps, .string (txt 163 0 0 i 4)] W (CtlRet c ps (statusT (psS ps i) (psT ps i)) 0 W) := by
  obtain ⟨f1, f2, f3⟩ := first_txt (r := ⟨163, 0, 0, 5, 4⟩) rfl (okw_st hr h1 h2) (by omega)
  exact ctl_is hl hf hrp (Ctl.status f1 i f3 h1 h2) W
theorem st_one {c : Int} {i : Nat} (hr : RightH c zs) (h1 : (1 : Int) ≤ i) (h2 : (i : Int) ≤ c) (s t : Int) (h : rightP s t) (u : ByteArray) (hu : statusT s t = u) (W : World) : Calls Try.prog 10 #[HV c (onep i s t), .string (txt 163 0 0 i 4)] W (CtlRet c (onep i s t) u 0 W) := by
  have hi : i < 16 := by have := hr.c2; omega
  have := st_right (onep_len i s t) (onep_fit i s t h) (onep_right hr h1 h2 h) hr h1 h2 W
  rw [(onep_at i hi s t).1, (onep_at i hi s t).2, hu] at this
  exact this
theorem tick_one {c : Int} {i : Nat} (hr : RightH c zs) (h1 : (1 : Int) ≤ i) (h2 : (i : Int) ≤ c) (h : rightP 273 1) (W : World) : Calls Try.prog 13 #[HV c (onep i 273 1)] W (Gives c (onep i 259 17) 0 W) := by
  have hi : i < 16 := by have := hr.c2; omega
  have := tick_calls c (onep i 273 1) (onep_len _ _ _) (onep_fit i _ _ h) W
  rw [(tickR_yes (onep_right hr h1 h2 h)).1, (tickR_yes (onep_right hr h1 h2 h)).2, onep_tick i hi] at this
  exact this
theorem r256 : rightP 256 0 := rp _ _ (by unfold okS; decide) (by unfold okC; decide)
theorem r257 : rightP 257 1 := rp _ _ (by unfold okS; decide) (by unfold okC; decide)
theorem r273 : rightP 273 1 := rp _ _ (by unfold okS; decide) (by unfold okC; decide)
theorem r259 : rightP 259 17 := rp _ _ (by unfold okS; decide) (by unfold okC; decide)
theorem r25619 : rightP 256 19 := rp _ _ (by unfold okS; decide) (by unfold okC; decide)
/-- all that the path's calls give -/
structure Path (c : Int) (i : Int) (p1 p2 p3 p4 p5 : List Int) (a1 a2 a3 : ByteArray) : Prop where
  l1 : p1.length = 32
  l2 : p2.length = 32
  l3 : p3.length = 32
  l4 : p4.length = 32
  l5 : p5.length = 32
  k1 : ∀ W, Calls Try.prog 11 #[.int .i64 9, .int .i64 8, .int .i64 i, .int .i64 0] W fun e w' => e = .returned (.string a1) ∧ Below W.heap.size W w'
  k2 : ∀ W, Calls Try.prog 11 #[.int .i64 9, .int .i64 4, .int .i64 i, .int .i64 0] W fun e w' => e = .returned (.string a2) ∧ Below W.heap.size W w'
  k3 : ∀ W, Calls Try.prog 11 #[.int .i64 8, .int .i64 0, .int .i64 i, .int .i64 4] W fun e w' => e = .returned (.string a3) ∧ Below W.heap.size W w'
  f1 : ∀ W, Calls Try.prog 12 #[HV c zs, .int .i64 i, .bool true] W (Gives c zs 8 W)
  f2 : ∀ W, Calls Try.prog 10 #[HV c zs, .string a1] W (CtlRet c p1 ⟨#[]⟩ 0 W)
  f3 : ∀ W, Calls Try.prog 10 #[HV c p1, .string a2] W (CtlRet c p1 ⟨#[]⟩ 8 W)
  f4 : ∀ W, Calls Try.prog 12 #[HV c p1, .int .i64 i, .bool true] W (Gives c p2 0 W)
  f5 : ∀ W, Calls Try.prog 10 #[HV c p2, .string a2] W (CtlRet c p3 ⟨#[]⟩ 0 W)
  f6 : ∀ W, Calls Try.prog 13 #[HV c p3] W (Gives c p4 0 W)
  f7 : ∀ W, Calls Try.prog 10 #[HV c p4, .string a3] W (CtlRet c p4 ⟨#[3, 1, 17, 0]⟩ 0 W)
  f8 : ∀ W, Calls Try.prog 12 #[HV c p4, .int .i64 i, .bool false] W (Gives c p5 0 W)
  f9 : ∀ W, Calls Try.prog 10 #[HV c p5, .string a3] W (CtlRet c p5 ⟨#[0, 1, 19, 0]⟩ 0 W)
theorem path_of {c : Int} {i : Nat} (hr : RightH c zs) (h1 : (1 : Int) ≤ i) (h2 : (i : Int) ≤ c) : ∃ p1 p2 p3 p4 p5 a1 a2 a3, Path c i p1 p2 p3 p4 p5 a1 a2 a3 :=
  ⟨onep i 256 0, onep i 257 1, onep i 273 1, onep i 259 17, onep i 256 19, txt 35 3 8 i 0, txt 35 3 4 i 0, txt 163 0 0 i 4,
    onep_len _ _ _, onep_len _ _ _, onep_len _ _ _, onep_len _ _ _, onep_len _ _ _,
    fun W => asked_calls 9 8 i 0 W ⟨35, 3, 6, 5, 0⟩ rfl (okw_on hr h1 h2 8 (by omega)),
    fun W => asked_calls 9 4 i 0 W ⟨35, 3, 6, 5, 0⟩ rfl (okw_on hr h1 h2 4 (by omega)),
    fun W => asked_calls 8 0 i 4 W ⟨163, 0, 0, 5, 4⟩ rfl (okw_st hr h1 h2),
    fun W => plug_empty hr h1 h2 true W,
    fun W => on_zero hr h1 h2 W,
    fun W => onNo_one hr h1 h2 256 0 4 r256 (by omega) (by decide) W,
    fun W => plug_one hr h1 h2 256 0 257 1 r256 (by decide) true (by decide) W,
    fun W => on_one hr h1 h2 257 1 273 4 r257 (by omega) (by decide) W,
    fun W => tick_one hr h1 h2 r273 W,
    fun W => st_one hr h1 h2 259 17 r259 _ (by decide +kernel) W,
    fun W => plug_one hr h1 h2 259 17 256 19 r259 (by decide) false (by decide) W,
    fun W => st_one hr h1 h2 256 19 r25619 _ (by decide +kernel) W⟩
end Go.Proofs.Ytijolofnmccolaa
