/- Registers of sixteen rooms, plainly: no program in sight. -/
import Derived.WalkKit
namespace Go.Proofs.Ytblcanmkkjfnlaa.RegP
open Go.RowKit
structure Room where
  gen : Int
  live : Bool
  what : Int
def Room.ok (x : Room) : Prop := 0 ≤ x.gen ∧ x.gen ≤ 65535 ∧ (x.live = true → x.gen ≠ 0) ∧ (x.live = false → x.what = 0)
def zero : Room := ⟨0, false, 0⟩
def AllOk (rs : List Room) : Prop := ∀ k (hk : k < rs.length), rs[k].ok
def cellsOf (x : Room) : List Value := [.int .i64 x.gen, .bool x.live, .int .i64 x.what]
def regL (rs : List Room) : List Value := rs.flatMap cellsOf
theorem regL_cons (x : Room) (r : List Room) : regL (x :: r) = .int .i64 x.gen :: .bool x.live :: .int .i64 x.what :: regL r := rfl
@[irreducible] def regA (rs : List Room) : Array Value := (regL rs).toArray
theorem regA_eq (rs : List Room) : regA rs = (regL rs).toArray := by unfold regA; rfl
theorem regL_len : ∀ (rs : List Room), (regL rs).length = 3 * rs.length
  | [] => rfl
  | x :: r => by rw [regL_cons]; simp [regL_len r]; omega
theorem regA_size (rs : List Room) : (regA rs).size = 3 * rs.length := by rw [regA_eq]; simp [regL_len]
theorem regL_get : ∀ (rs : List Room) (k : Nat) (hk : k < rs.length), (regL rs)[3 * k]? = some (.int .i64 rs[k].gen) ∧ (regL rs)[3 * k + 1]? = some (.bool rs[k].live) ∧ (regL rs)[3 * k + 2]? = some (.int .i64 rs[k].what)
  | x :: r, 0, _ => ⟨rfl, rfl, rfl⟩
  | x :: r, k + 1, hk => by
    have := regL_get r k (by simpa using hk)
    rw [regL_cons, show 3 * (k + 1) = 3 * k + 1 + 1 + 1 by omega]
    simpa using this
theorem regA_get (rs : List Room) (k : Nat) (hk : k < rs.length) : (regA rs)[3 * k]? = some (.int .i64 rs[k].gen) ∧ (regA rs)[3 * k + 1]? = some (.bool rs[k].live) ∧ (regA rs)[3 * k + 2]? = some (.int .i64 rs[k].what) := by
  rw [regA_eq]; simpa using regL_get rs k hk
theorem regA_at (rs : List Room) (k : Nat) (hk : k < rs.length) : (regA rs)[k * 3]? = some (.int .i64 rs[k].gen) ∧ (regA rs)[k * 3 + 1]? = some (.bool rs[k].live) ∧ (regA rs)[k * 3 + 2]? = some (.int .i64 rs[k].what) := by
  rw [Nat.mul_comm k 3]; exact regA_get rs k hk
theorem set_gen : ∀ (rs : List Room) (k : Nat) (g : Int), (regL rs).set (3 * k) (.int .i64 g) = regL (rs.modify k fun x => ⟨g, x.live, x.what⟩)
  | [], _, _ => by simp [regL]
  | x :: r, 0, g => by simp [regL_cons]
  | x :: r, k + 1, g => by
    rw [regL_cons, show 3 * (k + 1) = 3 * k + 1 + 1 + 1 by omega]
    simp only [List.set_cons_succ, List.modify_succ_cons, regL_cons, set_gen r k g]
theorem set_live : ∀ (rs : List Room) (k : Nat) (g : Bool), (regL rs).set (3 * k + 1) (.bool g) = regL (rs.modify k fun x => ⟨x.gen, g, x.what⟩)
  | [], _, _ => by simp [regL]
  | x :: r, 0, g => by simp [regL_cons]
  | x :: r, k + 1, g => by
    rw [regL_cons, show 3 * (k + 1) + 1 = 3 * k + 1 + 1 + 1 + 1 by omega]
    simp only [List.set_cons_succ, List.modify_succ_cons, regL_cons, set_live r k g]
theorem set_what : ∀ (rs : List Room) (k : Nat) (g : Int), (regL rs).set (3 * k + 2) (.int .i64 g) = regL (rs.modify k fun x => ⟨x.gen, x.live, g⟩)
  | [], _, _ => by simp [regL]
  | x :: r, 0, g => by simp [regL_cons]
  | x :: r, k + 1, g => by
    rw [regL_cons, show 3 * (k + 1) + 2 = 3 * k + 2 + 1 + 1 + 1 by omega]
    simp only [List.set_cons_succ, List.modify_succ_cons, regL_cons, set_what r k g]
theorem modify_const : ∀ (rs : List Room) (k : Nat) (f : Room → Room) (hk : k < rs.length), rs.modify k f = rs.set k (f rs[k])
  | x :: r, 0, f, _ => rfl
  | x :: r, k + 1, f, hk => by simp [List.modify_succ_cons, modify_const r k f (by simpa using hk)]
theorem regA_let (rs : List Room) (k : Nat) (hk : k < rs.length) (g : Int) (l : Bool) (u : Int) :
    (((regA rs).setIfInBounds (3 * k) (.int .i64 g)).setIfInBounds (3 * k + 1) (.bool l)).setIfInBounds (3 * k + 2) (.int .i64 u) = regA (rs.set k ⟨g, l, u⟩) := by
  rw [regA_eq, regA_eq]
  simp only [List.setIfInBounds_toArray, set_gen, set_live, set_what]
  congr 2
  apply List.ext_getElem?; intro i
  by_cases e : k = i
  · subst e; simp [hk]
  · simp [e]
theorem regA_end (rs : List Room) (k : Nat) (hk : k < rs.length) :
    (((regA rs).setIfInBounds (3 * k + 1) (.bool false))).setIfInBounds (3 * k + 2) (.int .i64 0) = regA (rs.set k ⟨rs[k].gen, false, 0⟩) := by
  rw [regA_eq, regA_eq]
  simp only [List.setIfInBounds_toArray, set_live, set_what]
  congr 2
  apply List.ext_getElem?; intro i
  by_cases e : k = i
  · subst e; simp [hk]
  · simp [e]
theorem regA_let' (rs : List Room) (k : Nat) (hk : k < rs.length) (g : Int) (l : Bool) (u : Int) :
    (((regA rs).setIfInBounds (k * 3) (.int .i64 g)).setIfInBounds (k * 3 + 1) (.bool l)).setIfInBounds (k * 3 + 2) (.int .i64 u) = regA (rs.set k ⟨g, l, u⟩) := by
  rw [Nat.mul_comm k 3]; exact regA_let rs k hk g l u
theorem regA_end' (rs : List Room) (k : Nat) (hk : k < rs.length) :
    (((regA rs).setIfInBounds (k * 3 + 1) (.bool false))).setIfInBounds (k * 3 + 2) (.int .i64 0) = regA (rs.set k ⟨rs[k].gen, false, 0⟩) := by
  rw [Nat.mul_comm k 3]; exact regA_end rs k hk
@[irreducible] def zeros : List Room := List.replicate 16 zero
theorem zeros_eq : zeros = List.replicate 16 zero := by unfold zeros; rfl
theorem zeros_len : zeros.length = 16 := by rw [zeros_eq]; rfl
theorem regA_one (rs : List Room) : (regA rs).all (·.oneCell') = true := by
  rw [regA_eq]
  rw [Array.all_eq_true_iff_forall_mem]
  intro v hv
  have hv : v ∈ regL rs := by simpa using hv
  unfold regL at hv
  rw [List.mem_flatMap] at hv
  obtain ⟨x, _, hx⟩ := hv
  simp only [cellsOf, List.mem_cons, List.not_mem_nil, or_false] at hx
  rcases hx with rfl | rfl | rfl <;> rfl
/-! what the functions do -/
def free (x : Room) : Bool := !x.live && decide (x.gen < 65535)
def holds (h : Int) (k : Nat) (x : Room) : Prop := x.live = true ∧ h = k + 16 * x.gen
theorem all_set {rs : List Room} (h : AllOk rs) (k : Nat) (x : Room) (hx : x.ok) : AllOk (rs.set k x) := by
  intro j hj
  rw [List.getElem_set]
  split
  · exact hx
  · exact h j (by simpa using hj)
theorem holds_one {rs : List Room} (h : AllOk rs) (hl : rs.length = 16) {n : Int} {j k : Nat} (hj : j < rs.length) (hk : k < rs.length) (a : holds n j rs[j]) (b : holds n k rs[k]) : j = k := by
  have := h j hj; have := h k hk
  obtain ⟨_, a⟩ := a; obtain ⟨_, b⟩ := b
  omega
end Go.Proofs.Ytblcanmkkjfnlaa.RegP
