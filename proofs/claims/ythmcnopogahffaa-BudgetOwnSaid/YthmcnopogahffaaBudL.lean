/- budget: what a plan tells (Kraft), budgetLives, share. -/
import Derived.Test.YthmcnopogahffaaBudG
namespace Go.Proofs.Ythmcnopogahffaa
open Go.RowKit Go.Shelf Go.Proofs.Ythmcnopogahffaa.Bud
def shareN (ps : List Int) : Nat := shr (nats ps) (List.range ps.length)
theorem shr_perm {p : List Nat} {a b : List Nat} (h : a.Perm b) : shr p a = shr p b := by
  unfold shr
  exact (h.map _).sum_nat
theorem rt_perm {p : List Nat} {L : Nat} {plan : List Bt} {a b : List Nat} (h : a.Perm b) (hr : Rt p L plan a) : Rt p L plan b :=
  ⟨(h.pairwise_iff (fun {x y} e => by rw [confl_comm]; exact e)).1 hr.dis, fun t ht => hr.inb t (h.mem_iff.2 ht)⟩
theorem nats_len (ps : List Int) : (nats ps).length = ps.length := by simp [nats]
inductive Told (lanes : Int) (ps : List Int) (B : Nat) (w' : World) : Value → Int → Prop
  | bad (c : Int) : args lanes ps ≠ 0 → (c = 1 ∨ c = 2) → Told lanes ps B w' (.slice none 0 0) c
  | full : args lanes ps = 0 → 32 * lanes.toNat < shareN ps → Told lanes ps B w' (.slice none 0 0) 11
  | ok (plan : List Bt) (g : Nat) : args lanes ps = 0 → shareN ps ≤ 32 * lanes.toNat → plan.length = ps.length → Rt (nats ps) lanes.toNat plan (List.range ps.length) → B ≤ g → w'.heap[g]? = some (.cells (bv plan).toArray 31 (0, 0)) → Told lanes ps B w' (.slice (some ⟨g, 0, none⟩) ps.length ps.length) 0
theorem args_cases (lanes : Int) (ps : List Int) : args lanes ps = 0 ∨ args lanes ps = 1 ∨ args lanes ps = 2 := by
  unfold args
  split
  · exact .inr (.inl rfl)
  split
  · exact .inr (.inr rfl)
  split
  · exact .inl rfl
  · exact .inr (.inl rfl)
theorem told_of {lanes : Int} {ps : List Int} {B : Nat} {w' : World} {V : Value} {c : Int} (h : PlanIs lanes ps B w' V c) : Told lanes ps B w' V c := by
  have key : ∀ ord, args lanes ps = 0 → OrdIs (nats ps) ps.length ord → ord.Nodup ∧ (∀ t ∈ ord, t < ps.length) ∧ (∀ t ∈ ord, pw (per (nats ps) t)) ∧ ord.Pairwise (fun a b => per (nats ps) a ≤ per (nats ps) b) ∧ shr (nats ps) ord = shareN ps := fun ord ha ho => by
    obtain ⟨_, _, hall⟩ := args_zero ha
    have hlt : ∀ t ∈ ord, t < ps.length := fun t ht => List.mem_range.1 (ho.perm.mem_iff.1 ht)
    refine ⟨ho.perm.nodup_iff.2 List.nodup_range, hlt, fun t ht => pw_nats hall t (hlt t ht), ?_, shr_perm ho.perm⟩
    rw [List.pairwise_iff_getElem]
    intro i j hi hj hij
    have hl : ord.length = ps.length := by rw [ho.perm.length_eq, List.length_range]
    have := ho.srt i j (Nat.zero_le _) hij (by omega)
    unfold at' at this
    rw [List.getD_eq_getElem?_getD, List.getD_eq_getElem?_getD, List.getElem?_eq_getElem hi, List.getElem?_eq_getElem hj] at this
    have h2 : (per (nats ps) ord[i] : Int) ≤ (per (nats ps) ord[j] : Int) := this
    exact_mod_cast h2
  cases h with
  | bad ha => exact .bad _ ha (by rcases args_cases lanes ps with e | e | e <;> first | exact absurd e ha | exact .inl e | exact .inr e)
  | full ord ha ho hpl =>
    obtain ⟨h1, h2, h3, h4, h5⟩ := key ord ha ho
    refine .full ha ?_
    have := pl_no (nats ps) lanes.toNat ord [] (List.replicate ps.length (0, 0)) (by simpa using h1) (fun t ht => by rw [List.length_replicate]; exact h2 t ht) (by simpa using h3) (by simpa using h4) ⟨List.Pairwise.nil, fun t ht => by cases ht⟩ hpl
    rw [List.nil_append, h5] at this
    exact this
  | ok ord plan g ha ho hpl hg hr =>
    obtain ⟨h1, h2, h3, h4, h5⟩ := key ord ha ho
    have hrt := pl_ok (nats ps) lanes.toNat ord [] (List.replicate ps.length (0, 0)) plan (by simpa using h1) (fun t ht => by rw [List.length_replicate]; exact h2 t ht) ⟨List.Pairwise.nil, fun t ht => by cases ht⟩ hpl
    rw [List.nil_append] at hrt
    have hs := rt_share h3 hrt
    rw [h5] at hs
    exact .ok plan g ha hs (by rw [pl_len _ _ _ _ _ _ hpl, List.length_replicate]) (rt_perm ho.perm hrt) hg hr
theorem lives_plan {B : Nat} {w' : World} {V : Value} {c : Int} (h : PlanIs 1 [4, 2, 4] B w' V c) : c = 0 ∧ ∃ g, V = .slice (some ⟨g, 0, none⟩) 3 3 ∧ B ≤ g ∧ w'.heap[g]? = some (.cells (bv [(0, 1), (0, 0), (0, 3)]).toArray 31 (0, 0)) := by
  have e : ∀ ord, OrdIs (nats [4, 2, 4]) 3 ord → ord = [1, 0, 2] := fun ord ho => (ho.few (by decide)).trans (by decide +kernel)
  cases h with
  | bad ha => exact absurd (by decide +kernel) ha
  | full ord ha ho hpl => rw [e ord ho] at hpl; exact absurd hpl (by decide +kernel)
  | ok ord plan g ha ho hpl hg hr =>
    rw [e ord ho] at hpl
    have : some plan = some [(0, 1), (0, 0), (0, 3)] := hpl.symm.trans (by decide +kernel)
    injection this with this
    subst this
    exact ⟨rfl, g, rfl, hg, hr⟩
theorem be_cl (a b : Int) : Fr.Cl beTy [.int .i64 a, .int .i64 b] := by
  exact ⟨by simp, ⟨_, rfl⟩, by simp, ⟨_, rfl⟩, rfl⟩
theorem bv_cut (l : List Bt) : ∀ i, i < l.length → ((bv l).drop (i * 2)).take 2 = [.int .i64 ((bt l i).1 : Int), .int .i64 ((bt l i).2 : Int)] := by
  induction l with
  | nil => intro i h; cases h
  | cons x l ih =>
    intro i h
    cases i with
    | zero => rfl
    | succ i =>
      rw [show (i + 1) * 2 = i * 2 + 2 by omega]
      exact ih i (by simpa using h)
theorem bv_cl (l : List Bt) (i : Nat) (h : i < l.length) : Fr.Cl beTy (((bv l).drop (i * 2)).take 2) := by
  rw [bv_cut l i h]
  exact be_cl _ _
def okB (ps : List Int) (plan : List Bt) : Prop := plan.length = ps.length
set_option maxRecDepth 100000 in
set_option maxHeartbeats 1600000 in
theorem lives_calls (w : World) : Calls Try.prog 10 #[] w fun e w' => e = .returned (.bool true) ∧ Below w.heap.size w w' := by
  have HB := Lib.hid (Kt.balloc (Below.refl _ w) (.cells #[.int .i64 4, .int .i64 2, .int .i64 4] 3))
  have HP := Lib.hid (plan_calls 1 [4, 2, 4] (some ⟨w.heap.size, 0, none⟩) 3 3 rfl (w.alloc (.cells #[.int .i64 4, .int .i64 2, .int .i64 4] 3)) (Kt.Ar.new w #[.int .i64 4, .int .i64 2, .int .i64 4] 3 3 1 rfl) (by decide))
  go_enter Try.func10, Try.ntmps10
  go_wp2_with fail
  refine HP.out.mono ?_
  rintro _ w1 ⟨hb, V, c, rfl, hpl⟩
  obtain ⟨rfl, g, rfl, hg, hr⟩ := lives_plan hpl
  have HB1 := Lib.hid (Kt.bthen HB.out hb)
  have HR := Lib.hid (show w1.heap[g]? = some (.cells (bv [(0, 1), (0, 0), (0, 3)]).toArray 31 (0, 0)) from hr)
  clear hb hpl hg hr HB HP
  have HB2 := Lib.hid (Kt.balloc HB1.out (.cells #[.int .i64 0, .int .i64 1, .int .i64 0, .int .i64 0, .int .i64 0, .int .i64 3] 31))
  have HE := Lib.hid (eqb_calls (.slice (some ⟨g, 0, none⟩) 3 3) (.slice (some ⟨w1.heap.size, 0, none⟩) 3 3) 3 3 (bv [(0, 1), (0, 0), (0, 3)]) (bv [(0, 1), (0, 0), (0, 3)]) (w1.alloc (.cells #[.int .i64 0, .int .i64 1, .int .i64 0, .int .i64 0, .int .i64 0, .int .i64 3] 31))
    ((ar_plan HR.out rfl).on (Kt.balloc (Below.refl _ w1) _)) (Kt.Ar.new w1 #[.int .i64 0, .int .i64 1, .int .i64 0, .int .i64 0, .int .i64 0, .int .i64 3] 31 3 2 rfl) (bv_cl [(0, 1), (0, 0), (0, 3)]) (bv_cl [(0, 1), (0, 0), (0, 3)]) (by decide))
  clear HR HB1
  go_wp2_with fail
  refine HE.out.mono ?_
  rintro _ w2 ⟨b, rfl, hbt, hb⟩
  have HB3 := Lib.hid (Kt.bthen HB2.out hb)
  have hbt : b = true := hbt.2 (by first | rfl | trivial)
  subst hbt
  clear hb HB2 HE
  go_wp2_with fail
  go_ret
  exact ⟨rfl, HB3.out⟩
theorem shr_snoc (p : List Nat) (k : Nat) : shr p (List.range (k + 1)) = shr p (List.range k) + 32 / per p k := by
  unfold shr
  rw [List.range_succ, List.map_append, List.sum_append]
  simp
theorem shr_le (p : List Nat) : ∀ k, (∀ i, i < k → pw (per p i)) → shr p (List.range k) ≤ 32 * k
  | 0, _ => by simp [shr]
  | k + 1, h => by
    rw [shr_snoc]
    have := shr_le p k (fun i hi => h i (by omega))
    have h2 : 32 / per p k ≤ 32 := Nat.div_le_self _ _
    omega
theorem quo_is (P : Nat) (_h : pw P) : (32 : Int) / (P : Int) = ((32 / P : Nat) : Int) := by rfl
theorem add_sh {a b : Nat} (h : a ≤ 4096) (h2 : b ≤ 32) : wrap64 ((a : Int) + (b : Int)) = ((a + b : Nat) : Int) := by unfold wrap64; omega
set_option maxRecDepth 100000 in
set_option maxHeartbeats 1600000 in
theorem share_calls (ps : List Int) (A0 : Option Addr) (n c0 : Nat) (hn : ps.length = n) (w : World) (hv : Kt.Ar w (.slice A0 n c0) 1 n (iv ps)) (hall : ps.all pwI = true) (hm : n ≤ 64) : Calls Try.prog 11 #[.slice A0 n c0] w fun e w' => e = .returned (.int .i64 (shareN ps : Int)) ∧ Below w.heap.size w w' := by
  have HV := Lib.hid (show Kt.Ar w (.slice A0 n c0) 1 n (iz (nats ps)) by rw [← iv_nats hall]; exact hv)
  have HN : Hid ((nats ps).length = n) := Lib.hid (by rw [nats_len, hn])
  have HPW : Hid (∀ i, i < n → pw (per (nats ps) i)) := Lib.hid (fun i hi => pw_nats hall i (by rw [hn]; exact hi))
  have HM := Lib.hid hm
  have HR : Hid (shareN ps = shr (nats ps) (List.range n)) := Lib.hid (by unfold shareN; rw [hn])
  clear hv hall hm hn
  rw [HR.out]
  generalize nats ps = qs at *
  go_enter Try.func11, Try.ntmps11
  go_wp2_with fail
  go_loopw [3, 8] (fun vs i wr => ∃ (k : Nat), Hid (k ≤ n) ∧ i = .int .i64 k ∧ vs = .int .i64 (shr qs (List.range k) : Int) ∧ Hid (Below w.heap.size w wr)) (fun _ i _ => n - (intOf i).toNat)
  case atStart => exact ⟨0, Lib.hid (Nat.zero_le _), rfl, rfl, Lib.hid (Below.refl _ _)⟩
  case round =>
    obtain ⟨k, HK, rfl, rfl, HB⟩ := hrel
    by_cases hlt : k < n
    · obtain ⟨b, o, rfl, hb0, q1⟩ := (HV.out.on HB.out).izAt HN.out k hlt
      have e1 := lt_int hlt
      have hw := i_next hlt HM.out
      have HW := Lib.hid hw
      have HLT := Lib.hid hlt
      have hsn := shr_snoc qs k
      have hle := shr_le qs k (fun i hi => HPW.out i (Nat.lt_trans hi hlt))
      have hp := HPW.out k hlt
      have hp1 := (pw_pos hp).1
      obtain ⟨S, hS⟩ : ∃ S, S = shr qs (List.range k) := ⟨_, rfl⟩
      obtain ⟨P, hP⟩ : ∃ P, P = per qs k := ⟨_, rfl⟩
      rw [← hS, ← hP] at hsn
      rw [← hS] at hle ⊢
      rw [← hP] at q1 hp hp1
      have hm := HM.out
      have hS4 : S ≤ 4096 := by omega
      have hq := quo_is P hp
      obtain ⟨Q, hQ⟩ : ∃ Q, Q = 32 / P := ⟨_, rfl⟩
      have hQ2 : Q ≤ 32 := by rw [hQ]; exact Nat.div_le_self _ _
      rw [← hQ] at hq hsn
      have HSN := Lib.hid hsn
      have HADD := Lib.hid (add_sh hS4 hQ2)
      have p1 : (1 : Int) ≤ P := by omega
      clear hw hS hP hp1 hp hle hm hlt hsn hQ
      go_wp2_with fail
      go_roundw
      case rel => exact ⟨k + 1, HLT, congrArg _ (by first | rfl | exact HW.out), congrArg _ (by rw [HSN.out]; first | rfl | exact HADD.out), HB⟩
      case measure => (try rw [HW.out]); exact meas_up HLT.out
    · obtain rfl : k = n := Nat.le_antisymm HK.out (Nat.not_lt.1 hlt)
      have e1 : ¬ (k : Int) < k := Int.lt_irrefl _
      clear hlt
      go_wp2_with fail
      go_ret
      exact ⟨rfl, HB.out⟩
end Go.Proofs.Ythmcnopogahffaa
