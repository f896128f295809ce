/- talk: states, response walked. -/
import Derived.Test.YtmnmlnnhngnfbaaDoorTlkP
import Derived.Test.YtmnmlnnhngnfbaaDoorPktV
import Derived.Test.YtmnmlnnhngnfbaaDoorPhyS
namespace Go.Proofs.YtmnmlnnhngnfbaaDoor
open Go.RowKit Go.Proofs.YtmnmlnnhngnfbaaDoor.PktP Go.Proofs.YtmnmlnnhngnfbaaDoor.Phy Go.Proofs.YtmnmlnnhngnfbaaDoor.Lan
set_option maxRecDepth 100000 in
theorem states_calls (k a e f : Int) (d : ByteArray) (h : Okp ⟨k, a, e, f, d.data.toList⟩) (w : World) :
    Calls Tryd.prog 14 #[.agg #[.int .i64 k, .int .i64 a, .int .i64 e, .int .i64 f, .string d]] w fun en w' => en = .returned (.string (bt (levs (text ⟨k, a, e, f, d.data.toList⟩) ++ endL))) ∧ Below w.heap.size w w' := by
  have hok := okS_text h
  have hl := text_len _ h
  have HW := Lib.hid (fun W => write_good k a e f d h W)
  have HS := Lib.hid (fun W => send_calls (text ⟨k, a, e, f, d.data.toList⟩) W (by omega))
  rw [okS_send hok] at HS
  dsimp only at HS
  obtain ⟨X, hX⟩ : ∃ x, bt (text ⟨k, a, e, f, d.data.toList⟩) = x := ⟨_, rfl⟩
  have hX' : (⟨(text ⟨k, a, e, f, d.data.toList⟩).toArray⟩ : ByteArray) = X := hX
  rw [hX'] at HW
  rw [hX] at HS
  generalize bt (levs (text ⟨k, a, e, f, d.data.toList⟩) ++ endL) = Y at *
  clear h hok hl hX hX'
  go_enter Tryd.func14, Tryd.ntmps14
  go_wp2_with fail
  refine (HW.out _).mono ?_; rintro en w1 ⟨rfl, hb1⟩
  have HB1 := Lib.hid (Kt.bthen (Kt.balloc (Below.refl w.heap.size w) (.cells #[.int .i64 k, .int .i64 a, .int .i64 e, .int .i64 f, .string d] 38)) hb1)
  clear hb1 HW
  go_wp2_with fail
  refine (HS.out _).mono ?_; rintro en w2 ⟨rfl, hb2⟩
  have HB2 := Lib.hid (Kt.bthen HB1.out hb2)
  clear hb2 HS
  go_wp2_with fail
  go_ret
  exact ⟨rfl, HB2.out⟩
def respK (f : Int) : Int := if f = 1 then 2 else if f = 4 then 10 else if f = 5 then 14 else 0
set_option maxRecDepth 100000 in
theorem response_calls (f : Int) (hf : 1 ≤ f ∧ f ≤ 5) (w : World) :
    Calls Tryd.prog 15 #[.int .i64 f] w fun en w' => en = .returned (.int .i64 (respK f)) ∧ w' = w := by
  have h : f = 1 ∨ f = 2 ∨ f = 3 ∨ f = 4 ∨ f = 5 := by omega
  clear hf
  rcases h with rfl | rfl | rfl | rfl | rfl
  all_goals (
    go_enter Tryd.func15, Tryd.ntmps15
    go_wp2_with fail
    go_ret
    exact ⟨rfl, rfl⟩)
def tkV (code : Int) (got : List UInt8) (done used : Nat) (wr : ByteArray) : Value := .agg #[.int .i64 code, .string ⟨got.toArray⟩, .int .i64 done, .int .i64 used, .string wr]
set_option maxRecDepth 100000 in
theorem talk_bad (t : ByteArray) (a e s : Int) (U : Value) (w : World) (h : a < 1 ∨ 127 < a ∨ e < 1 ∨ 15 < e) :
    Calls Tryd.prog 7 #[.string t, .int .i64 a, .int .i64 e, .int .i64 s, U] w fun en w' => en = .returned (.tuple #[tkV 0 [] 0 0 ⟨#[]⟩, .int .i64 1]) ∧ Below w.heap.size w w' := by
  have h : a < 1 ∨ (¬ a < 1 ∧ 127 < a) ∨ (¬ a < 1 ∧ ¬ 127 < a ∧ e < 1) ∨ (¬ a < 1 ∧ ¬ 127 < a ∧ ¬ e < 1 ∧ 15 < e) := by omega
  rcases h with h1 | ⟨h1, h2⟩ | ⟨h1, h2, h3⟩ | ⟨h1, h2, h3, h4⟩
  all_goals (
    go_enter Tryd.func7, Tryd.ntmps7
    go_wp2_with fail
    refine bodyPost_ret (v := .tuple #[tkV 0 [] 0 0 ⟨#[]⟩, .int .i64 1]) (by simp [tkV, results, Tryd.results7, go_sem]) rfl ⟨rfl, ?_⟩
    repeat (first | with_reducible exact Below.refl _ _ | with_reducible refine Kt.balloc ?_ _ | with_reducible refine Kt.bset ?_ (by simp) _))
set_option maxRecDepth 100000 in
theorem talk_err (t : ByteArray) (a e s : Int) (fs : List Int) (U : Value) (w : World) (hU : Kt.Ar w U 1 fs.length (ics fs)) (ha : 1 ≤ a ∧ a ≤ 127) (he : 1 ≤ e ∧ e ≤ 15) (hno : ¬ OkArgs t s fs) :
    Calls Tryd.prog 7 #[.string t, .int .i64 a, .int .i64 e, .int .i64 s, U] w fun en w' => en = .returned (.tuple #[tkV 0 [] 0 0 ⟨#[]⟩, .int .i64 (errC t s fs)]) ∧ errC t s fs ≠ 0 ∧ Below w.heap.size w w' := by
  obtain ⟨h1, h2⟩ := ha
  obtain ⟨h3, h4⟩ := he
  have h1 : ¬ a < 1 := by omega
  have h2 : ¬ 127 < a := by omega
  have h3 : ¬ e < 1 := by omega
  have h4 : ¬ 15 < e := by omega
  have HC := Lib.hid (fun W (hW : Below w.heap.size w W) => carry_calls t s fs U W (hU.on hW))
  have HN := Lib.hid hno
  clear hU hno
  go_enter Tryd.func7, Tryd.ntmps7
  go_wp2_with fail
  refine (HC.out _ (Kt.balloc (Below.refl _ _) _)).mono ?_
  rintro en w1 (⟨hok, _⟩ | ⟨_, n, ⟨hn, he⟩, rfl, hb⟩)
  · exact absurd hok HN.out
  · have HE := Lib.hid he
    have hne : (n != 0) = true := by rw [bne_iff_ne]; exact hn
    have HNN := Lib.hid hn
    have HB1 := Lib.hid (Kt.bthen (Kt.balloc (Below.refl w.heap.size w) _) hb)
    have q1 := Kt.box1 hb
    have hc0 := fun i => cell_of_row _ _ i _ _ _ q1
    have hf0 := fun i => frozen_of_row _ _ i _ _ q1
    have hz0 := (Array.getElem?_eq_some_iff.1 q1).1
    clear hb HC he hn
    dsimp only [carV]
    go_wp2_with fail
    rw [← HE.out]
    refine bodyPost_ret (v := .tuple #[tkV 0 [] 0 0 ⟨#[]⟩, .int .i64 n]) (by simp [tkV, results, Tryd.results7, go_sem, hc0, hz0]) rfl ⟨rfl, HNN.out, ?_⟩
    repeat (first | with_reducible exact HB1.out | with_reducible refine Kt.balloc ?_ _ | with_reducible refine Kt.bset ?_ (by simp) _)
end Go.Proofs.YtmnmlnnhngnfbaaDoor
