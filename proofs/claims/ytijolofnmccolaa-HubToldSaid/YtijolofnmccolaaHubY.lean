/- The law HubPath, walked: counts and ports out of reach. -/
import Derived.Test.YtijolofnmccolaaHubX
namespace Go.Proofs.Ytijolofnmccolaa
open Go.RowKit Go.Proofs.Ytijolofnmccolaa.SetP
set_option maxRecDepth 100000 in
set_option maxHeartbeats 1600000 in
theorem path_bad (c p : Int) (w : World) (h : ¬ (RightH c zs ∧ 1 ≤ p ∧ p ≤ c)) :
    Calls Try.prog 6 #[.int .i64 c, .int .i64 p] w fun e w' => e = .returned (.bool true) ∧ Below w.heap.size w w' := by
  have HN := Lib.hid h
  clear h
  have HCK := Lib.hid (fun W => check_calls c zs zs_len fit_zero W)
  have b0 := new_box w c zs
  have hbel := new_bel w c zs
  go_enter Try.func6, Try.ntmps6
  go_wp2_with (refine store_hub_new rfl (.tmp 5) (.tmp 21) rfl w.heap.size rfl rfl c zs zs_len rfl _ rfl ?_)
  refine (lives_calls _).mono ?_
  rintro en w1 ⟨rfl, hb⟩
  replace b0 := b0.on hb
  replace hbel := Kt.bthen hbel hb
  clear hb
  go_wp2_with (refine load_hub_g rfl (.tmp 5) rfl w.heap.size rfl c zs zs_len b0 ?_)
  refine (HCK.out _).mono ?_
  rintro en w2 ⟨n, rfl, hn, hb⟩
  replace hbel := Kt.bthen hbel hb
  clear b0 hb
  have HNN := Lib.hid hn.1
  clear hn
  by_cases h0 : n = 0
  · subst h0
    have HP : Hid (¬ (1 ≤ p ∧ p ≤ c)) := Lib.hid fun hp => HN.out ⟨HNN.out.1 rfl, hp⟩
    by_cases h1 : p < 1
    · have e1 : decide (p < 1) = true := decide_eq_true h1
      clear h1
      go_wp2_with fail
      refine (lives_calls _).mono ?_
      rintro en w3 ⟨rfl, hb⟩
      go_wp2_with fail
      go_ret
      exact ⟨rfl, Kt.bthen hbel hb⟩
    · have h2 : c < p := by have := HP.out; omega
      have e1 : decide (p < 1) = false := decide_eq_false h1
      have e2 : decide (c < p) = true := decide_eq_true h2
      clear h1 h2
      go_wp2_with fail
      refine (lives_calls _).mono ?_
      rintro en w3 ⟨rfl, hb⟩
      go_wp2_with fail
      go_ret
      exact ⟨rfl, Kt.bthen hbel hb⟩
  · have e1 : (n != 0) = true := by rw [bne_iff_ne]; exact h0
    clear h0
    go_wp2_with fail
    refine (lives_calls _).mono ?_
    rintro en w3 ⟨rfl, hb⟩
    go_wp2_with fail
    go_ret
    exact ⟨rfl, Kt.bthen hbel hb⟩
end Go.Proofs.Ytijolofnmccolaa
