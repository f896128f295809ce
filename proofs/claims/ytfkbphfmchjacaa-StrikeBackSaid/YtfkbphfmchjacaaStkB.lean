/- The laws of package strike, walked: Back. -/
import Derived.Test.YtfkbphfmchjacaaStkJ
namespace Go.Proofs.Ytfkbphfmchjacaa
open Go.RowKit
theorem equal_true (u v : Value) (n : Nat) (ls : List ByteArray) (w : World) (hn : n = ls.length) (ha : Kt.Ar w u 1 n (sts ls)) (hb : Kt.Ar w v 1 n (sts ls)) (hm : n ≤ 140737488355328) :
    Calls Try.prog 14 #[u, v] w fun e w' => e = .returned (.bool true) ∧ Below w.heap.size w w' := by
  subst hn
  refine (equal_same u v ls ls w ha hb rfl hm).mono fun e w' ⟨h1, h2⟩ => ⟨?_, h2⟩
  rw [h1]; simp
theorem reach_ok : reachBytes ≤ 140737488355328 := by decide
/-- the second part: joined, and split again -/
def Tail (ps : List ByteArray) (s : Int) : Prop := True
set_option maxHeartbeats 1600000 in
theorem back_walk (v0 v1 v2 : Value) (w : World) (r0 : Fr.RdV w reachBytes .string v0) (r1 : Fr.RdV w reachBytes (.slice 1 .string) v1) (r2 : Fr.RdV w reachBytes (.int .i64) v2) :
    Calls Try.prog 7 #[v0, v1, v2] w fun e w' => e = .returned (.bool true) ∧ Below w.heap.size w w' := by
  obtain ⟨t, e, ht⟩ := r0; cases e
  obtain ⟨s, e, hs⟩ := r2; cases e
  obtain ⟨ps, hpl, hpz, hP⟩ := Kt.ar_strs r1
  have HP := Lib.hid (show Kt.Ar w v1 1 ps.length (sts ps) from hP)
  obtain ⟨PA, pc, rfl, hpc, _⟩ := hP.form
  have hpl2 : ps.length ≤ 140737488355328 := Nat.le_trans hpl reach_ok
  have HPZ := Lib.hid (show ∀ x ∈ ps, x.size ≤ 140737488355328 from fun x hx => Nat.le_trans (hpz x hx) reach_ok)
  clear hP hpz
  have HTAIL : Hid (∀ w1, Below w.heap.size w w1 → Calls Try.prog 13 #[.slice PA ps.length pc, .int .i64 s] w1 (Joined s ps w1)) := Lib.hid fun w1 hb => join_any _ ps s w1 (HP.out.on hb) hpl2 HPZ.out
  go_enter Try.func7, Try.ntmps7
  go_wp2_with fail
  refine (split_any t s _).mono ?_
  rintro en w1 (⟨s1, s2, tz, V, rfl, hsl, hb⟩ | ⟨_, n, hn, rfl, rfl⟩)
  · obtain ⟨s, rfl⟩ : ∃ m : Nat, s = m := ⟨s.toNat, by omega⟩
    rw [Int.toNat_natCast] at *
    have HL := Lib.hid (chop_len (show 1 ≤ s by omega) t)
    have HCUT := Lib.hid (chop_Cut (show 1 ≤ s by omega) t)
    have HCAT := Lib.hid (chop_cat (show 1 ≤ s by omega) t)
    have HLE := Lib.hid (chop_le (show 1 ≤ s by omega) t)
    have hq3 : t.size / s ≤ t.size := Nat.div_le_self _ _
    have hq1 : (t.size : Int) / s = ((t.size / s : Nat) : Int) := by omega
    generalize t.size / s = q at *
    obtain ⟨l, hl⟩ : ∃ l, chop s t = l := ⟨_, rfl⟩
    rw [hl] at hsl HL HCUT HCAT HLE
    clear hl
    have hll : l.length ≤ 4097 := by have := HL.out; omega
    have HJ1 := Lib.hid (join_any V l s w1 (Kt.Ar.of_sl hsl) (by omega) (fun x hx => by have := HLE.out x hx; omega))
    obtain ⟨VA, vc, rfl, _, _⟩ := hsl.form
    have hq2 : ((l.length : Int) != (q : Int) + 1) = false := by have := HL.out; simp; omega
    have hbb := hb
    clear hsl
    have hYES : CanJoin s l := ⟨by omega, by omega, by rw [Int.toNat_natCast]; exact HCUT.out, by rw [HCAT.out, blen]; exact tz⟩
    have HYES := Lib.hid hYES
    have HT : Hid ((⟨(cat l).toArray⟩ : ByteArray) = t) := Lib.hid (by apply Kt.bytes_eq; exact HCAT.out)
    clear hYES
    go_wp2_with fail
    refine HJ1.out.mono ?_
    rintro en w2 ⟨⟨_, rfl⟩ | ⟨hno, _⟩, hb2⟩
    · rw [HT.out]
      have hbb2 := Kt.bthen hbb hb2
      clear hb hbb hb2
      go_wp2_with fail
      refine (HTAIL.out _ hbb2).mono ?_
      rintro en w3 ⟨⟨hcan, rfl⟩ | ⟨_, m, hm, rfl⟩, hb3⟩
      · have hbb3 := Kt.bthen hbb2 hb3
        clear hb3
        have HE : Hid (chop s ⟨(cat ps).toArray⟩ = ps) := Lib.hid (chop_of_cut (by have := hcan.1; omega) ps (by have := hcan.2.2.1; simpa using this))
        have HSZ : Hid ((⟨(cat ps).toArray⟩ : ByteArray).size ≤ 4096) := Lib.hid (by show (cat ps).toArray.size ≤ _; rw [List.size_toArray]; exact hcan.2.2.2)
        have HS12 := Lib.hid (show 1 ≤ (s : Int) ∧ (s : Int) ≤ 64 from ⟨hcan.1, hcan.2.1⟩)
        clear hcan
        go_wp2_with fail
        refine (split_any _ _ _).mono ?_
        rintro en w4 (⟨_, _, _, V2, rfl, hsl2, hb4⟩ | ⟨hno, _⟩)
        · have e2 := HE.out
          rw [show chop (s : Int).toNat ⟨(cat ps).toArray⟩ = ps by simpa using e2] at hsl2
          have HA2 := Lib.hid (Kt.Ar.of_sl hsl2)
          obtain ⟨VA2, vc2, rfl, _, _⟩ := hsl2.form
          have hbb4 := Kt.bthen hbb3 hb4
          clear hsl2 hb4 e2
          go_wp2_with fail
          refine (lives_calls _).mono ?_
          rintro en w5 ⟨rfl, hb5⟩
          have hbb5 := Kt.bthen hbb4 hb5
          have HEQ := Lib.hid (equal_true _ _ ps.length ps w5 rfl (HA2.out.on hb5) (HP.out.on hbb5) hpl2)
          go_wp2_with fail
          refine HEQ.out.mono ?_
          rintro en w6 ⟨rfl, hb6⟩
          go_wp2_with fail
          go_ret
          exact ⟨rfl, Kt.bthen hbb5 hb6⟩
        · exact absurd ⟨HS12.out.1, HS12.out.2, HSZ.out⟩ hno
      · have hne2 : (m != 0) = true := by rw [bne_iff_ne]; exact hm
        have hbb3 := Kt.bthen hbb2 hb3
        clear hm hb3
        go_wp2_with fail
        refine (lives_calls _).mono ?_
        rintro en w5 ⟨rfl, hb5⟩
        go_wp2_with fail
        go_ret
        exact ⟨rfl, Kt.bthen hbb3 hb5⟩
    · exact absurd HYES.out hno
  · have hne : (n == 0) = false := by rw [beq_eq_false_iff_ne]; exact hn
    clear hn
    go_wp2_with fail
    refine (HTAIL.out _ (Below.refl _ _)).mono ?_
    rintro en w3 ⟨⟨hcan, rfl⟩ | ⟨_, m, hm, rfl⟩, hb3⟩
    · have hbb3 := Kt.bthen (Below.refl _ _) hb3
      clear hb3
      have HE : Hid (chop s.toNat ⟨(cat ps).toArray⟩ = ps) := Lib.hid (chop_of_cut (by have := hcan.1; omega) ps (by have := hcan.2.2.1; simpa using this))
      have HSZ : Hid ((⟨(cat ps).toArray⟩ : ByteArray).size ≤ 4096) := Lib.hid (by show (cat ps).toArray.size ≤ _; rw [List.size_toArray]; exact hcan.2.2.2)
      have HS12 := Lib.hid (show 1 ≤ (s : Int) ∧ (s : Int) ≤ 64 from ⟨hcan.1, hcan.2.1⟩)
      clear hcan
      go_wp2_with fail
      refine (split_any _ _ _).mono ?_
      rintro en w4 (⟨_, _, _, V2, rfl, hsl2, hb4⟩ | ⟨hno, _⟩)
      · have e2 := HE.out
        rw [show chop (s : Int).toNat ⟨(cat ps).toArray⟩ = ps by simpa using e2] at hsl2
        have HA2 := Lib.hid (Kt.Ar.of_sl hsl2)
        obtain ⟨VA2, vc2, rfl, _, _⟩ := hsl2.form
        have hbb4 := Kt.bthen hbb3 hb4
        clear hsl2 hb4 e2
        go_wp2_with fail
        refine (lives_calls _).mono ?_
        rintro en w5 ⟨rfl, hb5⟩
        have hbb5 := Kt.bthen hbb4 hb5
        have HEQ := Lib.hid (equal_true _ _ ps.length ps w5 rfl (HA2.out.on hb5) (HP.out.on hbb5) hpl2)
        go_wp2_with fail
        refine HEQ.out.mono ?_
        rintro en w6 ⟨rfl, hb6⟩
        go_wp2_with fail
        go_ret
        exact ⟨rfl, Kt.bthen hbb5 hb6⟩
      · exact absurd ⟨HS12.out.1, HS12.out.2, HSZ.out⟩ hno
    · have hne2 : (m != 0) = true := by rw [bne_iff_ne]; exact hm
      have hbb3 := Kt.bthen (Below.refl _ _) hb3
      clear hm hb3
      go_wp2_with fail
      refine (lives_calls _).mono ?_
      rintro en w5 ⟨rfl, hb5⟩
      go_wp2_with fail
      go_ret
      exact ⟨rfl, Kt.bthen hbb3 hb5⟩
end Go.Proofs.Ytfkbphfmchjacaa
