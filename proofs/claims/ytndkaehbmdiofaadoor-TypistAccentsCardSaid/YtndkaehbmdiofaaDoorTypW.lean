/- The law TypistWords, walked. -/
import Derived.Test.YtndkaehbmdiofaaDoorTypK
namespace Go.Proofs.YtndkaehbmdiofaaDoor
open Go.RowKit Go.Proofs.YtndkaehbmdiofaaDoor.Typ
/-- the signs of keys, one behind the other -/
def catC (sh : Bool) (l : List Int) : ByteArray := l.foldl (fun x c => x ++ charP c sh) ByteArray.empty
theorem catC_snoc (sh : Bool) (l : List Int) (c : Int) : catC sh (l ++ [c]) = catC sh l ++ charP c sh := by unfold catC; rw [List.foldl_append]; rfl
theorem catC_size (sh : Bool) (l : List Int) (h : ∀ c ∈ l, signs c = true) : (catC sh l).size = l.length := by
  have key : ∀ (l : List Int) (y : ByteArray), (∀ c ∈ l, signs c = true) → (l.foldl (fun x c => x ++ charP c sh) y).size = y.size + l.length := by
    intro l
    induction l with
    | nil => intro y _; rfl
    | cons d l ih =>
      intro y h
      rw [List.foldl_cons, ih _ (fun e he => h e (List.mem_cons_of_mem _ he)), ByteArray.size_append, char_size (h d (List.mem_cons_self ..)), List.length_cons]
      omega
  have := key l ByteArray.empty h
  unfold catC
  rw [this]
  show 0 + l.length = l.length
  omega
theorem flip_flip (h : Hd) (c : Nat) (hc : c < 256) : (h.flip c).flip c = h := by
  refine Hd.ext_has fun d hd => ?_
  rw [Hd.flip_has _ _ _ hc hd, Hd.flip_has _ _ _ hc hd]
  cases h.has d <;> cases decide (c = d) <;> rfl
/-- a key is pressed and let go -/
theorem press_step (H : Hd) (x : ByteArray) (c : Int) (hc : signs c = true) (hh : H.has c.toNat = false) (hx : x.size + 1 ≤ 4096) (rest : List Sk) :
    runP ⟨H, false, 0, 0, 0, x⟩ (⟨1, c, true, 0⟩ :: ⟨1, c, false, 0⟩ :: rest) = runP ⟨H, false, 0, 0, 0, x ++ charP c (H.has 225 || H.has 229)⟩ rest := by
  obtain ⟨h1, h2, h3, h4⟩ := signs_in hc
  have hp : prints c = true := by unfold prints; rw [hc]; simp
  have ha : app1 H c true = (H.flip c.toNat, 0) := by
    unfold app1
    rw [if_neg (by omega), if_neg (by rw [hh]; decide)]
  have hsh : shiftP ⟨H.flip c.toNat, false, 0, 0, 0, x⟩ = (H.has 225 || H.has 229) := by
    show ((H.flip c.toNat).has 225 || (H.flip c.toNat).has 229) = _
    rw [Hd.flip_has _ _ _ (by omega) (by omega), Hd.flip_has _ _ _ (by omega) (by omega), decide_eq_false (by omega), decide_eq_false (by omega)]
    simp
  have hs1 : strokeP ⟨H, false, 0, 0, 0, x⟩ ⟨1, c, true, 0⟩ = (⟨H.flip c.toNat, false, 0, c, 20, x ++ charP c (H.has 225 || H.has 229)⟩, 0) := by
    unfold strokeP
    rw [if_pos rfl]
    dsimp only
    rw [ha, if_neg (fun q => q rfl), if_pos rfl]
    unfold downP
    rw [if_pos hp, typed_zero hc rfl, hsh]
    dsimp only
    rw [Bool.false_and, Bool.bne_false, put_room (by rw [char_size hc]; exact hx)]
  have hb : app1 (H.flip c.toNat) c false = (H, 0) := by
    unfold app1
    rw [if_neg (by omega), if_neg (by rw [Hd.flip_has _ _ _ (by omega) (by omega), hh, decide_eq_true rfl]; decide), flip_flip _ _ (by omega)]
  have hs2 : strokeP ⟨H.flip c.toNat, false, 0, c, 20, x ++ charP c (H.has 225 || H.has 229)⟩ ⟨1, c, false, 0⟩ = (⟨H, false, 0, 0, 0, x ++ charP c (H.has 225 || H.has 229)⟩, 0) := by
    unfold strokeP
    rw [if_pos rfl]
    dsimp only
    rw [hb, if_neg (fun q => q rfl), if_neg (by decide), if_pos rfl]
  rw [runP_cons, hs1, if_neg (fun q => q rfl), runP_cons, hs2, if_neg (fun q => q rfl)]
theorem press_all (H : Hd) (hH : ∀ c : Int, signs c = true → H.has c.toNat = false) : ∀ (l : List Int) (x : ByteArray), (∀ c ∈ l, signs c = true) → x.size + l.length ≤ 4096 →
    runP ⟨H, false, 0, 0, 0, x⟩ (pressL l) = (⟨H, false, 0, 0, 0, x ++ catC (H.has 225 || H.has 229) l⟩, 0)
  | [], x, _, _ => by
    show ((⟨H, false, 0, 0, 0, x⟩ : St), (0 : Int)) = _
    show _ = ((⟨H, false, 0, 0, 0, x ++ ByteArray.empty⟩ : St), (0 : Int))
    rw [ByteArray.append_empty]
  | c :: l, x, h, hx => by
    have hc := h c (List.mem_cons_self ..)
    have hl : (c :: l).length = l.length + 1 := rfl
    rw [hl] at hx
    show runP _ (⟨1, c, true, 0⟩ :: ⟨1, c, false, 0⟩ :: pressL l) = _
    rw [press_step H x c hc (hH c hc) (by omega), press_all H hH l _ (fun d hd => h d (List.mem_cons_of_mem _ hd)) (by rw [ByteArray.size_append, char_size hc]; omega)]
    have e : catC (H.has 225 || H.has 229) (c :: l) = charP c (H.has 225 || H.has 229) ++ catC (H.has 225 || H.has 229) l := by
      show catC _ ([c] ++ l) = _
      have key : ∀ (l : List Int) (y : ByteArray), l.foldl (fun x c => x ++ charP c (H.has 225 || H.has 229)) y = y ++ catC (H.has 225 || H.has 229) l := by
        intro l
        induction l with
        | nil => intro y; show y = y ++ ByteArray.empty; rw [ByteArray.append_empty]
        | cons d l ih =>
          intro y
          show l.foldl _ (y ++ charP d _) = y ++ l.foldl _ (ByteArray.empty ++ charP d _)
          rw [ih, ih (ByteArray.empty ++ _), ByteArray.empty_append, ByteArray.append_assoc]
      show l.foldl _ (ByteArray.empty ++ charP c _) = _
      rw [key, ByteArray.empty_append]
    rw [e, ByteArray.append_assoc]
def shL (sh : Bool) : List Sk := if sh then [⟨1, 229, true, 0⟩] else []
theorem words_plain (sh : Bool) (l : List Int) (h : ∀ c ∈ l, signs c = true) (hl : l.length ≤ 150) : ∃ T : St, typeP St.zero (shL sh ++ pressL l) = (T, 0) ∧ T.text = catC sh l ∧ T.last = 0 := by
  have hlen : (shL sh ++ pressL l).length ≤ 400 := by
    rw [List.length_append, pressL_len]
    cases sh <;> (simp only [shL, List.length_cons, List.length_nil, Bool.false_eq_true, if_false, if_true]; omega)
  cases sh
  · refine ⟨⟨Hd0, false, 0, 0, 0, ByteArray.empty ++ catC (Hd0.has 225 || Hd0.has 229) l⟩, ?_, ?_, rfl⟩
    · unfold typeP
      rw [if_neg (fun q => q chk_zero), if_neg (by omega)]
      show runP ⟨Hd0, false, 0, 0, 0, ByteArray.empty⟩ (pressL l) = _
      exact press_all Hd0 (fun c hc => Hd0_has _ (by have := signs_in hc; omega)) l ByteArray.empty h (by show 0 + l.length ≤ 4096; omega)
    · show ByteArray.empty ++ catC (Hd0.has 225 || Hd0.has 229) l = _
      rw [Hd0_has _ (by decide), Hd0_has _ (by decide), ByteArray.empty_append]; rfl
  · have h1 : strokeP St.zero ⟨1, 229, true, 0⟩ = (⟨Hd0.flip 229, false, 0, 0, 0, ByteArray.empty⟩, 0) := by kernel_rfl
    have h229 : ∀ d, d < 256 → (Hd0.flip 229).has d = decide (229 = d) := fun d hd => by
      rw [Hd.flip_has _ _ _ (by decide) hd, Hd0_has _ hd]
      cases decide (229 = d) <;> rfl
    refine ⟨⟨Hd0.flip 229, false, 0, 0, 0, ByteArray.empty ++ catC ((Hd0.flip 229).has 225 || (Hd0.flip 229).has 229) l⟩, ?_, ?_, rfl⟩
    · unfold typeP
      rw [if_neg (fun q => q chk_zero), if_neg (by omega)]
      show runP St.zero (⟨1, 229, true, 0⟩ :: pressL l) = _
      rw [runP_cons, h1, if_neg (fun q => q rfl)]
      exact press_all (Hd0.flip 229) (fun c hc => by have := signs_in hc; rw [h229 _ (by omega)]; exact decide_eq_false (by omega)) l ByteArray.empty h (by show 0 + l.length ≤ 4096; omega)
    · show ByteArray.empty ++ catC ((Hd0.flip 229).has 225 || (Hd0.flip 229).has 229) l = _
      rw [h229 225 (by decide), h229 229 (by decide), ByteArray.empty_append]; rfl
set_option maxRecDepth 100000 in
set_option maxHeartbeats 6400000 in
theorem words_calls (l : List Int) (sh : Bool) (A : Option Addr) (cap : Nat) (w0 : World) (hv : Kt.Ar w0 (.slice A l.length cap) 1 l.length (ints l)) (hT : ∀ W, Below w0.heap.size w0 W → Lib.Utf8Tabs 0 1 W) :
    Calls Tryd.prog 3 #[.slice A l.length cap, .bool sh] w0 fun e w' => e = .returned (.bool true) ∧ Below w0.heap.size w0 w' := by
  have HT := Lib.hid hT
  have HV := Lib.hid hv
  have HLV := Lib.hid (fun W hW => tlives_calls W (fun X hX => HT.out X (Kt.bthen hW hX)))
  clear hT hv
  go_enter Tryd.func3, Tryd.ntmps3
  go_wp2_with fail
  refine (HLV.out _ (Below.refl _ _)).mono ?_; rintro e w1 ⟨rfl, hb⟩
  have HB1 := Lib.hid hb
  clear hb
  by_cases hl : 150 < l.length
  · have hl' : (150 : Int) < l.length := by omega
    clear hl
    go_wp2_with fail
    refine (HLV.out _ HB1.out).mono ?_; rintro e w2 ⟨rfl, hb⟩
    have HB2 := Lib.hid (Kt.bthen HB1.out hb)
    clear hb
    go_wp2_with fail
    go_ret
    exact ⟨rfl, HB2.out⟩
  · have hl' : ¬ (150 : Int) < l.length := by omega
    have HL := Lib.hid hl
    clear hl
    go_wp2_with fail
    go_loopw [5, 24] (fun V ii wr => ∃ k : Nat, V = .string (catC sh (l.take k)) ∧ ii = .int .i64 k ∧ Hid (k ≤ l.length ∧ (∀ c ∈ l.take k, signs c = true)) ∧ Hid (Below w0.heap.size w0 wr)) (fun _ ii _ => l.length - (intOf ii).toNat)
    case atStart => exact ⟨0, rfl, rfl, Lib.hid ⟨Nat.zero_le _, fun c hc => by simp at hc⟩, HB1⟩
    case round =>
      obtain ⟨k, rfl, rfl, HK, HB⟩ := hrel
      by_cases hk : k < l.length
      · have hk' : (k : Int) < l.length := by omega
        obtain ⟨A0, c0, e0, _, hcl⟩ := HV.out.form
        cases e0
        obtain ⟨b, o, rfl, hb0, hc1⟩ := hcl (by omega)
        have x0 : wr.cell? ⟨b, o + k, none⟩ = some (.int .i64 l[k]) := (HB.out.cell (p := ⟨b, o + k, none⟩) hb0).trans (by rw [hc1 k (by unfold ints; rw [List.length_map]; exact hk)]; simp [ints])
        have hw1 : wrap64 ((k : Int) + 1) = ((k + 1 : Nat) : Int) := by have := HL.out; unfold wrap64; omega
        have HTK := Lib.hid (show l.take (k + 1) = l.take k ++ [l[k]] from List.take_succ_eq_append_getElem hk)
        have HH := Lib.hid (And.intro hk hw1)
        obtain ⟨Y, hY⟩ : ∃ Y, catC sh (l.take k) = Y := ⟨_, rfl⟩
        have HY : Hid (Y.size ≤ 150) := Lib.hid (by rw [← hY, catC_size sh _ HK.out.2, List.length_take]; have := HL.out; omega)
        rw [hY]
        have HYY := Lib.hid hY
        generalize l[k] = c at *
        have HSG := Lib.hid (fun W => signs_calls c W)
        obtain ⟨ok, hok⟩ : ∃ x, signs c = x := ⟨_, rfl⟩
        obtain ⟨S1, hS1⟩ : ∃ x, charP c false = x := ⟨_, rfl⟩
        obtain ⟨S2, hS2⟩ : ∃ x, charP c true = x := ⟨_, rfl⟩
        rw [hok, hS1, hS2] at HSG
        have HS := Lib.hid (And.intro hok (And.intro hS1 hS2))
        clear hc1 hcl hk hw1 hY hok hS1 hS2
        go_wp2_with fail
        refine (HSG.out _).mono ?_; rintro e w2 ⟨rfl, hb⟩
        have HB2 := Lib.hid (Kt.bthen HB.out hb)
        clear hb HB HSG x0
        have hw1 := HH.out.2
        cases ok
        · go_wp2_with fail
          go_ret
          exact ⟨rfl, HB2.out⟩
        · have hsz : ∀ S : ByteArray, S.size = 1 → ¬ 9223372036854775807 < Y.size + S.size := fun S h => by have := HY.out; omega
          have z1 : S1.size = 1 := by rw [← HS.out.2.1]; exact char_size HS.out.1 false
          have z2 : S2.size = 1 := by rw [← HS.out.2.2]; exact char_size HS.out.1 true
          have hs1 := hsz S1 z1
          have hs2 := hsz S2 z2
          have HK2 : Hid (k + 1 ≤ l.length ∧ ∀ d ∈ l.take (k + 1), signs d = true) := Lib.hid ⟨HH.out.1, fun d hd => by
            rw [HTK.out, List.mem_append, List.mem_singleton] at hd
            rcases hd with hd | rfl
            · exact HK.out.2 d hd
            · exact HS.out.1⟩
          have HC2 : Hid (catC sh (l.take (k + 1)) = Y ++ if sh then S2 else S1) := Lib.hid (by rw [HTK.out, catC_snoc, HYY.out]; cases sh; (show _ = Y ++ S1; rw [← HS.out.2.1]); (show _ = Y ++ S2; rw [← HS.out.2.2]))
          clear hsz z1 z2 HTK HYY HS
          cases sh
          · go_wp2_with fail
            exact ⟨⟨k + 1, by rw [HC2.out]; rfl, by first | rfl | rw [hw1], HK2, HB2⟩, by first | exact nxm HH.out.1 | (rw [hw1]; exact nxm HH.out.1)⟩
          · go_wp2_with fail
            exact ⟨⟨k + 1, by rw [HC2.out]; rfl, by first | rfl | rw [hw1], HK2, HB2⟩, by first | exact nxm HH.out.1 | (rw [hw1]; exact nxm HH.out.1)⟩
      · have hk' : ¬ (k : Int) < l.length := by omega
        have hkk : k = l.length := by have := HK.out.1; omega
        subst hkk
        rw [List.take_length] at HK ⊢
        obtain ⟨T, hT, hTt, hTl⟩ := words_plain sh l HK.out.2 (by have := HL.out; omega)
        have HX := Lib.hid (And.intro hT (And.intro hTt hTl))
        have HP := Lib.hid (press_calls l A cap wr (HV.out.on HB.out) (by have := HL.out; omega))
        obtain ⟨Z, hZ⟩ : ∃ Z, catC sh l = Z := ⟨_, rfl⟩
        rw [hZ] at HX ⊢
        clear hT hTt hTl hk hZ
        go_wp2_with fail
        refine HP.out.mono ?_
        rintro e w3 ⟨A3, c3, rfl, hs, hb⟩
        have HB3 := Lib.hid (Kt.bthen HB.out hb)
        have HS3 := Lib.hid hs
        clear hs hb HB HP HK
        cases sh
        · go_wp2_with fail
          have HTC := type_calls St.zero (shL false ++ pressL l) A3 c3 w3 (by rw [show (shL false ++ pressL l).length = l.length * 2 from pressL_len l]; exact Kt.Ar.of_sl HS3.out) (fun W hW => HT.out W (Kt.bthen HB3.out hW))
          rw [show (shL false ++ pressL l).length = l.length * 2 from pressL_len l] at HTC
          refine HTC.mono ?_
          rw [HX.out.1]
          rintro e w5 ⟨rfl, hb⟩
          have HB5 := Lib.hid (Kt.bthen HB3.out hb)
          clear hb
          unfold St.v St.cs
          rw [HX.out.2.1, HX.out.2.2]
          go_wp2_with fail
          go_ret
          exact ⟨rfl, Kt.balloc HB5.out _⟩
        · have hal := Kt.balloc (Below.refl _ w3) (.cells #[.int .i64 1, .int .i64 229, .bool true, .int .i64 0] 31)
          have HSL := Lib.hid (Kt.Sl.fresh w3 #[.int .i64 1, .int .i64 229, .bool true, .int .i64 0] 31 1 4 rfl (by decide))
          have HAR := Lib.hid (Kt.Ar.of_sl (HS3.out.on hal))
          have HB4 := Lib.hid (Kt.bthen HB3.out hal)
          have HBS := Lib.hid hal.size
          clear hal
          go_wp2_with (
            refine Kt.append_ar (by rfl) (.tmp 47) (.tmp 48) 26 rfl w3.heap.size 31 (.agg #[.int .i64 0, .int .i64 0, .bool false, .int .i64 0]) 4 32 infoK Tryd.underlying26 rfl (by decide) _ _ _ rfl HSL.out _ _ _ rfl HAR.out (sks_one _) (by have := HL.out; unfold maxLen; omega) (by have := HL.out; omega) HBS.out ?_
            intro A5 c5 w5 hs5 hb5 hz5 hk5 hl5)
          have hlen : (shL true ++ pressL l).length = 1 + l.length * 2 := by rw [List.length_append, pressL_len]; rfl
          have HB6 := Lib.hid (HB4.out.trans (hb5.mono HB3.out.size))
          have HTC := type_calls St.zero (shL true ++ pressL l) A5 c5 w5 (by rw [hlen, sks_app]; exact Kt.Ar.of_sl hs5) (fun W hW => HT.out W (Kt.bthen HB6.out hW))
          rw [hlen] at HTC
          clear hs5 hb5 hz5 hk5 hl5
          refine HTC.mono ?_
          rw [HX.out.1]
          rintro e w7 ⟨rfl, hb⟩
          have HB7 := Lib.hid (Kt.bthen HB6.out hb)
          clear hb
          unfold St.v St.cs
          rw [HX.out.2.1, HX.out.2.2]
          go_wp2_with fail
          go_ret
          exact ⟨rfl, Kt.balloc HB7.out _⟩
theorem words_walk (v0 v1 : Value) (w : World) (hT : Lib.Utf8Tabs 0 1 w) (r0 : Fr.RdV w reachBytes (.slice 1 (.int .i64)) v0) (r1 : Fr.RdV w reachBytes .bool v1) :
    Calls Tryd.prog 3 #[v0, v1] w fun e w' => e = .returned (.bool true) ∧ Below w.heap.size w w' := by
  obtain ⟨ns, _, _, h⟩ := Kt.ar_ints r0
  obtain ⟨A, c, rfl, _, _⟩ := h.form
  obtain ⟨sh, e1⟩ := r1; cases e1
  exact words_calls ns sh A c w h (fun W hW => Utf8Tabs_below hT hW)
end Go.Proofs.YtndkaehbmdiofaaDoor
