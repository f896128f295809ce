/- The law HubPath, walked (printed by ghubp.py). -/
import Derived.Test.YtijolofnmccolaaHubY
import Derived.Test.YtijolofnmccolaaHubI
namespace Go.Proofs.Ytijolofnmccolaa
open Go.RowKit Go.Proofs.Ytijolofnmccolaa.SetP
set_option maxRecDepth 100000 in
set_option maxHeartbeats 6400000 in
theorem path_good (c : Int) (i : Nat) (w : World) (hr : RightH c zs) (h1 : (1 : Int) ≤ i) (h2 : (i : Int) ≤ c) :
    Calls Try.prog 6 #[.int .i64 c, .int .i64 i] w fun e w' => e = .returned (.bool true) ∧ Below w.heap.size w w' := by
  have HR := Lib.hid hr
  obtain ⟨p1, p2, p3, p4, p5, a1, a2, a3, HP'⟩ := path_of hr h1 h2
  have HPH := Lib.hid HP'
  have HE1 : Hid (decide ((i : Int) < 1) = false) := Lib.hid (decide_eq_false (by omega))
  have HE2 : Hid (decide (c < (i : Int)) = false) := Lib.hid (decide_eq_false (by omega))
  have HCK := Lib.hid (fun W => check_calls c zs zs_len fit_zero W)
  have b0 := new_box w c zs
  have hbel := new_bel w c zs
  clear hr h1 h2 HP'
  generalize (i : Int) = z at *
  go_enter Try.func6, Try.ntmps6
  go_wp2_with (refine store_hub_new rfl (.tmp 5) (.tmp 21) rfl w.heap.size rfl rfl c zs zs_len rfl _ rfl ?_)
  refine (lives_calls _).mono ?_
  rintro en w1 ⟨rfl, hb⟩
  replace b0 := b0.on hb
  replace hbel := Kt.bthen hbel hb
  clear hb
  go_wp2_with (refine load_hub_g rfl (.tmp 5) rfl w.heap.size rfl c zs zs_len b0 ?_)
  refine (HCK.out _).mono ?_
  rintro en w2 ⟨n, rfl, hn, hb⟩
  obtain rfl : n = 0 := hn.1.2 HR.out
  replace b0 := b0.on hb
  replace hbel := Kt.bthen hbel hb
  clear hb hn HCK
  have e1 := HE1.out
  have e2 := HE2.out
  go_wp2_with (refine load_hub rfl (.tmp 5) rfl w.heap.size rfl c zs zs_len b0 ?_)
  refine (HPH.out.f1 _).mono ?_
  rintro en w3 ⟨rfl, hb⟩
  replace b0 := (b0.on hb).on (new_bel w3 c zs)
  replace hbel := Kt.bthen (Kt.bthen hbel hb) (new_bel w3 c zs)
  clear hb
  go_wp2_with (refine store_hub_new rfl (.tmp 6) (.tmp 43) rfl w3.heap.size rfl rfl c zs zs_len rfl _ rfl ?_)
  refine Kt.G.start 8 (HB w w.heap.size c zs) (by kernel_rfl) (HB.drew ⟨b0, hbel⟩) (fun hHeld => ?_)
  refine Kt.G.load_row 0 { dst := some 48, op := Op.load 26 (Operand.tmp 5), type := 26, pos := "hub.go:67", after := #[], guard := none } 26 (Operand.tmp 5) w.heap.size 26 (Kt.ia .i64 (c :: zs)) _ hHeld rfl (by kernel_rfl) (fun _ _ _ h => h) (by rfl) rfl rfl (fun _ h => h.1) Try.underlying26 rfl (hub_size c zs zs_len) ?_
  try simp only [Act.put, List.setIfInBounds_toArray, List.set_cons_zero, List.set_cons_succ]
  refine Kt.G.takeP 1 { dst := some 49, op := Op.move (Operand.tmp 1), type := 3, pos := "hub.go:67", after := #[], guard := none } ?_ (fun _ => hHeld) rfl (by kernel_rfl) (fun _ _ _ h => h) (by rfl) ?_ ?_
  rotate_left
  · intro w; go_simp; try with_reducible rfl
  try simp only [Act.put, List.setIfInBounds_toArray, List.set_cons_zero, List.set_cons_succ]
  refine Kt.G.one 2 { dst := some 50, op := Op.call { callee := Callee.value (Operand.func 11), args := #[Operand.const (Value.int IntKind.i64 9), Operand.const (Value.int IntKind.i64 8), Operand.tmp 49, Operand.const (Value.int IntKind.i64 0)], argTypes := #[3, 3, 3, 3] }, type := 9, pos := "hub.go:67", after := #[{ on := 1, ground := Ground.data }], guard := none } rfl (by kernel_rfl) (by rfl) (fun K hK => ?_)
  go_simp
  refine (HPH.out.k1 _).mono ?_
  rintro en x ⟨rfl, hb⟩
  try replace hnew := hnew.on hb
  refine hK.out _ _ (fun _ => hHeld.on hb) (fun hHeld => ?_)
  have hHeld := hHeld rfl
  clear hK K
  try simp only [Act.put, List.setIfInBounds_toArray, List.set_cons_zero, List.set_cons_succ]
  clear hb
  refine Kt.G.one 3 { dst := some 51, op := Op.call { callee := Callee.value (Operand.func 10), args := #[Operand.tmp 48, Operand.tmp 50], argTypes := #[26, 9] }, type := 31, pos := "hub.go:67", after := #[{ on := 0, ground := Ground.data }, { on := 2, ground := Ground.data }, { on := 2, ground := Ground.chain }], guard := none } rfl (by kernel_rfl) (by rfl) (fun K hK => ?_)
  go_simp
  refine (HPH.out.f2 _).mono ?_
  rintro en x ⟨rfl, hb⟩
  try replace hnew := hnew.on hb
  refine hK.out _ _ (fun _ => hHeld.on hb) (fun hHeld => ?_)
  have hHeld := hHeld rfl
  clear hK K
  try simp only [Act.put, List.setIfInBounds_toArray, List.set_cons_zero, List.set_cons_succ]
  clear hb
  refine Kt.G.takeP 4 { dst := some 47, op := Op.move (Operand.tmp 51), type := 31, pos := "hub.go:67", after := #[{ on := 3, ground := Ground.data }], guard := none } ?_ (fun _ => hHeld) rfl (by kernel_rfl) (fun _ _ _ h => h) (by rfl) ?_ ?_
  rotate_left
  · intro w; go_simp; try with_reducible rfl
  try simp only [Act.put, List.setIfInBounds_toArray, List.set_cons_zero, List.set_cons_succ]
  refine Kt.G.takeP 5 { dst := some 52, op := Op.extract (Operand.tmp 47) 0, type := 26, pos := "hub.go:67", after := #[{ on := 4, ground := Ground.data }], guard := none } ?_ (fun _ => hHeld) rfl (by kernel_rfl) (fun _ _ _ h => h) (by rfl) ?_ ?_
  rotate_left
  · intro w; go_simp; try with_reducible rfl
  try simp only [Act.put, List.setIfInBounds_toArray, List.set_cons_zero, List.set_cons_succ]
  refine Kt.G.takeP 6 { dst := some 53, op := Op.extract (Operand.tmp 47) 1, type := 9, pos := "hub.go:67", after := #[{ on := 4, ground := Ground.data }, { on := 8, ground := Ground.gcOnly Departure.lateStores }], guard := none } ?_ (fun _ => hHeld) rfl (by kernel_rfl) (fun _ _ _ h => h) (by rfl) ?_ ?_
  rotate_left
  · intro w; go_simp; try with_reducible rfl
  try simp only [Act.put, List.setIfInBounds_toArray, List.set_cons_zero, List.set_cons_succ]
  refine Kt.G.takeP 7 { dst := some 54, op := Op.extract (Operand.tmp 47) 2, type := 27, pos := "hub.go:67", after := #[{ on := 4, ground := Ground.data }, { on := 9, ground := Ground.gcOnly Departure.lateStores }], guard := none } ?_ (fun _ => hHeld) rfl (by kernel_rfl) (fun _ _ _ h => h) (by rfl) ?_ ?_
  rotate_left
  · intro w; go_simp; try with_reducible rfl
  try simp only [Act.put, List.setIfInBounds_toArray, List.set_cons_zero, List.set_cons_succ]
  refine Kt.G.one 8 { dst := none, op := Op.store 26 (Operand.tmp 5) (Operand.tmp 52), type := 0, pos := "hub.go:67", after := #[{ on := 5, ground := Ground.data }, { on := 3, ground := Ground.chain }, { on := 0, ground := Ground.phase }, { on := 1, ground := Ground.phase }, { on := 2, ground := Ground.phase }, { on := 3, ground := Ground.phase }, { on := 4, ground := Ground.phase }, { on := 5, ground := Ground.phase }, { on := 6, ground := Ground.textOnly Departure.lateStores }, { on := 7, ground := Ground.textOnly Departure.lateStores }], guard := none } rfl (by kernel_rfl) (by rfl) (fun K hK => ?_)
  refine st_hub (.tmp 5) (.tmp 52) rfl w.heap.size rfl c p1 HPH.out.l1 rfl c zs zs_len hHeld.1 ?_
  intro y hRy hoy hBy
  have hby := hHeld.2.trans (hBy _ (Nat.le_refl _))
  refine hK.out _ _ (Kt.G.late (by kernel_rfl)) (fun _ => ?_)
  clear hK K
  try simp only [Act.put, List.setIfInBounds_toArray, List.set_cons_zero, List.set_cons_succ]
  refine Kt.G.takeP 9 { dst := some 8, op := Op.assign (Operand.tmp 53), type := 9, pos := "hub.go:67", after := #[{ on := 6, ground := Ground.data }, { on := 8, ground := Ground.chain }, { on := 0, ground := Ground.phase }, { on := 1, ground := Ground.phase }, { on := 2, ground := Ground.phase }, { on := 3, ground := Ground.phase }, { on := 4, ground := Ground.phase }, { on := 5, ground := Ground.phase }, { on := 6, ground := Ground.phase }, { on := 7, ground := Ground.textOnly Departure.lateStores }, { on := 8, ground := Ground.phase }], guard := none } ?_ (Kt.G.late (by kernel_rfl)) rfl (by kernel_rfl) (fun _ _ _ h => h) (by rfl) ?_ ?_
  rotate_left
  · intro w; go_simp; try with_reducible rfl
  try simp only [Act.put, List.setIfInBounds_toArray, List.set_cons_zero, List.set_cons_succ]
  refine Kt.G.takeP 10 { dst := some 9, op := Op.assign (Operand.tmp 54), type := 27, pos := "hub.go:67", after := #[{ on := 7, ground := Ground.data }, { on := 9, ground := Ground.chain }, { on := 0, ground := Ground.phase }, { on := 1, ground := Ground.phase }, { on := 2, ground := Ground.phase }, { on := 3, ground := Ground.phase }, { on := 4, ground := Ground.phase }, { on := 5, ground := Ground.phase }, { on := 6, ground := Ground.phase }, { on := 7, ground := Ground.phase }, { on := 8, ground := Ground.phase }, { on := 9, ground := Ground.phase }], guard := none } ?_ (Kt.G.late (by kernel_rfl)) rfl (by kernel_rfl) (fun _ _ _ h => h) (by rfl) ?_ ?_
  rotate_left
  · intro w; go_simp; try with_reducible rfl
  try simp only [Act.put, List.setIfInBounds_toArray, List.set_cons_zero, List.set_cons_succ]
  refine Kt.G.done (by kernel_rfl) (NoPanic.normal ?_) _
  have b0 := hRy
  have hbel := hby
  clear hRy hoy hBy hby hHeld
  go_upto_region 8 with (fail)
  go_cut [10, 11, 12] from 55 to 62 (fun _ _ n wx => n = .int .i64 8 ∧ HB w w.heap.size c p1 wx)
  case first =>
    refine Kt.G.start 9 (HB w w.heap.size c p1) (by kernel_rfl) (HB.drew ⟨b0, hbel⟩) (fun hHeld => ?_)
    refine Kt.G.load_row 0 { dst := some 56, op := Op.load 26 (Operand.tmp 5), type := 26, pos := "hub.go:68", after := #[], guard := none } 26 (Operand.tmp 5) w.heap.size 26 (Kt.ia .i64 (c :: p1)) _ hHeld rfl (by kernel_rfl) (fun _ _ _ h => h) (by rfl) rfl rfl (fun _ h => h.1) Try.underlying26 rfl (hub_size c p1 HPH.out.l1) ?_
    try simp only [Act.put, List.setIfInBounds_toArray, List.set_cons_zero, List.set_cons_succ]
    refine Kt.G.takeP 1 { dst := some 57, op := Op.move (Operand.tmp 1), type := 3, pos := "hub.go:68", after := #[], guard := none } ?_ (fun _ => hHeld) rfl (by kernel_rfl) (fun _ _ _ h => h) (by rfl) ?_ ?_
    rotate_left
    · intro w; go_simp; try with_reducible rfl
    try simp only [Act.put, List.setIfInBounds_toArray, List.set_cons_zero, List.set_cons_succ]
    refine Kt.G.two 2 8 { dst := some 58, op := Op.call { callee := Callee.value (Operand.func 11), args := #[Operand.const (Value.int IntKind.i64 9), Operand.const (Value.int IntKind.i64 4), Operand.tmp 57, Operand.const (Value.int IntKind.i64 0)], argTypes := #[3, 3, 3, 3] }, type := 9, pos := "hub.go:68", after := #[{ on := 1, ground := Ground.data }], guard := none } { dst := some 10, op := Op.alloc 26, type := 0, pos := "hub.go:68", after := #[], guard := none } rfl rfl (by kernel_rfl) (by rfl) (by rfl) (fun K hK => ?_) (fun K hK => ?_)
    · go_simp
      refine (HPH.out.k2 _).mono ?_
      rintro en x ⟨rfl, hb⟩
      try replace hnew := hnew.on hb
      refine hK.out _ _ (fun _ => hHeld.on hb) (fun hHeld => ?_)
      have hHeld := hHeld rfl
      clear hK K
      try simp only [Act.put, List.setIfInBounds_toArray, List.set_cons_zero, List.set_cons_succ]
      clear hb
      refine Kt.G.two 3 8 { dst := some 59, op := Op.call { callee := Callee.value (Operand.func 10), args := #[Operand.tmp 56, Operand.tmp 58], argTypes := #[26, 9] }, type := 31, pos := "hub.go:68", after := #[{ on := 0, ground := Ground.data }, { on := 2, ground := Ground.data }, { on := 2, ground := Ground.chain }], guard := none } { dst := some 10, op := Op.alloc 26, type := 0, pos := "hub.go:68", after := #[], guard := none } rfl rfl (by kernel_rfl) (by rfl) (by rfl) (fun K hK => ?_) (fun K hK => ?_)
      · go_simp
        refine (HPH.out.f3 _).mono ?_
        rintro en x ⟨rfl, hb⟩
        try replace hnew := hnew.on hb
        refine hK.out _ _ (fun _ => hHeld.on hb) (fun hHeld => ?_)
        have hHeld := hHeld rfl
        clear hK K
        try simp only [Act.put, List.setIfInBounds_toArray, List.set_cons_zero, List.set_cons_succ]
        clear hb
        refine Kt.G.takeP 4 { dst := some 55, op := Op.move (Operand.tmp 59), type := 31, pos := "hub.go:68", after := #[{ on := 3, ground := Ground.data }], guard := none } ?_ (fun _ => hHeld) rfl (by kernel_rfl) (fun _ _ _ h => h) (by rfl) ?_ ?_
        rotate_left
        · intro w; go_simp; try with_reducible rfl
        try simp only [Act.put, List.setIfInBounds_toArray, List.set_cons_zero, List.set_cons_succ]
        refine Kt.G.takeP 5 { dst := some 60, op := Op.extract (Operand.tmp 55) 0, type := 26, pos := "hub.go:68", after := #[{ on := 4, ground := Ground.data }], guard := none } ?_ (fun _ => hHeld) rfl (by kernel_rfl) (fun _ _ _ h => h) (by rfl) ?_ ?_
        rotate_left
        · intro w; go_simp; try with_reducible rfl
        try simp only [Act.put, List.setIfInBounds_toArray, List.set_cons_zero, List.set_cons_succ]
        refine Kt.G.takeP 6 { dst := some 61, op := Op.extract (Operand.tmp 55) 1, type := 9, pos := "hub.go:68", after := #[{ on := 4, ground := Ground.data }, { on := 9, ground := Ground.gcOnly Departure.lateStores }], guard := none } ?_ (fun _ => hHeld) rfl (by kernel_rfl) (fun _ _ _ h => h) (by rfl) ?_ ?_
        rotate_left
        · intro w; go_simp; try with_reducible rfl
        try simp only [Act.put, List.setIfInBounds_toArray, List.set_cons_zero, List.set_cons_succ]
        refine Kt.G.takeP 7 { dst := some 62, op := Op.extract (Operand.tmp 55) 2, type := 27, pos := "hub.go:68", after := #[{ on := 4, ground := Ground.data }, { on := 10, ground := Ground.gcOnly Departure.lateStores }], guard := none } ?_ (fun _ => hHeld) rfl (by kernel_rfl) (fun _ _ _ h => h) (by rfl) ?_ ?_
        rotate_left
        · intro w; go_simp; try with_reducible rfl
        try simp only [Act.put, List.setIfInBounds_toArray, List.set_cons_zero, List.set_cons_succ]
        refine Kt.G.one 8 { dst := some 10, op := Op.alloc 26, type := 0, pos := "hub.go:68", after := #[], guard := none } rfl (by kernel_rfl) (by rfl) (fun K hK => ?_)
        obtain ⟨nb, hnbe, hnew⟩ := new_any hHeld
        go_simp
        refine hK.out _ _ (fun _ => hHeld.alloc _) (fun hHeld => ?_)
        have hHeld := hHeld rfl
        clear hK K
        try simp only [Act.put, List.setIfInBounds_toArray, List.set_cons_zero, List.set_cons_succ]
        try simp only [hnbe]
        refine Kt.G.one 9 { dst := none, op := Op.store 26 (Operand.tmp 10) (Operand.tmp 60), type := 0, pos := "hub.go:68", after := #[{ on := 8, ground := Ground.data }, { on := 5, ground := Ground.data }, { on := 3, ground := Ground.chain }, { on := 0, ground := Ground.phase }, { on := 1, ground := Ground.phase }, { on := 2, ground := Ground.phase }, { on := 3, ground := Ground.phase }, { on := 4, ground := Ground.phase }, { on := 5, ground := Ground.phase }, { on := 6, ground := Ground.textOnly Departure.lateStores }, { on := 7, ground := Ground.textOnly Departure.lateStores }, { on := 8, ground := Ground.phase }], guard := none } rfl (by kernel_rfl) (by rfl) (fun K hK => ?_)
        refine st_hub (.tmp 10) (.tmp 60) rfl nb rfl c p1 HPH.out.l1 rfl 0 zs zs_len hnew.1 ?_
        intro y hRy hoy hBy
        have hRy := (hoy _ (by have := hnew.2; omega)).trans hHeld.1
        have hby := hHeld.2.trans (hBy _ (by have := hnew.2; omega))
        refine hK.out _ _ (Kt.G.late (by kernel_rfl)) (fun _ => ?_)
        clear hK K
        try simp only [Act.put, List.setIfInBounds_toArray, List.set_cons_zero, List.set_cons_succ]
        refine Kt.G.takeP 10 { dst := some 11, op := Op.assign (Operand.tmp 61), type := 9, pos := "hub.go:68", after := #[{ on := 6, ground := Ground.data }, { on := 9, ground := Ground.chain }, { on := 0, ground := Ground.phase }, { on := 1, ground := Ground.phase }, { on := 2, ground := Ground.phase }, { on := 3, ground := Ground.phase }, { on := 4, ground := Ground.phase }, { on := 5, ground := Ground.phase }, { on := 6, ground := Ground.phase }, { on := 7, ground := Ground.textOnly Departure.lateStores }, { on := 8, ground := Ground.phase }, { on := 9, ground := Ground.phase }], guard := none } ?_ (Kt.G.late (by kernel_rfl)) rfl (by kernel_rfl) (fun _ _ _ h => h) (by rfl) ?_ ?_
        rotate_left
        · intro w; go_simp; try with_reducible rfl
        try simp only [Act.put, List.setIfInBounds_toArray, List.set_cons_zero, List.set_cons_succ]
        refine Kt.G.takeP 11 { dst := some 12, op := Op.assign (Operand.tmp 62), type := 27, pos := "hub.go:68", after := #[{ on := 7, ground := Ground.data }, { on := 10, ground := Ground.chain }, { on := 0, ground := Ground.phase }, { on := 1, ground := Ground.phase }, { on := 2, ground := Ground.phase }, { on := 3, ground := Ground.phase }, { on := 4, ground := Ground.phase }, { on := 5, ground := Ground.phase }, { on := 6, ground := Ground.phase }, { on := 7, ground := Ground.phase }, { on := 8, ground := Ground.phase }, { on := 9, ground := Ground.phase }, { on := 10, ground := Ground.phase }], guard := none } ?_ (Kt.G.late (by kernel_rfl)) rfl (by kernel_rfl) (fun _ _ _ h => h) (by rfl) ?_ ?_
        rotate_left
        · intro w; go_simp; try with_reducible rfl
        try simp only [Act.put, List.setIfInBounds_toArray, List.set_cons_zero, List.set_cons_succ]
        refine Kt.G.done (by kernel_rfl) (NoPanic.normal ?_) _
        go_wp2_with fail
        go_meet
        exact ⟨rfl, hRy, hby⟩
      · obtain ⟨nb, hnbe, hnew⟩ := new_any hHeld
        go_simp
        refine hK.out _ _ (fun _ => hHeld.alloc _) (fun hHeld => ?_)
        have hHeld := hHeld rfl
        clear hK K
        try simp only [Act.put, List.setIfInBounds_toArray, List.set_cons_zero, List.set_cons_succ]
        try simp only [hnbe]
        refine Kt.G.one 3 { dst := some 59, op := Op.call { callee := Callee.value (Operand.func 10), args := #[Operand.tmp 56, Operand.tmp 58], argTypes := #[26, 9] }, type := 31, pos := "hub.go:68", after := #[{ on := 0, ground := Ground.data }, { on := 2, ground := Ground.data }, { on := 2, ground := Ground.chain }], guard := none } rfl (by kernel_rfl) (by rfl) (fun K hK => ?_)
        go_simp
        refine (HPH.out.f3 _).mono ?_
        rintro en x ⟨rfl, hb⟩
        try replace hnew := hnew.on hb
        refine hK.out _ _ (fun _ => hHeld.on hb) (fun hHeld => ?_)
        have hHeld := hHeld rfl
        clear hK K
        try simp only [Act.put, List.setIfInBounds_toArray, List.set_cons_zero, List.set_cons_succ]
        clear hb
        refine Kt.G.takeP 4 { dst := some 55, op := Op.move (Operand.tmp 59), type := 31, pos := "hub.go:68", after := #[{ on := 3, ground := Ground.data }], guard := none } ?_ (fun _ => hHeld) rfl (by kernel_rfl) (fun _ _ _ h => h) (by rfl) ?_ ?_
        rotate_left
        · intro w; go_simp; try with_reducible rfl
        try simp only [Act.put, List.setIfInBounds_toArray, List.set_cons_zero, List.set_cons_succ]
        refine Kt.G.takeP 5 { dst := some 60, op := Op.extract (Operand.tmp 55) 0, type := 26, pos := "hub.go:68", after := #[{ on := 4, ground := Ground.data }], guard := none } ?_ (fun _ => hHeld) rfl (by kernel_rfl) (fun _ _ _ h => h) (by rfl) ?_ ?_
        rotate_left
        · intro w; go_simp; try with_reducible rfl
        try simp only [Act.put, List.setIfInBounds_toArray, List.set_cons_zero, List.set_cons_succ]
        refine Kt.G.takeP 6 { dst := some 61, op := Op.extract (Operand.tmp 55) 1, type := 9, pos := "hub.go:68", after := #[{ on := 4, ground := Ground.data }, { on := 9, ground := Ground.gcOnly Departure.lateStores }], guard := none } ?_ (fun _ => hHeld) rfl (by kernel_rfl) (fun _ _ _ h => h) (by rfl) ?_ ?_
        rotate_left
        · intro w; go_simp; try with_reducible rfl
        try simp only [Act.put, List.setIfInBounds_toArray, List.set_cons_zero, List.set_cons_succ]
        refine Kt.G.takeP 7 { dst := some 62, op := Op.extract (Operand.tmp 55) 2, type := 27, pos := "hub.go:68", after := #[{ on := 4, ground := Ground.data }, { on := 10, ground := Ground.gcOnly Departure.lateStores }], guard := none } ?_ (fun _ => hHeld) rfl (by kernel_rfl) (fun _ _ _ h => h) (by rfl) ?_ ?_
        rotate_left
        · intro w; go_simp; try with_reducible rfl
        try simp only [Act.put, List.setIfInBounds_toArray, List.set_cons_zero, List.set_cons_succ]
        refine Kt.G.one 9 { dst := none, op := Op.store 26 (Operand.tmp 10) (Operand.tmp 60), type := 0, pos := "hub.go:68", after := #[{ on := 8, ground := Ground.data }, { on := 5, ground := Ground.data }, { on := 3, ground := Ground.chain }, { on := 0, ground := Ground.phase }, { on := 1, ground := Ground.phase }, { on := 2, ground := Ground.phase }, { on := 3, ground := Ground.phase }, { on := 4, ground := Ground.phase }, { on := 5, ground := Ground.phase }, { on := 6, ground := Ground.textOnly Departure.lateStores }, { on := 7, ground := Ground.textOnly Departure.lateStores }, { on := 8, ground := Ground.phase }], guard := none } rfl (by kernel_rfl) (by rfl) (fun K hK => ?_)
        refine st_hub (.tmp 10) (.tmp 60) rfl nb rfl c p1 HPH.out.l1 rfl 0 zs zs_len hnew.1 ?_
        intro y hRy hoy hBy
        have hRy := (hoy _ (by have := hnew.2; omega)).trans hHeld.1
        have hby := hHeld.2.trans (hBy _ (by have := hnew.2; omega))
        refine hK.out _ _ (Kt.G.late (by kernel_rfl)) (fun _ => ?_)
        clear hK K
        try simp only [Act.put, List.setIfInBounds_toArray, List.set_cons_zero, List.set_cons_succ]
        refine Kt.G.takeP 10 { dst := some 11, op := Op.assign (Operand.tmp 61), type := 9, pos := "hub.go:68", after := #[{ on := 6, ground := Ground.data }, { on := 9, ground := Ground.chain }, { on := 0, ground := Ground.phase }, { on := 1, ground := Ground.phase }, { on := 2, ground := Ground.phase }, { on := 3, ground := Ground.phase }, { on := 4, ground := Ground.phase }, { on := 5, ground := Ground.phase }, { on := 6, ground := Ground.phase }, { on := 7, ground := Ground.textOnly Departure.lateStores }, { on := 8, ground := Ground.phase }, { on := 9, ground := Ground.phase }], guard := none } ?_ (Kt.G.late (by kernel_rfl)) rfl (by kernel_rfl) (fun _ _ _ h => h) (by rfl) ?_ ?_
        rotate_left
        · intro w; go_simp; try with_reducible rfl
        try simp only [Act.put, List.setIfInBounds_toArray, List.set_cons_zero, List.set_cons_succ]
        refine Kt.G.takeP 11 { dst := some 12, op := Op.assign (Operand.tmp 62), type := 27, pos := "hub.go:68", after := #[{ on := 7, ground := Ground.data }, { on := 10, ground := Ground.chain }, { on := 0, ground := Ground.phase }, { on := 1, ground := Ground.phase }, { on := 2, ground := Ground.phase }, { on := 3, ground := Ground.phase }, { on := 4, ground := Ground.phase }, { on := 5, ground := Ground.phase }, { on := 6, ground := Ground.phase }, { on := 7, ground := Ground.phase }, { on := 8, ground := Ground.phase }, { on := 9, ground := Ground.phase }, { on := 10, ground := Ground.phase }], guard := none } ?_ (Kt.G.late (by kernel_rfl)) rfl (by kernel_rfl) (fun _ _ _ h => h) (by rfl) ?_ ?_
        rotate_left
        · intro w; go_simp; try with_reducible rfl
        try simp only [Act.put, List.setIfInBounds_toArray, List.set_cons_zero, List.set_cons_succ]
        refine Kt.G.done (by kernel_rfl) (NoPanic.normal ?_) _
        go_wp2_with fail
        go_meet
        exact ⟨rfl, hRy, hby⟩
    · obtain ⟨nb, hnbe, hnew⟩ := new_any hHeld
      go_simp
      refine hK.out _ _ (fun _ => hHeld.alloc _) (fun hHeld => ?_)
      have hHeld := hHeld rfl
      clear hK K
      try simp only [Act.put, List.setIfInBounds_toArray, List.set_cons_zero, List.set_cons_succ]
      try simp only [hnbe]
      refine Kt.G.one 2 { dst := some 58, op := Op.call { callee := Callee.value (Operand.func 11), args := #[Operand.const (Value.int IntKind.i64 9), Operand.const (Value.int IntKind.i64 4), Operand.tmp 57, Operand.const (Value.int IntKind.i64 0)], argTypes := #[3, 3, 3, 3] }, type := 9, pos := "hub.go:68", after := #[{ on := 1, ground := Ground.data }], guard := none } rfl (by kernel_rfl) (by rfl) (fun K hK => ?_)
      go_simp
      refine (HPH.out.k2 _).mono ?_
      rintro en x ⟨rfl, hb⟩
      try replace hnew := hnew.on hb
      refine hK.out _ _ (fun _ => hHeld.on hb) (fun hHeld => ?_)
      have hHeld := hHeld rfl
      clear hK K
      try simp only [Act.put, List.setIfInBounds_toArray, List.set_cons_zero, List.set_cons_succ]
      clear hb
      refine Kt.G.one 3 { dst := some 59, op := Op.call { callee := Callee.value (Operand.func 10), args := #[Operand.tmp 56, Operand.tmp 58], argTypes := #[26, 9] }, type := 31, pos := "hub.go:68", after := #[{ on := 0, ground := Ground.data }, { on := 2, ground := Ground.data }, { on := 2, ground := Ground.chain }], guard := none } rfl (by kernel_rfl) (by rfl) (fun K hK => ?_)
      go_simp
      refine (HPH.out.f3 _).mono ?_
      rintro en x ⟨rfl, hb⟩
      try replace hnew := hnew.on hb
      refine hK.out _ _ (fun _ => hHeld.on hb) (fun hHeld => ?_)
      have hHeld := hHeld rfl
      clear hK K
      try simp only [Act.put, List.setIfInBounds_toArray, List.set_cons_zero, List.set_cons_succ]
      clear hb
      refine Kt.G.takeP 4 { dst := some 55, op := Op.move (Operand.tmp 59), type := 31, pos := "hub.go:68", after := #[{ on := 3, ground := Ground.data }], guard := none } ?_ (fun _ => hHeld) rfl (by kernel_rfl) (fun _ _ _ h => h) (by rfl) ?_ ?_
      rotate_left
      · intro w; go_simp; try with_reducible rfl
      try simp only [Act.put, List.setIfInBounds_toArray, List.set_cons_zero, List.set_cons_succ]
      refine Kt.G.takeP 5 { dst := some 60, op := Op.extract (Operand.tmp 55) 0, type := 26, pos := "hub.go:68", after := #[{ on := 4, ground := Ground.data }], guard := none } ?_ (fun _ => hHeld) rfl (by kernel_rfl) (fun _ _ _ h => h) (by rfl) ?_ ?_
      rotate_left
      · intro w; go_simp; try with_reducible rfl
      try simp only [Act.put, List.setIfInBounds_toArray, List.set_cons_zero, List.set_cons_succ]
      refine Kt.G.takeP 6 { dst := some 61, op := Op.extract (Operand.tmp 55) 1, type := 9, pos := "hub.go:68", after := #[{ on := 4, ground := Ground.data }, { on := 9, ground := Ground.gcOnly Departure.lateStores }], guard := none } ?_ (fun _ => hHeld) rfl (by kernel_rfl) (fun _ _ _ h => h) (by rfl) ?_ ?_
      rotate_left
      · intro w; go_simp; try with_reducible rfl
      try simp only [Act.put, List.setIfInBounds_toArray, List.set_cons_zero, List.set_cons_succ]
      refine Kt.G.takeP 7 { dst := some 62, op := Op.extract (Operand.tmp 55) 2, type := 27, pos := "hub.go:68", after := #[{ on := 4, ground := Ground.data }, { on := 10, ground := Ground.gcOnly Departure.lateStores }], guard := none } ?_ (fun _ => hHeld) rfl (by kernel_rfl) (fun _ _ _ h => h) (by rfl) ?_ ?_
      rotate_left
      · intro w; go_simp; try with_reducible rfl
      try simp only [Act.put, List.setIfInBounds_toArray, List.set_cons_zero, List.set_cons_succ]
      refine Kt.G.one 9 { dst := none, op := Op.store 26 (Operand.tmp 10) (Operand.tmp 60), type := 0, pos := "hub.go:68", after := #[{ on := 8, ground := Ground.data }, { on := 5, ground := Ground.data }, { on := 3, ground := Ground.chain }, { on := 0, ground := Ground.phase }, { on := 1, ground := Ground.phase }, { on := 2, ground := Ground.phase }, { on := 3, ground := Ground.phase }, { on := 4, ground := Ground.phase }, { on := 5, ground := Ground.phase }, { on := 6, ground := Ground.textOnly Departure.lateStores }, { on := 7, ground := Ground.textOnly Departure.lateStores }, { on := 8, ground := Ground.phase }], guard := none } rfl (by kernel_rfl) (by rfl) (fun K hK => ?_)
      refine st_hub (.tmp 10) (.tmp 60) rfl nb rfl c p1 HPH.out.l1 rfl 0 zs zs_len hnew.1 ?_
      intro y hRy hoy hBy
      have hRy := (hoy _ (by have := hnew.2; omega)).trans hHeld.1
      have hby := hHeld.2.trans (hBy _ (by have := hnew.2; omega))
      refine hK.out _ _ (Kt.G.late (by kernel_rfl)) (fun _ => ?_)
      clear hK K
      try simp only [Act.put, List.setIfInBounds_toArray, List.set_cons_zero, List.set_cons_succ]
      refine Kt.G.takeP 10 { dst := some 11, op := Op.assign (Operand.tmp 61), type := 9, pos := "hub.go:68", after := #[{ on := 6, ground := Ground.data }, { on := 9, ground := Ground.chain }, { on := 0, ground := Ground.phase }, { on := 1, ground := Ground.phase }, { on := 2, ground := Ground.phase }, { on := 3, ground := Ground.phase }, { on := 4, ground := Ground.phase }, { on := 5, ground := Ground.phase }, { on := 6, ground := Ground.phase }, { on := 7, ground := Ground.textOnly Departure.lateStores }, { on := 8, ground := Ground.phase }, { on := 9, ground := Ground.phase }], guard := none } ?_ (Kt.G.late (by kernel_rfl)) rfl (by kernel_rfl) (fun _ _ _ h => h) (by rfl) ?_ ?_
      rotate_left
      · intro w; go_simp; try with_reducible rfl
      try simp only [Act.put, List.setIfInBounds_toArray, List.set_cons_zero, List.set_cons_succ]
      refine Kt.G.takeP 11 { dst := some 12, op := Op.assign (Operand.tmp 62), type := 27, pos := "hub.go:68", after := #[{ on := 7, ground := Ground.data }, { on := 10, ground := Ground.chain }, { on := 0, ground := Ground.phase }, { on := 1, ground := Ground.phase }, { on := 2, ground := Ground.phase }, { on := 3, ground := Ground.phase }, { on := 4, ground := Ground.phase }, { on := 5, ground := Ground.phase }, { on := 6, ground := Ground.phase }, { on := 7, ground := Ground.phase }, { on := 8, ground := Ground.phase }, { on := 9, ground := Ground.phase }, { on := 10, ground := Ground.phase }], guard := none } ?_ (Kt.G.late (by kernel_rfl)) rfl (by kernel_rfl) (fun _ _ _ h => h) (by rfl) ?_ ?_
      rotate_left
      · intro w; go_simp; try with_reducible rfl
      try simp only [Act.put, List.setIfInBounds_toArray, List.set_cons_zero, List.set_cons_succ]
      refine Kt.G.done (by kernel_rfl) (NoPanic.normal ?_) _
      go_wp2_with fail
      go_meet
      exact ⟨rfl, hRy, hby⟩
  obtain ⟨rfl, b0, hbel⟩ := hcut
  go_wp2_with (refine load_hub rfl (.tmp 5) rfl w.heap.size rfl c p1 HPH.out.l1 b0 ?_)
  refine (HPH.out.f4 _).mono ?_
  rintro en x ⟨rfl, hb⟩
  replace b0 := b0.on hb
  replace hbel := Kt.bthen hbel hb
  clear hb
  go_wp2_with (refine store_hub rfl (.tmp 5) (.tmp 67) rfl w.heap.size rfl c p2 HPH.out.l2 rfl c p1 HPH.out.l1 b0 ?_; intro y hRy hoy hBy)
  replace b0 := hRy
  replace hbel := hbel.trans (hBy _ (Nat.le_refl _))
  clear hRy hoy hBy
  refine Kt.G.start 8 (HB w w.heap.size c p2) (by kernel_rfl) (HB.drew ⟨b0, hbel⟩) (fun hHeld => ?_)
  refine Kt.G.load_row 0 { dst := some 70, op := Op.load 26 (Operand.tmp 5), type := 26, pos := "hub.go:70", after := #[], guard := none } 26 (Operand.tmp 5) w.heap.size 26 (Kt.ia .i64 (c :: p2)) _ hHeld rfl (by kernel_rfl) (fun _ _ _ h => h) (by rfl) rfl rfl (fun _ h => h.1) Try.underlying26 rfl (hub_size c p2 HPH.out.l2) ?_
  try simp only [Act.put, List.setIfInBounds_toArray, List.set_cons_zero, List.set_cons_succ]
  refine Kt.G.takeP 1 { dst := some 71, op := Op.move (Operand.tmp 1), type := 3, pos := "hub.go:70", after := #[], guard := none } ?_ (fun _ => hHeld) rfl (by kernel_rfl) (fun _ _ _ h => h) (by rfl) ?_ ?_
  rotate_left
  · intro w; go_simp; try with_reducible rfl
  try simp only [Act.put, List.setIfInBounds_toArray, List.set_cons_zero, List.set_cons_succ]
  refine Kt.G.one 2 { dst := some 72, op := Op.call { callee := Callee.value (Operand.func 11), args := #[Operand.const (Value.int IntKind.i64 9), Operand.const (Value.int IntKind.i64 4), Operand.tmp 71, Operand.const (Value.int IntKind.i64 0)], argTypes := #[3, 3, 3, 3] }, type := 9, pos := "hub.go:70", after := #[{ on := 1, ground := Ground.data }], guard := none } rfl (by kernel_rfl) (by rfl) (fun K hK => ?_)
  go_simp
  refine (HPH.out.k2 _).mono ?_
  rintro en x ⟨rfl, hb⟩
  try replace hnew := hnew.on hb
  refine hK.out _ _ (fun _ => hHeld.on hb) (fun hHeld => ?_)
  have hHeld := hHeld rfl
  clear hK K
  try simp only [Act.put, List.setIfInBounds_toArray, List.set_cons_zero, List.set_cons_succ]
  clear hb
  refine Kt.G.one 3 { dst := some 73, op := Op.call { callee := Callee.value (Operand.func 10), args := #[Operand.tmp 70, Operand.tmp 72], argTypes := #[26, 9] }, type := 31, pos := "hub.go:70", after := #[{ on := 0, ground := Ground.data }, { on := 2, ground := Ground.data }, { on := 2, ground := Ground.chain }], guard := none } rfl (by kernel_rfl) (by rfl) (fun K hK => ?_)
  go_simp
  refine (HPH.out.f5 _).mono ?_
  rintro en x ⟨rfl, hb⟩
  try replace hnew := hnew.on hb
  refine hK.out _ _ (fun _ => hHeld.on hb) (fun hHeld => ?_)
  have hHeld := hHeld rfl
  clear hK K
  try simp only [Act.put, List.setIfInBounds_toArray, List.set_cons_zero, List.set_cons_succ]
  clear hb
  refine Kt.G.takeP 4 { dst := some 69, op := Op.move (Operand.tmp 73), type := 31, pos := "hub.go:70", after := #[{ on := 3, ground := Ground.data }], guard := none } ?_ (fun _ => hHeld) rfl (by kernel_rfl) (fun _ _ _ h => h) (by rfl) ?_ ?_
  rotate_left
  · intro w; go_simp; try with_reducible rfl
  try simp only [Act.put, List.setIfInBounds_toArray, List.set_cons_zero, List.set_cons_succ]
  refine Kt.G.takeP 5 { dst := some 74, op := Op.extract (Operand.tmp 69) 0, type := 26, pos := "hub.go:70", after := #[{ on := 4, ground := Ground.data }], guard := none } ?_ (fun _ => hHeld) rfl (by kernel_rfl) (fun _ _ _ h => h) (by rfl) ?_ ?_
  rotate_left
  · intro w; go_simp; try with_reducible rfl
  try simp only [Act.put, List.setIfInBounds_toArray, List.set_cons_zero, List.set_cons_succ]
  refine Kt.G.takeP 6 { dst := some 75, op := Op.extract (Operand.tmp 69) 1, type := 9, pos := "hub.go:70", after := #[{ on := 4, ground := Ground.data }, { on := 8, ground := Ground.gcOnly Departure.lateStores }], guard := none } ?_ (fun _ => hHeld) rfl (by kernel_rfl) (fun _ _ _ h => h) (by rfl) ?_ ?_
  rotate_left
  · intro w; go_simp; try with_reducible rfl
  try simp only [Act.put, List.setIfInBounds_toArray, List.set_cons_zero, List.set_cons_succ]
  refine Kt.G.takeP 7 { dst := some 76, op := Op.extract (Operand.tmp 69) 2, type := 27, pos := "hub.go:70", after := #[{ on := 4, ground := Ground.data }, { on := 9, ground := Ground.gcOnly Departure.lateStores }], guard := none } ?_ (fun _ => hHeld) rfl (by kernel_rfl) (fun _ _ _ h => h) (by rfl) ?_ ?_
  rotate_left
  · intro w; go_simp; try with_reducible rfl
  try simp only [Act.put, List.setIfInBounds_toArray, List.set_cons_zero, List.set_cons_succ]
  refine Kt.G.one 8 { dst := none, op := Op.store 26 (Operand.tmp 5) (Operand.tmp 74), type := 0, pos := "hub.go:70", after := #[{ on := 5, ground := Ground.data }, { on := 3, ground := Ground.chain }, { on := 0, ground := Ground.phase }, { on := 1, ground := Ground.phase }, { on := 2, ground := Ground.phase }, { on := 3, ground := Ground.phase }, { on := 4, ground := Ground.phase }, { on := 5, ground := Ground.phase }, { on := 6, ground := Ground.textOnly Departure.lateStores }, { on := 7, ground := Ground.textOnly Departure.lateStores }], guard := none } rfl (by kernel_rfl) (by rfl) (fun K hK => ?_)
  refine st_hub (.tmp 5) (.tmp 74) rfl w.heap.size rfl c p3 HPH.out.l3 rfl c p2 HPH.out.l2 hHeld.1 ?_
  intro y hRy hoy hBy
  have hby := hHeld.2.trans (hBy _ (Nat.le_refl _))
  refine hK.out _ _ (Kt.G.late (by kernel_rfl)) (fun _ => ?_)
  clear hK K
  try simp only [Act.put, List.setIfInBounds_toArray, List.set_cons_zero, List.set_cons_succ]
  refine Kt.G.takeP 9 { dst := some 14, op := Op.assign (Operand.tmp 75), type := 9, pos := "hub.go:70", after := #[{ on := 6, ground := Ground.data }, { on := 8, ground := Ground.chain }, { on := 0, ground := Ground.phase }, { on := 1, ground := Ground.phase }, { on := 2, ground := Ground.phase }, { on := 3, ground := Ground.phase }, { on := 4, ground := Ground.phase }, { on := 5, ground := Ground.phase }, { on := 6, ground := Ground.phase }, { on := 7, ground := Ground.textOnly Departure.lateStores }, { on := 8, ground := Ground.phase }], guard := none } ?_ (Kt.G.late (by kernel_rfl)) rfl (by kernel_rfl) (fun _ _ _ h => h) (by rfl) ?_ ?_
  rotate_left
  · intro w; go_simp; try with_reducible rfl
  try simp only [Act.put, List.setIfInBounds_toArray, List.set_cons_zero, List.set_cons_succ]
  refine Kt.G.takeP 10 { dst := some 15, op := Op.assign (Operand.tmp 76), type := 27, pos := "hub.go:70", after := #[{ on := 7, ground := Ground.data }, { on := 9, ground := Ground.chain }, { on := 0, ground := Ground.phase }, { on := 1, ground := Ground.phase }, { on := 2, ground := Ground.phase }, { on := 3, ground := Ground.phase }, { on := 4, ground := Ground.phase }, { on := 5, ground := Ground.phase }, { on := 6, ground := Ground.phase }, { on := 7, ground := Ground.phase }, { on := 8, ground := Ground.phase }, { on := 9, ground := Ground.phase }], guard := none } ?_ (Kt.G.late (by kernel_rfl)) rfl (by kernel_rfl) (fun _ _ _ h => h) (by rfl) ?_ ?_
  rotate_left
  · intro w; go_simp; try with_reducible rfl
  try simp only [Act.put, List.setIfInBounds_toArray, List.set_cons_zero, List.set_cons_succ]
  refine Kt.G.done (by kernel_rfl) (NoPanic.normal ?_) _
  have b0 := hRy
  have hbel := hby
  clear hRy hoy hBy hby hHeld
  go_wp2_with (refine load_hub rfl (.tmp 5) rfl w.heap.size rfl c p3 HPH.out.l3 b0 ?_)
  refine (HPH.out.f6 _).mono ?_
  rintro en x ⟨rfl, hb⟩
  replace b0 := b0.on hb
  replace hbel := Kt.bthen hbel hb
  clear hb
  go_wp2_with (refine store_hub rfl (.tmp 5) (.tmp 80) rfl w.heap.size rfl c p4 HPH.out.l4 rfl c p3 HPH.out.l3 b0 ?_; intro y hRy hoy hBy)
  replace b0 := hRy
  replace hbel := hbel.trans (hBy _ (Nat.le_refl _))
  clear hRy hoy hBy
  go_upto_region 12 with (fail)
  go_cut [17, 18, 19] from 82 to 89 (fun _ v n wx => v = .string ⟨#[3, 1, 17, 0]⟩ ∧ n = .int .i64 0 ∧ HB w w.heap.size c p4 wx)
  case first =>
    refine Kt.G.start 9 (HB w w.heap.size c p4) (by kernel_rfl) (HB.drew ⟨b0, hbel⟩) (fun hHeld => ?_)
    refine Kt.G.load_row 0 { dst := some 83, op := Op.load 26 (Operand.tmp 5), type := 26, pos := "hub.go:72", after := #[], guard := none } 26 (Operand.tmp 5) w.heap.size 26 (Kt.ia .i64 (c :: p4)) _ hHeld rfl (by kernel_rfl) (fun _ _ _ h => h) (by rfl) rfl rfl (fun _ h => h.1) Try.underlying26 rfl (hub_size c p4 HPH.out.l4) ?_
    try simp only [Act.put, List.setIfInBounds_toArray, List.set_cons_zero, List.set_cons_succ]
    refine Kt.G.takeP 1 { dst := some 84, op := Op.move (Operand.tmp 1), type := 3, pos := "hub.go:72", after := #[], guard := none } ?_ (fun _ => hHeld) rfl (by kernel_rfl) (fun _ _ _ h => h) (by rfl) ?_ ?_
    rotate_left
    · intro w; go_simp; try with_reducible rfl
    try simp only [Act.put, List.setIfInBounds_toArray, List.set_cons_zero, List.set_cons_succ]
    refine Kt.G.two 2 8 { dst := some 85, op := Op.call { callee := Callee.value (Operand.func 11), args := #[Operand.const (Value.int IntKind.i64 8), Operand.const (Value.int IntKind.i64 0), Operand.tmp 84, Operand.const (Value.int IntKind.i64 4)], argTypes := #[3, 3, 3, 3] }, type := 9, pos := "hub.go:72", after := #[{ on := 1, ground := Ground.data }], guard := none } { dst := some 17, op := Op.alloc 26, type := 0, pos := "hub.go:72", after := #[], guard := none } rfl rfl (by kernel_rfl) (by rfl) (by rfl) (fun K hK => ?_) (fun K hK => ?_)
    · go_simp
      refine (HPH.out.k3 _).mono ?_
      rintro en x ⟨rfl, hb⟩
      try replace hnew := hnew.on hb
      refine hK.out _ _ (fun _ => hHeld.on hb) (fun hHeld => ?_)
      have hHeld := hHeld rfl
      clear hK K
      try simp only [Act.put, List.setIfInBounds_toArray, List.set_cons_zero, List.set_cons_succ]
      clear hb
      refine Kt.G.two 3 8 { dst := some 86, op := Op.call { callee := Callee.value (Operand.func 10), args := #[Operand.tmp 83, Operand.tmp 85], argTypes := #[26, 9] }, type := 31, pos := "hub.go:72", after := #[{ on := 0, ground := Ground.data }, { on := 2, ground := Ground.data }, { on := 2, ground := Ground.chain }], guard := none } { dst := some 17, op := Op.alloc 26, type := 0, pos := "hub.go:72", after := #[], guard := none } rfl rfl (by kernel_rfl) (by rfl) (by rfl) (fun K hK => ?_) (fun K hK => ?_)
      · go_simp
        refine (HPH.out.f7 _).mono ?_
        rintro en x ⟨rfl, hb⟩
        try replace hnew := hnew.on hb
        refine hK.out _ _ (fun _ => hHeld.on hb) (fun hHeld => ?_)
        have hHeld := hHeld rfl
        clear hK K
        try simp only [Act.put, List.setIfInBounds_toArray, List.set_cons_zero, List.set_cons_succ]
        clear hb
        refine Kt.G.takeP 4 { dst := some 82, op := Op.move (Operand.tmp 86), type := 31, pos := "hub.go:72", after := #[{ on := 3, ground := Ground.data }], guard := none } ?_ (fun _ => hHeld) rfl (by kernel_rfl) (fun _ _ _ h => h) (by rfl) ?_ ?_
        rotate_left
        · intro w; go_simp; try with_reducible rfl
        try simp only [Act.put, List.setIfInBounds_toArray, List.set_cons_zero, List.set_cons_succ]
        refine Kt.G.takeP 5 { dst := some 87, op := Op.extract (Operand.tmp 82) 0, type := 26, pos := "hub.go:72", after := #[{ on := 4, ground := Ground.data }], guard := none } ?_ (fun _ => hHeld) rfl (by kernel_rfl) (fun _ _ _ h => h) (by rfl) ?_ ?_
        rotate_left
        · intro w; go_simp; try with_reducible rfl
        try simp only [Act.put, List.setIfInBounds_toArray, List.set_cons_zero, List.set_cons_succ]
        refine Kt.G.takeP 6 { dst := some 88, op := Op.extract (Operand.tmp 82) 1, type := 9, pos := "hub.go:72", after := #[{ on := 4, ground := Ground.data }, { on := 9, ground := Ground.gcOnly Departure.lateStores }], guard := none } ?_ (fun _ => hHeld) rfl (by kernel_rfl) (fun _ _ _ h => h) (by rfl) ?_ ?_
        rotate_left
        · intro w; go_simp; try with_reducible rfl
        try simp only [Act.put, List.setIfInBounds_toArray, List.set_cons_zero, List.set_cons_succ]
        refine Kt.G.takeP 7 { dst := some 89, op := Op.extract (Operand.tmp 82) 2, type := 27, pos := "hub.go:72", after := #[{ on := 4, ground := Ground.data }, { on := 10, ground := Ground.gcOnly Departure.lateStores }], guard := none } ?_ (fun _ => hHeld) rfl (by kernel_rfl) (fun _ _ _ h => h) (by rfl) ?_ ?_
        rotate_left
        · intro w; go_simp; try with_reducible rfl
        try simp only [Act.put, List.setIfInBounds_toArray, List.set_cons_zero, List.set_cons_succ]
        refine Kt.G.one 8 { dst := some 17, op := Op.alloc 26, type := 0, pos := "hub.go:72", after := #[], guard := none } rfl (by kernel_rfl) (by rfl) (fun K hK => ?_)
        obtain ⟨nb, hnbe, hnew⟩ := new_any hHeld
        go_simp
        refine hK.out _ _ (fun _ => hHeld.alloc _) (fun hHeld => ?_)
        have hHeld := hHeld rfl
        clear hK K
        try simp only [Act.put, List.setIfInBounds_toArray, List.set_cons_zero, List.set_cons_succ]
        try simp only [hnbe]
        refine Kt.G.one 9 { dst := none, op := Op.store 26 (Operand.tmp 17) (Operand.tmp 87), type := 0, pos := "hub.go:72", after := #[{ on := 8, ground := Ground.data }, { on := 5, ground := Ground.data }, { on := 3, ground := Ground.chain }, { on := 0, ground := Ground.phase }, { on := 1, ground := Ground.phase }, { on := 2, ground := Ground.phase }, { on := 3, ground := Ground.phase }, { on := 4, ground := Ground.phase }, { on := 5, ground := Ground.phase }, { on := 6, ground := Ground.textOnly Departure.lateStores }, { on := 7, ground := Ground.textOnly Departure.lateStores }, { on := 8, ground := Ground.phase }], guard := none } rfl (by kernel_rfl) (by rfl) (fun K hK => ?_)
        refine st_hub (.tmp 17) (.tmp 87) rfl nb rfl c p4 HPH.out.l4 rfl 0 zs zs_len hnew.1 ?_
        intro y hRy hoy hBy
        have hRy := (hoy _ (by have := hnew.2; omega)).trans hHeld.1
        have hby := hHeld.2.trans (hBy _ (by have := hnew.2; omega))
        refine hK.out _ _ (Kt.G.late (by kernel_rfl)) (fun _ => ?_)
        clear hK K
        try simp only [Act.put, List.setIfInBounds_toArray, List.set_cons_zero, List.set_cons_succ]
        refine Kt.G.takeP 10 { dst := some 18, op := Op.assign (Operand.tmp 88), type := 9, pos := "hub.go:72", after := #[{ on := 6, ground := Ground.data }, { on := 9, ground := Ground.chain }, { on := 0, ground := Ground.phase }, { on := 1, ground := Ground.phase }, { on := 2, ground := Ground.phase }, { on := 3, ground := Ground.phase }, { on := 4, ground := Ground.phase }, { on := 5, ground := Ground.phase }, { on := 6, ground := Ground.phase }, { on := 7, ground := Ground.textOnly Departure.lateStores }, { on := 8, ground := Ground.phase }, { on := 9, ground := Ground.phase }], guard := none } ?_ (Kt.G.late (by kernel_rfl)) rfl (by kernel_rfl) (fun _ _ _ h => h) (by rfl) ?_ ?_
        rotate_left
        · intro w; go_simp; try with_reducible rfl
        try simp only [Act.put, List.setIfInBounds_toArray, List.set_cons_zero, List.set_cons_succ]
        refine Kt.G.takeP 11 { dst := some 19, op := Op.assign (Operand.tmp 89), type := 27, pos := "hub.go:72", after := #[{ on := 7, ground := Ground.data }, { on := 10, ground := Ground.chain }, { on := 0, ground := Ground.phase }, { on := 1, ground := Ground.phase }, { on := 2, ground := Ground.phase }, { on := 3, ground := Ground.phase }, { on := 4, ground := Ground.phase }, { on := 5, ground := Ground.phase }, { on := 6, ground := Ground.phase }, { on := 7, ground := Ground.phase }, { on := 8, ground := Ground.phase }, { on := 9, ground := Ground.phase }, { on := 10, ground := Ground.phase }], guard := none } ?_ (Kt.G.late (by kernel_rfl)) rfl (by kernel_rfl) (fun _ _ _ h => h) (by rfl) ?_ ?_
        rotate_left
        · intro w; go_simp; try with_reducible rfl
        try simp only [Act.put, List.setIfInBounds_toArray, List.set_cons_zero, List.set_cons_succ]
        refine Kt.G.done (by kernel_rfl) (NoPanic.normal ?_) _
        go_wp2_with fail
        go_meet
        exact ⟨rfl, rfl, hRy, hby⟩
      · obtain ⟨nb, hnbe, hnew⟩ := new_any hHeld
        go_simp
        refine hK.out _ _ (fun _ => hHeld.alloc _) (fun hHeld => ?_)
        have hHeld := hHeld rfl
        clear hK K
        try simp only [Act.put, List.setIfInBounds_toArray, List.set_cons_zero, List.set_cons_succ]
        try simp only [hnbe]
        refine Kt.G.one 3 { dst := some 86, op := Op.call { callee := Callee.value (Operand.func 10), args := #[Operand.tmp 83, Operand.tmp 85], argTypes := #[26, 9] }, type := 31, pos := "hub.go:72", after := #[{ on := 0, ground := Ground.data }, { on := 2, ground := Ground.data }, { on := 2, ground := Ground.chain }], guard := none } rfl (by kernel_rfl) (by rfl) (fun K hK => ?_)
        go_simp
        refine (HPH.out.f7 _).mono ?_
        rintro en x ⟨rfl, hb⟩
        try replace hnew := hnew.on hb
        refine hK.out _ _ (fun _ => hHeld.on hb) (fun hHeld => ?_)
        have hHeld := hHeld rfl
        clear hK K
        try simp only [Act.put, List.setIfInBounds_toArray, List.set_cons_zero, List.set_cons_succ]
        clear hb
        refine Kt.G.takeP 4 { dst := some 82, op := Op.move (Operand.tmp 86), type := 31, pos := "hub.go:72", after := #[{ on := 3, ground := Ground.data }], guard := none } ?_ (fun _ => hHeld) rfl (by kernel_rfl) (fun _ _ _ h => h) (by rfl) ?_ ?_
        rotate_left
        · intro w; go_simp; try with_reducible rfl
        try simp only [Act.put, List.setIfInBounds_toArray, List.set_cons_zero, List.set_cons_succ]
        refine Kt.G.takeP 5 { dst := some 87, op := Op.extract (Operand.tmp 82) 0, type := 26, pos := "hub.go:72", after := #[{ on := 4, ground := Ground.data }], guard := none } ?_ (fun _ => hHeld) rfl (by kernel_rfl) (fun _ _ _ h => h) (by rfl) ?_ ?_
        rotate_left
        · intro w; go_simp; try with_reducible rfl
        try simp only [Act.put, List.setIfInBounds_toArray, List.set_cons_zero, List.set_cons_succ]
        refine Kt.G.takeP 6 { dst := some 88, op := Op.extract (Operand.tmp 82) 1, type := 9, pos := "hub.go:72", after := #[{ on := 4, ground := Ground.data }, { on := 9, ground := Ground.gcOnly Departure.lateStores }], guard := none } ?_ (fun _ => hHeld) rfl (by kernel_rfl) (fun _ _ _ h => h) (by rfl) ?_ ?_
        rotate_left
        · intro w; go_simp; try with_reducible rfl
        try simp only [Act.put, List.setIfInBounds_toArray, List.set_cons_zero, List.set_cons_succ]
        refine Kt.G.takeP 7 { dst := some 89, op := Op.extract (Operand.tmp 82) 2, type := 27, pos := "hub.go:72", after := #[{ on := 4, ground := Ground.data }, { on := 10, ground := Ground.gcOnly Departure.lateStores }], guard := none } ?_ (fun _ => hHeld) rfl (by kernel_rfl) (fun _ _ _ h => h) (by rfl) ?_ ?_
        rotate_left
        · intro w; go_simp; try with_reducible rfl
        try simp only [Act.put, List.setIfInBounds_toArray, List.set_cons_zero, List.set_cons_succ]
        refine Kt.G.one 9 { dst := none, op := Op.store 26 (Operand.tmp 17) (Operand.tmp 87), type := 0, pos := "hub.go:72", after := #[{ on := 8, ground := Ground.data }, { on := 5, ground := Ground.data }, { on := 3, ground := Ground.chain }, { on := 0, ground := Ground.phase }, { on := 1, ground := Ground.phase }, { on := 2, ground := Ground.phase }, { on := 3, ground := Ground.phase }, { on := 4, ground := Ground.phase }, { on := 5, ground := Ground.phase }, { on := 6, ground := Ground.textOnly Departure.lateStores }, { on := 7, ground := Ground.textOnly Departure.lateStores }, { on := 8, ground := Ground.phase }], guard := none } rfl (by kernel_rfl) (by rfl) (fun K hK => ?_)
        refine st_hub (.tmp 17) (.tmp 87) rfl nb rfl c p4 HPH.out.l4 rfl 0 zs zs_len hnew.1 ?_
        intro y hRy hoy hBy
        have hRy := (hoy _ (by have := hnew.2; omega)).trans hHeld.1
        have hby := hHeld.2.trans (hBy _ (by have := hnew.2; omega))
        refine hK.out _ _ (Kt.G.late (by kernel_rfl)) (fun _ => ?_)
        clear hK K
        try simp only [Act.put, List.setIfInBounds_toArray, List.set_cons_zero, List.set_cons_succ]
        refine Kt.G.takeP 10 { dst := some 18, op := Op.assign (Operand.tmp 88), type := 9, pos := "hub.go:72", after := #[{ on := 6, ground := Ground.data }, { on := 9, ground := Ground.chain }, { on := 0, ground := Ground.phase }, { on := 1, ground := Ground.phase }, { on := 2, ground := Ground.phase }, { on := 3, ground := Ground.phase }, { on := 4, ground := Ground.phase }, { on := 5, ground := Ground.phase }, { on := 6, ground := Ground.phase }, { on := 7, ground := Ground.textOnly Departure.lateStores }, { on := 8, ground := Ground.phase }, { on := 9, ground := Ground.phase }], guard := none } ?_ (Kt.G.late (by kernel_rfl)) rfl (by kernel_rfl) (fun _ _ _ h => h) (by rfl) ?_ ?_
        rotate_left
        · intro w; go_simp; try with_reducible rfl
        try simp only [Act.put, List.setIfInBounds_toArray, List.set_cons_zero, List.set_cons_succ]
        refine Kt.G.takeP 11 { dst := some 19, op := Op.assign (Operand.tmp 89), type := 27, pos := "hub.go:72", after := #[{ on := 7, ground := Ground.data }, { on := 10, ground := Ground.chain }, { on := 0, ground := Ground.phase }, { on := 1, ground := Ground.phase }, { on := 2, ground := Ground.phase }, { on := 3, ground := Ground.phase }, { on := 4, ground := Ground.phase }, { on := 5, ground := Ground.phase }, { on := 6, ground := Ground.phase }, { on := 7, ground := Ground.phase }, { on := 8, ground := Ground.phase }, { on := 9, ground := Ground.phase }, { on := 10, ground := Ground.phase }], guard := none } ?_ (Kt.G.late (by kernel_rfl)) rfl (by kernel_rfl) (fun _ _ _ h => h) (by rfl) ?_ ?_
        rotate_left
        · intro w; go_simp; try with_reducible rfl
        try simp only [Act.put, List.setIfInBounds_toArray, List.set_cons_zero, List.set_cons_succ]
        refine Kt.G.done (by kernel_rfl) (NoPanic.normal ?_) _
        go_wp2_with fail
        go_meet
        exact ⟨rfl, rfl, hRy, hby⟩
    · obtain ⟨nb, hnbe, hnew⟩ := new_any hHeld
      go_simp
      refine hK.out _ _ (fun _ => hHeld.alloc _) (fun hHeld => ?_)
      have hHeld := hHeld rfl
      clear hK K
      try simp only [Act.put, List.setIfInBounds_toArray, List.set_cons_zero, List.set_cons_succ]
      try simp only [hnbe]
      refine Kt.G.one 2 { dst := some 85, op := Op.call { callee := Callee.value (Operand.func 11), args := #[Operand.const (Value.int IntKind.i64 8), Operand.const (Value.int IntKind.i64 0), Operand.tmp 84, Operand.const (Value.int IntKind.i64 4)], argTypes := #[3, 3, 3, 3] }, type := 9, pos := "hub.go:72", after := #[{ on := 1, ground := Ground.data }], guard := none } rfl (by kernel_rfl) (by rfl) (fun K hK => ?_)
      go_simp
      refine (HPH.out.k3 _).mono ?_
      rintro en x ⟨rfl, hb⟩
      try replace hnew := hnew.on hb
      refine hK.out _ _ (fun _ => hHeld.on hb) (fun hHeld => ?_)
      have hHeld := hHeld rfl
      clear hK K
      try simp only [Act.put, List.setIfInBounds_toArray, List.set_cons_zero, List.set_cons_succ]
      clear hb
      refine Kt.G.one 3 { dst := some 86, op := Op.call { callee := Callee.value (Operand.func 10), args := #[Operand.tmp 83, Operand.tmp 85], argTypes := #[26, 9] }, type := 31, pos := "hub.go:72", after := #[{ on := 0, ground := Ground.data }, { on := 2, ground := Ground.data }, { on := 2, ground := Ground.chain }], guard := none } rfl (by kernel_rfl) (by rfl) (fun K hK => ?_)
      go_simp
      refine (HPH.out.f7 _).mono ?_
      rintro en x ⟨rfl, hb⟩
      try replace hnew := hnew.on hb
      refine hK.out _ _ (fun _ => hHeld.on hb) (fun hHeld => ?_)
      have hHeld := hHeld rfl
      clear hK K
      try simp only [Act.put, List.setIfInBounds_toArray, List.set_cons_zero, List.set_cons_succ]
      clear hb
      refine Kt.G.takeP 4 { dst := some 82, op := Op.move (Operand.tmp 86), type := 31, pos := "hub.go:72", after := #[{ on := 3, ground := Ground.data }], guard := none } ?_ (fun _ => hHeld) rfl (by kernel_rfl) (fun _ _ _ h => h) (by rfl) ?_ ?_
      rotate_left
      · intro w; go_simp; try with_reducible rfl
      try simp only [Act.put, List.setIfInBounds_toArray, List.set_cons_zero, List.set_cons_succ]
      refine Kt.G.takeP 5 { dst := some 87, op := Op.extract (Operand.tmp 82) 0, type := 26, pos := "hub.go:72", after := #[{ on := 4, ground := Ground.data }], guard := none } ?_ (fun _ => hHeld) rfl (by kernel_rfl) (fun _ _ _ h => h) (by rfl) ?_ ?_
      rotate_left
      · intro w; go_simp; try with_reducible rfl
      try simp only [Act.put, List.setIfInBounds_toArray, List.set_cons_zero, List.set_cons_succ]
      refine Kt.G.takeP 6 { dst := some 88, op := Op.extract (Operand.tmp 82) 1, type := 9, pos := "hub.go:72", after := #[{ on := 4, ground := Ground.data }, { on := 9, ground := Ground.gcOnly Departure.lateStores }], guard := none } ?_ (fun _ => hHeld) rfl (by kernel_rfl) (fun _ _ _ h => h) (by rfl) ?_ ?_
      rotate_left
      · intro w; go_simp; try with_reducible rfl
      try simp only [Act.put, List.setIfInBounds_toArray, List.set_cons_zero, List.set_cons_succ]
      refine Kt.G.takeP 7 { dst := some 89, op := Op.extract (Operand.tmp 82) 2, type := 27, pos := "hub.go:72", after := #[{ on := 4, ground := Ground.data }, { on := 10, ground := Ground.gcOnly Departure.lateStores }], guard := none } ?_ (fun _ => hHeld) rfl (by kernel_rfl) (fun _ _ _ h => h) (by rfl) ?_ ?_
      rotate_left
      · intro w; go_simp; try with_reducible rfl
      try simp only [Act.put, List.setIfInBounds_toArray, List.set_cons_zero, List.set_cons_succ]
      refine Kt.G.one 9 { dst := none, op := Op.store 26 (Operand.tmp 17) (Operand.tmp 87), type := 0, pos := "hub.go:72", after := #[{ on := 8, ground := Ground.data }, { on := 5, ground := Ground.data }, { on := 3, ground := Ground.chain }, { on := 0, ground := Ground.phase }, { on := 1, ground := Ground.phase }, { on := 2, ground := Ground.phase }, { on := 3, ground := Ground.phase }, { on := 4, ground := Ground.phase }, { on := 5, ground := Ground.phase }, { on := 6, ground := Ground.textOnly Departure.lateStores }, { on := 7, ground := Ground.textOnly Departure.lateStores }, { on := 8, ground := Ground.phase }], guard := none } rfl (by kernel_rfl) (by rfl) (fun K hK => ?_)
      refine st_hub (.tmp 17) (.tmp 87) rfl nb rfl c p4 HPH.out.l4 rfl 0 zs zs_len hnew.1 ?_
      intro y hRy hoy hBy
      have hRy := (hoy _ (by have := hnew.2; omega)).trans hHeld.1
      have hby := hHeld.2.trans (hBy _ (by have := hnew.2; omega))
      refine hK.out _ _ (Kt.G.late (by kernel_rfl)) (fun _ => ?_)
      clear hK K
      try simp only [Act.put, List.setIfInBounds_toArray, List.set_cons_zero, List.set_cons_succ]
      refine Kt.G.takeP 10 { dst := some 18, op := Op.assign (Operand.tmp 88), type := 9, pos := "hub.go:72", after := #[{ on := 6, ground := Ground.data }, { on := 9, ground := Ground.chain }, { on := 0, ground := Ground.phase }, { on := 1, ground := Ground.phase }, { on := 2, ground := Ground.phase }, { on := 3, ground := Ground.phase }, { on := 4, ground := Ground.phase }, { on := 5, ground := Ground.phase }, { on := 6, ground := Ground.phase }, { on := 7, ground := Ground.textOnly Departure.lateStores }, { on := 8, ground := Ground.phase }, { on := 9, ground := Ground.phase }], guard := none } ?_ (Kt.G.late (by kernel_rfl)) rfl (by kernel_rfl) (fun _ _ _ h => h) (by rfl) ?_ ?_
      rotate_left
      · intro w; go_simp; try with_reducible rfl
      try simp only [Act.put, List.setIfInBounds_toArray, List.set_cons_zero, List.set_cons_succ]
      refine Kt.G.takeP 11 { dst := some 19, op := Op.assign (Operand.tmp 89), type := 27, pos := "hub.go:72", after := #[{ on := 7, ground := Ground.data }, { on := 10, ground := Ground.chain }, { on := 0, ground := Ground.phase }, { on := 1, ground := Ground.phase }, { on := 2, ground := Ground.phase }, { on := 3, ground := Ground.phase }, { on := 4, ground := Ground.phase }, { on := 5, ground := Ground.phase }, { on := 6, ground := Ground.phase }, { on := 7, ground := Ground.phase }, { on := 8, ground := Ground.phase }, { on := 9, ground := Ground.phase }, { on := 10, ground := Ground.phase }], guard := none } ?_ (Kt.G.late (by kernel_rfl)) rfl (by kernel_rfl) (fun _ _ _ h => h) (by rfl) ?_ ?_
      rotate_left
      · intro w; go_simp; try with_reducible rfl
      try simp only [Act.put, List.setIfInBounds_toArray, List.set_cons_zero, List.set_cons_succ]
      refine Kt.G.done (by kernel_rfl) (NoPanic.normal ?_) _
      go_wp2_with fail
      go_meet
      exact ⟨rfl, rfl, hRy, hby⟩
  obtain ⟨rfl, rfl, b0, hbel⟩ := hcut
  go_wp2_with (refine load_hub rfl (.tmp 5) rfl w.heap.size rfl c p4 HPH.out.l4 b0 ?_)
  refine (HPH.out.f8 _).mono ?_
  rintro en x ⟨rfl, hb⟩
  replace b0 := b0.on hb
  replace hbel := Kt.bthen hbel hb
  clear hb
  go_wp2_with (refine store_hub rfl (.tmp 5) (.tmp 120) rfl w.heap.size rfl c p5 HPH.out.l5 rfl c p4 HPH.out.l4 b0 ?_; intro y hRy hoy hBy)
  replace b0 := hRy
  replace hbel := hbel.trans (hBy _ (Nat.le_refl _))
  clear hRy hoy hBy
  refine Kt.G.start 8 (HB w w.heap.size c p5) (by kernel_rfl) (HB.drew ⟨b0, hbel⟩) (fun hHeld => ?_)
  refine Kt.G.load_row 0 { dst := some 123, op := Op.load 26 (Operand.tmp 5), type := 26, pos := "hub.go:77", after := #[], guard := none } 26 (Operand.tmp 5) w.heap.size 26 (Kt.ia .i64 (c :: p5)) _ hHeld rfl (by kernel_rfl) (fun _ _ _ h => h) (by rfl) rfl rfl (fun _ h => h.1) Try.underlying26 rfl (hub_size c p5 HPH.out.l5) ?_
  try simp only [Act.put, List.setIfInBounds_toArray, List.set_cons_zero, List.set_cons_succ]
  refine Kt.G.takeP 1 { dst := some 124, op := Op.move (Operand.tmp 1), type := 3, pos := "hub.go:77", after := #[], guard := none } ?_ (fun _ => hHeld) rfl (by kernel_rfl) (fun _ _ _ h => h) (by rfl) ?_ ?_
  rotate_left
  · intro w; go_simp; try with_reducible rfl
  try simp only [Act.put, List.setIfInBounds_toArray, List.set_cons_zero, List.set_cons_succ]
  refine Kt.G.one 2 { dst := some 125, op := Op.call { callee := Callee.value (Operand.func 11), args := #[Operand.const (Value.int IntKind.i64 8), Operand.const (Value.int IntKind.i64 0), Operand.tmp 124, Operand.const (Value.int IntKind.i64 4)], argTypes := #[3, 3, 3, 3] }, type := 9, pos := "hub.go:77", after := #[{ on := 1, ground := Ground.data }], guard := none } rfl (by kernel_rfl) (by rfl) (fun K hK => ?_)
  go_simp
  refine (HPH.out.k3 _).mono ?_
  rintro en x ⟨rfl, hb⟩
  try replace hnew := hnew.on hb
  refine hK.out _ _ (fun _ => hHeld.on hb) (fun hHeld => ?_)
  have hHeld := hHeld rfl
  clear hK K
  try simp only [Act.put, List.setIfInBounds_toArray, List.set_cons_zero, List.set_cons_succ]
  clear hb
  refine Kt.G.one 3 { dst := some 126, op := Op.call { callee := Callee.value (Operand.func 10), args := #[Operand.tmp 123, Operand.tmp 125], argTypes := #[26, 9] }, type := 31, pos := "hub.go:77", after := #[{ on := 0, ground := Ground.data }, { on := 2, ground := Ground.data }, { on := 2, ground := Ground.chain }], guard := none } rfl (by kernel_rfl) (by rfl) (fun K hK => ?_)
  go_simp
  refine (HPH.out.f9 _).mono ?_
  rintro en x ⟨rfl, hb⟩
  try replace hnew := hnew.on hb
  refine hK.out _ _ (fun _ => hHeld.on hb) (fun hHeld => ?_)
  have hHeld := hHeld rfl
  clear hK K
  try simp only [Act.put, List.setIfInBounds_toArray, List.set_cons_zero, List.set_cons_succ]
  clear hb
  refine Kt.G.takeP 4 { dst := some 122, op := Op.move (Operand.tmp 126), type := 31, pos := "hub.go:77", after := #[{ on := 3, ground := Ground.data }], guard := none } ?_ (fun _ => hHeld) rfl (by kernel_rfl) (fun _ _ _ h => h) (by rfl) ?_ ?_
  rotate_left
  · intro w; go_simp; try with_reducible rfl
  try simp only [Act.put, List.setIfInBounds_toArray, List.set_cons_zero, List.set_cons_succ]
  refine Kt.G.takeP 5 { dst := some 127, op := Op.extract (Operand.tmp 122) 0, type := 26, pos := "hub.go:77", after := #[{ on := 4, ground := Ground.data }], guard := none } ?_ (fun _ => hHeld) rfl (by kernel_rfl) (fun _ _ _ h => h) (by rfl) ?_ ?_
  rotate_left
  · intro w; go_simp; try with_reducible rfl
  try simp only [Act.put, List.setIfInBounds_toArray, List.set_cons_zero, List.set_cons_succ]
  refine Kt.G.takeP 6 { dst := some 128, op := Op.extract (Operand.tmp 122) 1, type := 9, pos := "hub.go:77", after := #[{ on := 4, ground := Ground.data }], guard := none } ?_ (fun _ => hHeld) rfl (by kernel_rfl) (fun _ _ _ h => h) (by rfl) ?_ ?_
  rotate_left
  · intro w; go_simp; try with_reducible rfl
  try simp only [Act.put, List.setIfInBounds_toArray, List.set_cons_zero, List.set_cons_succ]
  refine Kt.G.takeP 7 { dst := some 129, op := Op.extract (Operand.tmp 122) 2, type := 27, pos := "hub.go:77", after := #[{ on := 4, ground := Ground.data }, { on := 8, ground := Ground.gcOnly Departure.lateStores }], guard := none } ?_ (fun _ => hHeld) rfl (by kernel_rfl) (fun _ _ _ h => h) (by rfl) ?_ ?_
  rotate_left
  · intro w; go_simp; try with_reducible rfl
  try simp only [Act.put, List.setIfInBounds_toArray, List.set_cons_zero, List.set_cons_succ]
  refine Kt.G.one 8 { dst := some 18, op := Op.assign (Operand.tmp 128), type := 9, pos := "hub.go:77", after := #[{ on := 6, ground := Ground.data }, { on := 3, ground := Ground.chain }, { on := 0, ground := Ground.phase }, { on := 1, ground := Ground.phase }, { on := 2, ground := Ground.phase }, { on := 3, ground := Ground.phase }, { on := 4, ground := Ground.phase }, { on := 5, ground := Ground.phase }, { on := 6, ground := Ground.phase }, { on := 7, ground := Ground.textOnly Departure.lateStores }], guard := none } rfl (by kernel_rfl) (by rfl) (fun K hK => ?_)
  go_simp
  refine hK.out _ _ (Kt.G.late (by kernel_rfl)) (fun _ => ?_)
  clear hK K
  try simp only [Act.put, List.setIfInBounds_toArray, List.set_cons_zero, List.set_cons_succ]
  refine Kt.G.takeP 9 { dst := some 19, op := Op.assign (Operand.tmp 129), type := 27, pos := "hub.go:77", after := #[{ on := 7, ground := Ground.data }, { on := 8, ground := Ground.chain }, { on := 0, ground := Ground.phase }, { on := 1, ground := Ground.phase }, { on := 2, ground := Ground.phase }, { on := 3, ground := Ground.phase }, { on := 4, ground := Ground.phase }, { on := 5, ground := Ground.phase }, { on := 6, ground := Ground.phase }, { on := 7, ground := Ground.phase }, { on := 8, ground := Ground.phase }], guard := none } ?_ (Kt.G.late (by kernel_rfl)) rfl (by kernel_rfl) (fun _ _ _ h => h) (by rfl) ?_ ?_
  rotate_left
  · intro w; go_simp; try with_reducible rfl
  try simp only [Act.put, List.setIfInBounds_toArray, List.set_cons_zero, List.set_cons_succ]
  refine Kt.G.done (by kernel_rfl) (NoPanic.normal ?_) _
  go_wp2_with fail
  go_ret
  exact ⟨rfl, hHeld.2⟩
theorem path_walk (v0 v1 : Value) (w : World) (r0 : Fr.RdV w reachBytes (.int .i64) v0) (r1 : Fr.RdV w reachBytes (.int .i64) v1) :
    Calls Try.prog 6 #[v0, v1] w fun e w' => e = .returned (.bool true) ∧ Below w.heap.size w w' := by
  obtain ⟨c, e, _⟩ := r0; cases e
  obtain ⟨p, e, _⟩ := r1; cases e
  by_cases h : RightH c zs ∧ 1 ≤ p ∧ p ≤ c
  · obtain ⟨h0, h1, h2⟩ := h
    obtain ⟨i, rfl⟩ : ∃ i : Nat, p = i := ⟨p.toNat, by omega⟩
    exact path_good c i w h0 h1 h2
  · exact path_bad c p w h
end Go.Proofs.Ytijolofnmccolaa
