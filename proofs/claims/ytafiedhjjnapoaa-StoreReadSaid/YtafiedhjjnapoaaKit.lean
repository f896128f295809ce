/- Small laws for walks, over any program: conversions, endings, numbers. -/
import Derived.WalkKit
import Derived.WalkSpells
import Derived.WalkLawsBesides
import Derived.Laws.BitsAllLaws
import Derived.Lib.Hide
import Derived.Below
import Derived.Deep.AppendLies
namespace Go.Proofs.Ytafiedhjjnapoaa.Kt
open Go.RowKit

theorem ret_true {b : Bool} (h : b = true) : Ending.returned (.bool b) = Ending.returned (.bool true) := by rw [h]
theorem ret_int {k : IntKind} {a b : Int} (h : a = b) : Ending.returned (.int k a) = Ending.returned (.int k b) := by rw [h]
theorem eqb {a b : Nat} (h : a = b) : ((a : Int) == (b : Int)) = true := by rw [h]; simp
theorem str_app (a b : ByteArray) : (a ++ b).data.toList = a.data.toList ++ b.data.toList := by simp
theorem u8n (n : Nat) (h : n < 256) : (UInt8.ofNat n).toNat = n := by simp; omega
theorem take_snoc (s : ByteArray) (k : Nat) (h : k < s.size) : s.data.toList.take (k + 1) = s.data.toList.take k ++ [s[k]] := by
  rw [List.take_succ_eq_append_getElem (by simpa using h)]; rfl

theorem i64_and_nat (a b : Nat) (ha : a < 9223372036854775808) (hb : b < 9223372036854775808) : bits .and .i64 (a : Int) (b : Int) = ((a &&& b : Nat) : Int) := by
  have hx : a &&& b < 2 ^ 63 := Nat.and_lt_two_pow _ (by omega)
  show IntKind.i64.wrap ((BitVec.ofInt 64 (a : Int) &&& BitVec.ofInt 64 (b : Int)).toNat : Int) = _
  rw [BitVec.toNat_and, ofInt_u64 a (by omega), ofInt_u64 b (by omega), IntKind.wrap_i64]
  omega
theorem i64_or_nat (a b : Nat) (ha : a < 9223372036854775808) (hb : b < 9223372036854775808) : bits .or .i64 (a : Int) (b : Int) = ((a ||| b : Nat) : Int) := by
  have hx : a ||| b < 2 ^ 63 := Nat.or_lt_two_pow (by omega) (by omega)
  show IntKind.i64.wrap ((BitVec.ofInt 64 (a : Int) ||| BitVec.ofInt 64 (b : Int)).toNat : Int) = _
  rw [BitVec.toNat_or, ofInt_u64 a (by omega), ofInt_u64 b (by omega), IntKind.wrap_i64]
  omega
theorem i64_xor_nat (a b : Nat) (ha : a < 9223372036854775808) (hb : b < 9223372036854775808) : bits .xor .i64 (a : Int) (b : Int) = ((a ^^^ b : Nat) : Int) := by
  have hx : a ^^^ b < 2 ^ 63 := Nat.xor_lt_two_pow (by omega) (by omega)
  show IntKind.i64.wrap ((BitVec.ofInt 64 (a : Int) ^^^ BitVec.ofInt 64 (b : Int)).toNat : Int) = _
  rw [BitVec.toNat_xor, ofInt_u64 a (by omega), ofInt_u64 b (by omega), IntKind.wrap_i64]
  omega
theorem bthen {w a b : World} (h : Below w.heap.size w a) (k : Below a.heap.size a b) : Below w.heap.size w b := h.trans (k.mono h.size)
theorem balloc {w a : World} (h : Below w.heap.size w a) (o : Obj) : Below w.heap.size w (a.alloc o) := h.alloc h.size o
theorem bset {w a : World} (h : Below w.heap.size w a) {p : Addr} (hp : w.heap.size ≤ p.block) (v : Value) : Below w.heap.size w (a.setCell p v) := h.setCell hp v
theorem ret2s {a b : ByteArray} {n m : Int} (h : a = b) (h2 : n = m) : Ending.returned (.tuple #[.string a, .int .i64 n]) = Ending.returned (.tuple #[.string b, .int .i64 m]) := by rw [h, h2]
theorem bytes_eq {a b : ByteArray} (h : a.data.toList = b.data.toList) : a = b := by
  cases a; cases b; simp at h; simp [h]
theorem bcell {W w1 : World} (hb : Below W.heap.size W w1) : (∀ b o, b < W.heap.size → w1.cell? ⟨b, o, none⟩ = W.cell? ⟨b, o, none⟩) ∧ (∀ b o, b < W.heap.size → w1.frozen? ⟨b, o, none⟩ = W.frozen? ⟨b, o, none⟩) :=
  ⟨fun b o h => hb.cell (p := ⟨b, o, none⟩) h, fun b o h => hb.frozen (p := ⟨b, o, none⟩) h⟩
section
variable {P : Program}
/-- 'string(b)' where the cells of b are known -/
theorem conv_back (w : World) (src dst e : TypeId) (b o len cap : Nat) (l : List UInt8) (hl : len = l.length) (hs : P.underlying src = some (.slice e)) (he : P.underlying e = some (.int .u8)) (hd : P.underlying dst = some .string)
    (hc : ∀ j (hj : j < l.length), w.cell? ⟨b, o + j, none⟩ = some (.int .u8 (l[j].toNat : Int))) :
    (convert src dst (.slice (some ⟨b, o, none⟩) len cap)).run P w = .ok (.string ⟨l.toArray⟩) w := by
  subst hl
  refine run_convert_bytes_back w src dst e ⟨b, o, none⟩ cap l hs he hd (fun j hj => ?_)
  rw [← hc j hj]; unfold Addr.add; split
  · rename_i h; subst h; rfl
  · rfl
theorem push_ints : ∀ (ns : List Int) (r : ByteArray), ns.foldl (fun r n => r.push (UInt8.ofNat n.toNat)) r = ⟨r.data ++ (ns.map fun n => UInt8.ofNat n.toNat).toArray⟩
  | [], r => by simp
  | n :: ns, r => by
    simp only [List.foldl_cons, List.map_cons]
    rw [push_ints ns]
    simp [ByteArray.push]
theorem conv_ns (w : World) (src dst e : TypeId) (b o len cap : Nat) (ns : List Int) (hl : len = ns.length) (hs : P.underlying src = some (.slice e)) (he : P.underlying e = some (.int .u8)) (hd : P.underlying dst = some .string)
    (hc : ∀ j (hj : j < ns.length), w.cell? ⟨b, o + j, none⟩ = some (.int .u8 ns[j])) :
    (convert src dst (.slice (some ⟨b, o, none⟩) len cap)).run P w = .ok (.string ⟨(ns.map fun n => UInt8.ofNat n.toNat).toArray⟩) w := by
  subst hl
  rw [run_convert_bytes_string w src dst e (some ⟨b, o, none⟩) ns.length cap hs he hd]
  have hl := run_loadCells_list (P := P) w ⟨b, o, none⟩ (ns.map (Value.int .u8)) (fun j v hj => by
    have hj' : j < ns.length := by
      have := (List.getElem?_eq_some_iff.1 hj).1
      simpa using this
    have e1 : (⟨b, o, none⟩ : Addr).add j = ⟨b, o + j, none⟩ := by
      unfold Addr.add; split
      · rename_i h; subst h; rfl
      · rfl
    rw [e1, hc j hj']
    simp [List.getElem?_eq_getElem hj'] at hj
    rw [← hj])
  simp only [List.length_map] at hl
  rw [run_bytesToString w ⟨b, o, none⟩ ns.length cap _ hl, push_ints]
  have he0 : ByteArray.empty.data = #[] := rfl
  rw [he0]
  simp
/-- 'string([]byte{x})', 'string([]byte{x, y})' -/
theorem cv1 (src dst e : TypeId) (hs : P.underlying src = some (.slice e)) (he : P.underlying e = some (.int .u8)) (hd : P.underlying dst = some .string) (w : World) (x : Int) :
    (convert src dst (.slice (some ⟨w.heap.size, 0, none⟩) 1 1)).run P (w.alloc (.cells #[.int .u8 x] e)) = .ok (.string ⟨#[UInt8.ofNat x.toNat]⟩) (w.alloc (.cells #[.int .u8 x] e)) :=
  conv_ns _ src dst e w.heap.size 0 1 1 [x] rfl hs he hd (fun j hj => by
    match j, hj with
    | 0, _ => simp)
theorem cv2 (src dst e : TypeId) (hs : P.underlying src = some (.slice e)) (he : P.underlying e = some (.int .u8)) (hd : P.underlying dst = some .string) (w : World) (x y : Int) :
    (convert src dst (.slice (some ⟨w.heap.size, 0, none⟩) 2 2)).run P (w.alloc (.cells #[.int .u8 x, .int .u8 y] e)) = .ok (.string ⟨#[UInt8.ofNat x.toNat, UInt8.ofNat y.toNat]⟩) (w.alloc (.cells #[.int .u8 x, .int .u8 y] e)) :=
  conv_ns _ src dst e w.heap.size 0 2 2 [x, y] rfl hs he hd (fun j hj => by
    match j, hj with
    | 0, _ => simp
    | 1, _ => simp)
/-- 'append(v, x)', v nil or the call's own: the element lies in a new block of its own -/
theorem append_one (w1 : World) {ops : Array Oper} {rest : List Oper} {o : Oper} {a : Act} {Q : Exit → Act → World → Prop} (hgd : o.guard = none) (s x : Operand) (t : TypeId)
    (ho : o.op = .call { callee := .builtin .append, args := #[s, x], argTypes := #[t, t] })
    (base : Nat) (e : TypeId) (z : Value) (size bytes : Nat) (hinfo : (P.info? e).map (fun i => (i.zero, i.size, i.bytes)) = some (some z, size, bytes)) (ht : P.underlying t = some (.slice e)) (hzs : z.cells.size = size) (hsz : 0 < size)
    (v : Value) (n : Nat) (xs : List Value) (cs : Array Value) (b m c : Nat) (hs : a.eval s = v) (hx : a.eval x = .slice (some ⟨b, 0, none⟩) m c) (hb : b = w1.heap.size) (hm : m = 1) (hcs : cs.size = size) (h1 : ∀ u ∈ cs.toList, u.oneCell' = true)
    (hown : w1.ownsRow base e size v n xs) (h63 : n + 1 ≤ maxLen) (hbytes : (n + 1) * bytes ≤ 140737488355328) (hbase : base ≤ w1.heap.size)
    (h : ∀ v' w', w'.ownsRow base e size v' (n + 1) (xs ++ cs.toList) → Below base w1 w' → wpList P ops Q rest (a.put o.dst v') w') : wpList P ops Q (o :: rest) a (w1.alloc (.cells cs e)) := by
  obtain ⟨i, hi, hz, hz1, hz2⟩ := info_parts hinfo
  subst hb hm
  refine wpList_append_own _ hgd s x t ho base e i z size bytes ht hi hz hz1 hz2 hzs hsz v n xs hs (hown.alloc _) ⟨w1.heap.size, 0, none⟩ 1 c cs.toList hx (by simp [hcs]) (fun j u hj => ?_) h1 h63 hbytes (by rw [World.size_alloc]; omega) ?_
  · unfold Addr.add
    split
    · rename_i h0; subst h0; simpa using hj
    · simpa using hj
  · intro v' w' ho' hg _
    refine h v' w' ho' ?_
    refine ((Below.refl base w1).alloc hbase _).grown hg (by rw [World.size_alloc]; omega) (fun k hk => ?_)
    rcases hown.2 with ⟨rfl, _⟩ | ⟨g, cap, cur, rfl, hbg, _⟩
    · cases hk
    · simp [Value.ownBlock] at hk; omega
/-- the same inside a region that draws its order -/
theorem step_one (w1 : World) {ops : Array Oper} {o : Oper} {a : Act} {K : Act → World → Prop} {Q : Exit → Act → World → Prop} {E : Prop} (hgd : o.guard = none) (s x : Operand) (t : TypeId)
    (ho : o.op = .call { callee := .builtin .append, args := #[s, x], argTypes := #[t, t] })
    (base : Nat) (e : TypeId) (z : Value) (size bytes : Nat) (hinfo : (P.info? e).map (fun i => (i.zero, i.size, i.bytes)) = some (some z, size, bytes)) (ht : P.underlying t = some (.slice e)) (hzs : z.cells.size = size) (hsz : 0 < size)
    (v : Value) (n : Nat) (xs : List Value) (cs : Array Value) (b m c : Nat) (hs : a.eval s = v) (hx : a.eval x = .slice (some ⟨b, 0, none⟩) m c) (hb : b = w1.heap.size) (hm : m = 1) (hcs : cs.size = size) (h1 : ∀ u ∈ cs.toList, u.oneCell' = true)
    (hown : w1.ownsRow base e size v n xs) (h63 : n + 1 ≤ maxLen) (hbytes : (n + 1) * bytes ≤ 140737488355328) (hbase : base ≤ w1.heap.size)
    (h : ∀ v' w', w'.ownsRow base e size v' (n + 1) (xs ++ cs.toList) → Below base w1 w' → K (a.put o.dst v') w') :
    if Region.wanted o (yielded ops a.tmps) = true then Oper.wp P o a (w1.alloc (.cells cs e)).drew K Q else E := by
  obtain ⟨i, hi, hz, hz1, hz2⟩ := info_parts hinfo
  subst hb hm
  refine Go.step_append_lies _ hgd s x t ho base e i z size bytes ht hi hz hz1 hz2 hzs hsz v n xs hs ((hown.alloc _).drew) ⟨w1.heap.size, 0, none⟩ 1 c cs.toList hx (by simp [hcs]) (fun j u hj => ?_) h1 (by omega) h63 hbytes (by show base ≤ (w1.alloc _).heap.size; rw [World.size_alloc]; omega) (w1.heap.size + 1) (by show (w1.alloc _).heap.size = _; rw [World.size_alloc]) ?_
  · show (w1.alloc _).cell? _ = _
    unfold Addr.add
    split
    · rename_i h0; subst h0; simpa using hj
    · simpa using hj
  · intro g cap w' ho' hg hat hlt
    refine h _ w' ho' ?_
    refine (((Below.refl base w1).alloc hbase _).drew).grown hg (by show base ≤ (w1.alloc _).heap.size; rw [World.size_alloc]; omega) (fun k hk => ?_)
    rcases hown.2 with ⟨rfl, _⟩ | ⟨g, cap, cur, rfl, hbg, _⟩
    · cases hk
    · simp [Value.ownBlock] at hk; omega
/-- what an owned row's slice reads as -/
theorem own_cells {w : World} {base e : Nat} {v : Value} {n : Nat} {xs : List Value} (h : w.ownsRow base e 1 v n xs) (hn : 0 < n) :
    ∃ g cap, v = .slice (some ⟨g, 0, none⟩) n cap ∧ base ≤ g ∧ n ≤ cap ∧ ∀ j (hj : j < xs.length), w.cell? ⟨g, 0 + j, none⟩ = some xs[j] := by
  obtain ⟨hl, h⟩ := h
  rcases h with ⟨_, rfl⟩ | ⟨g, cap, cur, rfl, hb, hh, hc, _, hsz, htk⟩
  · omega
  · refine ⟨g, cap, rfl, hb, hc, fun j hj => ?_⟩
    have hj2 : j < cur.size := by omega
    have : xs[j] = cur[j] := by
      have hj3 : j < (cur.toList.take (n * 1)).length := by rw [htk]; exact hj
      have : xs[j] = (cur.toList.take (n * 1))[j] := by congr 1; exact htk.symm
      rw [this, List.getElem_take]; simp
    rw [this]
    unfold World.cell?
    simp [hh, hj2]
/-- the bytes l lie from the head of block g on, and may be written -/
def Byt (w : World) (g : Nat) (l : List UInt8) : Prop :=
  (∀ j (hj : j < l.length), w.cell? ⟨g, j, none⟩ = some (.int .u8 (l[j].toNat : Int))) ∧ ∀ j, j < l.length → w.frozen? ⟨g, j, none⟩ = false
theorem Byt.drew {w : World} {g : Nat} {l : List UInt8} (h : Byt w g l) : Byt w.drew g l := h
theorem Byt.set {w : World} {g : Nat} {l : List UInt8} (h : Byt w g l) (p : Nat) (hp : p < l.length) (x : UInt8) : Byt (w.setCell ⟨g, p, none⟩ (.int .u8 (x.toNat : Int))) g (l.set p x) := by
  refine ⟨fun j hj => ?_, fun j hj => ?_⟩
  · by_cases hjp : p = j
    · subst hjp
      rw [World.cell?_setCell_same (u := .int .u8 (l[p].toNat : Int)) _ _ _ (h.1 p hp)]
      simp
    · rw [World.cell?_setCell_other _ _ _ _ (by intro e; exact hjp (by cases e; rfl)), h.1 j (by simpa using hj)]
      simp [hjp]
  · rw [World.frozen?_setCell]; exact h.2 j (by simpa using hj)
theorem Byt.of_string (w : World) (s : ByteArray) (cap : Nat) (e : TypeId) : Byt (w.alloc (.cells (bytesRow s cap) e ((bytesRow s cap).size, (bytesRow s cap).size + 1))) w.heap.size s.data.toList := by
  refine ⟨fun j hj => ?_, fun j hj => ?_⟩
  · rw [World.cell?_alloc_mark]
    have h1 : j < s.data.size := by simpa using hj
    have h2 : j < s.size := h1
    simp [bytesRow, Array.getElem?_append, h2]
  · have hj2 : j < s.data.size := by simpa using hj
    have : (w.alloc (.cells (bytesRow s cap) e ((bytesRow s cap).size, (bytesRow s cap).size + 1))).heap[w.heap.size]? = some (.cells (bytesRow s cap) e ((bytesRow s cap).size, (bytesRow s cap).size + 1)) := (MapKept.heap_alloc w _).1
    unfold World.frozen?
    rw [this]
    have hss : s.size = s.data.size := rfl
    have hsz : j < (bytesRow s cap).size := by simp [bytesRow]; omega
    simp; omega
theorem Byt.back {w : World} {g : Nat} {l : List UInt8} (h : Byt w g l) (src dst e : TypeId) (len cap : Nat) (hl : len = l.length) (hs : P.underlying src = some (.slice e)) (he : P.underlying e = some (.int .u8)) (hd : P.underlying dst = some .string) :
    (convert src dst (.slice (some ⟨g, 0, none⟩) len cap)).run P w = .ok (.string ⟨l.toArray⟩) w :=
  conv_back w src dst e g 0 len cap l hl hs he hd (fun j hj => by rw [Nat.zero_add]; exact h.1 j hj)
end
end Go.Proofs.Ytafiedhjjnapoaa.Kt
