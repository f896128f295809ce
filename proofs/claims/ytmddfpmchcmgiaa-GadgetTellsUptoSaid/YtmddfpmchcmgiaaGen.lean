/- Texts of general use, one behind the other. -/
import Derived.WalkKit
import Derived.WalkSpells
import Derived.WalkLawsBesides
import Derived.Laws.BitsAllLaws
import Derived.Lib.Hide
import Derived.Below
import Derived.Deep.AppendLies
import Derived.Test.YtmddfpmchcmgiaaRows
import Derived.ProofKit
import Derived.OpenShut
import Derived.ChangeOld
import Derived.Carry
import Derived.SizedLaws
import Derived.JoinedCond
import Derived.Deep.MidRow
import Derived.ArgAppend
import Derived.Deep.QuietTactic
import Derived.BigQuiet
import Derived.Outline
import Derived.Deep.RegionHeld3
import Derived.Deep.CutBlock
import Derived.Deep.CutRange
import Derived.Deep.WholeRow
import Derived.DeepKeys
import Derived.Laws.StructEq
/- Small laws for walks, over any program: conversions, endings, numbers. -/
namespace Go.Proofs.Ytmddfpmchcmgiaa.Kt
open Go.RowKit

theorem ret_true {b : Bool} (h : b = true) : Ending.returned (.bool b) = Ending.returned (.bool true) := by rw [h]
theorem ret_int {k : IntKind} {a b : Int} (h : a = b) : Ending.returned (.int k a) = Ending.returned (.int k b) := by rw [h]
theorem eqb {a b : Nat} (h : a = b) : ((a : Int) == (b : Int)) = true := by rw [h]; simp
theorem str_app (a b : ByteArray) : (a ++ b).data.toList = a.data.toList ++ b.data.toList := by simp
theorem u8n (n : Nat) (h : n < 256) : (UInt8.ofNat n).toNat = n := by simp; omega
theorem take_snoc (s : ByteArray) (k : Nat) (h : k < s.size) : s.data.toList.take (k + 1) = s.data.toList.take k ++ [s[k]] := by
  rw [List.take_succ_eq_append_getElem (by simpa using h)]; rfl

theorem i64_and_nat (a b : Nat) (ha : a < 9223372036854775808) (hb : b < 9223372036854775808) : bits .and .i64 (a : Int) (b : Int) = ((a &&& b : Nat) : Int) := by
  have hx : a &&& b < 2 ^ 63 := Nat.and_lt_two_pow _ (by omega)
  show IntKind.i64.wrap ((BitVec.ofInt 64 (a : Int) &&& BitVec.ofInt 64 (b : Int)).toNat : Int) = _
  rw [BitVec.toNat_and, ofInt_u64 a (by omega), ofInt_u64 b (by omega), IntKind.wrap_i64]
  omega
theorem i64_or_nat (a b : Nat) (ha : a < 9223372036854775808) (hb : b < 9223372036854775808) : bits .or .i64 (a : Int) (b : Int) = ((a ||| b : Nat) : Int) := by
  have hx : a ||| b < 2 ^ 63 := Nat.or_lt_two_pow (by omega) (by omega)
  show IntKind.i64.wrap ((BitVec.ofInt 64 (a : Int) ||| BitVec.ofInt 64 (b : Int)).toNat : Int) = _
  rw [BitVec.toNat_or, ofInt_u64 a (by omega), ofInt_u64 b (by omega), IntKind.wrap_i64]
  omega
theorem i64_xor_nat (a b : Nat) (ha : a < 9223372036854775808) (hb : b < 9223372036854775808) : bits .xor .i64 (a : Int) (b : Int) = ((a ^^^ b : Nat) : Int) := by
  have hx : a ^^^ b < 2 ^ 63 := Nat.xor_lt_two_pow (by omega) (by omega)
  show IntKind.i64.wrap ((BitVec.ofInt 64 (a : Int) ^^^ BitVec.ofInt 64 (b : Int)).toNat : Int) = _
  rw [BitVec.toNat_xor, ofInt_u64 a (by omega), ofInt_u64 b (by omega), IntKind.wrap_i64]
  omega
theorem bthen {w a b : World} (h : Below w.heap.size w a) (k : Below a.heap.size a b) : Below w.heap.size w b := h.trans (k.mono h.size)
theorem balloc {w a : World} (h : Below w.heap.size w a) (o : Obj) : Below w.heap.size w (a.alloc o) := h.alloc h.size o
theorem bset {w a : World} (h : Below w.heap.size w a) {p : Addr} (hp : w.heap.size ≤ p.block) (v : Value) : Below w.heap.size w (a.setCell p v) := h.setCell hp v
theorem ret2s {a b : ByteArray} {n m : Int} (h : a = b) (h2 : n = m) : Ending.returned (.tuple #[.string a, .int .i64 n]) = Ending.returned (.tuple #[.string b, .int .i64 m]) := by rw [h, h2]
theorem bytes_eq {a b : ByteArray} (h : a.data.toList = b.data.toList) : a = b := by
  cases a; cases b; simp at h; simp [h]
theorem bcell {W w1 : World} (hb : Below W.heap.size W w1) : (∀ b o, b < W.heap.size → w1.cell? ⟨b, o, none⟩ = W.cell? ⟨b, o, none⟩) ∧ (∀ b o, b < W.heap.size → w1.frozen? ⟨b, o, none⟩ = W.frozen? ⟨b, o, none⟩) :=
  ⟨fun b o h => hb.cell (p := ⟨b, o, none⟩) h, fun b o h => hb.frozen (p := ⟨b, o, none⟩) h⟩
section
variable {P : Program}
/-- 'string(b)' where the cells of b are known -/
theorem conv_back (w : World) (src dst e : TypeId) (b o len cap : Nat) (l : List UInt8) (hl : len = l.length) (hs : P.underlying src = some (.slice e)) (he : P.underlying e = some (.int .u8)) (hd : P.underlying dst = some .string)
    (hc : ∀ j (hj : j < l.length), w.cell? ⟨b, o + j, none⟩ = some (.int .u8 (l[j].toNat : Int))) :
    (convert src dst (.slice (some ⟨b, o, none⟩) len cap)).run P w = .ok (.string ⟨l.toArray⟩) w := by
  subst hl
  refine run_convert_bytes_back w src dst e ⟨b, o, none⟩ cap l hs he hd (fun j hj => ?_)
  rw [← hc j hj]; unfold Addr.add; split
  · rename_i h; subst h; rfl
  · rfl
theorem push_ints : ∀ (ns : List Int) (r : ByteArray), ns.foldl (fun r n => r.push (UInt8.ofNat n.toNat)) r = ⟨r.data ++ (ns.map fun n => UInt8.ofNat n.toNat).toArray⟩
  | [], r => by simp
  | n :: ns, r => by
    simp only [List.foldl_cons, List.map_cons]
    rw [push_ints ns]
    simp [ByteArray.push]
theorem conv_ns (w : World) (src dst e : TypeId) (b o len cap : Nat) (ns : List Int) (hl : len = ns.length) (hs : P.underlying src = some (.slice e)) (he : P.underlying e = some (.int .u8)) (hd : P.underlying dst = some .string)
    (hc : ∀ j (hj : j < ns.length), w.cell? ⟨b, o + j, none⟩ = some (.int .u8 ns[j])) :
    (convert src dst (.slice (some ⟨b, o, none⟩) len cap)).run P w = .ok (.string ⟨(ns.map fun n => UInt8.ofNat n.toNat).toArray⟩) w := by
  subst hl
  rw [run_convert_bytes_string w src dst e (some ⟨b, o, none⟩) ns.length cap hs he hd]
  have hl := run_loadCells_list (P := P) w ⟨b, o, none⟩ (ns.map (Value.int .u8)) (fun j v hj => by
    have hj' : j < ns.length := by
      have := (List.getElem?_eq_some_iff.1 hj).1
      simpa using this
    have e1 : (⟨b, o, none⟩ : Addr).add j = ⟨b, o + j, none⟩ := by
      unfold Addr.add; split
      · rename_i h; subst h; rfl
      · rfl
    rw [e1, hc j hj']
    simp [List.getElem?_eq_getElem hj'] at hj
    rw [← hj])
  simp only [List.length_map] at hl
  rw [run_bytesToString w ⟨b, o, none⟩ ns.length cap _ hl, push_ints]
  have he0 : ByteArray.empty.data = #[] := rfl
  rw [he0]
  simp
/-- 'string([]byte{x})', 'string([]byte{x, y})' -/
theorem cv1 (src dst e : TypeId) (hs : P.underlying src = some (.slice e)) (he : P.underlying e = some (.int .u8)) (hd : P.underlying dst = some .string) (w : World) (x : Int) :
    (convert src dst (.slice (some ⟨w.heap.size, 0, none⟩) 1 1)).run P (w.alloc (.cells #[.int .u8 x] e)) = .ok (.string ⟨#[UInt8.ofNat x.toNat]⟩) (w.alloc (.cells #[.int .u8 x] e)) :=
  conv_ns _ src dst e w.heap.size 0 1 1 [x] rfl hs he hd (fun j hj => by
    match j, hj with
    | 0, _ => simp)
theorem cv2 (src dst e : TypeId) (hs : P.underlying src = some (.slice e)) (he : P.underlying e = some (.int .u8)) (hd : P.underlying dst = some .string) (w : World) (x y : Int) :
    (convert src dst (.slice (some ⟨w.heap.size, 0, none⟩) 2 2)).run P (w.alloc (.cells #[.int .u8 x, .int .u8 y] e)) = .ok (.string ⟨#[UInt8.ofNat x.toNat, UInt8.ofNat y.toNat]⟩) (w.alloc (.cells #[.int .u8 x, .int .u8 y] e)) :=
  conv_ns _ src dst e w.heap.size 0 2 2 [x, y] rfl hs he hd (fun j hj => by
    match j, hj with
    | 0, _ => simp
    | 1, _ => simp)
/-- 'append(v, x)', v nil or the call's own: the element lies in a new block of its own -/
theorem append_one (w1 : World) {ops : Array Oper} {rest : List Oper} {o : Oper} {a : Act} {Q : Exit → Act → World → Prop} (hgd : o.guard = none) (s x : Operand) (t : TypeId)
    (ho : o.op = .call { callee := .builtin .append, args := #[s, x], argTypes := #[t, t] })
    (base : Nat) (e : TypeId) (z : Value) (size bytes : Nat) (hinfo : (P.info? e).map (fun i => (i.zero, i.size, i.bytes)) = some (some z, size, bytes)) (ht : P.underlying t = some (.slice e)) (hzs : z.cells.size = size) (hsz : 0 < size)
    (v : Value) (n : Nat) (xs : List Value) (cs : Array Value) (b m c : Nat) (hs : a.eval s = v) (hx : a.eval x = .slice (some ⟨b, 0, none⟩) m c) (hb : b = w1.heap.size) (hm : m = 1) (hcs : cs.size = size) (h1 : ∀ u ∈ cs.toList, u.oneCell' = true)
    (hown : w1.ownsRow base e size v n xs) (h63 : n + 1 ≤ maxLen) (hbytes : (n + 1) * bytes ≤ 140737488355328) (hbase : base ≤ w1.heap.size)
    (h : ∀ v' w', w'.ownsRow base e size v' (n + 1) (xs ++ cs.toList) → Below base w1 w' → wpList P ops Q rest (a.put o.dst v') w') : wpList P ops Q (o :: rest) a (w1.alloc (.cells cs e)) := by
  obtain ⟨i, hi, hz, hz1, hz2⟩ := info_parts hinfo
  subst hb hm
  refine wpList_append_own _ hgd s x t ho base e i z size bytes ht hi hz hz1 hz2 hzs hsz v n xs hs (hown.alloc _) ⟨w1.heap.size, 0, none⟩ 1 c cs.toList hx (by simp [hcs]) (fun j u hj => ?_) h1 h63 hbytes (by rw [World.size_alloc]; omega) ?_
  · unfold Addr.add
    split
    · rename_i h0; subst h0; simpa using hj
    · simpa using hj
  · intro v' w' ho' hg _
    refine h v' w' ho' ?_
    refine ((Below.refl base w1).alloc hbase _).grown hg (by rw [World.size_alloc]; omega) (fun k hk => ?_)
    rcases hown.2 with ⟨rfl, _⟩ | ⟨g, cap, cur, rfl, hbg, _⟩
    · cases hk
    · simp [Value.ownBlock] at hk; omega
/-- the same inside a region that draws its order -/
theorem step_one (w1 : World) {ops : Array Oper} {o : Oper} {a : Act} {K : Act → World → Prop} {Q : Exit → Act → World → Prop} {E : Prop} (hgd : o.guard = none) (s x : Operand) (t : TypeId)
    (ho : o.op = .call { callee := .builtin .append, args := #[s, x], argTypes := #[t, t] })
    (base : Nat) (e : TypeId) (z : Value) (size bytes : Nat) (hinfo : (P.info? e).map (fun i => (i.zero, i.size, i.bytes)) = some (some z, size, bytes)) (ht : P.underlying t = some (.slice e)) (hzs : z.cells.size = size) (hsz : 0 < size)
    (v : Value) (n : Nat) (xs : List Value) (cs : Array Value) (b m c : Nat) (hs : a.eval s = v) (hx : a.eval x = .slice (some ⟨b, 0, none⟩) m c) (hb : b = w1.heap.size) (hm : m = 1) (hcs : cs.size = size) (h1 : ∀ u ∈ cs.toList, u.oneCell' = true)
    (hown : w1.ownsRow base e size v n xs) (h63 : n + 1 ≤ maxLen) (hbytes : (n + 1) * bytes ≤ 140737488355328) (hbase : base ≤ w1.heap.size)
    (h : ∀ v' w', w'.ownsRow base e size v' (n + 1) (xs ++ cs.toList) → Below base w1 w' → K (a.put o.dst v') w') :
    if Region.wanted o (yielded ops a.tmps) = true then Oper.wp P o a (w1.alloc (.cells cs e)).drew K Q else E := by
  obtain ⟨i, hi, hz, hz1, hz2⟩ := info_parts hinfo
  subst hb hm
  refine Go.step_append_lies _ hgd s x t ho base e i z size bytes ht hi hz hz1 hz2 hzs hsz v n xs hs ((hown.alloc _).drew) ⟨w1.heap.size, 0, none⟩ 1 c cs.toList hx (by simp [hcs]) (fun j u hj => ?_) h1 (by omega) h63 hbytes (by show base ≤ (w1.alloc _).heap.size; rw [World.size_alloc]; omega) (w1.heap.size + 1) (by show (w1.alloc _).heap.size = _; rw [World.size_alloc]) ?_
  · show (w1.alloc _).cell? _ = _
    unfold Addr.add
    split
    · rename_i h0; subst h0; simpa using hj
    · simpa using hj
  · intro g cap w' ho' hg hat hlt
    refine h _ w' ho' ?_
    refine (((Below.refl base w1).alloc hbase _).drew).grown hg (by show base ≤ (w1.alloc _).heap.size; rw [World.size_alloc]; omega) (fun k hk => ?_)
    rcases hown.2 with ⟨rfl, _⟩ | ⟨g, cap, cur, rfl, hbg, _⟩
    · cases hk
    · simp [Value.ownBlock] at hk; omega
/-- what an owned row's slice reads as -/
theorem own_cells {w : World} {base e : Nat} {v : Value} {n : Nat} {xs : List Value} (h : w.ownsRow base e 1 v n xs) (hn : 0 < n) :
    ∃ g cap, v = .slice (some ⟨g, 0, none⟩) n cap ∧ base ≤ g ∧ n ≤ cap ∧ ∀ j (hj : j < xs.length), w.cell? ⟨g, 0 + j, none⟩ = some xs[j] := by
  obtain ⟨hl, h⟩ := h
  rcases h with ⟨_, rfl⟩ | ⟨g, cap, cur, rfl, hb, hh, hc, _, hsz, htk⟩
  · omega
  · refine ⟨g, cap, rfl, hb, hc, fun j hj => ?_⟩
    have hj2 : j < cur.size := by omega
    have : xs[j] = cur[j] := by
      have hj3 : j < (cur.toList.take (n * 1)).length := by rw [htk]; exact hj
      have : xs[j] = (cur.toList.take (n * 1))[j] := by congr 1; exact htk.symm
      rw [this, List.getElem_take]; simp
    rw [this]
    unfold World.cell?
    simp [hh, hj2]
/-- the bytes l lie from the head of block g on, and may be written -/
def Byt (w : World) (g : Nat) (l : List UInt8) : Prop :=
  (∀ j (hj : j < l.length), w.cell? ⟨g, j, none⟩ = some (.int .u8 (l[j].toNat : Int))) ∧ ∀ j, j < l.length → w.frozen? ⟨g, j, none⟩ = false
theorem Byt.drew {w : World} {g : Nat} {l : List UInt8} (h : Byt w g l) : Byt w.drew g l := h
theorem Byt.set {w : World} {g : Nat} {l : List UInt8} (h : Byt w g l) (p : Nat) (hp : p < l.length) (x : UInt8) : Byt (w.setCell ⟨g, p, none⟩ (.int .u8 (x.toNat : Int))) g (l.set p x) := by
  refine ⟨fun j hj => ?_, fun j hj => ?_⟩
  · by_cases hjp : p = j
    · subst hjp
      rw [World.cell?_setCell_same (u := .int .u8 (l[p].toNat : Int)) _ _ _ (h.1 p hp)]
      simp
    · rw [World.cell?_setCell_other _ _ _ _ (by intro e; exact hjp (by cases e; rfl)), h.1 j (by simpa using hj)]
      simp [hjp]
  · rw [World.frozen?_setCell]; exact h.2 j (by simpa using hj)
theorem Byt.of_string (w : World) (s : ByteArray) (cap : Nat) (e : TypeId) : Byt (w.alloc (.cells (bytesRow s cap) e ((bytesRow s cap).size, (bytesRow s cap).size + 1))) w.heap.size s.data.toList := by
  refine ⟨fun j hj => ?_, fun j hj => ?_⟩
  · rw [World.cell?_alloc_mark]
    have h1 : j < s.data.size := by simpa using hj
    have h2 : j < s.size := h1
    simp [bytesRow, Array.getElem?_append, h2]
  · have hj2 : j < s.data.size := by simpa using hj
    have : (w.alloc (.cells (bytesRow s cap) e ((bytesRow s cap).size, (bytesRow s cap).size + 1))).heap[w.heap.size]? = some (.cells (bytesRow s cap) e ((bytesRow s cap).size, (bytesRow s cap).size + 1)) := (MapKept.heap_alloc w _).1
    unfold World.frozen?
    rw [this]
    have hss : s.size = s.data.size := rfl
    have hsz : j < (bytesRow s cap).size := by simp [bytesRow]; omega
    simp; omega
theorem Byt.back {w : World} {g : Nat} {l : List UInt8} (h : Byt w g l) (src dst e : TypeId) (len cap : Nat) (hl : len = l.length) (hs : P.underlying src = some (.slice e)) (he : P.underlying e = some (.int .u8)) (hd : P.underlying dst = some .string) :
    (convert src dst (.slice (some ⟨g, 0, none⟩) len cap)).run P w = .ok (.string ⟨l.toArray⟩) w :=
  conv_back w src dst e g 0 len cap l hl hs he hd (fun j hj => by rw [Nat.zero_add]; exact h.1 j hj)
end
end Go.Proofs.Ytmddfpmchcmgiaa.Kt
/- What a law's arguments are, read off the form's own reading: a type's shape is told by a small description, and the cells by a plain predicate. -/
namespace Go.Proofs.Ytmddfpmchcmgiaa.Fr
open Go.ChangeShapes Go.WideShapes Go.ChangeAt Go.RowKit

inductive Ty where
  | int (k : IntKind)
  | bool
  | string
  | slice (sz : Nat) (e : Ty)
  | nil
  | cat (sz : Nat) (a b : Ty)
  | arr (n sz : Nat) (e : Ty)

/-- the cells 'cs' read as a value of the shape: each string has at most B letters, each slice at most B places -/
def Rd (w : World) (B : Nat) : Ty → List Value → Prop
  | .int k, cs => ∃ n, cs = [.int k n] ∧ (Lit.int k n).wf = true
  | .bool, cs => ∃ b, cs = [.bool b]
  | .string, cs => ∃ s : ByteArray, cs = [.string s] ∧ s.size ≤ B
  | .slice sz e, cs => (∃ a, cs = [.slice a 0 0]) ∨ ∃ (b o len cap : Nat), cs = [.slice (some ⟨b, o, none⟩) len cap] ∧ 0 < cap ∧ len ≤ cap ∧ cap ≤ B ∧
      ∀ i, i < cap → ∃ cs' : List Value, cs'.length = sz ∧ (∀ j, j < sz → w.cell? ⟨b, o + i * sz + j, none⟩ = cs'[j]?) ∧ Rd w B e cs'
  | .nil, cs => cs = []
  | .cat sz a b, cs => sz ≤ cs.length ∧ Rd w B a (cs.take sz) ∧ Rd w B b (cs.drop sz)
  | .arr n sz e, cs => cs.length = n * sz ∧ ∀ i, i < n → Rd w B e ((cs.drop (i * sz)).take sz)

/-- the whole value -/
def RdV (w : World) (B : Nat) (ty : Ty) (v : Value) : Prop :=
  match ty with
  | .nil | .cat .. | .arr .. => ∃ cs : Array Value, v = .agg cs ∧ Rd w B ty cs.toList
  | _ => Rd w B ty [v]

def fieldsFit (P : Program) (f : TypeId → Ty → Bool) : List Field → Nat → Ty → Bool
  | [], _, .nil => true
  | x :: xs, off, .cat sz a b => x.offset == off && sz == P.cellsOf x.type && f x.type a && fieldsFit P f xs (off + sz) b
  | _, _, _ => false

def fits (P : Program) : Nat → TypeId → Ty → Bool
  | 0, _, _ => false
  | n + 1, t, ty =>
    match P.underlying t, ty with
    | some (.int k), .int k' => k == k'
    | some .bool, .bool => true
    | some .string, .string => true
    | some (.slice e), .slice sz a => sz == P.cellsOf e && P.bytesOf e != 0 && sz != 0 && fits P n e a
    | some (.struct fs), ty => P.cellsOf t == (fs.toList.map fun x => P.cellsOf x.type).sum && fieldsFit P (fits P n) fs.toList 0 ty
    | some (.array m e), .arr m' sz a => m == m' && sz == P.cellsOf e && P.cellsOf t == m * sz && fits P n e a
    | _, _ => false

section
variable {H : Type} {enc : TypeId × Value → H} {P : Program} {w : World} {base : Nat} {held : Bool}

/-- a bound on strings and slices, told of the datum; 'K': what is known of a datum, handed down to its parts -/
structure Bound (P : Program) (K : TypeId → DataW H → Prop) (B : Nat) : Prop where
  str : ∀ t bytes, P.underlying t = some .string → K t (.lit (.string bytes)) → bytes.length ≤ B
  len : ∀ t e els sp, P.underlying t = some (.slice e) → P.bytesOf e ≠ 0 → K t (.slice els sp) → els.length + sp.length ≤ B
  el : ∀ t e els sp x, P.underlying t = some (.slice e) → K t (.slice els sp) → x ∈ els ++ sp → K e x
  fld : ∀ t (fs : Array Field) (ps : List (DataW H)) (i : Nat) (f : Field) (x : DataW H), P.underlying t = some (.struct fs) → K t (.agg ps) → fs[i]? = some f → ps[i]? = some x → K f.type x
  ar : ∀ t n e ps x, P.underlying t = some (.array n e) → K t (.agg ps) → x ∈ ps → K e x

theorem fields_rd {K : TypeId → DataW H → Prop} {B n : Nat} {f : TypeId → Ty → Bool} (ih : ∀ t ty cs x, f t ty = true → DataW.trod enc P w base (fun _ => true) held n t cs = some x → K t x.1 → Rd w B ty cs) :
    ∀ (fs : List Field) (off : Nat) (ty : Ty) (cs : List Value), fieldsFit P f fs off ty = true → cs.length = off + (fs.map fun x => P.cellsOf x.type).sum →
      (∀ (i : Nat) (x : Field), fs[i]? = some x → ∃ y, DataW.trod enc P w base (fun _ => true) held n x.type ((cs.drop x.offset).take (P.cellsOf x.type)) = some y ∧ K x.type y.1) → Rd w B ty (cs.drop off)
  | [], off, .nil, cs, _, hl, _ => by simp [Rd]; simp at hl; omega
  | x :: xs, off, .cat sz a b, cs, hf, hl, h => by
    simp only [fieldsFit, Bool.and_eq_true, beq_iff_eq] at hf
    obtain ⟨⟨⟨ho, hsz⟩, ha⟩, hb⟩ := hf
    obtain ⟨y, hy, hk⟩ := h 0 x rfl
    subst hsz
    simp only [List.map_cons, List.sum_cons] at hl
    have hlen : P.cellsOf x.type ≤ (cs.drop off).length := by rw [List.length_drop]; omega
    simp only [Rd]
    refine ⟨hlen, ?_, ?_⟩
    · rw [ho] at hy; exact ih _ _ _ _ ha hy hk
    · rw [List.drop_drop]
      exact fields_rd ih xs (off + P.cellsOf x.type) b cs hb (by omega) (fun i z hz => h (i + 1) z hz)
  | [], _, .int _, _, h, _, _ => by simp [fieldsFit] at h
  | [], _, .bool, _, h, _, _ => by simp [fieldsFit] at h
  | [], _, .string, _, h, _, _ => by simp [fieldsFit] at h
  | [], _, .slice _ _, _, h, _, _ => by simp [fieldsFit] at h
  | [], _, .cat _ _ _, _, h, _, _ => by simp [fieldsFit] at h
  | [], _, .arr _ _ _, _, h, _, _ => by simp [fieldsFit] at h
  | _ :: _, _, .int _, _, h, _, _ => by simp [fieldsFit] at h
  | _ :: _, _, .bool, _, h, _, _ => by simp [fieldsFit] at h
  | _ :: _, _, .string, _, h, _, _ => by simp [fieldsFit] at h
  | _ :: _, _, .slice _ _, _, h, _, _ => by simp [fieldsFit] at h
  | _ :: _, _, .nil, _, h, _, _ => by simp [fieldsFit] at h
  | _ :: _, _, .arr _ _ _, _, h, _, _ => by simp [fieldsFit] at h

theorem add_none (b o n : Nat) : (⟨b, o, none⟩ : Addr).add n = ⟨b, o + n, none⟩ := by
  unfold Addr.add; split
  · rename_i h; subst h; rfl
  · rfl
theorem cells_get {a : Addr} {m : Nat} {cs : List Value} (h : w.cells? base a m = some cs) : cs.length = m ∧ ∀ j, j < m → w.cell? (a.add j) = cs[j]? := by
  unfold World.cells? at h
  split at h
  · refine ⟨by simpa using mapM_some_length h, fun j hj => ?_⟩
    have := mapM_some_get h j j (by simp [hj])
    exact this
  · cases h

theorem rd_of {K : TypeId → DataW H → Prop} {B : Nat} (hb : Bound P K B) : ∀ (n m : Nat) (t : TypeId) (ty : Ty) (cs : List Value) (x : DataW H × List MemPlace),
    fits P m t ty = true → DataW.trod enc P w base (fun _ => true) held n t cs = some x → K t x.1 → Rd w B ty cs := by
  intro n; induction n with
  | zero => intro m t ty cs x _ h; simp [DataW.trod] at h
  | succ n ih =>
    intro m t ty cs x hf h hk
    cases m with
    | zero => simp [fits] at hf
    | succ m =>
      unfold fits at hf
      split at hf
      · rename_i k k' hu
        obtain ⟨z, rfl, rfl, hw⟩ := DataW.trod_int hu h
        simp only [beq_iff_eq] at hf; subst hf
        exact ⟨z, rfl, hw⟩
      · rename_i hu
        obtain ⟨z, rfl, rfl⟩ := DataW.trod_bool hu h
        exact ⟨z, rfl⟩
      · rename_i hu
        obtain ⟨z, rfl, rfl, hw⟩ := DataW.trod_string hu h
        exact ⟨z, rfl, by simpa using hb.str t _ hu hk⟩
      · rename_i e sz a hu
        simp only [Bool.and_eq_true, beq_iff_eq, bne_iff_ne] at hf
        obtain ⟨⟨⟨hsz, hby⟩, hz0⟩, hfe⟩ := hf
        subst hsz
        rcases DataW.trod_slice hu h with ⟨rfl, _⟩ | ⟨ad, len, cap, els, rest, n', hn, rfl, rfl, hbase, hl, hc, hel, hall, hrest, _⟩
        · exact Or.inl ⟨_, rfl⟩
        · obtain rfl : n' = n := by omega
          obtain ⟨hrl, hr⟩ := hrest rfl
          obtain ⟨ab, ao, asp⟩ := ad
          have hB := hb.len t e _ _ hu hby hk
          simp only [List.length_map] at hB
          have key : ∀ i, i < cap → ∃ y, (w.cells? base ((⟨ab, ao, asp⟩ : Addr).add (i * P.cellsOf e)) (P.cellsOf e)).bind (DataW.trod enc P w base (fun _ => true) held n' e) = some y ∧ y ∈ els ++ rest := by
            intro i hi
            by_cases hlt : i < len
            · have := hall i hlt
              obtain ⟨y, hy⟩ : ∃ y, els[i]? = some y := ⟨els[i], List.getElem?_eq_getElem (by omega)⟩
              exact ⟨y, by rw [this, hy], List.mem_append_left _ (List.mem_of_getElem? hy)⟩
            · have := hr (i - len) (by omega)
              rw [show len + (i - len) = i by omega] at this
              obtain ⟨y, hy⟩ : ∃ y, rest[i - len]? = some y := ⟨rest[i - len], List.getElem?_eq_getElem (by omega)⟩
              exact ⟨y, by rw [this, hy], List.mem_append_right _ (List.mem_of_getElem? hy)⟩
          by_cases h0 : cap = 0
          · subst h0
            obtain rfl : len = 0 := by omega
            exact Or.inl ⟨_, rfl⟩
          have hspot : asp = none := by
            obtain ⟨y, hy, _⟩ := key 0 (by omega)
            rw [Option.bind_eq_some_iff] at hy
            obtain ⟨cs', hcs, _⟩ := hy
            obtain ⟨hlen, hget⟩ := cells_get hcs
            have := hget 0 (by omega)
            rw [List.getElem?_eq_getElem (by omega)] at this
            have := World.cell?_spot this
            simpa [Addr.add] using this
          subst hspot
          refine Or.inr ⟨ab, ao, len, cap, rfl, by omega, hl, by omega, fun i hi => ?_⟩
          obtain ⟨y, hy, hmem⟩ := key i hi
          rw [Option.bind_eq_some_iff] at hy
          obtain ⟨cs', hcs, hy⟩ := hy
          obtain ⟨hlen, hget⟩ := cells_get hcs
          refine ⟨cs', hlen, fun j hj => ?_, ih m e _ cs' y hfe hy (hb.el t e _ _ y.1 hu hk ?_)⟩
          · have := hget j hj; rwa [add_none, add_none] at this
          · rw [← List.map_append]; exact List.mem_map_of_mem hmem
      · rename_i fs hu
        simp only [Bool.and_eq_true, beq_iff_eq] at hf
        obtain ⟨hsum, hff⟩ := hf
        obtain ⟨xs, n', hn, rfl, hlen, hxl, hget⟩ := DataW.trod_struct hu h
        obtain rfl : n' = n := by omega
        have := fields_rd (enc := enc) (base := base) (held := held) (K := K) (B := B) (n := n') (f := fits P m) (fun t ty cs x hh ht hk => ih m t ty cs x hh ht hk) fs.toList 0 _ cs hff (by rw [hlen, hsum]; omega) (by
          intro i f hfi
          have hfi' : fs[i]? = some f := by simpa using hfi
          have hi : i < xs.length := by rw [hxl]; exact (Array.getElem?_eq_some_iff.1 hfi').1
          refine ⟨xs[i], ?_, ?_⟩
          · rw [hget i f hfi']; exact List.getElem?_eq_getElem hi
          · exact hb.fld t fs _ i f _ hu hk hfi' (by simp [hi]))
        simpa using this
      · rename_i mm e m' sz a hu
        simp only [Bool.and_eq_true, beq_iff_eq] at hf
        obtain ⟨⟨⟨rfl, rfl⟩, hsz⟩, hfe⟩ := hf
        obtain ⟨xs, n', hn, rfl, hlen, hxl, hget⟩ := DataW.trod_array hu h
        obtain rfl : n' = n := by omega
        refine ⟨?_, fun i hi => ?_⟩
        · rw [hlen]; exact hsz
        · exact ih m e _ _ xs[i] hfe (by rw [hget i hi]; exact List.getElem?_eq_getElem (by omega)) (hb.ar t _ e _ _ hu hk (List.mem_map_of_mem (List.getElem_mem _)))
      · cases hf
theorem rdv_of {K : TypeId → DataW H → Prop} {B : Nat} (hb : Bound P K B) {r : Reach} {b0 m : Nat} {t : TypeId} {ty : Ty} {v : Value} {d : DataW H} {p : List MemPlace}
    (hf : fits P m t ty = true) (hv : Value.okWide P w r b0 t v) (h : DataW.Trod enc P w base (fun _ => true) held t v d p) (hk : K t d) : RdV w B ty v := by
  obtain ⟨n, hn⟩ := h
  have hr := rd_of hb n m t ty _ _ hf hn hk
  cases m with
  | zero => simp [fits] at hf
  | succ m =>
    unfold fits at hf
    split at hf
    · rename_i hu; obtain ⟨z, rfl⟩ := okWide_int hu hv; exact hr
    · rename_i hu; obtain ⟨z, rfl⟩ := okWide_bool hu hv; exact hr
    · rename_i hu; obtain ⟨z, rfl⟩ := okWide_string hu hv; exact hr
    · rename_i hu; obtain ⟨a, l, c, rfl⟩ := okWide_slice hu hv; exact hr
    · rename_i ty1 _ _ fs hu
      obtain ⟨cs, rfl, _⟩ := okWide_struct hu hv
      simp only [Bool.and_eq_true] at hf
      obtain ⟨_, hff⟩ := hf
      cases ty1 with
      | nil => exact ⟨cs, rfl, hr⟩
      | cat => exact ⟨cs, rfl, hr⟩
      | arr => exact ⟨cs, rfl, hr⟩
      | int => cases h : fs.toList <;> rw [h] at hff <;> simp [fieldsFit] at hff
      | bool => cases h : fs.toList <;> rw [h] at hff <;> simp [fieldsFit] at hff
      | string => cases h : fs.toList <;> rw [h] at hff <;> simp [fieldsFit] at hff
      | slice => cases h : fs.toList <;> rw [h] at hff <;> simp [fieldsFit] at hff
    · rename_i hu
      have hv' := hv
      unfold Value.okWide at hv'
      rw [hu] at hv'
      obtain ⟨cs, rfl, _⟩ := hv'
      exact ⟨cs, rfl, hr⟩
    · cases hf

/-! the two bounds: of the first form (each string, each slice by itself), of the second (all together) -/
theorem weightsAll_mem {e : TypeId} {x : DataW H} {n : Nat} (hn : n ∈ x.weights P e) : ∀ {l : List (DataW H)}, x ∈ l → n ∈ DataW.weightsAll P e l
  | y :: l, h => by
    simp only [DataW.weightsAll, List.mem_append]
    rcases List.mem_cons.1 h with rfl | h
    · exact Or.inl hn
    · exact Or.inr (weightsAll_mem hn h)
theorem said_bound (R : Nat) : Bound (H := H) P (fun t d => ∀ n ∈ d.weights P t, n ≤ R) R where
  str t bytes _ h := h _ (by simp [DataW.weights])
  len t e els sp hu hby h := by
    have := h ((els.length + sp.length) * P.bytesOf e) (by simp [DataW.weights, hu])
    exact Nat.le_trans (Nat.le_mul_of_pos_right _ (by omega)) this
  el t e els sp x hu h hx n hn := by
    refine h n ?_
    simp only [DataW.weights, hu, List.mem_cons, List.mem_append]
    rcases List.mem_append.1 hx with hx | hx
    · exact Or.inr (Or.inl (weightsAll_mem hn hx))
    · exact Or.inr (Or.inr (weightsAll_mem hn hx))
  fld t fs ps i f x hu h hf hx n hn := by
    refine h n ?_
    simp only [DataW.weights, hu]
    exact DataW.weights_mem_each (by simpa using congrArg (Option.map (·.type)) hf) hx n hn
  ar t m e ps x hu h hx n hn := by
    refine h n ?_
    simp only [DataW.weights, hu]
    exact weightsAll_mem hn hx
theorem part_le {d : DataW H} : ∀ {l : List (DataW H)}, d ∈ l → Rows.uptoBulk d ≤ Rows.uptoBulkAll l
  | x :: l, h => by
    simp only [Rows.uptoBulkAll]
    rcases List.mem_cons.1 h with rfl | h
    · omega
    · have := part_le h; omega
theorem one_le (d : DataW H) : 1 ≤ Rows.uptoBulk d := by
  cases d with
  | lit l => cases l <;> simp [Rows.uptoBulk]
  | _ => simp [Rows.uptoBulk]
theorem length_le : ∀ (l : List (DataW H)), l.length ≤ Rows.uptoBulkAll l
  | [] => by simp
  | x :: r => by have := length_le r; have := one_le x; simp only [Rows.uptoBulkAll, List.length_cons]; omega
theorem upto_bound (B : Nat) : Bound (H := H) P (fun _ d => Rows.uptoBulk d ≤ B) B where
  str t bytes _ h := by simp [Rows.uptoBulk] at h; omega
  len t e els sp _ _ h := by
    have h1 := length_le els; have h2 := length_le sp
    simp only [Rows.uptoBulk] at h; omega
  el t e els sp x _ h hx := by
    simp only [Rows.uptoBulk] at h
    rcases List.mem_append.1 hx with hx | hx
    · have := part_le hx; omega
    · have := part_le hx; omega
  fld t fs ps i f x _ h _ hx := by
    simp only [Rows.uptoBulk] at h
    have := part_le (List.mem_of_getElem? hx); omega
  ar t n e ps x _ h hx := by
    simp only [Rows.uptoBulk] at h
    have := part_le hx; omega
theorem small_le {l : List (DataW H)} (hk : Rows.uptoSmall H l = true) : Rows.uptoBulkAll l ≤ 1048576 := of_decide_eq_true hk
theorem trod_lt {t : TypeId} {v : Value} {d : DataW H} {p : List MemPlace} (h : DataW.Trod enc P w 0 (fun _ => true) true t v d p) : ∀ x ∈ p, x.block < w.heap.size := by
  obtain ⟨m, hm⟩ := h; exact DataW.trod_lt m _ _ _ hm

/-! to open what was read -/
variable {B : Nat}
theorem cat_open {sz : Nat} {a b : Ty} {cs : List Value} (h : Rd w B (.cat sz a b) cs) : ∃ l r, cs = l ++ r ∧ l.length = sz ∧ Rd w B a l ∧ Rd w B b r := by
  obtain ⟨h1, h2, h3⟩ := h
  exact ⟨cs.take sz, cs.drop sz, (List.take_append_drop _ _).symm, by simp [h1], h2, h3⟩
theorem arr_of {cs : Array Value} {l : List Value} (h : cs.toList = l) : cs = l.toArray := by rw [← h]
theorem i64_bd {n : Int} (h : (Lit.int .i64 n).wf = true) : -9223372036854775808 ≤ n ∧ n ≤ 9223372036854775807 := by
  simpa [Lit.wf, IntKind.min, IntKind.max, IntKind.signed, IntKind.bits] using h
theorem u64_bd {n : Int} (h : (Lit.int .u64 n).wf = true) : 0 ≤ n ∧ n ≤ 18446744073709551615 := by
  simpa [Lit.wf, IntKind.min, IntKind.max, IntKind.signed, IntKind.bits] using h
theorem u16_bd {n : Int} (h : (Lit.int .u16 n).wf = true) : 0 ≤ n ∧ n ≤ 65535 := by
  simpa [Lit.wf, IntKind.min, IntKind.max, IntKind.signed, IntKind.bits] using h
theorem u8_bd {n : Int} (h : (Lit.int .u8 n).wf = true) : 0 ≤ n ∧ n ≤ 255 := by
  simpa [Lit.wf, IntKind.min, IntKind.max, IntKind.signed, IntKind.bits] using h
end
end Go.Proofs.Ytmddfpmchcmgiaa.Fr
/- A slice that lies anywhere in a block of the call's own: read, cut, appended to. -/
namespace Go.Proofs.Ytmddfpmchcmgiaa.Kt
open Go.RowKit
/-- v is nil, or lies in a block from B on, behind which its capacity is there -/
def Sl (w : World) (B : Nat) (e : TypeId) (sz : Nat) (v : Value) (n : Nat) (xs : List Value) : Prop :=
  xs.length = n * sz ∧ ((v = .slice none 0 0 ∧ n = 0) ∨
   ∃ g o cap cur, v = .slice (some ⟨g, o, none⟩) n cap ∧ B ≤ g ∧ w.heap[g]? = some (.cells cur e (0, 0)) ∧ n ≤ cap ∧ cap ≤ maxLen ∧ o + cap * sz ≤ cur.size ∧ ∀ j u, xs[j]? = some u → cur[o + j]? = some u)
section
variable {w w' : World} {B : Nat} {e : TypeId} {sz n : Nat} {v : Value} {xs : List Value}
theorem Sl.nil (w : World) (B : Nat) (e : TypeId) (sz : Nat) : Sl w B e sz (.slice none 0 0) 0 [] := ⟨by simp, .inl ⟨rfl, rfl⟩⟩
theorem Sl.of_own (h : w.ownsRow B e sz v n xs) : Sl w B e sz v n xs := by
  refine ⟨h.1, ?_⟩
  rcases h.2 with h0 | ⟨g, cap, cur, rfl, hb, hg, hn, hc, hs, ht⟩
  · exact .inl h0
  · refine .inr ⟨g, 0, cap, cur, rfl, hb, hg, hn, hc, by omega, fun j u hj => ?_⟩
    rw [← ht, List.getElem?_take] at hj
    split at hj
    · rw [Nat.zero_add]; simpa using hj
    · cases hj
theorem Sl.keep (h : Sl w B e sz v n xs) (hk : ∀ k, v.ownBlock = some k → w'.heap[k]? = w.heap[k]?) : Sl w' B e sz v n xs := by
  refine ⟨h.1, ?_⟩
  rcases h.2 with h0 | ⟨g, o, cap, cur, rfl, hb, hg, r⟩
  · exact .inl h0
  · exact .inr ⟨g, o, cap, cur, rfl, hb, (hk g rfl).trans hg, r⟩
theorem Sl.lt (h : Sl w B e sz v n xs) : ∀ k, v.ownBlock = some k → B ≤ k ∧ k < w.heap.size := by
  intro k hk
  rcases h.2 with ⟨rfl, _⟩ | ⟨g, o, cap, cur, rfl, hb, hg, _⟩
  · cases hk
  · simp [Value.ownBlock] at hk; subst hk; exact ⟨hb, (Array.getElem?_eq_some_iff.1 hg).1⟩
theorem Sl.on (h : Sl w B e sz v n xs) (b : Below w.heap.size w w') : Sl w' B e sz v n xs := h.keep fun k hk => b.block k (h.lt k hk).2
theorem Sl.alloc (h : Sl w B e sz v n xs) (o : Obj) : Sl (w.alloc o) B e sz v n xs := h.keep fun k hk => Below.heap_alloc w o k (h.lt k hk).2
theorem Sl.drew (h : Sl w B e sz v n xs) : Sl w.drew B e sz v n xs := h
theorem Sl.mono (h : Sl w B e sz v n xs) {B' : Nat} (hb : B' ≤ B) : Sl w B' e sz v n xs :=
  ⟨h.1, h.2.imp id fun ⟨g, o, cap, cur, h1, h2, h3⟩ => ⟨g, o, cap, cur, h1, Nat.le_trans hb h2, h3⟩⟩
theorem Sl.form (h : Sl w B e sz v n xs) : ∃ A c, v = .slice A n c ∧ n ≤ c ∧ c ≤ maxLen := by
  rcases h.2 with ⟨rfl, rfl⟩ | ⟨g, o, cap, cur, rfl, hb, hg, hn, hc, _⟩
  · exact ⟨none, 0, rfl, Nat.le_refl _, by simp [maxLen]⟩
  · exact ⟨_, cap, rfl, hn, hc⟩
theorem Sl.cells (h : Sl w B e sz v n xs) (hn : 0 < n) : ∃ g o cap, v = .slice (some ⟨g, o, none⟩) n cap ∧ B ≤ g ∧ g < w.heap.size ∧ n ≤ cap ∧ cap ≤ maxLen ∧ (∀ j (hj : j < xs.length), w.cell? ⟨g, o + j, none⟩ = some xs[j]) ∧ ∀ j, w.frozen? ⟨g, j, none⟩ = false := by
  rcases h.2 with ⟨_, rfl⟩ | ⟨g, o, cap, cur, rfl, hb, hg, hnc, hc, hs, ht⟩
  · omega
  · exact ⟨g, o, cap, rfl, hb, (Array.getElem?_eq_some_iff.1 hg).1, hnc, hc, fun j hj => (cell_of_row w g (o + j) cur e (0, 0) hg).trans (ht j _ (List.getElem?_eq_getElem hj)), fun j => frozen_of_row w g j cur e hg⟩
/-- 'v[1:]' -/
theorem Sl.tail {A : Option Addr} {c : Nat} (h : Sl w B e sz (.slice A n c) n xs) (hn : 0 < n) : Sl w B e sz (.slice (if c = 1 then A else A.map (·.add (1 * sz))) (n - 1) (c - 1)) (n - 1) (xs.drop (1 * sz)) := by
  refine ⟨by rw [List.length_drop, h.1, Nat.sub_mul], .inr ?_⟩
  rcases h.2 with ⟨_, rfl⟩ | ⟨g, o, cap, cur, hv, hb, hg, hnc, hc, hs, ht⟩
  · omega
  · injection hv with h1 h2 h3
    subst h1 h3
    split
    · rename_i h1
      subst h1
      refine ⟨g, o, 1 - 1, cur, rfl, hb, hg, by omega, by simp [maxLen], by omega, fun j u hj => ?_⟩
      rw [List.getElem?_drop] at hj
      have := (List.getElem?_eq_some_iff.1 hj).1
      have hn1 : n = 1 := by omega
      rw [h.1, hn1] at this
      omega
    · refine ⟨g, o + 1 * sz, c - 1, cur, ?_, hb, hg, by omega, by omega, ?_, fun j u hj => ?_⟩
      · simp only [Option.map_some, Addr.add]
        by_cases h0 : 1 * sz = 0
        · simp [h0]
        · simp at h0; simp [h0]
      · have : c * sz = (c - 1) * sz + 1 * sz := by rw [← Nat.add_mul]; congr 1; omega
        omega
      · rw [List.getElem?_drop] at hj
        rw [Nat.add_assoc]; exact ht _ _ hj
theorem setCells_row : ∀ (news : List Value) (g off : Nat) (w : World) (cur : Array Value), w.heap[g]? = some (.cells cur e (0, 0)) → off + news.length ≤ cur.size →
    ∃ cur', (w.setCells g off news).heap[g]? = some (.cells cur' e (0, 0)) ∧ cur'.size = cur.size ∧ (∀ j, j < off → cur'[j]? = cur[j]?) ∧ ∀ j u, news[j]? = some u → cur'[off + j]? = some u
  | [], g, off, w, cur, h, _ => ⟨cur, h, rfl, fun _ _ => rfl, fun j u hj => by simp at hj⟩
  | x :: news, g, off, w, cur, h, hl => by
    simp only [List.length_cons] at hl
    have h1 : (w.setCell ⟨g, off, none⟩ x).heap[g]? = some (.cells (cur.setIfInBounds off x) e (0, 0)) := heap_setCell_same _ _ _ _ _ _ h
    obtain ⟨cur', h2, h3, h4, h5⟩ := setCells_row news g (off + 1) _ _ h1 (by simp; omega)
    refine ⟨cur', h2, by simpa using h3, fun j hj => ?_, fun j u hj => ?_⟩
    · rw [h4 j (by omega), Array.getElem?_setIfInBounds_ne (by omega)]
    · cases j with
      | zero =>
        simp at hj; subst hj
        rw [Nat.add_zero, h4 off (by omega), Array.getElem?_setIfInBounds_self_of_lt (by omega)]
      | succ j =>
        rw [show off + (j + 1) = off + 1 + j by omega]
        exact h5 j u (by simpa using hj)
theorem below_setCells : ∀ (news : List Value) (g off : Nat) (w a : World), B ≤ g → Below B a w → Below B a (w.setCells g off news)
  | [], _, _, _, _, _, h => h
  | x :: news, g, off, _, a, hg, h => below_setCells news g (off + 1) _ a hg (h.setCell hg x)
theorem setCells_other : ∀ (news : List Value) (g off : Nat) (w : World) (k : Nat), k ≠ g → (w.setCells g off news).heap[k]? = w.heap[k]?
  | [], _, _, _, _, _ => rfl
  | _ :: news, g, off, _, k, hk => (setCells_other news g (off + 1) _ k hk).trans (heap_setCell_other _ _ _ _ hk)
theorem setCells_size : ∀ (news : List Value) (g off : Nat) (w : World), (w.setCells g off news).heap.size = w.heap.size
  | [], _, _, _ => rfl
  | x :: news, g, off, w => (setCells_size news g (off + 1) _).trans (by simp [World.setCell])
theorem below_grown {w w' : World} (h : w.grownBy w' none) (hB : B ≤ w.heap.size) : Below B w w' := (Below.refl B w).grown h hB (fun k hk => by cases hk)
end
section
variable {P : Program} (w : World)
theorem run_append_sl (B : Nat) (t ty e : TypeId) (z : Value) (size bytes : Nat) (hinfo : (P.info? e).map (fun i => (i.zero, i.size, i.bytes)) = some (some z, size, bytes)) (ht : P.underlying t = some (.slice e)) (hzs : z.cells.size = size) (hsz : 0 < size)
    (v : Value) (n : Nat) (xs : List Value) (h : Sl w B e size v n xs) (ad : Addr) (m c : Nat) (news : List Value) (hl : news.length = m * size) (hnews : ∀ j u, news[j]? = some u → w.cell? (ad.add j) = some u) (h1 : ∀ u ∈ news, u.oneCell' = true)
    (h63 : n + m ≤ maxLen) (hbytes : (n + m) * bytes ≤ 140737488355328) (hB : B ≤ w.heap.size) :
    ∃ v' w', (Builtin.append_ #[t, t] ty #[v, .slice (some ad) m c]).run P w = .ok v' w' ∧ Sl w' B e size v' (n + m) (xs ++ news) ∧ Below B w w' ∧ w.heap.size ≤ w'.heap.size ∧
      (∀ k, k < w.heap.size → v.ownBlock ≠ some k → w'.heap[k]? = w.heap[k]?) ∧ ∀ k, v'.ownBlock = some k → v.ownBlock = some k ∨ w.heap.size ≤ k := by
  obtain ⟨i, hi, hz, hz1, hz2⟩ := info_parts hinfo
  rcases h.2 with ⟨rfl, rfl⟩ | ⟨g, o, cap, cur, rfl, hb, hg, hn, hc, hs, hx⟩
  · obtain rfl : xs = [] := List.eq_nil_of_length_eq_zero (by simpa using h.1)
    obtain ⟨v', w', hrun, r1, r2, _⟩ := run_append_own (P := P) w w.heap.size t ty e i z size bytes ht hi hz hz1 hz2 hzs hsz (.slice none 0 0) 0 [] (World.ownsRow_nil w _ e size) ad m c news hl hnews h1 h63 hbytes (Nat.le_refl _)
    exact ⟨v', w', hrun, Sl.mono (Sl.of_own r1) hB, below_grown r2 hB, r2.size, fun k hk _ => r2.block k hk (by simp [Value.ownBlock]), fun k hk => .inr (r1.lt k hk).1⟩
  · by_cases hr : n + m ≤ cap
    · subst hz1
      have hmul : (n + m) * i.size ≤ cap * i.size := Nat.mul_le_mul_right _ hr
      rw [Nat.add_mul] at hmul
      have hcell : ∀ j, j < news.length → (w.cell? ⟨g, o + n * i.size + j, none⟩).isSome = true := fun j hj => by
        rw [cell_of_row w g _ cur e (0, 0) hg, Array.getElem?_eq_getElem (by omega)]; rfl
      have hrun := run_append_room_cells (P := P) w t ty e i ht hi g o n cap ad m c news hl hnews h1 hr hcell (fun j _ => frozen_of_row w g _ cur e hg)
      obtain ⟨cur', r1, r2, r3, r4⟩ := setCells_row (e := e) news g (o + n * i.size) w cur hg (by omega)
      refine ⟨_, _, hrun, ⟨by rw [List.length_append, h.1, hl, Nat.add_mul], .inr ⟨g, o, cap, cur', rfl, hb, r1, hr, hc, by omega, fun j u hj => ?_⟩⟩, below_setCells news g _ w w hb (Below.refl _ _), by rw [setCells_size]; exact Nat.le_refl _, fun k _ hk => setCells_other news g _ w k (fun e => hk (by simp [Value.ownBlock, e])), fun k hk => .inl hk⟩
      rw [List.getElem?_append] at hj
      split at hj
      · rename_i hlt
        rw [r3 _ (by have := h.1; omega)]; exact hx j u hj
      · rename_i hge
        have := r4 _ _ hj
        rw [h.1] at this hge
        rwa [show o + n * i.size + (j - n * i.size) = o + j by omega] at this
    · obtain ⟨v', w', hrun, r1, r2⟩ := run_append_arg_grows (P := P) w t ty e i z size bytes ht hi hz hz1 hz2 hzs hsz ⟨g, o, none⟩ n cap xs h.1 (fun j u hj => by rw [Addr.add_lit, cell_of_row w g (o + j) cur e (0, 0) hg]; exact hx j u hj) ad m c news hl hnews (by omega) h63 hbytes
      exact ⟨v', w', hrun, Sl.mono (Sl.of_own r1) hB, below_grown r2 hB, r2.size, fun k hk _ => r2.block k hk (by simp), fun k hk => .inr (r1.lt k hk).1⟩
theorem wp_append_sl {K : Act → World → Prop} {o : Oper} {a : Act} {Q : Exit → Act → World → Prop} (s x : Operand) (t : TypeId)
    (ho : o.op = .call { callee := .builtin .append, args := #[s, x], argTypes := #[t, t] })
    (B : Nat) (e : TypeId) (z : Value) (size bytes : Nat) (hinfo : (P.info? e).map (fun i => (i.zero, i.size, i.bytes)) = some (some z, size, bytes)) (ht : P.underlying t = some (.slice e)) (hzs : z.cells.size = size) (hsz : 0 < size)
    (v : Value) (n : Nat) (xs : List Value) (hs : a.eval s = v) (h : Sl w B e size v n xs) (ad : Addr) (m c : Nat) (news : List Value) (hx : a.eval x = .slice (some ad) m c) (hl : news.length = m * size) (hnews : ∀ j u, news[j]? = some u → w.cell? (ad.add j) = some u) (h1 : ∀ u ∈ news, u.oneCell' = true)
    (h63 : n + m ≤ maxLen) (hbytes : (n + m) * bytes ≤ 140737488355328) (hB : B ≤ w.heap.size)
    (hK : ∀ A' c' w', Sl w' B e size (.slice A' (n + m) c') (n + m) (xs ++ news) → Below B w w' → w.heap.size ≤ w'.heap.size → (∀ k, k < w.heap.size → v.ownBlock ≠ some k → w'.heap[k]? = w.heap[k]?) → (∀ k, (Value.slice A' (n + m) c').ownBlock = some k → v.ownBlock = some k ∨ w.heap.size ≤ k) → K (a.put o.dst (.slice A' (n + m) c')) w') : o.wp P a w K Q := by
  obtain ⟨v', w', hrun, r1, r2, r3, r4, r5⟩ := run_append_sl (P := P) w B t o.type e z size bytes hinfo ht hzs hsz v n xs h ad m c news hl hnews h1 h63 hbytes hB
  obtain ⟨A', c', rfl, _, _⟩ := r1.form
  unfold Oper.wp
  simp [execOp, ho, resolve, invoke, builtin, hs, hx, hrun, Result.andThen]
  exact hK A' c' w' r1 r2 r3 r4 r5
theorem append_sl {ops : Array Oper} {rest : List Oper} {o : Oper} {a : Act} {Q : Exit → Act → World → Prop} (hgd : Region.wanted o (yielded ops a.tmps) = true) (s x : Operand) (t : TypeId)
    (ho : o.op = .call { callee := .builtin .append, args := #[s, x], argTypes := #[t, t] })
    (B : Nat) (e : TypeId) (z : Value) (size bytes : Nat) (hinfo : (P.info? e).map (fun i => (i.zero, i.size, i.bytes)) = some (some z, size, bytes)) (ht : P.underlying t = some (.slice e)) (hzs : z.cells.size = size) (hsz : 0 < size)
    (v : Value) (n : Nat) (xs : List Value) (hs : a.eval s = v) (h : Sl w B e size v n xs) (ad : Addr) (m c : Nat) (news : List Value) (hx : a.eval x = .slice (some ad) m c) (hl : news.length = m * size) (hnews : ∀ j u, news[j]? = some u → w.cell? (ad.add j) = some u) (h1 : ∀ u ∈ news, u.oneCell' = true)
    (h63 : n + m ≤ maxLen) (hbytes : (n + m) * bytes ≤ 140737488355328) (hB : B ≤ w.heap.size)
    (hK : ∀ A' c' w', Sl w' B e size (.slice A' (n + m) c') (n + m) (xs ++ news) → Below B w w' → w.heap.size ≤ w'.heap.size → (∀ k, k < w.heap.size → v.ownBlock ≠ some k → w'.heap[k]? = w.heap[k]?) → (∀ k, (Value.slice A' (n + m) c').ownBlock = some k → v.ownBlock = some k ∨ w.heap.size ≤ k) → wpList P ops Q rest (a.put o.dst (.slice A' (n + m) c')) w') : wpList P ops Q (o :: rest) a w := by
  obtain ⟨v', w', hrun, r1, r2, r3, r4, r5⟩ := run_append_sl (P := P) w B t o.type e z size bytes hinfo ht hzs hsz v n xs h ad m c news hl hnews h1 h63 hbytes hB
  obtain ⟨A', c', rfl, _, _⟩ := r1.form
  refine BigFrame.wpList_want hgd fun K hK' => ?_
  unfold Oper.wp
  simp [execOp, ho, resolve, invoke, builtin, hs, hx, hrun, Result.andThen]
  exact hK' _ _ (hK A' c' w' r1 r2 r3 r4 r5)
end
/-- the cells of one new block, read from its head -/
theorem new_cells (w : World) (cs : Array Value) (e : TypeId) : ∀ j u, cs.toList[j]? = some u → (w.alloc (.cells cs e)).cell? ((⟨w.heap.size, 0, none⟩ : Addr).add j) = some u := fun j u hj => by
  unfold Addr.add
  split
  · rename_i h0; subst h0; simpa using hj
  · simpa using hj
end Go.Proofs.Ytmddfpmchcmgiaa.Kt
/- Slices that came in, read as lists. -/
namespace Go.Proofs.Ytmddfpmchcmgiaa.Kt
open Go.RowKit
/-- the slice v has n elements of sz cells each, the cells xs -/
structure Ar (w : World) (v : Value) (sz n : Nat) (xs : List Value) : Prop where
  len : xs.length = n * sz
  form : ∃ A c, v = .slice A n c ∧ n ≤ c ∧ (0 < n → ∃ b o, A = some ⟨b, o, none⟩ ∧ b < w.heap.size ∧ ∀ j (hj : j < xs.length), w.cell? ⟨b, o + j, none⟩ = some xs[j])
theorem Ar.on {w w' : World} {v : Value} {sz n : Nat} {xs : List Value} (h : Ar w v sz n xs) (b : Below w.heap.size w w') : Ar w' v sz n xs := by
  obtain ⟨A, c, e, hn, hc⟩ := h.form
  refine ⟨h.len, A, c, e, hn, fun h0 => ?_⟩
  obtain ⟨g, o, e2, hg, hx⟩ := hc h0
  exact ⟨g, o, e2, Nat.lt_of_lt_of_le hg b.size, fun j hj => (b.cell (p := ⟨g, o + j, none⟩) hg).trans (hx j hj)⟩
theorem Ar.onTo {w w1 : World} {v : Value} {sz n : Nat} {xs : List Value} (h : Ar w v sz n xs) (b : Below w.heap.size w w1) : Ar w1 v sz n xs := h.on b
theorem ar_list {w : World} {b o sz : Nat} {R : List Value → Prop} : ∀ n, (∀ i, i < n → ∃ cs : List Value, cs.length = sz ∧ (∀ j, j < sz → w.cell? ⟨b, o + i * sz + j, none⟩ = cs[j]?) ∧ R cs) →
    ∃ els : List (List Value), els.length = n ∧ (∀ x ∈ els, x.length = sz ∧ R x) ∧ els.flatten.length = n * sz ∧ ∀ j, j < n * sz → w.cell? ⟨b, o + j, none⟩ = els.flatten[j]?
  | 0, _ => ⟨[], rfl, by simp, by simp, fun j hj => by omega⟩
  | n + 1, h => by
    obtain ⟨els, h1, h2, h3, h4⟩ := ar_list n (fun i hi => h i (by omega))
    obtain ⟨cs, c1, c2, c3⟩ := h n (by omega)
    refine ⟨els ++ [cs], by simp [h1], fun x hx => ?_, by simp [h3, c1, Nat.add_mul], fun j hj => ?_⟩
    · rcases List.mem_append.1 hx with hx | hx
      · exact h2 x hx
      · simp at hx; subst hx; exact ⟨c1, c3⟩
    · rw [List.flatten_append, List.getElem?_append]
      by_cases hlt : j < n * sz
      · rw [if_pos (by omega)]; exact h4 j hlt
      · rw [if_neg (by omega), h3]
        rw [Nat.add_mul] at hj
        have := c2 (j - n * sz) (by omega)
        rw [show o + n * sz + (j - n * sz) = o + j by omega] at this
        simpa using this
theorem ar_open {w : World} {B sz : Nat} {e : Fr.Ty} {v : Value} (r : Fr.RdV w B (.slice sz e) v) (hsz : 0 < sz) : ∃ els : List (List Value), (∀ x ∈ els, x.length = sz ∧ Fr.Rd w B e x) ∧ els.length ≤ B ∧ Ar w v sz els.length els.flatten := by
  rcases r with ⟨a, h⟩ | ⟨b, o, len, cap, h, h0, hle, hB, hc⟩
  · cases h; exact ⟨[], by simp, Nat.zero_le _, by simp, a, 0, rfl, Nat.le_refl _, fun h => absurd h (by simp)⟩
  · cases h
    obtain ⟨els, h1, h2, h3, h4⟩ := ar_list (w := w) (b := b) (o := o) (sz := sz) (R := Fr.Rd w B e) len (fun i hi => by
      obtain ⟨cs, c1, c2, c3⟩ := hc i (by omega)
      exact ⟨cs, c1, c2, c3⟩)
    subst h1
    refine ⟨els, h2, by omega, h3, _, cap, rfl, hle, fun hpos => ⟨b, o, rfl, ?_, fun j hj => ?_⟩⟩
    · obtain ⟨cs, c1, c2, _⟩ := hc 0 (by omega)
      have := c2 0 hsz
      rw [List.getElem?_eq_getElem (by omega)] at this
      exact World.block_lt_of_cell? w ⟨b, o + 0 * sz + 0, none⟩ this
    · rw [h4 j (by omega), List.getElem?_eq_getElem hj]
theorem ints_of {w : World} {B : Nat} {k : IntKind} : ∀ (els : List (List Value)), (∀ x ∈ els, x.length = 1 ∧ Fr.Rd w B (.int k) x) → ∃ ns : List Int, ns.length = els.length ∧ els.flatten = ns.map (Value.int k) ∧ ∀ n ∈ ns, (Lit.int k n).wf = true
  | [], _ => ⟨[], rfl, rfl, by simp⟩
  | x :: els, h => by
    obtain ⟨ns, h1, h2, h3⟩ := ints_of els (fun y hy => h y (by simp [hy]))
    obtain ⟨_, n, rfl, hw⟩ := h x (by simp)
    exact ⟨n :: ns, by simp [h1], by simp [h2], fun m hm => by
      rcases List.mem_cons.1 hm with rfl | hm
      · exact hw
      · exact h3 m hm⟩
theorem strs_of {w : World} {B : Nat} : ∀ (els : List (List Value)), (∀ x ∈ els, x.length = 1 ∧ Fr.Rd w B .string x) → ∃ ss : List ByteArray, ss.length = els.length ∧ els.flatten = ss.map Value.string ∧ ∀ s ∈ ss, s.size ≤ B
  | [], _ => ⟨[], rfl, rfl, by simp⟩
  | x :: els, h => by
    obtain ⟨ns, h1, h2, h3⟩ := strs_of els (fun y hy => h y (by simp [hy]))
    obtain ⟨_, n, rfl, hw⟩ := h x (by simp)
    exact ⟨n :: ns, by simp [h1], by simp [h2], fun m hm => by
      rcases List.mem_cons.1 hm with rfl | hm
      · exact hw
      · exact h3 m hm⟩
theorem ar_ints {w : World} {B : Nat} {k : IntKind} {v : Value} (r : Fr.RdV w B (.slice 1 (.int k)) v) : ∃ ns : List Int, ns.length ≤ B ∧ (∀ n ∈ ns, (Lit.int k n).wf = true) ∧ Ar w v 1 ns.length (ns.map (Value.int k)) := by
  obtain ⟨els, h1, h2, h3⟩ := ar_open r (by omega)
  obtain ⟨ns, n1, n2, n3⟩ := ints_of els h1
  rw [← n1, n2] at h3
  exact ⟨ns, by omega, n3, h3⟩
theorem ar_strs {w : World} {B : Nat} {v : Value} (r : Fr.RdV w B (.slice 1 .string) v) : ∃ ss : List ByteArray, ss.length ≤ B ∧ (∀ s ∈ ss, s.size ≤ B) ∧ Ar w v 1 ss.length (ss.map Value.string) := by
  obtain ⟨els, h1, h2, h3⟩ := ar_open r (by omega)
  obtain ⟨ns, n1, n2, n3⟩ := strs_of els h1
  rw [← n1, n2] at h3
  exact ⟨ns, by omega, n3, h3⟩
end Go.Proofs.Ytmddfpmchcmgiaa.Kt
/- slices.Clone and slices.Equal of texts, walked. -/
namespace Go.Proofs.Ytmddfpmchcmgiaa
open Go.RowKit
theorem infoS : (Try.prog.info? 9).map (fun i => (i.zero, i.size, i.bytes)) = some (some (.string ByteArray.empty), 1, 16) := by kernel_rfl
def sts (l : List ByteArray) : List Value := l.map Value.string
theorem sts_len (a : List ByteArray) : (sts a).length = a.length := by simp [sts]
theorem sts_app (a b : List ByteArray) : sts (a ++ b) = sts a ++ sts b := by simp [sts]
theorem sts_one (l : List ByteArray) : ∀ u ∈ sts l, u.oneCell' = true := by
  intro u hu
  obtain ⟨c, _, rfl⟩ := List.mem_map.1 hu
  rfl
theorem bdrewN {B : Nat} {a w : World} (h : Below B a w) (n : Nat) : Below B a (w.drewN n) := ⟨h.os, h.tape, h.output, h.size, h.block⟩
theorem Kt.Sl.set {w : World} {B e sz n : Nat} {v : Value} {xs : List Value} (h : Kt.Sl w B e sz v n xs) {p : Addr} (hne : ∀ k, v.ownBlock = some k → k ≠ p.block) (u : Value) : Kt.Sl (w.setCell p u) B e sz v n xs :=
  h.keep fun k hk => heap_setCell_other _ _ _ _ (hne k hk)
theorem Kt.Ar.of_sl {w : World} {B e sz n : Nat} {v : Value} {xs : List Value} (h : Kt.Sl w B e sz v n xs) : Kt.Ar w v sz n xs := by
  refine ⟨h.1, ?_⟩
  rcases h.2 with ⟨rfl, rfl⟩ | ⟨g, o, cap, cur, rfl, hb, hg, hn, hc, hs, hx⟩
  · exact ⟨none, 0, rfl, Nat.le_refl _, fun h => absurd h (by omega)⟩
  · exact ⟨_, cap, rfl, hn, fun _ => ⟨g, o, rfl, (Array.getElem?_eq_some_iff.1 hg).1, fun j hj => (cell_of_row w g (o + j) cur e (0, 0) hg).trans (hx j _ (List.getElem?_eq_getElem hj))⟩⟩
set_option maxHeartbeats 800000 in
theorem clone_calls (v : Value) (n : Nat) (xs : List Value) (w : World) (h : Kt.Ar w v 1 n xs) (h1 : ∀ u ∈ xs, u.oneCell' = true) (hn : n ≤ 8796093022208) :
    Calls Try.prog 18 #[v] w fun e w' => ∃ A c, e = .returned (.slice A n c) ∧ Kt.Sl w' w.heap.size 9 1 (.slice A n c) n xs ∧ Below w.heap.size w w' := by
  have qT : ∀ (w : World) (a : Option Addr) (n c n' c' : Nat), (binOp .eql 29 (.slice a n c) (.slice none n' c')).run Try.prog w = .ok (.bool a.isNone) w := fun w a n c n' c' => Lib.run_eql_slice_nil w _ _ a n c n' c' Try.underlying29
  obtain ⟨A, c, rfl, hnc, hx⟩ := h.form
  have hlen := h.len
  cases A with
  | none =>
    have hn0 : n = 0 := by
      rcases Nat.eq_zero_or_pos n with h0 | h0
      · exact h0
      · obtain ⟨b, o, e, _⟩ := hx h0; cases e
    subst hn0
    obtain rfl : xs = [] := List.eq_nil_of_length_eq_zero (by simpa using hlen)
    go_enter Try.func18, Try.ntmps18
    go_wp2
    go_ret
    exact ⟨none, 0, rfl, Kt.Sl.nil _ _ _ _, Below.refl _ _⟩
  | some ad =>
    have hnews : ∀ j u, xs[j]? = some u → (w.alloc (.cells #[] 9)).cell? (ad.add j) = some u := by
      intro j u hj
      obtain ⟨hj1, hj2⟩ := List.getElem?_eq_some_iff.1 hj
      obtain ⟨b, o, e, hb, hc⟩ := hx (by omega)
      injection e with e
      subst e
      rw [Addr.add_lit, World.cell?_alloc_lt _ _ _ (by exact hb), hc j hj1, hj2]
    have hs0 : Kt.Sl (w.alloc (.cells #[] 9)) w.heap.size 9 1 (.slice (some ⟨w.heap.size, 0, none⟩) 0 0) 0 [] :=
      ⟨rfl, .inr ⟨w.heap.size, 0, 0, #[], rfl, Nat.le_refl _, heap_alloc_new w _, Nat.le_refl _, by simp [maxLen], by simp, fun j u hj => by simp at hj⟩⟩
    go_enter Try.func18, Try.ntmps18
    go_wp2_with (
      refine Kt.append_sl _ (by rfl) (.tmp 5) (.tmp 6) 29 rfl w.heap.size 9 (.string ByteArray.empty) 1 16 infoS Try.underlying29 rfl (by decide) _ 0 [] rfl hs0 ad n c xs rfl hlen hnews h1 (by unfold maxLen; omega) (by omega) (by rw [World.size_alloc]; omega) ?_
      intro A' c' w1 hs1 hb1 hz1 hk1 hl1
      clear hk1 hl1 hs0 hnews hx)
    go_ret
    rw [Nat.zero_add] at hs1
    exact ⟨A', c', rfl, hs1, ((Below.refl _ w).alloc (Nat.le_refl _) _).trans hb1⟩
theorem str_ne {x y : ByteArray} (h : x ≠ y) : (x.toList == y.toList) = false := by
  rw [beq_eq_false_iff_ne, ByteArray.toList_eq, ByteArray.toList_eq]
  intro e
  exact h (Kt.bytes_eq e)
theorem eq_lists {ls ms : List ByteArray} (hl : ls.length = ms.length) : decide (ls = ms) = true ↔ ∀ j (h1 : j < ls.length) (h2 : j < ms.length), ls[j] = ms[j] := by
  rw [decide_eq_true_iff]
  constructor
  · rintro rfl j _ _; rfl
  · intro h; exact List.ext_getElem hl h
set_option maxHeartbeats 800000 in
theorem equal_len (u v : Value) (ls ms : List ByteArray) (w : World) (ha : Kt.Ar w u 1 ls.length (sts ls)) (hb : Kt.Ar w v 1 ms.length (sts ms)) (hl : ((ls.length : Int) != ms.length) = true) :
    Calls Try.prog 43 #[u, v] w fun e w' => e = .returned (.bool false) ∧ Below w.heap.size w w' := by
  obtain ⟨A, c, rfl, _, _⟩ := ha.form
  obtain ⟨A', c', rfl, _, _⟩ := hb.form
  go_enter Try.func43, Try.ntmps43
  go_wp2_with fail
  go_ret
  exact ⟨rfl, Below.refl _ _⟩
set_option maxHeartbeats 800000 in
theorem equal_same (u v : Value) (ls ms : List ByteArray) (w : World) (ha : Kt.Ar w u 1 ls.length (sts ls)) (hb : Kt.Ar w v 1 ls.length (sts ms)) (hl : ls.length = ms.length) (hm : ls.length ≤ 140737488355328) :
    Calls Try.prog 43 #[u, v] w fun e w' => e = .returned (.bool (decide (ls = ms))) ∧ Below w.heap.size w w' := by
  obtain ⟨A, c, rfl, _, hxa⟩ := ha.form
  obtain ⟨A', c', rfl, _, hxb⟩ := hb.form
  have HL := Lib.hid hl
  have HM := Lib.hid hm
  generalize hn : ls.length = n at *
  have HN := Lib.hid hn; clear hn hl ha hb
  go_enter Try.func43, Try.ntmps43
  go_wp2_with fail
  go_loopw [13] (fun i wr => ∃ k : Nat, k ≤ n ∧ i = .int .i64 k ∧ (∀ j (h1 : j < ls.length) (h2 : j < ms.length), j < k → ls[j] = ms[j]) ∧ Below w.heap.size w wr) (fun i _ => n - (intOf i).toNat)
  case atStart => exact ⟨0, Nat.zero_le _, rfl, fun j _ _ h => absurd h (by omega), Below.refl _ _⟩
  case round =>
    obtain ⟨k, hk, rfl, hpre, hbel⟩ := hrel
    have HP := Lib.hid hpre; clear hpre
    have hkm : k ≤ 140737488355328 := by have := HM.out; omega
    by_cases hlt : k < n
    · obtain ⟨b, o, rfl, hb, hc⟩ := hxa (by omega)
      obtain ⟨b', o', rfl, hb', hc'⟩ := hxb (by omega)
      have h1 : k < ls.length := by have := HN.out; omega
      have h2 : k < ms.length := by have := HN.out; have := HL.out; omega
      have hcell : wr.cell? ⟨b, o + k, none⟩ = some (.string ls[k]) := (hbel.cell (p := ⟨b, o + k, none⟩) hb).trans ((hc k (by rw [sts_len]; exact h1)).trans (by simp [sts]))
      have hcell' : wr.cell? ⟨b', o' + k, none⟩ = some (.string ms[k]) := (hbel.cell (p := ⟨b', o' + k, none⟩) hb').trans ((hc' k (by rw [sts_len]; exact h2)).trans (by simp [sts]))
      clear hxa hxb hc hc'
      generalize hx : ls[k] = x at *
      generalize hy : ms[k] = y at *
      have HX := Lib.hid hx; have HY := Lib.hid hy; clear hx hy
      have b1 : (0 : Int) ≤ k := by omega
      have b2 : (k : Int) < n := by omega
      by_cases he : x = y
      · subst he
        go_wp2_with fail
        go_quiet (fail)
        go_wp2
        go_roundw
        case rel =>
          refine ⟨k + 1, by omega, by go_num, fun j a b hj => ?_, bdrewN hbel _⟩
          by_cases hjk : j = k
          · subst hjk; exact HX.out.trans HY.out.symm
          · exact HP.out j a b (by omega)
        case measure => simp [intOf]; omega
      · have e0 := str_ne he
        have HNE := Lib.hid he; clear he
        go_wp2_with fail
        go_quiet (fail)
        go_wp2
        go_ret
        refine ⟨?_, bdrewN hbel _⟩
        have : decide (ls = ms) = false := by
          rw [decide_eq_false_iff_not]
          rintro rfl
          exact HNE.out (HX.out.symm.trans HY.out)
        rw [this]; rfl
    · obtain rfl : k = n := by omega
      go_wp2
      go_ret
      have : decide (ls = ms) = true := (eq_lists (HN.out.trans HL.out)).2 fun j a b => HP.out j a b (by have := HN.out; omega)
      rw [this]
      exact ⟨rfl, hbel⟩
end Go.Proofs.Ytmddfpmchcmgiaa
/- More on slices of the call's own: other stores, a store into them, what they read as. -/
namespace Go.Proofs.Ytmddfpmchcmgiaa
open Go.RowKit
theorem Kt.Sl.low {w : World} {B e sz n : Nat} {v : Value} {xs : List Value} (h : Kt.Sl w B e sz v n xs) {p : Addr} (hp : p.block < B) (u : Value) : Kt.Sl (w.setCell p u) B e sz v n xs :=
  h.set (fun k hk => by have := (h.lt k hk).1; omega) u
theorem Kt.Sl.put {w : World} {B e sz n g o cap : Nat} {xs : List Value} (h : Kt.Sl w B e sz (.slice (some ⟨g, o, none⟩) n cap) n xs) (j : Nat) (hj : j < n * sz) (u : Value) :
    Kt.Sl (w.setCell ⟨g, o + j, none⟩ u) B e sz (.slice (some ⟨g, o, none⟩) n cap) n (xs.set j u) := by
  refine ⟨by rw [List.length_set]; exact h.1, .inr ?_⟩
  rcases h.2 with ⟨hv, _⟩ | ⟨g', o', cap', cur, hv, hb, hg, hn, hc, hs, hx⟩
  · cases hv
  · cases hv
    have hjc : j < cap * sz := Nat.lt_of_lt_of_le hj (Nat.mul_le_mul_right _ hn)
    refine ⟨g, o, cap, cur.setIfInBounds (o + j) u, rfl, hb, heap_setCell_same _ _ _ _ _ _ hg, hn, hc, by simpa using hs, fun i v hi => ?_⟩
    rw [List.getElem?_set] at hi
    by_cases hij : j = i
    · subst hij
      rw [if_pos rfl] at hi
      split at hi
      · injection hi with hi; subst hi
        rw [Array.getElem?_setIfInBounds_self_of_lt (by omega)]
      · cases hi
    · rw [if_neg hij] at hi
      rw [Array.getElem?_setIfInBounds_ne (by omega)]
      exact hx i v hi
/-- a row that is known stays so as the world grows -/
theorem Kt.row_on {w w' : World} {b : Nat} {cs : Array Value} {t : TypeId} (hb : Below w.heap.size w w') (h : w.heap[b]? = some (.cells cs t (0, 0))) : w'.heap[b]? = some (.cells cs t (0, 0)) :=
  (hb.block b (Array.getElem?_eq_some_iff.1 h).1).trans h
/-- the boxes that were made ahead of a call that made memory -/
theorem Kt.box1 {w w1 : World} {c : Array Value} {t : TypeId} (hb : Below (w.alloc (.cells c t)).heap.size (w.alloc (.cells c t)) w1) : w1.heap[w.heap.size]? = some (.cells c t (0, 0)) :=
  Kt.row_on hb (heap_alloc_new w _)
theorem Kt.box2 {w w1 : World} {c d : Array Value} {t u : TypeId} (hb : Below ((w.alloc (.cells c t)).alloc (.cells d u)).heap.size ((w.alloc (.cells c t)).alloc (.cells d u)) w1) :
    w1.heap[w.heap.size]? = some (.cells c t (0, 0)) ∧ w1.heap[w.heap.size + 1]? = some (.cells d u (0, 0)) :=
  ⟨Kt.row_on hb ((Below.heap_alloc _ _ _ (by simp)).trans (heap_alloc_new w _)), Kt.row_on hb ((congrArg _ (by simp)).trans (heap_alloc_new (w.alloc _) _))⟩
/-- the world by a name of its own, and what is known of it -/
theorem Kt.fold {P : Program} {c : Code} {Q : Exit → Act → World → Prop} {a : Act} {w : World} (R : World → Prop) (h : R w) (k : ∀ W, R W → c.wp P Q a W) : c.wp P Q a w := k w h
theorem Kt.foldC {P : Program} {f : FuncId} {vs : Array Value} {w : World} {R : Ending → World → Prop} (F : World → Prop) (h : F w) (k : ∀ W, F W → Calls P f vs W R) : Calls P f vs w R := k w h
/-- a block that is stored whole -/
theorem Kt.fill {w : World} {b : Nat} {cur : Array Value} {t : TypeId} (news : List Value) (h : w.heap[b]? = some (.cells cur t (0, 0))) (hl : news.length = cur.size) : (w.setCells b 0 news).heap[b]? = some (.cells news.toArray t (0, 0)) := by
  obtain ⟨cur', h1, h2, _, h4⟩ := Kt.setCells_row (e := t) news b 0 w cur h (by omega)
  rw [h1]
  have : cur' = news.toArray := by
    apply Array.ext_getElem?
    intro i
    by_cases hi : i < news.length
    · have := h4 i news[i] (List.getElem?_eq_getElem hi)
      rw [Nat.zero_add] at this
      simp [this, hi]
    · rw [Array.getElem?_eq_none (by omega), Array.getElem?_eq_none (by simp; omega)]
  rw [this]
theorem Kt.Sl.sets {w : World} {B e sz n : Nat} {v : Value} {xs : List Value} (h : Kt.Sl w B e sz v n xs) (news : List Value) (g off : Nat) (hne : ∀ k, v.ownBlock = some k → k ≠ g) : Kt.Sl (w.setCells g off news) B e sz v n xs :=
  h.keep fun k hk => Kt.setCells_other _ _ _ _ _ (hne k hk)
theorem Kt.Sl.put' {w : World} {B e sz n g o cap a : Nat} {xs : List Value} (h : Kt.Sl w B e sz (.slice (some ⟨g, o, none⟩) n cap) n xs) (j : Nat) (ha : a = o + j) (hj : j < n * sz) (u : Value) :
    Kt.Sl (w.setCell ⟨g, a, none⟩ u) B e sz (.slice (some ⟨g, o, none⟩) n cap) n (xs.set j u) := by subst ha; exact h.put j hj u
theorem Kt.sl_cell {w : World} {B e sz n g o cap : Nat} {xs : List Value} (h : Kt.Sl w B e sz (.slice (some ⟨g, o, none⟩) n cap) n xs) (j : Nat) (u : Value) (hj : xs[j]? = some u) : w.cell? ⟨g, o + j, none⟩ = some u := by
  rcases h.2 with ⟨hv, _⟩ | ⟨g', o', cap', cur, hv, hb, hg, hn, hc, hs, hx⟩
  · cases hv
  · cases hv
    exact (cell_of_row w g (o + j) cur e (0, 0) hg).trans (hx j u hj)
theorem Kt.sl_free {w : World} {B e sz n g o cap : Nat} {xs : List Value} (h : Kt.Sl w B e sz (.slice (some ⟨g, o, none⟩) n cap) n xs) (j : Nat) : w.frozen? ⟨g, j, none⟩ = false := by
  rcases h.2 with ⟨hv, _⟩ | ⟨g', o', cap', cur, hv, hb, hg, hn, hc, hs, hx⟩
  · cases hv
  · cases hv
    exact frozen_of_row w g j cur e hg
theorem Kt.fillA {w : World} {b : Nat} {cur : Array Value} {t : TypeId} (news : List Value) (h : w.heap[b]? = some (.cells cur t (0, 0))) (hl : news.length = cur.size) (o : Obj) : ((w.setCells b 0 news).alloc o).heap[b]? = some (.cells news.toArray t (0, 0)) :=
  (Below.heap_alloc _ _ _ (by rw [Kt.setCells_size]; exact (Array.getElem?_eq_some_iff.1 h).1)).trans (Kt.fill news h hl)
theorem Kt.otherA {w : World} {b off k : Nat} {x : Obj} (news : List Value) (h : w.heap[k]? = some x) (hk : k ≠ b) (o : Obj) : ((w.setCells b off news).alloc o).heap[k]? = some x :=
  (Below.heap_alloc _ _ _ (by rw [Kt.setCells_size]; exact (Array.getElem?_eq_some_iff.1 h).1)).trans ((Kt.setCells_other _ _ _ _ _ hk).trans h)
theorem Kt.newA {w : World} {b off : Nat} (news : List Value) (c : Array Value) (t : TypeId) : ((w.setCells b off news).alloc (.cells c t)).heap[w.heap.size]? = some (.cells c t (0, 0)) := by
  have := heap_alloc_new (w.setCells b off news) (.cells c t)
  rwa [Kt.setCells_size] at this
theorem Kt.Ar.new (w : World) (cs : Array Value) (e : TypeId) (n sz : Nat) (h : cs.size = n * sz) : Kt.Ar (w.alloc (.cells cs e)) (.slice (some ⟨w.heap.size, 0, none⟩) n n) sz n cs.toList := by
  refine ⟨by simpa using h, _, n, rfl, Nat.le_refl _, fun _ => ⟨w.heap.size, 0, rfl, by simp, fun j hj => ?_⟩⟩
  have := Kt.new_cells w cs e j cs.toList[j] (List.getElem?_eq_getElem hj)
  rwa [Addr.add_lit] at this
theorem Kt.new_cells' (w : World) (cs : Array Value) (e : TypeId) (H : Nat) (hH : w.heap.size = H) : ∀ j u, cs.toList[j]? = some u → (w.alloc (.cells cs e)).cell? ((⟨H, 0, none⟩ : Addr).add j) = some u := by subst hH; exact Kt.new_cells w cs e
theorem Kt.Ar.new' (w : World) (cs : Array Value) (e : TypeId) (n sz H : Nat) (hH : w.heap.size = H) (h : cs.size = n * sz) : Kt.Ar (w.alloc (.cells cs e)) (.slice (some ⟨H, 0, none⟩) n n) sz n cs.toList := by subst hH; exact Kt.Ar.new w cs e n sz h
end Go.Proofs.Ytmddfpmchcmgiaa
/- Regions that draw their order and store at their end: what holds of the world till the store has come up. -/
namespace Go.Proofs.Ytmddfpmchcmgiaa.Kt
open Go.RowKit
section
variable {P : Program} {ops : Array Oper} {Q : Exit → Act → World → Prop} {md : Region.Mode} {F : World → Prop} {st : Nat}
/-- whatever order is picked from here on, and F holds behind every operation that is carried out, till number st has come up -/
def wpG (P : Program) (md : Region.Mode) (ops : Array Oper) (Q : Exit → Act → World → Prop) (st : Nat) (F : World → Prop) : Nat → Array Bool → Act → World → Prop
  | 0, listed, a, w => Region.ready md ops listed = [] ∧ Q .normal a w
  | fuel + 1, listed, a, w =>
    (Region.ready md ops listed = [] → Q .normal a w) ∧
    ∀ i ∈ Region.ready md ops listed, wpOp P ops Q i (fun a' w' => ((listed.setIfInBounds i true).getD st true = false → F w') ∧ wpG P md ops Q st F fuel (listed.setIfInBounds i true) a' w') a w
theorem wpAny_of_G : ∀ (fuel : Nat) (listed : Array Bool) (a : Act) (w : World), wpG P md ops Q st F fuel listed a w → wpAny P md ops Q fuel listed a w
  | 0, _, _, _, h => h
  | fuel + 1, _, _, _, h => ⟨h.1, fun i hi => wpOp_mono (fun a' w' h' => wpAny_of_G fuel _ a' w' h'.2) (h.2 i hi)⟩
def waits (md : Region.Mode) (ops : Array Oper) (st i : Nat) : Bool := match ops[st]? with
  | none => false
  | some o => o.after.any fun e => Region.binds md e && e.on == i
/-- number i must come up ahead of st, by one edge or by several -/
def reachB (md : Region.Mode) (ops : Array Oper) : Nat → Nat → Nat → Bool
  | 0, _, _ => false
  | fuel + 1, st, i => match ops[st]? with
    | none => false
    | some o => o.after.any fun e => Region.binds md e && (e.on == i || reachB md ops fuel e.on i)
def Closed (md : Region.Mode) (ops : Array Oper) (listed : Array Bool) : Prop := ∀ j oj, ops[j]? = some oj → listed.getD j true = true → ∀ e ∈ oj.after, Region.binds md e = true → listed.getD e.on true = true
def closedB (md : Region.Mode) (ops : Array Oper) (listed : Array Bool) : Bool := (List.range ops.size).all fun j => match ops[j]? with
  | none => true
  | some oj => !listed.getD j true || oj.after.all fun e => !Region.binds md e || listed.getD e.on true
theorem closed_of {listed : Array Bool} (h : closedB md ops listed = true) : Closed md ops listed := by
  intro j oj hj hl e he hb
  have hlt := (Array.getElem?_eq_some_iff.1 hj).1
  have := List.all_eq_true.1 h j (List.mem_range.2 hlt)
  rw [hj] at this
  simp only [hl, Bool.not_true, Bool.false_or, Array.all_eq_true'] at this
  have := this e he
  simpa [hb] using this
theorem closed_reach {listed : Array Bool} (hc : Closed md ops listed) : ∀ (fuel st i : Nat) (o : Oper), ops[st]? = some o → (∀ e ∈ o.after, Region.binds md e = true → listed.getD e.on true = true) → reachB md ops fuel st i = true → listed.getD i true = true
  | 0, _, _, _, _, _, h => by simp [reachB] at h
  | fuel + 1, st, i, o, ho, hall, h => by
    unfold reachB at h
    rw [ho] at h
    obtain ⟨e, he, hb⟩ := Array.any_eq_true'.1 h
    simp only [Bool.and_eq_true, Bool.or_eq_true, beq_iff_eq] at hb
    rcases hb.2 with h1 | h1
    · rw [← h1]; exact hall e he hb.1
    · cases fuel with
      | zero => simp [reachB] at h1
      | succ fuel =>
        have h1' := h1
        unfold reachB at h1'
        split at h1'
        · cases h1'
        · rename_i oe hoe
          exact closed_reach hc (fuel + 1) e.on i oe hoe (hc e.on oe hoe (hall e he hb.1)) h1
theorem closed_step {listed : Array Bool} (hc : Closed md ops listed) {j : Nat} {oj : Oper} (hj : ops[j]? = some oj) (hall : ∀ e ∈ oj.after, Region.binds md e = true → listed.getD e.on true = true) : Closed md ops (listed.setIfInBounds j true) := by
  have up : ∀ k, listed.getD k true = true → (listed.setIfInBounds j true).getD k true = true := fun k hk => by
    by_cases e : j = k
    · subst e
      by_cases hs : j < listed.size
      · simp [hs]
      · simp [hs]
    · rw [getD_set_ne true e]; exact hk
  intro k ok hk hl e he hb
  by_cases ejk : j = k
  · subst ejk
    obtain rfl : ok = oj := by rw [hj] at hk; exact (Option.some.inj hk).symm
    exact up _ (hall e he hb)
  · rw [getD_set_ne true ejk] at hl
    exact up _ (hc k ok hk hl e he hb)
theorem getD_ft {l : Array Bool} {i : Nat} (h : l.getD i false = true) : l.getD i true = true := by
  by_cases hi : i < l.size
  · simpa [hi] using h
  · simp [hi]
theorem wpG_first {i : Nat} {oi : Oper} {v : Value} (hi : ops[i]? = some oi) (hsel : ∀ (j : Nat) (o : Oper) cs b, ops[j]? = some o → o.op ≠ .select cs b)
    (hQ : ∀ c a w, Q (.panic c) (a.put oi.dst v) w → Q (.panic c) a w) (hne : st ≠ i) {far : Nat} (hwt : reachB md ops far st i = true) :
    ∀ (fuel : Nat) (listed : Array Bool) (a : Act) (w : World), Closed md ops listed →
      (∀ j oj, ops[j]? = some oj → j ≠ i → listed.getD j true = false → (∀ e ∈ oj.after, Region.binds md e = true → e.on ≠ i) → oi.apart ops oj = true) →
      i ∈ Region.ready md ops listed → YieldsIf P ops F oi v a → F w → listed.getD st true = false →
      wpG P md ops Q st F fuel (listed.setIfInBounds i true) (a.put oi.dst v) w → wpG P md ops Q st F (fuel + 1) listed a w := by
  intro fuel
  induction fuel with
  | zero =>
    intro listed a w _ _ hr hy hS hst H
    refine ⟨fun h => (by rw [h] at hr; cases hr), fun j hj => ?_⟩
    by_cases hji : j = i
    · subst hji; exact hy.wpOp hi hS ⟨fun _ => hS, H⟩
    · have := ready_mono hj hji
      rw [H.1] at this
      cases this
  | succ fuel ih =>
    intro listed a w hcl hfree hr hy hS hst H
    refine ⟨fun h => (by rw [h] at hr; cases hr), fun j hj => ?_⟩
    by_cases hji : j = i
    · subst hji; exact hy.wpOp hi hS ⟨fun _ => hS, H⟩
    · have h1 := H.2 j (ready_mono hj hji)
      obtain ⟨hjun, oj, hoj, hall⟩ := mem_ready.1 hj
      have hnot : ∀ e ∈ oj.after, Region.binds md e = true → e.on ≠ i := fun e he hb heq => by
        have h1 := hall e he hb
        have h0 := (mem_ready.1 hr).1
        rw [heq] at h1
        rcases Nat.lt_or_ge i listed.size with h' | h'
        · simp [h'] at h0 h1; rw [h0] at h1; cases h1
        · simp [Array.getElem?_eq_none h'] at h1
      have hjs : j ≠ st := by
        rintro rfl
        have := closed_reach hcl far j i oj hoj (fun e he hb => getD_ft (hall e he hb)) hwt
        rw [(mem_ready.1 hr).1] at this; cases this
      have h2 := wpOp_putIf hoj (hfree j oj hoj hji hjun hnot) (fun cs b => hsel i oi cs b hi) (fun cs b => hsel j oj cs b hoj) hQ hy h1
      have hfree' : ∀ k ok, ops[k]? = some ok → k ≠ i → (listed.setIfInBounds j true).getD k true = false →
          (∀ e ∈ ok.after, Region.binds md e = true → e.on ≠ i) → oi.apart ops ok = true := fun k ok hk hki hun hno => by
        refine hfree k ok hk hki ?_ hno
        by_cases hjk : j = k
        · subst hjk; exact hjun
        · rw [getD_set_ne true hjk] at hun; exact hun
      have hst1 : (listed.setIfInBounds j true).getD st true = false := by rw [getD_set_ne true hjs]; exact hst
      have hst2 : ((listed.setIfInBounds i true).setIfInBounds j true).getD st true = false := by rw [getD_set_ne true hjs, getD_set_ne true (Ne.symm hne)]; exact hst
      refine wpOp_mono (fun a' w' h3 => ⟨fun _ => h3.2.1 hst2, ih (listed.setIfInBounds j true) a' w' (closed_step hcl hoj fun e he hb => getD_ft (hall e he hb)) hfree' (ready_mono hr (Ne.symm hji)) h3.1 (h3.2.1 hst2) hst1 ?_⟩) h2
      rw [Array.setIfInBounds_comm _ _ hji]
      exact h3.2.2
theorem wpG_firstP {i : Nat} {oi : Oper} {v : Value} (hi : ops[i]? = some oi) (hsel : ∀ (j : Nat) (o : Oper) cs b, ops[j]? = some o → o.op ≠ .select cs b)
    (hQ : ∀ c a w, Q (.panic c) (a.put oi.dst v) w → Q (.panic c) a w) (hne : st ≠ i) :
    ∀ (fuel : Nat) (listed : Array Bool) (a : Act) (w : World),
      (∀ j oj, ops[j]? = some oj → j ≠ i → listed.getD j true = false → (∀ e ∈ oj.after, Region.binds md e = true → e.on ≠ i) → oi.apart ops oj = true) →
      i ∈ Region.ready md ops listed → YieldsIf P ops (fun _ => True) oi v a → (listed.getD st true = false → F w) →
      wpG P md ops Q st F fuel (listed.setIfInBounds i true) (a.put oi.dst v) w → wpG P md ops Q st F (fuel + 1) listed a w := by
  intro fuel
  induction fuel with
  | zero =>
    intro listed a w _ hr hy hS H
    refine ⟨fun h => (by rw [h] at hr; cases hr), fun j hj => ?_⟩
    by_cases hji : j = i
    · subst hji; exact hy.wpOp hi trivial ⟨fun h => hS (by rw [getD_set_ne true (Ne.symm hne)] at h; exact h), H⟩
    · have := ready_mono hj hji
      rw [H.1] at this
      cases this
  | succ fuel ih =>
    intro listed a w hfree hr hy hS H
    refine ⟨fun h => (by rw [h] at hr; cases hr), fun j hj => ?_⟩
    by_cases hji : j = i
    · subst hji; exact hy.wpOp hi trivial ⟨fun h => hS (by rw [getD_set_ne true (Ne.symm hne)] at h; exact h), H⟩
    · have h1 := H.2 j (ready_mono hj hji)
      obtain ⟨hjun, oj, hoj, hall⟩ := mem_ready.1 hj
      have hnot : ∀ e ∈ oj.after, Region.binds md e = true → e.on ≠ i := fun e he hb heq => by
        have h1 := hall e he hb
        have h0 := (mem_ready.1 hr).1
        rw [heq] at h1
        rcases Nat.lt_or_ge i listed.size with h' | h'
        · simp [h'] at h0 h1; rw [h0] at h1; cases h1
        · simp [Array.getElem?_eq_none h'] at h1
      have h2 := wpOp_putIf hoj (hfree j oj hoj hji hjun hnot) (fun cs b => hsel i oi cs b hi) (fun cs b => hsel j oj cs b hoj) hQ hy h1
      have hfree' : ∀ k ok, ops[k]? = some ok → k ≠ i → (listed.setIfInBounds j true).getD k true = false →
          (∀ e ∈ ok.after, Region.binds md e = true → e.on ≠ i) → oi.apart ops ok = true := fun k ok hk hki hun hno => by
        refine hfree k ok hk hki ?_ hno
        by_cases hjk : j = k
        · subst hjk; exact hjun
        · rw [getD_set_ne true hjk] at hun; exact hun
      have hkeep : ∀ w', (((listed.setIfInBounds i true).setIfInBounds j true).getD st true = false → F w') → (listed.setIfInBounds j true).getD st true = false → F w' := fun w' h0 h1 => h0 (by
        rw [Array.setIfInBounds_comm _ _ (Ne.symm hji), getD_set_ne true (Ne.symm hne)]; exact h1)
      refine wpOp_mono (fun a' w' h3 => ⟨hkeep w' h3.2.1, ih (listed.setIfInBounds j true) a' w' hfree' (ready_mono hr (Ne.symm hji)) h3.1 (hkeep w' h3.2.1) ?_⟩) h2
      rw [Array.setIfInBounds_comm _ _ hji]
      exact h3.2.2
/-- what looks into no world is taken first -/
theorem G.takeP (i : Nat) (oi : Oper) (v : Value) {fuel : Nat} {listed : Array Bool} {a : Act} {w : World} (hF : listed.getD st true = false → F w) (hi : ops[i]? = some oi)
    (hb : (Region.noSelect ops && Region.free md ops listed i && (Region.ready md ops listed).contains i && (st != i)) = true)
    (hQ : ∀ c a w, Q (.panic c) (a.put oi.dst v) w → Q (.panic c) a w) (hw : Region.wanted oi (yielded ops a.tmps) = true) (hy : ∀ w, (execOp a.eval oi).run P w = .ok (.value v) w)
    (h : wpG P md ops Q st F fuel (listed.setIfInBounds i true) (a.put oi.dst v) w) : wpG P md ops Q st F (fuel + 1) listed a w := by
  simp only [Bool.and_eq_true, bne_iff_ne, ne_eq] at hb
  obtain ⟨⟨⟨hs, hf⟩, hr⟩, hne⟩ := hb
  exact wpG_firstP hi (Region.noSelect_spec hs) hQ hne fuel listed a w (Region.free_spec hi hf) (by simpa using hr) (.inl ⟨hw, fun w _ => hy w⟩) hF h
theorem G.late {b : Bool} {p : Prop} (h : b = true) : b = false → p := by intro h2; rw [h] at h2; cases h2
/-- number i, which the store waits for, is taken first -/
theorem G.take (i : Nat) (oi : Oper) (v : Value) {fuel : Nat} {listed : Array Bool} {a : Act} {w : World} (hF : F w) (hi : ops[i]? = some oi)
    (hb : (Region.noSelect ops && Region.free md ops listed i && (Region.ready md ops listed).contains i && (st != i) && (closedB md ops listed && reachB md ops ops.size st i) && !listed.getD st true) = true)
    (hQ : ∀ c a w, Q (.panic c) (a.put oi.dst v) w → Q (.panic c) a w) (hw : Region.wanted oi (yielded ops a.tmps) = true) (hy : ∀ w, F w → (execOp a.eval oi).run P w = .ok (.value v) w)
    (h : wpG P md ops Q st F fuel (listed.setIfInBounds i true) (a.put oi.dst v) w) : wpG P md ops Q st F (fuel + 1) listed a w := by
  simp only [Bool.and_eq_true, bne_iff_ne, ne_eq, Bool.not_eq_true'] at hb
  obtain ⟨⟨⟨⟨⟨hs, hf⟩, hr⟩, hne⟩, hcl, hwt⟩, hst⟩ := hb
  exact wpG_first hi (Region.noSelect_spec hs) hQ hne hwt fuel listed a w (closed_of hcl) (Region.free_spec hi hf) (by simpa using hr) (.inl ⟨hw, hy⟩) hF hst h
/-- a load of a whole row -/
theorem G.load_row (i : Nat) (oi : Oper) (ty : TypeId) (x : Operand) (g : Nat) (ty' : TypeId) (cs : Array Value) (d : TypeDesc) {fuel : Nat} {listed : Array Bool} {a : Act} {w : World} (hF : F w) (hi : ops[i]? = some oi)
    (hb : (Region.noSelect ops && Region.free md ops listed i && (Region.ready md ops listed).contains i && (st != i) && (closedB md ops listed && reachB md ops ops.size st i) && !listed.getD st true) = true)
    (hQ : ∀ c a w, Q (.panic c) (a.put oi.dst (.agg cs)) w → Q (.panic c) a w) (hw : Region.wanted oi (yielded ops a.tmps) = true) (ho : oi.op = .load ty x) (hx : a.eval x = .pointer (some ⟨g, 0, none⟩))
    (hg : ∀ w, F w → w.heap[g]? = some (.cells cs ty' (0, 0))) (hu : P.underlying ty = some d) (hd : d.isRow = true) (hsz : (P.info? ty).map (·.size) = some cs.size)
    (h : wpG P md ops Q st F fuel (listed.setIfInBounds i true) (a.put oi.dst (.agg cs)) w) : wpG P md ops Q st F (fuel + 1) listed a w :=
  G.take i oi (.agg cs) hF hi hb hQ hw (fun w' hF' => by
    unfold execOp
    simp only [ho, hx, Instr.loadAt, Instr.sureAddr, Sem.run_bind, Sem.run_pure, Result.andThen_ok]
    rw [run_loadVar_row w' g ty' ty cs (0, 0) d (hg w' hF') hu (by cases d <;> simp_all [TypeDesc.isRow]) hsz]; rfl) h
/-- one operation alone may come up -/
theorem G.one (i : Nat) (o : Oper) {fuel : Nat} {listed : Array Bool} {a : Act} {w : World} (ho : ops[i]? = some o) (hr : Region.ready md ops listed = [i]) (hw : Region.wanted o (yielded ops a.tmps) = true)
    (h : ∀ K : Act → World → Prop, Shut (∀ a w, ((listed.setIfInBounds i true).getD st true = false → F w) → (((listed.setIfInBounds i true).getD st true = false → F w) → wpG P md ops Q st F fuel (listed.setIfInBounds i true) a w) → K a w) → Oper.wp P o a w K Q) :
    wpG P md ops Q st F (fuel + 1) listed a w := by
  refine ⟨fun h0 => absurd (hr ▸ h0) (by simp), fun j hj => ?_⟩
  rw [hr] at hj
  obtain rfl : j = i := by simpa using hj
  exact wpOp_step ho (fun K' hK => by
    rw [if_pos hw]
    exact h K' (fun a w hS hW => hK a w ⟨hS, hW hS⟩))
/-- one of two comes up -/
theorem G.two (i j : Nat) (oi oj : Oper) {fuel : Nat} {listed : Array Bool} {a : Act} {w : World} (hi : ops[i]? = some oi) (hj : ops[j]? = some oj) (hr : Region.ready md ops listed = [i, j]) (wi : Region.wanted oi (yielded ops a.tmps) = true) (wj : Region.wanted oj (yielded ops a.tmps) = true)
    (h1 : ∀ K : Act → World → Prop, Shut (∀ a w, ((listed.setIfInBounds i true).getD st true = false → F w) → (((listed.setIfInBounds i true).getD st true = false → F w) → wpG P md ops Q st F fuel (listed.setIfInBounds i true) a w) → K a w) → Oper.wp P oi a w K Q)
    (h2 : ∀ K : Act → World → Prop, Shut (∀ a w, ((listed.setIfInBounds j true).getD st true = false → F w) → (((listed.setIfInBounds j true).getD st true = false → F w) → wpG P md ops Q st F fuel (listed.setIfInBounds j true) a w) → K a w) → Oper.wp P oj a w K Q) :
    wpG P md ops Q st F (fuel + 1) listed a w := by
  refine ⟨fun h0 => absurd (hr ▸ h0) (by simp), fun k hk => ?_⟩
  rw [hr] at hk
  rcases List.mem_cons.1 hk with rfl | hk
  · exact wpOp_step hi (fun K' hK => by
      rw [if_pos wi]
      exact h1 K' (fun a w hS hW => hK a w ⟨hS, hW hS⟩))
  · obtain rfl : k = j := by simpa using hk
    exact wpOp_step hj (fun K' hK => by
      rw [if_pos wj]
      exact h2 K' (fun a w hS hW => hK a w ⟨hS, hW hS⟩))
/-- more is known from here on -/
theorem G.more {F' : World → Prop} (hFF : ∀ w, F' w → F w) : ∀ (fuel : Nat) (listed : Array Bool) (a : Act) (w : World), wpG P md ops Q st F' fuel listed a w → wpG P md ops Q st F fuel listed a w
  | 0, _, _, _, h => h
  | fuel + 1, _, _, _, h => ⟨h.1, fun i hi => wpOp_mono (fun a' w' h' => ⟨fun e => hFF _ (h'.1 e), G.more hFF fuel _ a' w' h'.2⟩) (h.2 i hi)⟩
theorem G.done {listed : Array Bool} {a : Act} {w : World} (hr : Region.ready md ops listed = []) (h : Q .normal a w) : ∀ fuel, wpG P md ops Q st F fuel listed a w
  | 0 => ⟨hr, h⟩
  | _ + 1 => ⟨fun _ => h, by rw [hr]; simp⟩
/-- the beginning -/
theorem G.start (st : Nat) (F : World → Prop) {id : Nat} {a : Act} {w : World} (hm : P.follows .mixedOrders = true) (hF : F w.drew)
    (h : F w.drew → wpG P .any ops (NoPanic Q) st F ops.size (Array.replicate ops.size false) a w.drew) : (Code.region id ops true).wp P Q a w :=
  wp_region_noPanic (wp_region_any hm (wpAny_of_G _ _ _ _ (h hF)))
end
/-- cells that are known, of blocks that are there; below w0 nothing has turned -/
structure Fc (w0 : World) (cs : List (Nat × Nat × Value)) (w : World) : Prop where
  cell : ∀ c ∈ cs, c.1 < w.heap.size ∧ w.cell? ⟨c.1, c.2.1, none⟩ = some c.2.2
  bel : Below w0.heap.size w0 w
theorem Fc.on {w0 w w' : World} {cs : List (Nat × Nat × Value)} (h : Fc w0 cs w) (hb : Below w.heap.size w w') : Fc w0 cs w' :=
  ⟨fun c hc => ⟨Nat.lt_of_lt_of_le (h.cell c hc).1 hb.size, (hb.cell (p := ⟨c.1, c.2.1, none⟩) (h.cell c hc).1).trans (h.cell c hc).2⟩, bthen h.bel hb⟩
theorem Fc.alloc {w0 w : World} {cs : List (Nat × Nat × Value)} (h : Fc w0 cs w) (o : Obj) : Fc w0 cs (w.alloc o) := h.on (balloc (Below.refl _ w) o)
theorem Fc.drew {w0 w : World} {cs : List (Nat × Nat × Value)} (h : Fc w0 cs w) : Fc w0 cs w.drew := ⟨h.cell, h.bel.drew⟩
theorem Fc.add {w0 w : World} {cs : List (Nat × Nat × Value)} (h : Fc w0 cs w) {b o : Nat} {v : Value} (hb : b < w.heap.size) (hc : w.cell? ⟨b, o, none⟩ = some v) : Fc w0 ((b, o, v) :: cs) w :=
  ⟨fun c hm => by
    rcases List.mem_cons.1 hm with rfl | hm
    · exact ⟨hb, hc⟩
    · exact h.cell c hm, h.bel⟩
/-- blocks that are known; below w0 nothing has turned -/
structure Fb (w0 : World) (rs : List (Nat × Array Value × TypeId)) (w : World) : Prop where
  row : ∀ r ∈ rs, w.heap[r.1]? = some (.cells r.2.1 r.2.2 (0, 0))
  bel : Below w0.heap.size w0 w
theorem Fb.lt {w0 w : World} {rs : List (Nat × Array Value × TypeId)} (h : Fb w0 rs w) {r : Nat × Array Value × TypeId} (hr : r ∈ rs) : r.1 < w.heap.size := (Array.getElem?_eq_some_iff.1 (h.row r hr)).1
theorem Fb.on {w0 w w' : World} {rs : List (Nat × Array Value × TypeId)} (h : Fb w0 rs w) (hb : Below w.heap.size w w') : Fb w0 rs w' :=
  ⟨fun r hr => (hb.block _ (h.lt hr)).trans (h.row r hr), bthen h.bel hb⟩
theorem Fb.alloc {w0 w : World} {rs : List (Nat × Array Value × TypeId)} (h : Fb w0 rs w) (o : Obj) : Fb w0 rs (w.alloc o) := h.on (balloc (Below.refl _ w) o)
theorem Fb.drew {w0 w : World} {rs : List (Nat × Array Value × TypeId)} (h : Fb w0 rs w) : Fb w0 rs w.drew := ⟨h.row, h.bel.drew⟩
theorem Fb.add {w0 w : World} {rs : List (Nat × Array Value × TypeId)} (h : Fb w0 rs w) {b : Nat} {cs : Array Value} {t : TypeId} (hc : w.heap[b]? = some (.cells cs t (0, 0))) : Fb w0 ((b, cs, t) :: rs) w :=
  ⟨fun r hm => by
    rcases List.mem_cons.1 hm with rfl | hm
    · exact hc
    · exact h.row r hm, h.bel⟩
theorem Fb.nil (w0 : World) {w : World} (h : Below w0.heap.size w0 w) : Fb w0 [] w := ⟨fun _ hc => (by cases hc), h⟩
theorem Fb.onB {w0 w w' : World} {rs : List (Nat × Array Value × TypeId)} {B : Nat} (h : Fb w0 rs w) (hb : Below B w w') (h0 : w0.heap.size ≤ B) (hr : ∀ r ∈ rs, r.1 < B) : Fb w0 rs w' :=
  ⟨fun r hm => (hb.block _ (hr r hm)).trans (h.row r hm), h.bel.trans (hb.mono h0)⟩
theorem Fb.less {w0 w : World} {c : Nat × Array Value × TypeId} {cs : List (Nat × Array Value × TypeId)} (h : Fb w0 (c :: cs) w) : Fb w0 cs w := ⟨fun x hx => h.row x (List.mem_cons_of_mem _ hx), h.bel⟩
theorem Fc.nil (w0 : World) {w : World} (h : Below w0.heap.size w0 w) : Fc w0 [] w := ⟨fun _ hc => (by cases hc), h⟩
theorem Fc.less {w0 w : World} {c : Nat × Nat × Value} {cs : List (Nat × Nat × Value)} (h : Fc w0 (c :: cs) w) : Fc w0 cs w := ⟨fun x hx => h.cell x (List.mem_cons_of_mem _ hx), h.bel⟩
end Go.Proofs.Ytmddfpmchcmgiaa.Kt
/- 'append(x, y...)' where y is any slice that can be read, nil too. -/
namespace Go.Proofs.Ytmddfpmchcmgiaa.Kt
open Go.RowKit
section
variable {P : Program} {w : World}
theorem run_append_nil (B : Nat) (t ty e : TypeId) (i : TypeInfo) (size : Nat) (ht : P.underlying t = some (.slice e)) (hi : P.info? e = some i) (v : Value) (n : Nat) (xs : List Value) (h : Sl w B e size v n xs) (c : Nat) :
    (Builtin.append_ #[t, t] ty #[v, .slice none 0 c]).run P w = .ok v w := by
  rcases h.2 with ⟨rfl, rfl⟩ | ⟨g, o, cap, cur, rfl, hb, hg, hn, hc, hs, hx⟩
  · simp [Builtin.append_, run_underlying ht, sizeOf, typeInfo, hi, Builtin.lenOf, Builtin.firstCells]
  · simp [Builtin.append_, run_underlying ht, sizeOf, typeInfo, hi, Builtin.lenOf, Builtin.firstCells, hn, storeCells]
theorem run_append_ar (B : Nat) (t ty e : TypeId) (z : Value) (size bytes : Nat) (hinfo : (P.info? e).map (fun i => (i.zero, i.size, i.bytes)) = some (some z, size, bytes)) (ht : P.underlying t = some (.slice e)) (hzs : z.cells.size = size) (hsz : 0 < size)
    (v : Value) (n : Nat) (xs : List Value) (h : Sl w B e size v n xs) (u : Value) (m : Nat) (news : List Value) (hu : Ar w u size m news) (h1 : ∀ u ∈ news, u.oneCell' = true)
    (h63 : n + m ≤ maxLen) (hbytes : (n + m) * bytes ≤ 140737488355328) (hB : B ≤ w.heap.size) :
    ∃ v' w', (Builtin.append_ #[t, t] ty #[v, u]).run P w = .ok v' w' ∧ Sl w' B e size v' (n + m) (xs ++ news) ∧ Below B w w' ∧ w.heap.size ≤ w'.heap.size ∧
      (∀ k, k < w.heap.size → v.ownBlock ≠ some k → w'.heap[k]? = w.heap[k]?) ∧ ∀ k, v'.ownBlock = some k → v.ownBlock = some k ∨ w.heap.size ≤ k := by
  obtain ⟨A, c, rfl, hmc, hx⟩ := hu.form
  have hl := hu.len
  cases A with
  | none =>
    have hm0 : m = 0 := by
      rcases Nat.eq_zero_or_pos m with h0 | h0
      · exact h0
      · obtain ⟨b, o, e, _⟩ := hx h0; cases e
    subst hm0
    obtain rfl : news = [] := List.eq_nil_of_length_eq_zero (by simpa using hl)
    obtain ⟨i, hi, _, _, _⟩ := info_parts hinfo
    exact ⟨v, w, run_append_nil B t ty e i size ht hi v n xs h c, by simpa using h, Below.refl _ _, Nat.le_refl _, fun _ _ _ => rfl, fun k hk => .inl hk⟩
  | some ad =>
    refine run_append_sl (P := P) w B t ty e z size bytes hinfo ht hzs hsz v n xs h ad m c news hl (fun j x hj => ?_) h1 h63 hbytes hB
    have hj1 := (List.getElem?_eq_some_iff.1 hj).1
    have h0 : 0 < m := by
      rcases Nat.eq_zero_or_pos m with h0 | h0
      · subst h0; rw [hl] at hj1; simp at hj1
      · exact h0
    obtain ⟨b, o, e, hb, hc⟩ := hx h0
    injection e with e
    subst e
    rw [Addr.add_lit, hc j hj1, (List.getElem?_eq_some_iff.1 hj).2]
theorem append_ar {ops : Array Oper} {rest : List Oper} {o : Oper} {a : Act} {Q : Exit → Act → World → Prop} (hgd : Region.wanted o (yielded ops a.tmps) = true) (s x : Operand) (t : TypeId)
    (ho : o.op = .call { callee := .builtin .append, args := #[s, x], argTypes := #[t, t] })
    (B : Nat) (e : TypeId) (z : Value) (size bytes : Nat) (hinfo : (P.info? e).map (fun i => (i.zero, i.size, i.bytes)) = some (some z, size, bytes)) (ht : P.underlying t = some (.slice e)) (hzs : z.cells.size = size) (hsz : 0 < size)
    (v : Value) (n : Nat) (xs : List Value) (hs : a.eval s = v) (h : Sl w B e size v n xs) (u : Value) (m : Nat) (news : List Value) (hx : a.eval x = u) (hu : Ar w u size m news) (h1 : ∀ u ∈ news, u.oneCell' = true)
    (h63 : n + m ≤ maxLen) (hbytes : (n + m) * bytes ≤ 140737488355328) (hB : B ≤ w.heap.size)
    (hK : ∀ A' c' w', Sl w' B e size (.slice A' (n + m) c') (n + m) (xs ++ news) → Below B w w' → w.heap.size ≤ w'.heap.size → (∀ k, k < w.heap.size → v.ownBlock ≠ some k → w'.heap[k]? = w.heap[k]?) → (∀ k, (Value.slice A' (n + m) c').ownBlock = some k → v.ownBlock = some k ∨ w.heap.size ≤ k) → wpList P ops Q rest (a.put o.dst (.slice A' (n + m) c')) w') : wpList P ops Q (o :: rest) a w := by
  obtain ⟨v', w', hrun, r1, r2, r3, r4, r5⟩ := run_append_ar (P := P) B t o.type e z size bytes hinfo ht hzs hsz v n xs h u m news hu h1 h63 hbytes hB
  obtain ⟨A', c', rfl, _, _⟩ := r1.form
  refine BigFrame.wpList_want hgd fun K hK' => ?_
  unfold Oper.wp
  simp [execOp, ho, resolve, invoke, builtin, hs, hx, hrun, Result.andThen]
  exact hK' _ _ (hK A' c' w' r1 r2 r3 r4 r5)
theorem wp_append_ar {K : Act → World → Prop} {o : Oper} {a : Act} {Q : Exit → Act → World → Prop} (s x : Operand) (t : TypeId)
    (ho : o.op = .call { callee := .builtin .append, args := #[s, x], argTypes := #[t, t] })
    (B : Nat) (e : TypeId) (z : Value) (size bytes : Nat) (hinfo : (P.info? e).map (fun i => (i.zero, i.size, i.bytes)) = some (some z, size, bytes)) (ht : P.underlying t = some (.slice e)) (hzs : z.cells.size = size) (hsz : 0 < size)
    (v : Value) (n : Nat) (xs : List Value) (hs : a.eval s = v) (h : Sl w B e size v n xs) (u : Value) (m : Nat) (news : List Value) (hx : a.eval x = u) (hu : Ar w u size m news) (h1 : ∀ u ∈ news, u.oneCell' = true)
    (h63 : n + m ≤ maxLen) (hbytes : (n + m) * bytes ≤ 140737488355328) (hB : B ≤ w.heap.size)
    (hK : ∀ A' c' w', Sl w' B e size (.slice A' (n + m) c') (n + m) (xs ++ news) → Below B w w' → w.heap.size ≤ w'.heap.size → (∀ k, k < w.heap.size → v.ownBlock ≠ some k → w'.heap[k]? = w.heap[k]?) → (∀ k, (Value.slice A' (n + m) c').ownBlock = some k → v.ownBlock = some k ∨ w.heap.size ≤ k) → K (a.put o.dst (.slice A' (n + m) c')) w') : o.wp P a w K Q := by
  obtain ⟨v', w', hrun, r1, r2, r3, r4, r5⟩ := run_append_ar (P := P) B t o.type e z size bytes hinfo ht hzs hsz v n xs h u m news hu h1 h63 hbytes hB
  obtain ⟨A', c', rfl, _, _⟩ := r1.form
  unfold Oper.wp
  simp [execOp, ho, resolve, invoke, builtin, hs, hx, hrun, Result.andThen]
  exact hK A' c' w' r1 r2 r3 r4 r5
end
end Go.Proofs.Ytmddfpmchcmgiaa.Kt
/- Structs and arrays of plain cells: their parts, and '=='. -/
namespace Go.Proofs.Ytmddfpmchcmgiaa.Fr
open Go.RowKit Classical
/-- no slice within -/
def plain : Ty → Bool
  | .int _ | .bool | .string | .nil => true
  | .slice .. => false
  | .cat _ a b => plain a && plain b
  | .arr _ _ e => plain e
/-- the cells of a shape -/
def Cl : Ty → List Value → Prop
  | .int k, cs => ∃ n, cs = [.int k n]
  | .bool, cs => ∃ b, cs = [.bool b]
  | .string, cs => ∃ s : ByteArray, cs = [.string s]
  | .slice .., _ => False
  | .nil, cs => cs = []
  | .cat sz a b, cs => sz ≤ cs.length ∧ Cl a (cs.take sz) ∧ Cl b (cs.drop sz)
  | .arr n sz e, cs => cs.length = n * sz ∧ ∀ i, i < n → Cl e ((cs.drop (i * sz)).take sz)
theorem cl_of_rd {w : World} {B : Nat} : ∀ (ty : Ty) (cs : List Value), plain ty = true → Rd w B ty cs → Cl ty cs
  | .int _, _, _, h => by obtain ⟨n, e, _⟩ := h; exact ⟨n, e⟩
  | .bool, _, _, h => h
  | .string, _, _, h => by obtain ⟨n, e, _⟩ := h; exact ⟨n, e⟩
  | .slice .., _, hp, _ => by simp [plain] at hp
  | .nil, _, _, h => h
  | .cat _ a b, _, hp, h => by
    simp only [plain, Bool.and_eq_true] at hp
    exact ⟨h.1, cl_of_rd a _ hp.1 h.2.1, cl_of_rd b _ hp.2 h.2.2⟩
  | .arr _ _ e, _, hp, h => ⟨h.1, fun i hi => cl_of_rd e _ hp (h.2 i hi)⟩
/-- the value of these cells -/
def vof (ty : Ty) (cs : List Value) : Value := match ty with
  | .nil | .cat .. | .arr .. => .agg cs.toArray
  | _ => cs.headD .nilIface
/-- types that can be compared by their cells -/
def eqOk (P : Program) : Nat → TypeId → Bool
  | 0, _ => false
  | n + 1, t => (P.info? t).isSome && match P.underlying t with
    | some (.struct fs) => !P.stoodInHeld t && fs.toList.all fun f => f.name != "_" && eqOk P n f.type
    | some (.array _ e) => eqOk P n e
    | _ => true
theorem ff_form {P : Program} {f : TypeId → Ty → Bool} {fs : List Field} {off : Nat} {ty : Ty} (h : fieldsFit P f fs off ty = true) : ty = .nil ∨ ∃ sz a b, ty = .cat sz a b := by
  cases fs <;> cases ty <;> simp [fieldsFit] at h ⊢
section
variable {P : Program} (w : World)
theorem part_run (t : TypeId) (ty : Ty) (m m' : Nat) (hf : fits P m t ty = true) (hi : eqOk P m' t = true) (hp : plain ty = true) (X : Array Value) (off : Nat) (hc : Cl ty ((X.toList.drop off).take (P.cellsOf t))) :
    (part t X off).run P w = .ok (vof ty ((X.toList.drop off).take (P.cellsOf t))) w := by
  cases m with
  | zero => simp [fits] at hf
  | succ m =>
    cases m' with
    | zero => simp [eqOk] at hi
    | succ m' =>
      unfold eqOk at hi
      rw [Bool.and_eq_true] at hi
      obtain ⟨i, hi⟩ := Option.isSome_iff_exists.1 hi.1
      have hl : X.extract off (off + P.cellsOf t) = ((X.toList.drop off).take (P.cellsOf t)).toArray := by
        apply Array.toList_inj.1
        rw [Array.toList_extract]
        simp [List.extract]
      have one : ∀ v, (X.toList.drop off).take (P.cellsOf t) = [v] → X[off]? = some v := fun v hv => getElem?_of_chunk hv
      unfold fits at hf
      cases hu : P.underlying t with
      | none => simp [hu] at hf
      | some kd =>
        rw [hu] at hf
        cases ty with
        | int k =>
          obtain ⟨n, e⟩ := hc
          cases kd <;> simp at hf
          all_goals first | (simp [part, isAgg, run_underlying hu, one _ e, e, vof]; done) | (have h := ff_form hf.2; simp at h)
        | bool =>
          obtain ⟨n, e⟩ := hc
          cases kd <;> simp at hf
          all_goals first | (simp [part, isAgg, run_underlying hu, one _ e, e, vof]; done) | (have h := ff_form hf.2; simp at h)
        | string =>
          obtain ⟨n, e⟩ := hc
          cases kd <;> simp at hf
          all_goals first | (simp [part, isAgg, run_underlying hu, one _ e, e, vof]; done) | (have h := ff_form hf.2; simp at h)
        | slice sz e => simp [plain] at hp
        | nil =>
          cases kd <;> simp at hf
          simp [part, isAgg, run_underlying hu, run_sizeOf w hi, vof, hl]
        | cat sz a b =>
          cases kd <;> simp at hf
          simp [part, isAgg, run_underlying hu, run_sizeOf w hi, vof, hl]
        | arr n sz e =>
          cases kd <;> simp at hf
          all_goals first | (have h := ff_form hf.2; simp at h; done) | (simp [part, isAgg, run_underlying hu, run_sizeOf w hi, vof, hl]; done)
/-- '==' at a type -/
def EqRun (P : Program) (d : Nat) (t : TypeId) (ty : Ty) : Prop := ∀ (w : World) (xs ys : List Value), Cl ty xs → Cl ty ys → (Op.equalIn d t (vof ty xs) (vof ty ys)).run P w = .ok (decide (xs = ys)) w
theorem take_drop_eq {xs ys : List Value} {n : Nat} : xs = ys ↔ xs.take n = ys.take n ∧ xs.drop n = ys.drop n := by
  constructor
  · rintro rfl; exact ⟨rfl, rfl⟩
  · rintro ⟨h1, h2⟩; rw [← List.take_append_drop n xs, ← List.take_append_drop n ys, h1, h2]
theorem fields_run (d m m' : Nat) (ih : ∀ t ty, fits P m t ty = true → eqOk P m' t = true → plain ty = true → EqRun P d t ty) :
    ∀ (fs : List Field) (off : Nat) (ty : Ty) (X Y : Array Value), fieldsFit P (fits P m) fs off ty = true → (fs.all fun f => f.name != "_" && eqOk P m' f.type) = true → plain ty = true → Cl ty (X.toList.drop off) → Cl ty (Y.toList.drop off) →
      (Op.eqFields d X Y fs).run P w = .ok (decide (X.toList.drop off = Y.toList.drop off)) w
  | [], off, .nil, X, Y, _, _, _, hx, hy => by
    simp only [Cl] at hx hy
    rw [hx, hy]; simp [Op.eqFields]
  | [], _, .int _, _, _, hf, _, _, _, _ => by simp [fieldsFit] at hf
  | [], _, .bool, _, _, hf, _, _, _, _ => by simp [fieldsFit] at hf
  | [], _, .string, _, _, hf, _, _, _, _ => by simp [fieldsFit] at hf
  | [], _, .slice .., _, _, hf, _, _, _, _ => by simp [fieldsFit] at hf
  | [], _, .cat .., _, _, hf, _, _, _, _ => by simp [fieldsFit] at hf
  | [], _, .arr .., _, _, hf, _, _, _, _ => by simp [fieldsFit] at hf
  | x :: fs, off, .cat sz a b, X, Y, hf, he, hp, hx, hy => by
    simp only [fieldsFit, Bool.and_eq_true, beq_iff_eq] at hf
    obtain ⟨⟨⟨ho, hsz⟩, ha⟩, hb⟩ := hf
    simp only [List.all_cons, Bool.and_eq_true, bne_iff_ne, ne_eq] at he
    obtain ⟨⟨hn, hek⟩, hef⟩ := he
    simp only [plain, Bool.and_eq_true] at hp
    subst hsz
    obtain ⟨_, hx1, hx2⟩ := hx
    obtain ⟨_, hy1, hy2⟩ := hy
    have p1 := part_run w x.type a m m' ha hek hp.1 X off hx1
    have p2 := part_run w x.type a m m' ha hek hp.1 Y off hy1
    have p3 := ih x.type a ha hek hp.1 w _ _ hx1 hy1
    rw [List.drop_drop] at hx2 hy2
    have p4 := fields_run d m m' ih fs (off + P.cellsOf x.type) b X Y hb hef hp.2 hx2 hy2
    simp only [Op.eqFields, hn, ne_eq, not_false_eq_true, if_true, Sem.run_bind, ho, p1, p2, p3, Result.andThen_ok]
    have key : X.toList.drop off = Y.toList.drop off ↔ (X.toList.drop off).take (P.cellsOf x.type) = (Y.toList.drop off).take (P.cellsOf x.type) ∧ X.toList.drop (off + P.cellsOf x.type) = Y.toList.drop (off + P.cellsOf x.type) := by
      rw [take_drop_eq (n := P.cellsOf x.type), List.drop_drop, List.drop_drop]
    by_cases h1 : (X.toList.drop off).take (P.cellsOf x.type) = (Y.toList.drop off).take (P.cellsOf x.type)
    · rw [decide_eq_true h1]
      simp only [Bool.not_true, Bool.false_eq_true, if_false]
      rw [p4]
      congr 1
      exact decide_eq_decide.2 ⟨fun h => key.2 ⟨h1, h⟩, fun h => (key.1 h).2⟩
    · rw [decide_eq_false h1, decide_eq_false (fun h => h1 (key.1 h).1)]
      simp
  | _ :: _, _, .int _, _, _, hf, _, _, _, _ => by simp [fieldsFit] at hf
  | _ :: _, _, .bool, _, _, hf, _, _, _, _ => by simp [fieldsFit] at hf
  | _ :: _, _, .string, _, _, hf, _, _, _, _ => by simp [fieldsFit] at hf
  | _ :: _, _, .slice .., _, _, hf, _, _, _, _ => by simp [fieldsFit] at hf
  | _ :: _, _, .nil, _, _, hf, _, _, _, _ => by simp [fieldsFit] at hf
  | _ :: _, _, .arr .., _, _, hf, _, _, _, _ => by simp [fieldsFit] at hf
theorem items_run (d m m' : Nat) (e : TypeId) (ty : Ty) (hf : fits P m e ty = true) (he : eqOk P m' e = true) (hp : plain ty = true) (ih : EqRun P d e ty) (X Y : Array Value) :
    ∀ is : List Nat, (∀ i ∈ is, Cl ty ((X.toList.drop (i * P.cellsOf e)).take (P.cellsOf e)) ∧ Cl ty ((Y.toList.drop (i * P.cellsOf e)).take (P.cellsOf e))) →
      (Op.eqItems d e (P.cellsOf e) X Y is).run P w = .ok (decide (∀ i ∈ is, (X.toList.drop (i * P.cellsOf e)).take (P.cellsOf e) = (Y.toList.drop (i * P.cellsOf e)).take (P.cellsOf e))) w
  | [], _ => by simp [Op.eqItems]
  | i :: is, h => by
    obtain ⟨h1, h2⟩ := h i (by simp)
    have p1 := part_run w e ty m m' hf he hp X _ h1
    have p2 := part_run w e ty m m' hf he hp Y _ h2
    have p3 := ih w _ _ h1 h2
    have p4 := items_run d m m' e ty hf he hp ih X Y is (fun j hj => h j (by simp [hj]))
    simp only [Op.eqItems, Sem.run_bind, p1, p2, p3, Result.andThen_ok]
    by_cases hx : (X.toList.drop (i * P.cellsOf e)).take (P.cellsOf e) = (Y.toList.drop (i * P.cellsOf e)).take (P.cellsOf e)
    · rw [decide_eq_true hx]
      simp only [Bool.not_true, Bool.false_eq_true, if_false]
      rw [p4]
      congr 1
      exact decide_eq_decide.2 ⟨fun hh j hj => by
        rcases List.mem_cons.1 hj with rfl | hj
        · exact hx
        · exact hh j hj, fun hh j hj => hh j (by simp [hj])⟩
    · rw [decide_eq_false hx, decide_eq_false (fun hh => hx (hh i (by simp)))]
      simp
theorem chunks_eq {n sz : Nat} {xs ys : List Value} (hx : xs.length = n * sz) (hy : ys.length = n * sz) : (∀ i ∈ List.range n, (xs.drop (i * sz)).take sz = (ys.drop (i * sz)).take sz) ↔ xs = ys := by
  constructor
  · intro h
    apply List.ext_getElem (by omega)
    intro j h1 h2
    have hsz : 0 < sz := by
      rcases Nat.eq_zero_or_pos sz with h0 | h0
      · subst h0; simp at hx; subst hx; simp at h1
      · exact h0
    have hj : j / sz < n := by rw [Nat.div_lt_iff_lt_mul hsz]; omega
    have := congrArg (fun l => l[j % sz]?) (h (j / sz) (List.mem_range.2 hj))
    simp only [List.getElem?_take, Nat.mod_lt _ hsz, if_true, List.getElem?_drop] at this
    rw [Nat.div_add_mod' j sz, List.getElem?_eq_getElem h1, List.getElem?_eq_getElem h2] at this
    exact Option.some.inj this
  · rintro rfl _ _; rfl
theorem eq_run : ∀ (m d : Nat) (t : TypeId) (ty : Ty), fits P m t ty = true → eqOk P m t = true → plain ty = true → EqRun P (d + m) t ty
  | 0, _, t, ty, hf, _, _ => by simp [fits] at hf
  | m + 1, d, t, ty, hf, he, hp => by
    intro w xs ys hx hy
    have ih := fun t ty h1 h2 h3 => eq_run m d t ty h1 h2 h3
    unfold fits at hf
    unfold eqOk at he
    rw [Bool.and_eq_true] at he
    obtain ⟨hi0, he⟩ := he
    cases hu : P.underlying t with
    | none => simp [hu] at hf
    | some kd =>
      rw [hu] at hf he
      have strct : ∀ fs : Array Field, kd = .struct fs → vof ty xs = .agg xs.toArray → vof ty ys = .agg ys.toArray → fieldsFit P (fits P m) fs.toList 0 ty = true → (Op.equalIn (d + (m + 1)) t (vof ty xs) (vof ty ys)).run P w = .ok (decide (xs = ys)) w := by
        rintro fs rfl e1 e2 hff
        rw [e1, e2]
        have hfs : P.fieldsOf t = fs := by simp [Program.fieldsOf, hu]
        simp only [Bool.and_eq_true, Bool.not_eq_true'] at he
        have := fields_run (P := P) w (d + m) m m ih fs.toList 0 ty xs.toArray ys.toArray hff he.2 hp (by simpa using hx) (by simpa using hy)
        rw [show d + (m + 1) = (d + m) + 1 from rfl, run_equalIn_struct w (d + m) t _ _ (by rw [hfs]; exact hu) he.1, hfs, this]
        simp
      cases ty with
      | int k =>
        obtain ⟨a, rfl⟩ := hx
        obtain ⟨b, rfl⟩ := hy
        cases kd <;> simp at hf
        case struct => have h := ff_form hf.2; simp at h
        show (Op.equalIn ((d + m) + 1) t (.int k a) (.int k b)).run P w = _
        rw [run_equalIn_int w (d + m) t k _ a b hu]
        congr 1
        by_cases h : a = b <;> simp [h]
      | bool =>
        obtain ⟨a, rfl⟩ := hx
        obtain ⟨b, rfl⟩ := hy
        cases kd <;> simp at hf
        case struct => have h := ff_form hf.2; simp at h
        show (Op.equalIn ((d + m) + 1) t (.bool a) (.bool b)).run P w = _
        rw [run_equalIn_bool' w (d + m) t a b hu]
        congr 1
        by_cases h : a = b <;> simp [h]
      | string =>
        obtain ⟨a, rfl⟩ := hx
        obtain ⟨b, rfl⟩ := hy
        cases kd <;> simp at hf
        case struct => have h := ff_form hf.2; simp at h
        show (Op.equalIn ((d + m) + 1) t (.string a) (.string b)).run P w = _
        rw [run_equalIn_string w (d + m) t a b hu]
        congr 1
        rw [ByteArray.toList_eq, ByteArray.toList_eq]
        by_cases h : a = b
        · subst h; simp
        · have h2 : ¬ a.data.toList = b.data.toList := fun e => h (Kt.bytes_eq e)
          rw [show (a.data.toList == b.data.toList) = false from beq_eq_false_iff_ne.2 h2]
          simp [h]
      | slice sz e => simp [plain] at hp
      | nil =>
        cases kd <;> simp at hf
        exact strct _ rfl rfl rfl hf.2
      | cat sz a b =>
        cases kd <;> simp at hf
        exact strct _ rfl rfl rfl hf.2
      | arr n sz e =>
        cases kd <;> simp at hf
        · rename_i n' e'
          obtain ⟨⟨⟨hn, hsz⟩, _⟩, hff⟩ := hf
          subst hn; subst hsz
          obtain ⟨hlx, hcx⟩ := hx
          obtain ⟨hly, hcy⟩ := hy
          have hie : ∃ i, P.info? e' = some i := by
            cases m with
            | zero => simp [eqOk] at he
            | succ m' => unfold eqOk at he; rw [Bool.and_eq_true] at he; exact Option.isSome_iff_exists.1 he.1
          obtain ⟨i, hi⟩ := hie
          show (Op.equalIn ((d + m) + 1) t (.agg xs.toArray) (.agg ys.toArray)).run P w = _
          rw [run_equalIn_array w (d + m) _ _ hu hi, items_run w (d + m) m m e' e hff he hp (ih e' e hff he hp) xs.toArray ys.toArray (List.range n') (fun i hi => ⟨by simpa using hcx i (List.mem_range.1 hi), by simpa using hcy i (List.mem_range.1 hi)⟩)]
          congr 1
          exact decide_eq_decide.2 (chunks_eq hlx hly)
        · have h := ff_form hf.2; simp at h
theorem eql_agg (t : TypeId) (ty : Ty) (m : Nat) (hm : m ≤ 10000) (hf : fits P m t ty = true) (he : eqOk P m t = true) (hp : plain ty = true) (xs ys : Array Value) (hx : Cl ty xs.toList) (hy : Cl ty ys.toList) (hv : vof ty xs.toList = .agg xs) (hv' : vof ty ys.toList = .agg ys) :
    (binOp .eql t (.agg xs) (.agg ys)).run P w = .ok (.bool (decide (xs = ys))) w ∧ (binOp .neq t (.agg xs) (.agg ys)).run P w = .ok (.bool (!decide (xs = ys))) w := by
  have h := eq_run (P := P) m (10000 - m) t ty hf he hp w xs.toList ys.toList hx hy
  rw [show 10000 - m + m = 10000 by omega, hv, hv'] at h
  have e : decide (xs.toList = ys.toList) = decide (xs = ys) := decide_eq_decide.2 Array.toList_inj
  rw [e] at h
  exact ⟨by rw [run_eql_struct, h]; rfl, by rw [run_neq_struct, h]; rfl⟩
end
end Go.Proofs.Ytmddfpmchcmgiaa.Fr
/- Loads of a row that lies anywhere in a block, in regions that draw their order. -/
namespace Go.Proofs.Ytmddfpmchcmgiaa.Kt
open Go.RowKit
theorem G.load_mid {P : Program} {ops : Array Oper} {Q : Exit → Act → World → Prop} {md : Region.Mode} {F : World → Prop} {st : Nat} (i : Nat) (oi : Oper) (ty : TypeId) (x : Operand) (g o : Nat) (cs : List Value) (d : TypeDesc) {fuel : Nat} {listed : Array Bool} {a : Act} {w : World} (hF : F w) (hi : ops[i]? = some oi)
    (hb : (Region.noSelect ops && Region.free md ops listed i && (Region.ready md ops listed).contains i && (st != i) && (closedB md ops listed && reachB md ops ops.size st i) && !listed.getD st true) = true)
    (hQ : ∀ c a w, Q (.panic c) (a.put oi.dst (.agg cs.toArray)) w → Q (.panic c) a w) (hw : Region.wanted oi (yielded ops a.tmps) = true) (ho : oi.op = .load ty x) (hx : a.eval x = .pointer (some ⟨g, o, none⟩))
    (hg : ∀ w, F w → w.rangeAt g o cs) (hu : P.underlying ty = some d) (hd : d.isRow = true) (hsz : (P.info? ty).map (·.size) = some cs.length)
    (h : wpG P md ops Q st F fuel (listed.setIfInBounds i true) (a.put oi.dst (.agg cs.toArray)) w) : wpG P md ops Q st F (fuel + 1) listed a w :=
  G.take i oi (.agg cs.toArray) hF hi hb hQ hw (fun w' hF' => by
    unfold execOp
    simp only [ho, hx, Instr.loadAt, Instr.sureAddr, Sem.run_bind, Sem.run_pure, Result.andThen_ok]
    rw [run_loadVar_mid w' g o ty cs d (hg w' hF') hu hd hsz]; rfl) h
end Go.Proofs.Ytmddfpmchcmgiaa.Kt
/- Regions that draw their order: one of three comes up; texts made of bytes that lie in a known block. -/
namespace Go.Proofs.Ytmddfpmchcmgiaa.Kt
open Go.RowKit
section
variable {P : Program} {ops : Array Oper} {Q : Exit → Act → World → Prop} {md : Region.Mode} {F : World → Prop} {st : Nat}
/-- one of three comes up -/
theorem G.three (i j k : Nat) (oi oj ok : Oper) {fuel : Nat} {listed : Array Bool} {a : Act} {w : World} (hi : ops[i]? = some oi) (hj : ops[j]? = some oj) (hk : ops[k]? = some ok) (hr : Region.ready md ops listed = [i, j, k]) (wi : Region.wanted oi (yielded ops a.tmps) = true) (wj : Region.wanted oj (yielded ops a.tmps) = true) (wk : Region.wanted ok (yielded ops a.tmps) = true)
    (h1 : ∀ K : Act → World → Prop, Shut (∀ a w, ((listed.setIfInBounds i true).getD st true = false → F w) → (((listed.setIfInBounds i true).getD st true = false → F w) → wpG P md ops Q st F fuel (listed.setIfInBounds i true) a w) → K a w) → Oper.wp P oi a w K Q)
    (h2 : ∀ K : Act → World → Prop, Shut (∀ a w, ((listed.setIfInBounds j true).getD st true = false → F w) → (((listed.setIfInBounds j true).getD st true = false → F w) → wpG P md ops Q st F fuel (listed.setIfInBounds j true) a w) → K a w) → Oper.wp P oj a w K Q)
    (h3 : ∀ K : Act → World → Prop, Shut (∀ a w, ((listed.setIfInBounds k true).getD st true = false → F w) → (((listed.setIfInBounds k true).getD st true = false → F w) → wpG P md ops Q st F fuel (listed.setIfInBounds k true) a w) → K a w) → Oper.wp P ok a w K Q) :
    wpG P md ops Q st F (fuel + 1) listed a w := by
  refine ⟨fun h0 => absurd (hr ▸ h0) (by simp), fun x hx => ?_⟩
  rw [hr] at hx
  rcases List.mem_cons.1 hx with rfl | hx
  · exact wpOp_step hi (fun K' hK => by
      rw [if_pos wi]
      exact h1 K' (fun a w hS hW => hK a w ⟨hS, hW hS⟩))
  rcases List.mem_cons.1 hx with rfl | hx
  · exact wpOp_step hj (fun K' hK => by
      rw [if_pos wj]
      exact h2 K' (fun a w hS hW => hK a w ⟨hS, hW hS⟩))
  · obtain rfl : x = k := by simpa using hx
    exact wpOp_step hk (fun K' hK => by
      rw [if_pos wk]
      exact h3 K' (fun a w hS hW => hK a w ⟨hS, hW hS⟩))
end
/-- a text made of a row of bytes that lies in a known block -/
theorem cv_row (ns : List Int) (cs : Array Value) (n b : Nat) (hcs : cs = (ns.map (Value.int .u8)).toArray) (hn : n = ns.length) {w : World} (h : w.heap[b]? = some (.cells cs 5 (0, 0))) :
    (convert 66 9 (.slice (some ⟨b, 0, none⟩) n n)).run Try.prog w = .ok (.string ⟨(ns.map fun n => UInt8.ofNat n.toNat).toArray⟩) w := by
  refine Kt.conv_ns _ 66 9 5 b 0 n n ns hn Try.underlying66 Try.underlying5 Try.underlying9 (fun j hj => ?_)
  have := cell_of_row _ _ j _ _ _ h
  rw [Nat.zero_add, this, hcs]
  simp [List.getElem?_eq_getElem hj]
end Go.Proofs.Ytmddfpmchcmgiaa.Kt
/- A call of a function's value that lies in a slot: one law in place of the unfolding. -/
namespace Go.Proofs.Ytmddfpmchcmgiaa.Kt
open Go.RowKit
theorem execOp_fv {ev : Operand → Value} {o : Oper} {x : Operand} {f : FuncId} {caps : Array Value} {xs : Array Operand} {ats : Array TypeId} (ho : o.op = .call { callee := .value x, args := xs, argTypes := ats }) (hx : ev x = .func (.func f) #[] caps) :
    execOp ev o = callFunc f (#[] ++ xs.map ev ++ caps) := by
  obtain ⟨dst, op, ty, pos, after, guard⟩ := o
  dsimp only at ho
  subst ho
  unfold execOp
  dsimp only
  unfold resolve
  dsimp only
  rw [hx]
  rfl
theorem wp_fv {P : Program} {o : Oper} {a : Act} {w : World} {next : Act → World → Prop} {Q : Exit → Act → World → Prop} (x : Operand) (f : FuncId) (caps : Array Value) (xs : Array Operand) (ats : Array TypeId) (vl : List Value)
    (ho : o.op = .call { callee := .value x, args := xs, argTypes := ats }) (hx : a.eval x = .func (.func f) #[] caps) (hv : xs.toList.map a.eval ++ caps.toList = vl) (he : ∀ args w, (callFunc f args).run P w = .ok (.enter f args) w)
    (h : Calls P f vl.toArray w fun
      | .returned v, w'' => next (a.put o.dst v) w''
      | .panicked chain, w'' => Q (.panic chain) a w''
      | .outgrown, _ => LetsOut Q) : o.wp P a w next Q := by
  unfold Oper.wp
  have e : #[] ++ xs.map a.eval ++ caps = vl.toArray := by
    rw [← hv]
    simp
  rw [execOp_fv ho hx, e, he]
  exact h
/-- an operation whose run is known -/
theorem wp_run {P : Program} {o : Oper} {a : Act} {w : World} {next : Act → World → Prop} {Q : Exit → Act → World → Prop} (v : Value) (w' : World)
    (h : (execOp a.eval o).run P w = .ok (.value v) w') (hk : next (a.put o.dst v) w') : o.wp P a w next Q := by
  unfold Oper.wp
  rw [h]
  exact hk
end Go.Proofs.Ytmddfpmchcmgiaa.Kt
/- a slice handed in, of the first form: its places times the bytes of one stay below the bound. -/
namespace Go.Proofs.Ytmddfpmchcmgiaa
open Go.ChangeShapes Go.WideShapes Go.ChangeAt Go.RowKit
theorem Fr.top_len {H : Type} {enc : TypeId × Value → H} {P : Program} {w : World} {base R : Nat} {t e : TypeId} {a : Option Addr} {len cap : Nat} {d : DataW H} {p : List MemPlace}
    (hu : P.underlying t = some (.slice e)) (h : DataW.Trod enc P w base (fun _ => true) true t (.slice a len cap) d p) (hk : ∀ n ∈ d.weights P t, n ≤ R) : len * P.bytesOf e ≤ R := by
  obtain ⟨n, hn⟩ := h
  have hn' : DataW.trod enc P w base (fun _ => true) true n t [.slice a len cap] = some (d, p) := hn
  rcases DataW.trod_slice hu hn' with ⟨he, _⟩ | ⟨ad, len', cap', els, rest, n', _, he, hd, _, hl, _, hel, _, _, _⟩
  · simp only [List.cons.injEq, Value.slice.injEq] at he
    obtain ⟨⟨_, rfl, _⟩, _⟩ := he
    omega
  · simp only [List.cons.injEq, Value.slice.injEq] at he
    obtain ⟨⟨_, rfl, rfl⟩, _⟩ := he
    simp only [Prod.mk.injEq] at hd
    obtain ⟨rfl, _⟩ := hd
    have := hk _ (by simp only [DataW.weights, hu, List.mem_cons]; exact Or.inl rfl)
    simp only [List.length_map] at this
    exact Nat.le_trans (Nat.mul_le_mul_right _ (by omega)) this
theorem Fr.fld_len {H : Type} {enc : TypeId × Value → H} {P : Program} {w : World} {base R : Nat} {t e : TypeId} {fs : Array Field} {i : Nat} {f : Field} {cs : Array Value} {a : Option Addr} {len cap : Nat} {d : DataW H} {p : List MemPlace}
    (hu : P.underlying t = some (.struct fs)) (hf : fs[i]? = some f) (hue : P.underlying f.type = some (.slice e)) (hc : (cs.toList.drop f.offset).take (P.cellsOf f.type) = [.slice a len cap])
    (h : DataW.Trod enc P w base (fun _ => true) true t (.agg cs) d p) (hk : ∀ n ∈ d.weights P t, n ≤ R) : len * P.bytesOf e ≤ R := by
  obtain ⟨n, hn⟩ := h
  have hn' : DataW.trod enc P w base (fun _ => true) true n t cs.toList = some (d, p) := hn
  obtain ⟨xs, n', _, hd, hlen, hxl, hget⟩ := DataW.trod_struct hu hn'
  simp only [Prod.mk.injEq] at hd
  obtain ⟨rfl, _⟩ := hd
  have hi : i < xs.length := by rw [hxl]; exact (Array.getElem?_eq_some_iff.1 hf).1
  have h1 := hget i f hf
  rw [hc, List.getElem?_eq_getElem hi] at h1
  refine Fr.top_len (enc := enc) (w := w) (base := base) (R := R) (d := xs[i].1) (p := xs[i].2) hue ⟨n', h1⟩ fun m hm => hk m ?_
  simp only [DataW.weights, hu]
  exact DataW.weights_mem_each (j := i) (by simpa using congrArg (Option.map (·.type)) hf) (by simp [hi]) m hm
end Go.Proofs.Ytmddfpmchcmgiaa
/- a slice of structs, handed in: a slice in a field of one of them, too, stays below the bound. -/
namespace Go.Proofs.Ytmddfpmchcmgiaa
open Go.ChangeShapes Go.WideShapes Go.ChangeAt Go.RowKit
theorem Fr.elm_len {H : Type} {enc : TypeId × Value → H} {P : Program} {w : World} {base R : Nat} {t e e2 : TypeId} {fs : Array Field} {i : Nat} {f : Field} {ad : Addr} {len cap : Nat} {d : DataW H} {p : List MemPlace}
    (hu : P.underlying t = some (.slice e)) (hue : P.underlying e = some (.struct fs)) (hf : fs[i]? = some f) (huf : P.underlying f.type = some (.slice e2)) (ho : f.offset + 1 ≤ P.cellsOf e) (hcf : P.cellsOf f.type = 1)
    (h : DataW.Trod enc P w base (fun _ => true) true t (.slice (some ad) len cap) d p) (hk : ∀ n ∈ d.weights P t, n ≤ R) (j : Nat) (hj : j < len) (a : Option Addr) (n c : Nat) (hc : w.cell? ((ad.add (j * P.cellsOf e)).add f.offset) = some (.slice a n c)) : n * P.bytesOf e2 ≤ R := by
  obtain ⟨m, hm⟩ := h
  have hm' : DataW.trod enc P w base (fun _ => true) true m t [.slice (some ad) len cap] = some (d, p) := hm
  rcases DataW.trod_slice hu hm' with ⟨he, _⟩ | ⟨ad', len', cap', els, rest, n', _, he, hd, _, hl, _, hel, hall, _, _⟩
  · simp at he
  · simp only [List.cons.injEq, Value.slice.injEq, Option.some.injEq] at he
    obtain ⟨⟨rfl, rfl, rfl⟩, _⟩ := he
    simp only [Prod.mk.injEq] at hd
    obtain ⟨rfl, _⟩ := hd
    have h1 := hall j hj
    rw [List.getElem?_eq_getElem (by omega), Option.bind_eq_some_iff] at h1
    obtain ⟨cs, hcs, h2⟩ := h1
    obtain ⟨hlen, hget⟩ := Fr.cells_get hcs
    have h3 : (cs.drop f.offset).take (P.cellsOf f.type) = [.slice a n c] := by
      have h4 := hget f.offset (by omega)
      rw [hc] at h4
      rw [hcf]
      have h5 : (cs.drop f.offset)[0]? = some (.slice a n c) := by rw [List.getElem?_drop, Nat.add_zero]; exact h4.symm
      match hdr : cs.drop f.offset with
      | [] => rw [hdr] at h5; cases h5
      | v :: r => rw [hdr] at h5; injection h5 with h5; rw [h5]; rfl
    refine Fr.fld_len (enc := enc) (w := w) (base := base) (R := R) (i := i) (cs := cs.toArray) (d := els[j].1) (p := els[j].2) hue hf huf (by simpa using h3) ⟨n', h2⟩ fun q hq => (Fr.said_bound (P := P) R).el t e _ _ els[j].1 hu hk ?_ q hq
    exact List.mem_append_left _ (List.mem_map_of_mem (List.getElem_mem (by omega)))
end Go.Proofs.Ytmddfpmchcmgiaa
/- a struct handed in, a field of it a slice of structs: a slice in a field of one of these, too, stays below the bound. -/
namespace Go.Proofs.Ytmddfpmchcmgiaa
open Go.ChangeShapes Go.WideShapes Go.ChangeAt Go.RowKit
theorem Fr.nsf_len {H : Type} {enc : TypeId × Value → H} {P : Program} {w : World} {base R : Nat} {t e e2 : TypeId} {fs0 fs : Array Field} {i0 i : Nat} {f0 f : Field} {cs : Array Value} {ad : Addr} {len cap : Nat} {d : DataW H} {p : List MemPlace}
    (hu : P.underlying t = some (.struct fs0)) (hf0 : fs0[i0]? = some f0) (hue0 : P.underlying f0.type = some (.slice e)) (hue : P.underlying e = some (.struct fs)) (hf : fs[i]? = some f) (huf : P.underlying f.type = some (.slice e2)) (ho : f.offset + 1 ≤ P.cellsOf e) (hcf : P.cellsOf f.type = 1)
    (hc0 : (cs.toList.drop f0.offset).take (P.cellsOf f0.type) = [.slice (some ad) len cap])
    (h : DataW.Trod enc P w base (fun _ => true) true t (.agg cs) d p) (hk : ∀ n ∈ d.weights P t, n ≤ R) (j : Nat) (hj : j < len) (a : Option Addr) (n c : Nat) (hc : w.cell? ((ad.add (j * P.cellsOf e)).add f.offset) = some (.slice a n c)) : n * P.bytesOf e2 ≤ R := by
  obtain ⟨m, hm⟩ := h
  have hm' : DataW.trod enc P w base (fun _ => true) true m t cs.toList = some (d, p) := hm
  obtain ⟨xs, n', _, hd, hlen, hxl, hget⟩ := DataW.trod_struct hu hm'
  simp only [Prod.mk.injEq] at hd
  obtain ⟨rfl, _⟩ := hd
  have hi : i0 < xs.length := by rw [hxl]; exact (Array.getElem?_eq_some_iff.1 hf0).1
  have h1 := hget i0 f0 hf0
  rw [hc0, List.getElem?_eq_getElem hi] at h1
  refine Fr.elm_len (enc := enc) (w := w) (base := base) (R := R) (i := i) (d := xs[i0].1) (p := xs[i0].2) hue0 hue hf huf ho hcf ⟨n', h1⟩ (fun m hm => hk m ?_) j hj a n c hc
  simp only [DataW.weights, hu]
  exact DataW.weights_mem_each (j := i0) (by simpa using congrArg (Option.map (·.type)) hf0) (by simp [hi]) m hm
end Go.Proofs.Ytmddfpmchcmgiaa
