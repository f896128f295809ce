/- The walks of runesOf. -/
import Derived.Test.YtmddfpmchcmgiaaNarW
namespace Go.Proofs.Ytmddfpmchcmgiaa
open Go.RowKit Go.Proofs.Ytmddfpmchcmgiaa.Utf
theorem enc_snoc (done : List Nat) (r : Nat) (h : scalar r) : (⟨(enc done).toArray⟩ : ByteArray) ++ Utf8.encode (r : Int) = ⟨(enc (done ++ [r])).toArray⟩ := by
  apply Kt.bytes_eq
  rw [Kt.str_app, enc_eqN r h, enc_app, enc_cons]
  simp [enc]
theorem dec_scalar (s : ByteArray) (pos : Nat) : scalar (Utf8.decode s pos).1 := by
  rw [← Go.Lib.decodeL_drop]; exact decodeL_scalar _
def OfRel (s : ByteArray) (k : Nat) (w0 : World) (n : Value) (wr : World) : Prop := ∃ (pos : Nat) (done : List Nat), n = .string ⟨(enc done).toArray⟩ ∧ wr.heap[k]? = some (.stringIter s pos) ∧ Below w0.heap.size w0 wr ∧ done ++ runes (s.data.toList.drop pos) = runes s.data.toList ∧ done.length ≤ pos
set_option maxHeartbeats 1600000 in
set_option maxRecDepth 100000 in
theorem of_calls (s : ByteArray) (hs : s.size ≤ 35184372088832) (w : World) :
    Calls Try.prog 32 #[.string s] w fun e w' => e = .returned (.string ⟨(enc (runes s.data.toList)).toArray⟩) ∧ Below w.heap.size w w' := by
  have HZ := Lib.hid hs; clear hs
  go_enter Try.func32, Try.ntmps32
  go_wp2_with fail
  go_loopw [5, 3] (fun _ n wr => OfRel s w.heap.size w n wr) (fun _ _ wr => s.size - wr.iterPos w.heap.size)
  case atStart =>
    exact ⟨0, [], rfl, World.iter_heap w s 0, Kt.balloc (Below.refl _ w) _, rfl, by simp⟩
  case round =>
    obtain ⟨pos, done, rfl, hit, hbel, hdone, hpos⟩ := hrel
    by_cases hp : pos < s.size
    · have hnx : ∀ ty, (Instr.next (.pointer (some ⟨w.heap.size, 0, none⟩)) true ty).run Try.prog wr = _ := fun ty => Lib.run_next_any_at wr w.heap.size s pos ty hit hp
      have hw := dec_wide s pos
      have hsc := dec_scalar s pos
      have hst := drop_step s pos hp
      have hit2 := Lib.iterAt_heap wr w.heap.size s pos (pos + (Utf8.decode s pos).2) hit
      have hbel2 := Lib.below_iterAt hbel (k := w.heap.size) (Nat.le_refl _) s (pos + (Utf8.decode s pos).2)
      have hln := enc_len done
      generalize Utf8.decode s pos = d at *
      obtain ⟨r, wd⟩ := d
      simp only at hnx hw hst hit2 hbel2 hsc
      have HS := Lib.hid hst; clear hst
      have HD := Lib.hid hdone; clear hdone
      have HC := Lib.hid (enc_snoc done r hsc)
      have h4 := encode_size_le (r : Int)
      generalize hW2 : wr.iterAt w.heap.size s (pos + wd) = w2 at *
      clear hW2
      generalize hcn : (⟨(enc done).toArray⟩ : ByteArray) = c at *
      have hcz : c.size ≤ 140737488355328 := by
        rw [← hcn]; show (enc done).toArray.size ≤ _; rw [List.size_toArray]; have := HZ.out; omega
      clear hcn hln
      obtain ⟨z, hz⟩ : ∃ z : Int, z = r := ⟨_, rfl⟩
      rw [← hz] at hnx h4
      have HR := Lib.hid hz; clear hz
      go_wp2_with fail
      go_roundw
      case rel =>
        have hr := HR.out
        refine ⟨pos + wd, done ++ [r], ?_, hit2, hbel2, ?_, by simp; omega⟩
        · rw [hr, HC.out]
        · rw [← HD.out, HS.out]; simp
      case measure =>
        simp only [World.iterPos, hit2, hit]
        omega
    · have hnx : ∀ ty, (Instr.next (.pointer (some ⟨w.heap.size, 0, none⟩)) true ty).run Try.prog wr = _ := fun ty => Lib.run_next_end_at wr w.heap.size s pos ty hit hp
      rw [drop_end s pos hp, List.append_nil] at hdone
      subst hdone
      go_wp2_with fail
      go_ret
      exact ⟨rfl, hbel⟩
def Of (s t : ByteArray) : Prop := ∀ w : World, Calls Try.prog 32 #[.string s] w fun e w' => e = .returned (.string t) ∧ Below w.heap.size w w'
end Go.Proofs.Ytmddfpmchcmgiaa
