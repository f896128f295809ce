/- A sheet that came in, read. -/
import Derived.Test.YtmddfpmchcmgiaaGadP
import Derived.Test.YtmddfpmchcmgiaaDscR
namespace Go.Proofs.Ytmddfpmchcmgiaa
open Go.RowKit Go.Proofs.Ytmddfpmchcmgiaa.Dsc Go.Proofs.Ytmddfpmchcmgiaa.Gad
def ShRd (w : World) (v : Value) (s : Sh) : Prop := ∃ F T, v = .agg #[.int .i64 s.dev.usb, .int .i64 s.dev.cls, .int .i64 s.dev.sub, .int .i64 s.dev.pro, .int .i64 s.dev.m0, .int .i64 s.dev.ven, .int .i64 s.dev.prd, .int .i64 s.dev.rel, .int .i64 s.dev.mak, .int .i64 s.dev.nam, .int .i64 s.dev.ser, .int .i64 s.dev.cfs,
    .int .i64 s.cfg.va, .int .i64 s.cfg.nm, .int .i64 s.cfg.at_, .int .i64 s.cfg.pw, F, T] ∧ CRd w (.agg #[.int .i64 s.cfg.va, .int .i64 s.cfg.nm, .int .i64 s.cfg.at_, .int .i64 s.cfg.pw, F]) s.cfg ∧ Kt.Ar w T 1 s.tx.length (xcells s.tx)
theorem ShRd.on {w w' : World} {v : Value} {s : Sh} (h : ShRd w v s) (hb : Below w.heap.size w w') : ShRd w' v s := by
  obtain ⟨F, T, h1, h2, h3⟩ := h
  exact ⟨F, T, h1, h2.on hb, h3.on hb⟩
end Go.Proofs.Ytmddfpmchcmgiaa
