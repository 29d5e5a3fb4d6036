/- The laws of keys' texts: the walk of the law function, joined with what it tells. -/
import Derived.Test.YtbmfldoobkeieaaDoorGTxtx
import Derived.Test.YtbmfldoobkeieaaDoorPureTxt2
namespace Go.Proofs.YtbmfldoobkeieaaDoor.WalkTxt
open Go.RowKit Go.Proofs.YtbmfldoobkeieaaDoor.KForm Go.Proofs.YtbmfldoobkeieaaDoor.GTxt

theorem i64_of_wf {x : Int} (h : (Lit.int .i64 x).wf = true) : -9223372036854775808 ≤ x ∧ x ≤ 9223372036854775807 := by
  simpa [Lit.wf, IntKind.min, IntKind.max, IntKind.signed, IntKind.bits] using h
theorem keysTexts (W : World) (t r : Int) (wt : (Lit.int .i64 t).wf = true) (wr : (Lit.int .i64 r).wf = true) (s : ByteArray) (hs : s.size ≤ 140737488351232) (hT : TabE W) :
    Calls Tryd.prog 5 #[.agg #[.int .i64 t, .int .i64 r], .string s] W fun e W' => e = .returned (.bool true) ∧ Below W.heap.size W W' := by
  obtain ⟨t0, t1⟩ := i64_of_wf wt
  obtain ⟨r0, r1⟩ := i64_of_wf wr
  obtain ⟨k, hk⟩ := Pure.keysTexts t r s t0 t1 r0 r1 hs
  exact preludelaw02_KeysTexts.calls k t r s true W hk hT
end Go.Proofs.YtbmfldoobkeieaaDoor.WalkTxt
