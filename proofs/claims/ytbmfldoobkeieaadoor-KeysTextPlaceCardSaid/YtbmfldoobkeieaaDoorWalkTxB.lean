/- The laws of keys' texts: the walk of the law function, joined with what it tells. -/
import Derived.Test.YtbmfldoobkeieaaDoorGTxBx
import Derived.Test.YtbmfldoobkeieaaDoorPureTxt4
namespace Go.Proofs.YtbmfldoobkeieaaDoor.WalkTxB
open Go.RowKit Go.Proofs.YtbmfldoobkeieaaDoor.KForm Go.Proofs.YtbmfldoobkeieaaDoor.GTxB

theorem i64_of_wf {x : Int} (h : (Lit.int .i64 x).wf = true) : -9223372036854775808 ≤ x ∧ x ≤ 9223372036854775807 := by
  simpa [Lit.wf, IntKind.min, IntKind.max, IntKind.signed, IntKind.bits] using h
theorem keysTextBack (W : World) (t r : Int) (wt : (Lit.int .i64 t).wf = true) (wr : (Lit.int .i64 r).wf = true) (s : ByteArray) (hs : s.size ≤ 140737488351232) (hT : TabE W) :
    Calls Tryd.prog 6 #[.agg #[.int .i64 t, .int .i64 r], .string s] W fun e W' => e = .returned (.bool true) ∧ Below W.heap.size W W' := by
  obtain ⟨t0, t1⟩ := i64_of_wf wt
  obtain ⟨r0, r1⟩ := i64_of_wf wr
  obtain ⟨k, hk⟩ := PureTxB.keysTextBack t r s t0 t1 r0 r1 hs
  exact preludelaw02_KeysTextBack.calls k t r s true W hk hT
theorem keysTextPlace (W : World) (s : ByteArray) (hs : s.size ≤ 140737488351232) (u : ByteArray) (hu : u.size ≤ 140737488351232) (hT : TabE W) :
    Calls Tryd.prog 7 #[.string s, .string u] W fun e W' => e = .returned (.bool true) ∧ Below W.heap.size W W' := by
  obtain ⟨k, hk⟩ := PureTxB.keysTextPlace s u hs hu
  exact preludelaw02_KeysTextPlace.calls k s u true W hk hT
end Go.Proofs.YtbmfldoobkeieaaDoor.WalkTxB
