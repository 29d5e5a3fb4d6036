/- keys.Parse: what it answers. -/
import Derived.Test.YtbmfldoobkeieaaDoorKParseA
import Derived.Test.YtbmfldoobkeieaaDoorKParseB
namespace Go.Proofs.YtbmfldoobkeieaaDoor.KForm
open Go.RowKit Go.Proofs.YtbmfldoobkeieaaDoor.KSpan Go.Proofs.YtbmfldoobkeieaaDoorW.PrintWords
set_option linter.unusedVariables false

theorem parse_given (s : ByteArray) (r1 r2 r3 r4 : Int) (w : World) (h : (if s.size ≤ 281474976710656 then some (parseF s) else none) = some (r1, r2, r3, r4)) (hT : TabE w) :
    Calls Tryd.prog 23 #[.string s] w fun e w' => e = .returned (.tuple #[.agg #[.int .i64 r1, .int .i64 r2], .int .i64 r3, .int .i64 r4]) ∧ Below w.heap.size w w' := by
  by_cases hs : s.size ≤ 281474976710656
  · rw [if_pos hs] at h
    by_cases hq : bt s 0 = 48
    · exact parse_walkB s r1 r2 r3 r4 w hs (Option.some.inj h) hT hq
    · exact parse_walkA s r1 r2 r3 r4 w hs (Option.some.inj h) hT hq
  · rw [if_neg hs] at h
    cases h
end Go.Proofs.YtbmfldoobkeieaaDoor.KForm
