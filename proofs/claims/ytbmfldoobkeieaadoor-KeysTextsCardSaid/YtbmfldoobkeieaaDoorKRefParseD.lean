/- The reference's Parse: what it answers. -/
import Derived.Test.YtbmfldoobkeieaaDoorKRefParseA
import Derived.Test.YtbmfldoobkeieaaDoorKRefParseB
import Derived.Test.YtbmfldoobkeieaaDoorKRefParseC
namespace Go.Proofs.YtbmfldoobkeieaaDoor.KForm
open Go.RowKit Go.Proofs.YtbmfldoobkeieaaDoor.KSpan Go.Proofs.YtbmfldoobkeieaaDoorW.PrintWords
set_option linter.unusedVariables false

theorem ref_given (s : ByteArray) (r1 r2 r3 r4 : Int) (w : World) (h : (if s.size ≤ 281474976710656 then some (parseF s) else none) = some (r1, r2, r3, r4)) :
    Calls Tryd.prog 24 #[.string s] w fun e w' => e = .returned (.tuple #[.agg #[.int .i64 r1, .int .i64 r2], .int .i64 r3, .int .i64 r4]) ∧ Below w.heap.size w w' := by
  by_cases hs : s.size ≤ 281474976710656
  · rw [if_pos hs] at h
    by_cases hq : bt s 0 = 48
    · exact ref_walkB s r1 r2 r3 r4 w hs (Option.some.inj h) hq
    · by_cases hz : 1 < span s 0
      · exact ref_walkA s r1 r2 r3 r4 w hs (Option.some.inj h) hq hz
      · exact ref_walkC s r1 r2 r3 r4 w hs (Option.some.inj h) hq hz
  · rw [if_neg hs] at h
    cases h
end Go.Proofs.YtbmfldoobkeieaaDoor.KForm
