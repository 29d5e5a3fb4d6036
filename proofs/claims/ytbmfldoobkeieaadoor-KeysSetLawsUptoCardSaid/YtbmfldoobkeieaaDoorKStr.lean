/- strconv.Itoa and strconv.FormatInt at base 10, in the print's own form: their contracts (the shelf's) in a world that holds the library's table of powers of ten. -/
import Derived.Test.YtbmfldoobkeieaaDoorShelf
import Derived.Test.YtbmfldoobkeieaaDoorKForm
import Derived.Lib.AppendIntMem
import Derived.Lib.SmallJoins
namespace Go.Proofs.YtbmfldoobkeieaaDoor.KForm
open Go.RowKit
set_option linter.unusedVariables false
set_option linter.unusedSimpArgs false

/-- the library's table that FormatInt reads -/
def TabW (w : World) : Prop := Lib.TabIs Tryd.prog w "internal/strconv.uint64pow10" .u64 Lib.pow10Tab
theorem gTab : Tryd.prog.globalNamed "internal/strconv.uint64pow10" = some 0 := by kernel_rfl
theorem TabW.of {w W : World} (hb : Below w.heap.size w W) (h : TabW w) : TabW W := Joins.tab_stays gTab h hb (Nat.le_refl _)

def itoaF (n : Int) : Option ByteArray := if -9223372036854775808 ≤ n ∧ n ≤ 9223372036854775807 then some ⟨(Lib.itoa n).toArray⟩ else none
theorem itoa_given (a0 : Int) (r : ByteArray) (w : World) (h : itoaF a0 = some r) (hT : TabW w) :
    Calls Tryd.prog 40 #[.int .i64 a0] w fun e w' => e = .returned (.string r) ∧ Below w.heap.size w w' := by
  unfold itoaF at h
  split at h
  · rename_i hr
    obtain rfl := Option.some.inj h
    refine (Tryd.strconv_Itoa a0 hr.1 hr.2 w hT).mono ?_
    rintro e w' ⟨rfl, k, os, rfl⟩
    exact ⟨rfl, Lib.below_grow _ _ (Nat.le_refl _) k os⟩
  · cases h
def formatF (n b : Int) : Option ByteArray := if b = 10 then itoaF n else none
theorem format_given (a0 a1 : Int) (r : ByteArray) (w : World) (h : formatF a0 a1 = some r) (hT : TabW w) :
    Calls Tryd.prog 41 #[.int .i64 a0, .int .i64 a1] w fun e w' => e = .returned (.string r) ∧ Below w.heap.size w w' := by
  unfold formatF at h
  split at h
  · rename_i hb
    subst hb
    unfold itoaF at h
    split at h
    · rename_i hr
      obtain rfl := Option.some.inj h
      refine (Tryd.strconv_FormatInt_10 a0 hr.1 hr.2 w hT).mono ?_
      rintro e w' ⟨rfl, k, os, rfl⟩
      exact ⟨rfl, Lib.below_grow _ _ (Nat.le_refl _) k os⟩
    · cases h
  · cases h
end Go.Proofs.YtbmfldoobkeieaaDoor.KForm
