/-
  No cell of these rows narrows 'for every input' (looked for: loops, veiled, ifaces, maps, wideKeys, modest, calm, conditions, laid).
  DERIVED. THE GIVEN ROWS OF THIS SEAT. 9 by the template 'for every input the law returns true; each argument reads behind the call as it read before'; 0 by the template 'total and deterministic' (their statements: YtbmfldoobkeieaaTotals.lean).
  GIVEN WITH THE SEED: the statements are not yours to turn. If you find one false, say at which input.
  Laid BY PROGRAM, IN A SANDBOX (cutbox-rows.mjs): the forced cells as the released guide's own fill.sh prints them over the translation 0b5c5a5b08b630eb… (all of the seat's roots in one cut). By AI agents, Wed Nov 11 2026. No macro, syntax, notation, axiom, sorry.
-/
import Derived.Test.YtbmfldoobkeieaaChecked
import GoSem.Claim
import GoSem.ClaimJoined
import GoSem.ClaimMapViews
import Derived.JoinedTies
import Derived.KernelRfl
namespace Go.Proofs.Ytbmfldoobkeieaa
/- THE CELL 'sum', in the pinned program and in every row, IS THE sha256 OF THE DUMP (.gsa) THAT YtbmfldoobkeieaaProg.lean LOADS. Nothing in Lean hashes anything: it is a label: what it is worth is what the hold of that sum in a sandbox is worth. -/
noncomputable def Try.pinned : Pinned := { name := "ytbmfldoobkeieaa", sum := "0b5c5a5b08b630eb58f8a818209dff0adc12ef2e16ec3d7aaece624de78f32ea", checked := Try.checked }
namespace Rows
def none {H : Type} : Left H := { results := [], args := [] }

/-- 'preludelaw02.KeysWalks': WHATEVER THE INPUT: true; the input reads as it did. -/
def keysWalksSpec : ChangeSpec := { name := "keysWalks", fn := fun _ => fun
  | [d1, d2] => { results := [.lit (.bool true)], args := [d1, d2] }
  | _ => none }
def keysWalksRow : OpenClaim := { program := "ytbmfldoobkeieaa", sum := "0b5c5a5b08b630eb58f8a818209dff0adc12ef2e16ec3d7aaece624de78f32ea", func := "prelude/preludelaw02.KeysWalks", spec := "keysWalks", unfollowed := true, recurses := true, apart := false }
def KeysWalksSaid : Prop := keysWalksRow.holds Try.pinned (OpenSpec.ofChange keysWalksSpec)

/-- ITS FALSE NEIGHBOUR: 'it returns false'. Refute it at one input. -/
def keysWalksWrong : ChangeSpec := { name := "keysWalks", fn := fun _ => fun
  | [d1, d2] => { results := [.lit (.bool false)], args := [d1, d2] }
  | _ => none }
def KeysWalksWrongFalsely : Prop := keysWalksRow.holds Try.pinned (OpenSpec.ofChange keysWalksWrong)

/-- 'preludelaw02.KeysBytes': WHATEVER THE INPUT: true; the input reads as it did. -/
def keysBytesSpec : ChangeSpec := { name := "keysBytes", fn := fun _ => fun
  | [d1, d2] => { results := [.lit (.bool true)], args := [d1, d2] }
  | _ => none }
def keysBytesRow : OpenClaim := { program := "ytbmfldoobkeieaa", sum := "0b5c5a5b08b630eb58f8a818209dff0adc12ef2e16ec3d7aaece624de78f32ea", func := "prelude/preludelaw02.KeysBytes", spec := "keysBytes", apart := false }
def KeysBytesSaid : Prop := keysBytesRow.holds Try.pinned (OpenSpec.ofChange keysBytesSpec)

/-- ITS FALSE NEIGHBOUR: 'it returns false'. Refute it at one input. -/
def keysBytesWrong : ChangeSpec := { name := "keysBytes", fn := fun _ => fun
  | [d1, d2] => { results := [.lit (.bool false)], args := [d1, d2] }
  | _ => none }
def KeysBytesWrongFalsely : Prop := keysBytesRow.holds Try.pinned (OpenSpec.ofChange keysBytesWrong)

/-- 'preludelaw02.KeysHashes': WHATEVER THE INPUT: true; the input reads as it did. -/
def keysHashesSpec : ChangeSpec := { name := "keysHashes", fn := fun _ => fun
  | [d1, d2] => { results := [.lit (.bool true)], args := [d1, d2] }
  | _ => none }
def keysHashesRow : OpenClaim := { program := "ytbmfldoobkeieaa", sum := "0b5c5a5b08b630eb58f8a818209dff0adc12ef2e16ec3d7aaece624de78f32ea", func := "prelude/preludelaw02.KeysHashes", spec := "keysHashes", apart := false }
def KeysHashesSaid : Prop := keysHashesRow.holds Try.pinned (OpenSpec.ofChange keysHashesSpec)

/-- ITS FALSE NEIGHBOUR: 'it returns false'. Refute it at one input. -/
def keysHashesWrong : ChangeSpec := { name := "keysHashes", fn := fun _ => fun
  | [d1, d2] => { results := [.lit (.bool false)], args := [d1, d2] }
  | _ => none }
def KeysHashesWrongFalsely : Prop := keysHashesRow.holds Try.pinned (OpenSpec.ofChange keysHashesWrong)

/-- 'preludelaw02.KeysOneOrder': WHATEVER THE INPUT: true; the input reads as it did. -/
def keysOneOrderSpec : ChangeSpec := { name := "keysOneOrder", fn := fun _ => fun
  | [d1, d2, d3] => { results := [.lit (.bool true)], args := [d1, d2, d3] }
  | _ => none }
def keysOneOrderRow : OpenClaim := { program := "ytbmfldoobkeieaa", sum := "0b5c5a5b08b630eb58f8a818209dff0adc12ef2e16ec3d7aaece624de78f32ea", func := "prelude/preludelaw02.KeysOneOrder", spec := "keysOneOrder", apart := false }
def KeysOneOrderSaid : Prop := keysOneOrderRow.holds Try.pinned (OpenSpec.ofChange keysOneOrderSpec)

/-- ITS FALSE NEIGHBOUR: 'it returns false'. Refute it at one input. -/
def keysOneOrderWrong : ChangeSpec := { name := "keysOneOrder", fn := fun _ => fun
  | [d1, d2, d3] => { results := [.lit (.bool false)], args := [d1, d2, d3] }
  | _ => none }
def KeysOneOrderWrongFalsely : Prop := keysOneOrderRow.holds Try.pinned (OpenSpec.ofChange keysOneOrderWrong)

/-- 'preludelaw02.KeysOrder': WHATEVER THE INPUT: true; the input reads as it did. -/
def keysOrderSpec : ChangeSpec := { name := "keysOrder", fn := fun _ => fun
  | [d1, d2] => { results := [.lit (.bool true)], args := [d1, d2] }
  | _ => none }
def keysOrderRow : OpenClaim := { program := "ytbmfldoobkeieaa", sum := "0b5c5a5b08b630eb58f8a818209dff0adc12ef2e16ec3d7aaece624de78f32ea", func := "prelude/preludelaw02.KeysOrder", spec := "keysOrder", apart := false }
def KeysOrderSaid : Prop := keysOrderRow.holds Try.pinned (OpenSpec.ofChange keysOrderSpec)

/-- ITS FALSE NEIGHBOUR: 'it returns false'. Refute it at one input. -/
def keysOrderWrong : ChangeSpec := { name := "keysOrder", fn := fun _ => fun
  | [d1, d2] => { results := [.lit (.bool false)], args := [d1, d2] }
  | _ => none }
def KeysOrderWrongFalsely : Prop := keysOrderRow.holds Try.pinned (OpenSpec.ofChange keysOrderWrong)

/-- 'preludelaw02.KeysSets': WHATEVER THE INPUT: true; the input reads as it did. -/
def keysSetsSpec : ChangeSpec := { name := "keysSets", fn := fun _ => fun
  | [d] => { results := [.lit (.bool true)], args := [d] }
  | _ => none }
def keysSetsRow : OpenClaim := { program := "ytbmfldoobkeieaa", sum := "0b5c5a5b08b630eb58f8a818209dff0adc12ef2e16ec3d7aaece624de78f32ea", func := "prelude/preludelaw02.KeysSets", spec := "keysSets", unfollowed := true, recurses := true, apart := false }
def KeysSetsSaid : Prop := keysSetsRow.holds Try.pinned (OpenSpec.ofChange keysSetsSpec)

/-- ITS FALSE NEIGHBOUR: 'it returns false'. Refute it at one input. -/
def keysSetsWrong : ChangeSpec := { name := "keysSets", fn := fun _ => fun
  | [d] => { results := [.lit (.bool false)], args := [d] }
  | _ => none }
def KeysSetsWrongFalsely : Prop := keysSetsRow.holds Try.pinned (OpenSpec.ofChange keysSetsWrong)

/-- 'preludelaw02.KeysAlgebra': WHATEVER THE INPUT: true; the input reads as it did. -/
def keysAlgebraSpec : ChangeSpec := { name := "keysAlgebra", fn := fun _ => fun
  | [d] => { results := [.lit (.bool true)], args := [d] }
  | _ => none }
def keysAlgebraRow : OpenClaim := { program := "ytbmfldoobkeieaa", sum := "0b5c5a5b08b630eb58f8a818209dff0adc12ef2e16ec3d7aaece624de78f32ea", func := "prelude/preludelaw02.KeysAlgebra", spec := "keysAlgebra", unfollowed := true, recurses := true, apart := false }
def KeysAlgebraSaid : Prop := keysAlgebraRow.holds Try.pinned (OpenSpec.ofChange keysAlgebraSpec)

/-- ITS FALSE NEIGHBOUR: 'it returns false'. Refute it at one input. -/
def keysAlgebraWrong : ChangeSpec := { name := "keysAlgebra", fn := fun _ => fun
  | [d] => { results := [.lit (.bool false)], args := [d] }
  | _ => none }
def KeysAlgebraWrongFalsely : Prop := keysAlgebraRow.holds Try.pinned (OpenSpec.ofChange keysAlgebraWrong)

/-- 'preludelaw02.KeysSplits': WHATEVER THE INPUT: true; the input reads as it did. -/
def keysSplitsSpec : ChangeSpec := { name := "keysSplits", fn := fun _ => fun
  | [d] => { results := [.lit (.bool true)], args := [d] }
  | _ => none }
def keysSplitsRow : OpenClaim := { program := "ytbmfldoobkeieaa", sum := "0b5c5a5b08b630eb58f8a818209dff0adc12ef2e16ec3d7aaece624de78f32ea", func := "prelude/preludelaw02.KeysSplits", spec := "keysSplits", unfollowed := true, recurses := true, apart := false }
def KeysSplitsSaid : Prop := keysSplitsRow.holds Try.pinned (OpenSpec.ofChange keysSplitsSpec)

/-- ITS FALSE NEIGHBOUR: 'it returns false'. Refute it at one input. -/
def keysSplitsWrong : ChangeSpec := { name := "keysSplits", fn := fun _ => fun
  | [d] => { results := [.lit (.bool false)], args := [d] }
  | _ => none }
def KeysSplitsWrongFalsely : Prop := keysSplitsRow.holds Try.pinned (OpenSpec.ofChange keysSplitsWrong)

/-- 'preludelaw02.KeysExact': WHATEVER THE INPUT: true; the input reads as it did. -/
def keysExactSpec : ChangeSpec := { name := "keysExact", fn := fun _ => fun
  | [d] => { results := [.lit (.bool true)], args := [d] }
  | _ => none }
def keysExactRow : OpenClaim := { program := "ytbmfldoobkeieaa", sum := "0b5c5a5b08b630eb58f8a818209dff0adc12ef2e16ec3d7aaece624de78f32ea", func := "prelude/preludelaw02.KeysExact", spec := "keysExact", unfollowed := true, recurses := true, apart := false }
def KeysExactSaid : Prop := keysExactRow.holds Try.pinned (OpenSpec.ofChange keysExactSpec)

/-- ITS FALSE NEIGHBOUR: 'it returns false'. Refute it at one input. -/
def keysExactWrong : ChangeSpec := { name := "keysExact", fn := fun _ => fun
  | [d] => { results := [.lit (.bool false)], args := [d] }
  | _ => none }
def KeysExactWrongFalsely : Prop := keysExactRow.holds Try.pinned (OpenSpec.ofChange keysExactWrong)

/- THE SECOND FORM. 'bulk': how many values and letters a reading holds, each counted each time it is reached (what is shared counts as often as it is met; a slice's spare places count too). A statement '..UptoSaid' is the law's where the arguments, and the package variables that the reading takes, are together of bulk at most 1048576: NARROWER than '..Said'. Prove '..Said' where nothing that the law and all that it calls make is longer than what came in: it says more and counts as full. Else prove '..UptoSaid'. A law counts once. -/
mutual
def uptoBulk {H : Type} : DataW H → Nat
  | .lit (.string bytes) => bytes.length + 1
  | .lit _ => 1
  | .nil => 1
  | .ptr d => uptoBulk d + 1
  | .slice elems spare => uptoBulkAll elems + uptoBulkAll spare + 1
  | .agg parts => uptoBulkAll parts + 1
  | .iface _ d => uptoBulk d + 1
  | .map entries => uptoBulkEntries entries + 1
  | .held _ => 1
def uptoBulkAll {H : Type} : List (DataW H) → Nat
  | [] => 0
  | d :: r => uptoBulk d + uptoBulkAll r
def uptoBulkEntries {H : Type} : List (Lit × DataW H) → Nat
  | [] => 0
  | x :: r => uptoBulkEntry x + uptoBulkEntries r
def uptoBulkEntry {H : Type} : Lit × DataW H → Nat
  | (.string bytes, d) => bytes.length + uptoBulk d + 1
  | (_, d) => uptoBulk d + 1
 end
def uptoSmall : (H : Type) → List (DataW H) → Bool := fun _ ds => decide (uptoBulkAll ds ≤ 1048576)
def OpenSpec.upto (s : _root_.Go.ChangeSpec) : _root_.Go.OpenSpec := { _root_.Go.OpenSpec.ofChange s with cond := some uptoSmall }

/-- 'preludelaw02.KeysWalks', WHERE WHAT IT READS IS OF BULK AT MOST 1048576: true; the input reads as it did. -/
def keysWalksUptoRow : OpenClaim := { program := "ytbmfldoobkeieaa", sum := "0b5c5a5b08b630eb58f8a818209dff0adc12ef2e16ec3d7aaece624de78f32ea", func := "prelude/preludelaw02.KeysWalks", spec := "keysWalks", unfollowed := true, recurses := true, apart := false, narrowed := true }
def KeysWalksUptoSaid : Prop := keysWalksUptoRow.holds Try.pinned (OpenSpec.upto keysWalksSpec)

/-- 'preludelaw02.KeysBytes', WHERE WHAT IT READS IS OF BULK AT MOST 1048576: true; the input reads as it did. -/
def keysBytesUptoRow : OpenClaim := { program := "ytbmfldoobkeieaa", sum := "0b5c5a5b08b630eb58f8a818209dff0adc12ef2e16ec3d7aaece624de78f32ea", func := "prelude/preludelaw02.KeysBytes", spec := "keysBytes", apart := false, narrowed := true }
def KeysBytesUptoSaid : Prop := keysBytesUptoRow.holds Try.pinned (OpenSpec.upto keysBytesSpec)

/-- 'preludelaw02.KeysHashes', WHERE WHAT IT READS IS OF BULK AT MOST 1048576: true; the input reads as it did. -/
def keysHashesUptoRow : OpenClaim := { program := "ytbmfldoobkeieaa", sum := "0b5c5a5b08b630eb58f8a818209dff0adc12ef2e16ec3d7aaece624de78f32ea", func := "prelude/preludelaw02.KeysHashes", spec := "keysHashes", apart := false, narrowed := true }
def KeysHashesUptoSaid : Prop := keysHashesUptoRow.holds Try.pinned (OpenSpec.upto keysHashesSpec)

/-- 'preludelaw02.KeysOneOrder', WHERE WHAT IT READS IS OF BULK AT MOST 1048576: true; the input reads as it did. -/
def keysOneOrderUptoRow : OpenClaim := { program := "ytbmfldoobkeieaa", sum := "0b5c5a5b08b630eb58f8a818209dff0adc12ef2e16ec3d7aaece624de78f32ea", func := "prelude/preludelaw02.KeysOneOrder", spec := "keysOneOrder", apart := false, narrowed := true }
def KeysOneOrderUptoSaid : Prop := keysOneOrderUptoRow.holds Try.pinned (OpenSpec.upto keysOneOrderSpec)

/-- 'preludelaw02.KeysOrder', WHERE WHAT IT READS IS OF BULK AT MOST 1048576: true; the input reads as it did. -/
def keysOrderUptoRow : OpenClaim := { program := "ytbmfldoobkeieaa", sum := "0b5c5a5b08b630eb58f8a818209dff0adc12ef2e16ec3d7aaece624de78f32ea", func := "prelude/preludelaw02.KeysOrder", spec := "keysOrder", apart := false, narrowed := true }
def KeysOrderUptoSaid : Prop := keysOrderUptoRow.holds Try.pinned (OpenSpec.upto keysOrderSpec)

/-- 'preludelaw02.KeysSets', WHERE WHAT IT READS IS OF BULK AT MOST 1048576: true; the input reads as it did. -/
def keysSetsUptoRow : OpenClaim := { program := "ytbmfldoobkeieaa", sum := "0b5c5a5b08b630eb58f8a818209dff0adc12ef2e16ec3d7aaece624de78f32ea", func := "prelude/preludelaw02.KeysSets", spec := "keysSets", unfollowed := true, recurses := true, apart := false, narrowed := true }
def KeysSetsUptoSaid : Prop := keysSetsUptoRow.holds Try.pinned (OpenSpec.upto keysSetsSpec)

/-- 'preludelaw02.KeysAlgebra', WHERE WHAT IT READS IS OF BULK AT MOST 1048576: true; the input reads as it did. -/
def keysAlgebraUptoRow : OpenClaim := { program := "ytbmfldoobkeieaa", sum := "0b5c5a5b08b630eb58f8a818209dff0adc12ef2e16ec3d7aaece624de78f32ea", func := "prelude/preludelaw02.KeysAlgebra", spec := "keysAlgebra", unfollowed := true, recurses := true, apart := false, narrowed := true }
def KeysAlgebraUptoSaid : Prop := keysAlgebraUptoRow.holds Try.pinned (OpenSpec.upto keysAlgebraSpec)

/-- 'preludelaw02.KeysSplits', WHERE WHAT IT READS IS OF BULK AT MOST 1048576: true; the input reads as it did. -/
def keysSplitsUptoRow : OpenClaim := { program := "ytbmfldoobkeieaa", sum := "0b5c5a5b08b630eb58f8a818209dff0adc12ef2e16ec3d7aaece624de78f32ea", func := "prelude/preludelaw02.KeysSplits", spec := "keysSplits", unfollowed := true, recurses := true, apart := false, narrowed := true }
def KeysSplitsUptoSaid : Prop := keysSplitsUptoRow.holds Try.pinned (OpenSpec.upto keysSplitsSpec)

/-- 'preludelaw02.KeysExact', WHERE WHAT IT READS IS OF BULK AT MOST 1048576: true; the input reads as it did. -/
def keysExactUptoRow : OpenClaim := { program := "ytbmfldoobkeieaa", sum := "0b5c5a5b08b630eb58f8a818209dff0adc12ef2e16ec3d7aaece624de78f32ea", func := "prelude/preludelaw02.KeysExact", spec := "keysExact", unfollowed := true, recurses := true, apart := false, narrowed := true }
def KeysExactUptoSaid : Prop := keysExactUptoRow.holds Try.pinned (OpenSpec.upto keysExactSpec)

end Rows
end Go.Proofs.Ytbmfldoobkeieaa
