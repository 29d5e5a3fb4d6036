/- The walk of KeysWalks, its arguments in the row's order. -/
import Derived.Test.YtbmfldoobkeieaaWalkAll
namespace Go.Proofs.Ytbmfldoobkeieaa.WalkAll
open Go.RowKit Go.Proofs.Ytbmfldoobkeieaa.KForm

theorem row (W : World) (A : Option Addr) (c : Nat) (l : List (Int × Int)) (hc : l.length ≤ c) (h : KR W A l) (hl : l.length < 1048576) (stop : Int) :
    Calls Try.prog 3 #[.slice A l.length c, .int .i64 stop] W fun e W' => e = .returned (.bool true) ∧ RowKit.Below W.heap.size W W' := walk W A c l stop hc h hl
end Go.Proofs.Ytbmfldoobkeieaa.WalkAll
