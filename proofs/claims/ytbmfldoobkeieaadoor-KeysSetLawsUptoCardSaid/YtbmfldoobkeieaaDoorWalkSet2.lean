/- The walk of KeysSetLaws, in the row's words. -/
import Derived.Test.YtbmfldoobkeieaaDoorWalkSet
namespace Go.Proofs.YtbmfldoobkeieaaDoor.WalkSet
open Go.RowKit Go.Lib Go.Proofs.YtbmfldoobkeieaaDoor.Own Go.Proofs.YtbmfldoobkeieaaDoor.KForm Go.Proofs.YtbmfldoobkeieaaDoorW.PrintWords
set_option linter.unusedVariables false

theorem kr_row {W : World} {A : Option Addr} {l : List (Int × Int)} (hC : ReadsRow (fun (p : Int × Int) cs => cs = [.int .i64 p.1, .int .i64 p.2]) 2 W A l.length l) : KR W A l := by
  obtain ⟨h1, h2, h3⟩ := hC
  intro h0
  obtain ⟨ad, hA, hc⟩ := h3 h0
  refine ⟨ad, hA, ?_, fun j hj i v hv => ?_⟩
  · obtain ⟨q, hq⟩ : ∃ q, l[0]? = some q := ⟨_, List.getElem?_eq_getElem h0⟩
    obtain ⟨cs, _, rfl, c3⟩ := hc 0 q hq
    have := World.block_lt_of_cell? W _ (c3 0 _ rfl)
    rwa [KForm.add_block] at this
  · rw [getElem!_pos l j hj] at hv
    obtain ⟨cs, _, rfl, c3⟩ := hc j _ (List.getElem?_eq_getElem hj)
    exact c3 i v hv
theorem keysSetLaws (W : World) (a0 : Option Addr) (c0 : Nat) (l0 : List (Int × Int)) (hc0 : l0.length ≤ c0) (hC0 : ReadsRow (fun (p : Int × Int) cs => cs = [.int .i64 p.1, .int .i64 p.2]) 2 W a0 l0.length l0) (z0 : l0.length < 1048576)
    (a1 : Option Addr) (c1 : Nat) (l1 : List (Int × Int)) (hc1 : l1.length ≤ c1) (hC1 : ReadsRow (fun (p : Int × Int) cs => cs = [.int .i64 p.1, .int .i64 p.2]) 2 W a1 l1.length l1) (z1 : l1.length < 1048576)
    (k0 k1 : Int) (w0 : (Lit.int .i64 k0).wf = true) (w1 : (Lit.int .i64 k1).wf = true) (hT : TabW W) :
    Calls Tryd.prog 8 #[.slice a0 l0.length c0, .slice a1 l1.length c1, .agg #[.int .i64 k0, .int .i64 k1]] W fun e W' => e = .returned (.bool true) ∧ RowKit.Below W.heap.size W W' :=
  walk W a0 a1 c0 c1 l0 l1 (k0, k1) (kr_row hC0) (kr_row hC1) hc0 hc1 (by omega) (by omega) hT
end Go.Proofs.YtbmfldoobkeieaaDoor.WalkSet
