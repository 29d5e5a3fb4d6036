/- A row's list of keys, as the walks read it. -/
import Derived.Test.YtbmfldoobkeieaaKList
namespace Go.Proofs.Ytbmfldoobkeieaa.KForm
open Go.RowKit Go.Lib Go.Proofs.Ytbmfldoobkeieaa.Own Go.Proofs.YtbmfldoobkeieaaW.PrintWords
set_option linter.unusedVariables false

theorem kr_row {W : World} {A : Option Addr} {l : List (Int × Int)} (hC : ReadsRow (fun (p : Int × Int) cs => cs = [.int .i64 p.1, .int .i64 p.2]) 2 W A l.length l) : KR W A l := by
  obtain ⟨h1, h2, h3⟩ := hC
  intro h0
  obtain ⟨ad, hA, hc⟩ := h3 h0
  refine ⟨ad, hA, ?_, fun j hj i v hv => ?_⟩
  · obtain ⟨q, hq⟩ : ∃ q, l[0]? = some q := ⟨_, List.getElem?_eq_getElem h0⟩
    obtain ⟨cs, _, rfl, c3⟩ := hc 0 q hq
    have := World.block_lt_of_cell? W _ (c3 0 _ rfl)
    rwa [KForm.add_block] at this
  · rw [getElem!_pos l j hj] at hv
    obtain ⟨cs, _, rfl, c3⟩ := hc j _ (List.getElem?_eq_getElem hj)
    exact c3 i v hv
theorem KR.nil {W : World} {A : Option Addr} {l : List (Int × Int)} (h : KR W A l) (hA : A = none) : l = [] := by
  rcases Nat.eq_zero_or_pos l.length with h0 | h0
  · exact List.eq_nil_of_length_eq_zero h0
  · obtain ⟨ad, e, _⟩ := h h0
    rw [hA] at e
    cases e
end Go.Proofs.Ytbmfldoobkeieaa.KForm
