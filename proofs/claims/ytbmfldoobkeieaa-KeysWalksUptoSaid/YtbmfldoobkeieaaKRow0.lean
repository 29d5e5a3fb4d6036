/- A row's slice of structs of two numbers, opened without its weight (an '..Upto' row brings its own bound). -/
import Derived.Test.YtbmfldoobkeieaaKRow
namespace Go.Proofs.Ytbmfldoobkeieaa.KRow
open Go.ChangeShapes Go.WideShapes Go.ChangeAt Go.RowKit Go.Proofs.YtbmfldoobkeieaaW.PrintWords
set_option linter.unusedVariables false
set_option linter.unusedSimpArgs false

theorem open_keys0 {H : Type} {enc : TypeId × Value → H} {P : Program} {W : World} {base : Nat} {held : Bool} {t e : TypeId} {f0 f1 : Field} {a : Option Addr} {len cap : Nat} {d : DataW H} {ps : List MemPlace}
    (hu : P.underlying t = some (.slice e)) (he : P.underlying e = some (.struct #[f0, f1])) (ce : P.cellsOf e = 2) (o0 : f0.offset = 0) (o1 : f1.offset = 1) (c0 : P.cellsOf f0.type = 1) (c1 : P.cellsOf f1.type = 1)
    (t0 : P.underlying f0.type = some (.int .i64)) (t1 : P.underlying f1.type = some (.int .i64))
    (h : DataW.Trod enc P W base (fun _ => true) held t (.slice a len cap) d ps) :
    ∃ l : List (Int × Int), l.length = len ∧ l.length ≤ cap ∧ ReadsRow (fun (p : Int × Int) cs => cs = [.int .i64 p.1, .int .i64 p.2]) 2 W a l.length l := by
  obtain ⟨fuel, hf⟩ := h
  rcases Go.Deep.open_slice_pairs hu he ce o0 o1 c0 c1 hf with ⟨hcs, _⟩ | ⟨x, l, c, m, n, V0, V1, D0, D1, P0, P1, hcs, _, hl, hm, hmm, hx, hcell⟩
  · simp [Value.cells] at hcs
    obtain ⟨rfl, rfl, rfl⟩ := hcs
    exact ⟨[], rfl, Nat.zero_le _, ⟨rfl, Nat.zero_le _, fun h => absurd h (by simp)⟩⟩
  · simp [Value.cells] at hcs
    obtain ⟨rfl, rfl, rfl⟩ := hcs
    simp only [if_true] at hmm
    subst hmm
    have each : ∀ i, i < len → ∃ q : Int × Int, W.cell? (x.add (i * 2)) = some (.int .i64 q.1) ∧ W.cell? (x.add (i * 2 + 1)) = some (.int .i64 q.2) := by
      intro i hi
      obtain ⟨g0, g1, g2, g3⟩ := hcell i (by omega)
      obtain ⟨y0, e0, _, w0⟩ := DataW.trod_int t0 g2
      obtain ⟨y1, e1, _, w1⟩ := DataW.trod_int t1 g3
      exact ⟨(y0, y1), by rw [g0, (List.cons.inj e0).1], by rw [g1, (List.cons.inj e1).1]⟩
    obtain ⟨q, hq⟩ := Go.Deep.choose_lt each
    have hlen : ((List.range len).map q).length = len := by simp
    refine ⟨(List.range len).map q, hlen, by rw [hlen]; exact hl, ⟨rfl, by rw [hlen]; unfold maxLen at hm; omega, fun _ => ⟨x, rfl, fun j p hj => ?_⟩⟩⟩
    rw [List.getElem?_map] at hj
    rcases Nat.lt_or_ge j len with hjl | hjl
    · rw [List.getElem?_range hjl] at hj
      have hj := Option.some.inj hj
      subst hj
      refine ⟨_, rfl, rfl, fun i u hu => ?_⟩
      match i, hu with
      | 0, hu => rw [← Option.some.inj hu]; exact (hq j hjl).1
      | 1, hu => rw [← Option.some.inj hu]; exact (hq j hjl).2
    · rw [List.getElem?_eq_none (by simp; exact hjl)] at hj
      cases hj
end Go.Proofs.Ytbmfldoobkeieaa.KRow
