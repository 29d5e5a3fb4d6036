/- Rows' arguments that are slices, opened for the print's words. -/
import Derived.Test.YtbmfldoobkeieaaWMore
import Derived.Test.YtbmfldoobkeieaaProg
import Derived.ProofKit
import Derived.OpenShut
import Derived.SizedLaws
import Derived.Deep.SlicePairs
namespace Go.Proofs.Ytbmfldoobkeieaa.KRow
open Go.ChangeShapes Go.WideShapes Go.ChangeAt Go.RowKit Go.Proofs.YtbmfldoobkeieaaW.PrintWords
set_option linter.unusedVariables false
set_option linter.unusedSimpArgs false

theorem open_u8s {H : Type} {enc : TypeId × Value → H} {P : Program} {W : World} {base : Nat} {held : Bool} {t e : TypeId} {a : Option Addr} {len cap : Nat} {d : DataW H} {ps : List MemPlace}
    (hu : P.underlying t = some (.slice e)) (he : P.underlying e = some (.int .u8)) (hc : P.cellsOf e = 1) (h : DataW.Trod enc P W base (fun _ => true) held t (.slice a len cap) d ps) :
    ∃ l : List Int, l.length = len ∧ l.length ≤ cap ∧ Kd.C (Kd.int .u8) W a l.length l ∧ (∀ x ∈ l, 0 ≤ x ∧ x ≤ 255) := by
  obtain ⟨fuel, hf⟩ := h
  have w : ∃ z : List Int, (a = none ∧ len = 0 ∧ cap = 0 ∧ z = []) ∨ ∃ x, a = some x ∧ len ≤ cap ∧ cap ≤ maxLen ∧ z.length = cap ∧ (∀ i, i < z.length → W.cell? (x.add i) = some (.int .u8 (z.getD i 0))) ∧ ∀ n ∈ z, (Lit.int .u8 n).wf = true := by
    rcases open_ints hu he hc hf with ⟨hcs, _⟩ | ⟨x, l, c, zs, hcs, _, hl, hm, hz, _, hcell, hwz⟩
    · simp [Value.cells] at hcs
      obtain ⟨rfl, rfl, rfl⟩ := hcs
      exact ⟨[], .inl ⟨rfl, rfl, rfl, rfl⟩⟩
    · simp [Value.cells] at hcs
      obtain ⟨rfl, rfl, rfl⟩ := hcs
      exact ⟨zs, .inr ⟨_, rfl, hl, hm, by simpa using hz, hcell, hwz⟩⟩
  obtain ⟨z, w⟩ := w
  obtain ⟨l, rfl, hr, hm, hw, hcc⟩ := ReadsInt.ofRowC w
  refine ⟨l, rfl, hcc, Kd.C_of_reads (d := (0 : Int)) (h1 := fun _ => rfl) hr, fun x hx => ?_⟩
  have := hw x hx
  simpa [Lit.wf, IntKind.min, IntKind.max, IntKind.signed, IntKind.bits] using this

/-- a slice of bytes, and how long it may be -/
theorem open_u8sz {H : Type} {enc : TypeId × Value → H} {P : Program} {W : World} {base : Nat} {held : Bool} {t e : TypeId} {a : Option Addr} {len cap : Nat} {d : DataW H} {ps : List MemPlace} {ts : List TypeId} {ds : List (DataW H)} {j : Nat}
    (hu : P.underlying t = some (.slice e)) (he : P.underlying e = some (.int .u8)) (hc : P.cellsOf e = 1) (hb : P.bytesOf e = 1)
    (hsz : (DataW.weightsEach P ts ds).all (· ≤ reachBytes) = true) (htj : ts[j]? = some t) (hdj : ds[j]? = some d) (h : DataW.Trod enc P W base (fun _ => true) held t (.slice a len cap) d ps) :
    ∃ l : List Int, l.length = len ∧ l.length ≤ cap ∧ Kd.C (Kd.int .u8) W a l.length l ∧ (∀ x ∈ l, 0 ≤ x ∧ x ≤ 255) ∧ l.length < 140737488355320 := by
  obtain ⟨l, h1, h2, h3, h4⟩ := open_u8s hu he hc h
  refine ⟨l, h1, h2, h3, h4, ?_⟩
  obtain ⟨fuel, hf⟩ := h
  rcases open_ints hu he hc hf with ⟨hcs, _⟩ | ⟨x, n, c, zs, hcs, _, hl, hm, hz, hx, hcell, hwz⟩
  · simp [Value.cells] at hcs
    omega
  · simp [Value.cells] at hcs
    obtain ⟨rfl, rfl, rfl⟩ := hcs
    obtain ⟨hx1, _⟩ := Prod.mk.inj hx
    have := sized_slice hsz htj (by rw [hdj, hx1]) hu
    rw [hb] at this
    simp only [if_true] at hz
    simp only [lits, List.length_map, List.length_take, List.length_drop] at this
    have r : reachBytes < 140737488355320 := by unfold reachBytes; omega
    omega

/-- a slice of structs of two numbers -/
theorem open_keys {H : Type} {enc : TypeId × Value → H} {P : Program} {W : World} {base : Nat} {held : Bool} {t e : TypeId} {f0 f1 : Field} {a : Option Addr} {len cap : Nat} {d : DataW H} {ps : List MemPlace} {ts : List TypeId} {ds : List (DataW H)} {j : Nat}
    (hu : P.underlying t = some (.slice e)) (he : P.underlying e = some (.struct #[f0, f1])) (ce : P.cellsOf e = 2) (o0 : f0.offset = 0) (o1 : f1.offset = 1) (c0 : P.cellsOf f0.type = 1) (c1 : P.cellsOf f1.type = 1)
    (t0 : P.underlying f0.type = some (.int .i64)) (t1 : P.underlying f1.type = some (.int .i64)) (hb : P.bytesOf e = 16)
    (hsz : (DataW.weightsEach P ts ds).all (· ≤ reachBytes) = true) (htj : ts[j]? = some t) (hdj : ds[j]? = some d)
    (h : DataW.Trod enc P W base (fun _ => true) held t (.slice a len cap) d ps) :
    ∃ l : List (Int × Int), l.length = len ∧ l.length ≤ cap ∧ ReadsRow (fun (p : Int × Int) cs => cs = [.int .i64 p.1, .int .i64 p.2]) 2 W a l.length l ∧ (∀ x ∈ l, (Lit.int .i64 x.1).wf = true ∧ (Lit.int .i64 x.2).wf = true) ∧ l.length < 8796093022208 := by
  obtain ⟨fuel, hf⟩ := h
  rcases Go.Deep.open_slice_pairs hu he ce o0 o1 c0 c1 hf with ⟨hcs, _⟩ | ⟨x, l, c, m, n, V0, V1, D0, D1, P0, P1, hcs, _, hl, hm, hmm, hx, hcell⟩
  · simp [Value.cells] at hcs
    obtain ⟨rfl, rfl, rfl⟩ := hcs
    exact ⟨[], rfl, Nat.zero_le _, ⟨rfl, Nat.zero_le _, fun h => absurd h (by simp)⟩, fun x hx => (by simp at hx), by simp⟩
  · simp [Value.cells] at hcs
    obtain ⟨rfl, rfl, rfl⟩ := hcs
    simp only [if_true] at hmm
    subst hmm
    have each : ∀ i, i < len → ∃ q : Int × Int, W.cell? (x.add (i * 2)) = some (.int .i64 q.1) ∧ W.cell? (x.add (i * 2 + 1)) = some (.int .i64 q.2) ∧ (Lit.int .i64 q.1).wf = true ∧ (Lit.int .i64 q.2).wf = true := by
      intro i hi
      obtain ⟨g0, g1, g2, g3⟩ := hcell i (by omega)
      obtain ⟨y0, e0, _, w0⟩ := DataW.trod_int t0 g2
      obtain ⟨y1, e1, _, w1⟩ := DataW.trod_int t1 g3
      exact ⟨(y0, y1), by rw [g0, (List.cons.inj e0).1], by rw [g1, (List.cons.inj e1).1], w0, w1⟩
    obtain ⟨q, hq⟩ := Go.Deep.choose_lt each
    have hlen : ((List.range len).map q).length = len := by simp
    have hsize : len < 8796093022208 := by
      obtain ⟨hx1, _⟩ := Prod.mk.inj hx
      have := sized_slice hsz htj (by rw [hdj, hx1]) hu
      rw [hb] at this
      simp only [List.length_map, List.length_range] at this
      have r : reachBytes < 140737488355328 := reachBytes_lt
      omega
    refine ⟨(List.range len).map q, hlen, by rw [hlen]; exact hl, ⟨rfl, by rw [hlen]; omega, fun _ => ⟨x, rfl, fun j p hj => ?_⟩⟩, fun y hy => ?_, by rw [hlen]; exact hsize⟩
    · rw [List.getElem?_map] at hj
      rcases Nat.lt_or_ge j len with hjl | hjl
      · rw [List.getElem?_range hjl] at hj
        have hj := Option.some.inj hj
        subst hj
        refine ⟨_, rfl, rfl, fun i u hu => ?_⟩
        match i, hu with
        | 0, hu => rw [← Option.some.inj hu]; exact (hq j hjl).1
        | 1, hu => rw [← Option.some.inj hu]; exact (hq j hjl).2.1
      · rw [List.getElem?_eq_none (by simp; exact hjl)] at hj
        cases hj
    · obtain ⟨i, hi, rfl⟩ := List.mem_map.mp hy
      exact (hq i (List.mem_range.mp hi)).2.2
end Go.Proofs.Ytbmfldoobkeieaa.KRow
