/- What the bound of an '..Upto' statement gives: how long a slice among the arguments may be. -/
import Derived.Test.YtbmfldoobkeieaaRows
import Derived.ProofKit
import Derived.OpenShut
namespace Go.Proofs.Ytbmfldoobkeieaa.KBulk
open Go.ChangeShapes Go.WideShapes Go.ChangeAt Go.RowKit
set_option linter.unusedVariables false

theorem pos {H : Type} (d : DataW H) : 1 ≤ Rows.uptoBulk d := by
  cases d with
  | lit l => cases l <;> simp [Rows.uptoBulk]
  | nil => simp [Rows.uptoBulk]
  | ptr d => simp [Rows.uptoBulk]
  | slice e s => simp [Rows.uptoBulk]
  | agg p => simp [Rows.uptoBulk]
  | iface t d => simp [Rows.uptoBulk]
  | map e => simp [Rows.uptoBulk]
  | held h => simp [Rows.uptoBulk]
theorem many {H : Type} : ∀ l : List (DataW H), l.length ≤ Rows.uptoBulkAll l
  | [] => by simp [Rows.uptoBulkAll]
  | x :: r => by
    have h1 := pos x
    have h2 := many r
    simp only [Rows.uptoBulkAll, List.length_cons]
    omega
theorem one_of {H : Type} {d : DataW H} : ∀ {l : List (DataW H)}, d ∈ l → Rows.uptoBulk d ≤ Rows.uptoBulkAll l
  | x :: r, h => by
    simp only [Rows.uptoBulkAll]
    rcases List.mem_cons.mp h with e | e
    · subst e; omega
    · have := one_of e; omega
theorem bound {H : Type} {l : List (DataW H)} (hk : Rows.uptoSmall H l = true) : Rows.uptoBulkAll l ≤ 1048576 := of_decide_eq_true hk
/-- a slice's elements are counted -/
theorem len {H : Type} {enc : TypeId × Value → H} {P : Program} {W : World} {base : Nat} {sp : Nat → Bool} {held : Bool} {t e : TypeId} {a : Option Addr} {n cap : Nat} {d : DataW H} {ps : List MemPlace} {l : List (DataW H)}
    (hu : P.underlying t = some (.slice e)) (hk : Rows.uptoSmall H l = true) (hd : d ∈ l) (h : DataW.Trod enc P W base sp held t (.slice a n cap) d ps) : n < 1048576 := by
  obtain ⟨fuel, hf⟩ := h
  have hb := Nat.le_trans (one_of hd) (bound hk)
  rcases DataW.trod_slice hu hf with ⟨hcs, _⟩ | ⟨x, n', c, elems, rest, m, _, hcs, hx, _, _, _, hlen, _⟩
  · simp [Value.cells] at hcs
    obtain ⟨rfl, rfl, rfl⟩ := hcs
    omega
  · simp [Value.cells] at hcs
    obtain ⟨rfl, rfl, rfl⟩ := hcs
    obtain ⟨hx1, _⟩ := Prod.mk.inj hx
    subst hx1
    have := many (elems.map (·.1))
    simp only [Rows.uptoBulk] at hb
    simp only [List.length_map] at this
    omega
end Go.Proofs.Ytbmfldoobkeieaa.KBulk
