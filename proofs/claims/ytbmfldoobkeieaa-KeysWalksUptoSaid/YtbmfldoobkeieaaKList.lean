/- The calls on lists of keys, in one form: what they answer of lists of pairs. -/
import Derived.Test.YtbmfldoobkeieaaKSort
import Derived.Test.YtbmfldoobkeieaaGSetx4
namespace Go.Proofs.Ytbmfldoobkeieaa.KForm
open Go.RowKit Go.Lib Go.Sort Go.Proofs.Ytbmfldoobkeieaa.Own Go.Proofs.Ytbmfldoobkeieaa.GSet Go.Proofs.YtbmfldoobkeieaaW.PrintWords
set_option linter.unusedVariables false
set_option linter.unusedSimpArgs false

def toS (p : Int × Int) : S29 := ⟨p.1, p.2⟩
/-- a list of keys that is read, wherever it lies -/
def KR (w : World) (A : Option Addr) (l : List (Int × Int)) : Prop := 0 < l.length → ∃ ad, A = some ad ∧ KeysAt w ad l
theorem KR.below {w w' : World} {A : Option Addr} {l : List (Int × Int)} (h : KR w A l) (hb : RowKit.Below w.heap.size w w') : KR w' A l := fun h0 => by
  obtain ⟨ad, hA, hk⟩ := h h0
  exact ⟨ad, hA, hk.below hb⟩
theorem KR.C {w : World} {A : Option Addr} {l : List (Int × Int)} (h : KR w A l) (hl : l.length ≤ 9223372036854775807) : Kd.C k29 w A (l.map toS).length (l.map toS) := by
  refine ⟨rfl, by rw [List.length_map]; exact hl, fun h0 => ?_⟩
  rw [List.length_map] at h0
  obtain ⟨ad, hA, hk⟩ := h h0
  refine ⟨ad, hA, fun j p hj => ?_⟩
  rw [List.getElem?_map] at hj
  obtain ⟨q, hq, rfl⟩ := Option.map_eq_some_iff.mp hj
  obtain ⟨hlt, rfl⟩ := List.getElem?_eq_some_iff.mp hq
  refine ⟨keyCells l[j], rfl, ⟨[_], [_], rfl, rfl, rfl⟩, fun i u hu => ?_⟩
  refine hk.2 j hlt i u ?_
  rw [List.getElem!_eq_getElem?_getD, hq]
  exact hu
theorem OwnKeys.KR {w : World} {base : Nat} {v : Value} {r : List (Int × Int)} (h : OwnKeys w base v r) : ∃ A c, v = .slice A r.length c ∧ r.length ≤ c ∧ KForm.KR w A r ∧ ListAt w A r := by
  rcases h with ⟨rfl, rfl⟩ | ⟨g, c, M, rfl, _, hc, _, hrow⟩
  · exact ⟨none, 0, rfl, Nat.le_refl _, fun h => by simp at h, .inl ⟨rfl, rfl⟩⟩
  · have hL : ListAt w (some ⟨g, 0, none⟩) r := .inr ⟨g, 0, rfl, fun j hj => by
      obtain ⟨h1, h2, _, _⟩ := hrow.cell (j := j) (by simpa using hj)
      rw [Nat.zero_add]
      exact ⟨by simpa using h1, by simpa using h2⟩⟩
    exact ⟨some ⟨g, 0, none⟩, c, rfl, hc, hL.keys, hL⟩
theorem rdT (l : List (Int × Int)) (i : Nat) (h : i < l.length) : rd_T29 (l.map toS) (i : Int) = toS l[i] := by
  unfold rd_T29
  rw [List.getD_eq_getElem?_getD, Int.toNat_natCast, List.getElem?_map, List.getElem?_eq_getElem h]
  rfl
theorem same_f (l : List (Int × Int)) (hl : l.length ≤ 9223372036854775807) (d : Nat) : ∀ (i k : Nat), i ≤ l.length → l.length - i = d → d < k → preludelaw02_sameKeys.l0 k (l.map toS) (l.map toS) i = some true := by
  induction d with
  | zero =>
    intro i k h1 h2 h3
    obtain ⟨k, rfl⟩ : ∃ m, k = m + 1 := ⟨k - 1, by omega⟩
    rw [preludelaw02_sameKeys.l0, if_neg (by rw [List.length_map]; omega)]
  | succ d ih =>
    intro i k h1 h2 h3
    obtain ⟨k, rfl⟩ : ∃ m, k = m + 1 := ⟨k - 1, by omega⟩
    have hlt : i < l.length := by omega
    rw [preludelaw02_sameKeys.l0, if_pos (by rw [List.length_map]; omega), if_pos (by omega), if_pos (by rw [List.length_map]; omega), if_neg (by simp), show wrap64 ((i : Int) + 1) = ((i + 1 : Nat) : Int) by unfold wrap64; omega]
    exact ih (i + 1) k (by omega) (by omega) (by omega)
theorem same_calls (A A2 : Option Addr) (c c2 : Nat) (l : List (Int × Int)) (w : World) (h : KR w A l) (h2 : KR w A2 l) (hl : l.length ≤ 9223372036854775807) (hc : l.length ≤ c) (hc2 : l.length ≤ c2) :
    Calls Try.prog 36 #[.slice A l.length c, .slice A2 l.length c2] w fun e w' => e = .returned (.bool true) ∧ RowKit.Below w.heap.size w w' := by
  have := preludelaw02_sameKeys.calls (l.length + 1) A c (l.map toS) A2 c2 (l.map toS) true w (h.C hl) (by rw [List.length_map]; exact hc) (h2.C hl) (by rw [List.length_map]; exact hc2) (by unfold preludelaw02_sameKeys.f; rw [if_pos rfl]; exact same_f l hl l.length 0 (l.length + 1) (by omega) (by omega) (by omega))
  rw [List.length_map] at this
  exact this.mono fun _ _ h => ⟨h.1, h.2.below⟩
end Go.Proofs.Ytbmfldoobkeieaa.KForm
