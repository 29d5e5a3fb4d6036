/- The calls on lists of keys, in one form: what they answer of lists of pairs. -/
import Derived.Test.YtbmfldoobkeieaaDoorKSort
import Derived.Test.YtbmfldoobkeieaaDoorGSetx4
namespace Go.Proofs.YtbmfldoobkeieaaDoor.KForm
open Go.RowKit Go.Lib Go.Sort Go.Proofs.YtbmfldoobkeieaaDoor.Own Go.Proofs.YtbmfldoobkeieaaDoor.GSet Go.Proofs.YtbmfldoobkeieaaDoorW.PrintWords
set_option linter.unusedVariables false
set_option linter.unusedSimpArgs false

def toS (p : Int × Int) : S35 := ⟨p.1, p.2⟩
/-- a list of keys that is read, wherever it lies -/
def KR (w : World) (A : Option Addr) (l : List (Int × Int)) : Prop := 0 < l.length → ∃ ad, A = some ad ∧ KeysAt w ad l
theorem KR.below {w w' : World} {A : Option Addr} {l : List (Int × Int)} (h : KR w A l) (hb : RowKit.Below w.heap.size w w') : KR w' A l := fun h0 => by
  obtain ⟨ad, hA, hk⟩ := h h0
  exact ⟨ad, hA, hk.below hb⟩
theorem KR.C {w : World} {A : Option Addr} {l : List (Int × Int)} (h : KR w A l) (hl : l.length ≤ 9223372036854775807) : Kd.C k35 w A (l.map toS).length (l.map toS) := by
  refine ⟨rfl, by rw [List.length_map]; exact hl, fun h0 => ?_⟩
  rw [List.length_map] at h0
  obtain ⟨ad, hA, hk⟩ := h h0
  refine ⟨ad, hA, fun j p hj => ?_⟩
  rw [List.getElem?_map] at hj
  obtain ⟨q, hq, rfl⟩ := Option.map_eq_some_iff.mp hj
  obtain ⟨hlt, rfl⟩ := List.getElem?_eq_some_iff.mp hq
  refine ⟨keyCells l[j], rfl, ⟨[_], [_], rfl, rfl, rfl⟩, fun i u hu => ?_⟩
  refine hk.2 j hlt i u ?_
  rw [List.getElem!_eq_getElem?_getD, hq]
  exact hu
theorem OwnKeys.KR {w : World} {base : Nat} {v : Value} {r : List (Int × Int)} (h : OwnKeys w base v r) : ∃ A c, v = .slice A r.length c ∧ r.length ≤ c ∧ KForm.KR w A r ∧ ListAt w A r := by
  rcases h with ⟨rfl, rfl⟩ | ⟨g, c, M, rfl, _, hc, _, hrow⟩
  · exact ⟨none, 0, rfl, Nat.le_refl _, fun h => by simp at h, .inl ⟨rfl, rfl⟩⟩
  · have hL : ListAt w (some ⟨g, 0, none⟩) r := .inr ⟨g, 0, rfl, fun j hj => by
      obtain ⟨h1, h2, _, _⟩ := hrow.cell (j := j) (by simpa using hj)
      rw [Nat.zero_add]
      exact ⟨by simpa using h1, by simpa using h2⟩⟩
    exact ⟨some ⟨g, 0, none⟩, c, rfl, hc, hL.keys, hL⟩
theorem rdT (l : List (Int × Int)) (i : Nat) (h : i < l.length) : rd_T35 (l.map toS) (i : Int) = toS l[i] := by
  unfold rd_T35
  rw [List.getD_eq_getElem?_getD, Int.toNat_natCast, List.getElem?_map, List.getElem?_eq_getElem h]
  rfl
/-- does the key stand in the list? -/
theorem stands_f (l : List (Int × Int)) (hl : l.length ≤ 9223372036854775807) (x : Int × Int) (d : Nat) : ∀ (i k : Nat), i ≤ l.length → l.length - i = d → d < k → preludelaw02_stands.l0 k (l.map toS) i x.1 x.2 = some (decide (x ∈ l.drop i)) := by
  induction d with
  | zero =>
    intro i k h1 h2 h3
    obtain ⟨k, rfl⟩ : ∃ m, k = m + 1 := ⟨k - 1, by omega⟩
    rw [preludelaw02_stands.l0, if_neg (by rw [List.length_map]; omega), List.drop_eq_nil_of_le (by omega)]
    simp
  | succ d ih =>
    intro i k h1 h2 h3
    obtain ⟨k, rfl⟩ : ∃ m, k = m + 1 := ⟨k - 1, by omega⟩
    have hlt : i < l.length := by omega
    rw [preludelaw02_stands.l0, if_pos (by rw [List.length_map]; omega), if_pos (by omega), rdT l i hlt, List.drop_eq_getElem_cons hlt]
    by_cases e : l[i] = x
    · rw [if_pos (by rw [← e]; simp [toS]), decide_eq_true (by rw [e]; simp)]
    · rw [if_neg (fun h => e (by simp [toS] at h; exact Prod.ext h.1 h.2)), show wrap64 ((i : Int) + 1) = ((i + 1 : Nat) : Int) by unfold wrap64; omega, ih (i + 1) k (by omega) (by omega) (by omega)]
      congr 1
      simp only [List.mem_cons, decide_eq_decide]
      exact ⟨fun h => .inr h, fun h => h.resolve_left (fun h => e h.symm)⟩
theorem stands_calls (A : Option Addr) (c : Nat) (l : List (Int × Int)) (x : Int × Int) (w : World) (h : KR w A l) (hl : l.length ≤ 9223372036854775807) (hc : l.length ≤ c) :
    Calls Tryd.prog 31 #[.slice A l.length c, .agg #[.int .i64 x.1, .int .i64 x.2]] w fun e w' => e = .returned (.bool (decide (x ∈ l))) ∧ RowKit.Below w.heap.size w w' := by
  have := preludelaw02_stands.calls (l.length + 1) A c (l.map toS) x.1 x.2 (decide (x ∈ l)) w (h.C hl) (by rw [List.length_map]; exact hc) (stands_f l hl x l.length 0 (l.length + 1) (by omega) (by omega) (by omega))
  rw [List.length_map] at this
  exact this
theorem lsound_f (l : List (Int × Int)) (hl : l.length ≤ 9223372036854775807) (d : Nat) : ∀ (i k : Nat), i ≤ l.length → l.length - i = d → d < k → preludelaw02_sound.l0 k (l.map toS) i = some (soundF (l.drop i)) := by
  induction d with
  | zero =>
    intro i k h1 h2 h3
    obtain ⟨k, rfl⟩ : ∃ m, k = m + 1 := ⟨k - 1, by omega⟩
    rw [preludelaw02_sound.l0, if_neg (by rw [List.length_map]; omega), List.drop_eq_nil_of_le (by omega)]
    rfl
  | succ d ih =>
    intro i k h1 h2 h3
    obtain ⟨k, rfl⟩ : ∃ m, k = m + 1 := ⟨k - 1, by omega⟩
    have hlt : i < l.length := by omega
    rw [preludelaw02_sound.l0, if_pos (by rw [List.length_map]; omega), if_pos (by omega), rdT l i hlt, List.drop_eq_getElem_cons hlt]
    unfold soundF
    rw [List.all_cons]
    unfold keyB
    by_cases a : l[i].1 < 0
    · rw [if_pos (show (toS l[i]).f0 < 0 from a), decide_eq_false (by omega)]; rfl
    · by_cases b : l[i].1 > 65535
      · rw [if_neg (show ¬ (toS l[i]).f0 < 0 from a), if_pos (show (toS l[i]).f0 > 65535 from b), decide_eq_false (by omega)]; rfl
      · rw [if_neg (show ¬ (toS l[i]).f0 < 0 from a), if_neg (show ¬ (toS l[i]).f0 > 65535 from b), decide_eq_true (by omega), show wrap64 ((i : Int) + 1) = ((i + 1 : Nat) : Int) by unfold wrap64; omega, ih (i + 1) k (by omega) (by omega) (by omega)]
        rfl
theorem lsound_calls (A : Option Addr) (c : Nat) (l : List (Int × Int)) (w : World) (h : KR w A l) (hl : l.length ≤ 9223372036854775807) (hc : l.length ≤ c) :
    Calls Tryd.prog 12 #[.slice A l.length c] w fun e w' => e = .returned (.bool (soundF l)) ∧ RowKit.Below w.heap.size w w' := by
  have := preludelaw02_sound.calls (l.length + 1) A c (l.map toS) (soundF l) w (h.C hl) (by rw [List.length_map]; exact hc) (lsound_f l hl l.length 0 (l.length + 1) (by omega) (by omega) (by omega))
  rw [List.length_map] at this
  exact this.mono fun _ _ h => ⟨h.1, h.2.below⟩
theorem same_f (l : List (Int × Int)) (hl : l.length ≤ 9223372036854775807) (d : Nat) : ∀ (i k : Nat), i ≤ l.length → l.length - i = d → d < k → preludelaw02_sameKeys.l0 k (l.map toS) (l.map toS) i = some true := by
  induction d with
  | zero =>
    intro i k h1 h2 h3
    obtain ⟨k, rfl⟩ : ∃ m, k = m + 1 := ⟨k - 1, by omega⟩
    rw [preludelaw02_sameKeys.l0, if_neg (by rw [List.length_map]; omega)]
  | succ d ih =>
    intro i k h1 h2 h3
    obtain ⟨k, rfl⟩ : ∃ m, k = m + 1 := ⟨k - 1, by omega⟩
    have hlt : i < l.length := by omega
    rw [preludelaw02_sameKeys.l0, if_pos (by rw [List.length_map]; omega), if_pos (by omega), if_pos (by rw [List.length_map]; omega), if_neg (by simp), show wrap64 ((i : Int) + 1) = ((i + 1 : Nat) : Int) by unfold wrap64; omega]
    exact ih (i + 1) k (by omega) (by omega) (by omega)
theorem same_calls (A A2 : Option Addr) (c c2 : Nat) (l : List (Int × Int)) (w : World) (h : KR w A l) (h2 : KR w A2 l) (hl : l.length ≤ 9223372036854775807) (hc : l.length ≤ c) (hc2 : l.length ≤ c2) :
    Calls Tryd.prog 27 #[.slice A l.length c, .slice A2 l.length c2] w fun e w' => e = .returned (.bool true) ∧ RowKit.Below w.heap.size w w' := by
  have := preludelaw02_sameKeys.calls (l.length + 1) A c (l.map toS) A2 c2 (l.map toS) true w (h.C hl) (by rw [List.length_map]; exact hc) (h2.C hl) (by rw [List.length_map]; exact hc2) (by unfold preludelaw02_sameKeys.f; rw [if_pos rfl]; exact same_f l hl l.length 0 (l.length + 1) (by omega) (by omega) (by omega))
  rw [List.length_map] at this
  exact this.mono fun _ _ h => ⟨h.1, h.2.below⟩
end Go.Proofs.YtbmfldoobkeieaaDoor.KForm
