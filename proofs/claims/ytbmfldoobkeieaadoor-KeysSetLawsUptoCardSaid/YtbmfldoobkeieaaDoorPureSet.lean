/- Sets of keys: sorting, choosing, finding. Plain. -/
import Derived.Test.YtbmfldoobkeieaaDoorKFind
import Derived.Test.YtbmfldoobkeieaaDoorKChoose
namespace Go.Proofs.YtbmfldoobkeieaaDoor.KForm
open Go.RowKit Go.Lib Go.Sort
set_option linter.unusedVariables false
set_option linter.unusedSimpArgs false

theorem k_trans {a b c : Int × Int} (h1 : kLt a b = true) (h2 : kLt b c = true) : kLt a c = true := by
  unfold kLt at *; simp only [decide_eq_true_eq] at *; omega
theorem k_irrefl (a : Int × Int) : kLt a a = false := by unfold kLt; simp
theorem k_ne {a b : Int × Int} (h : kLt a b = true) : a ≠ b := by
  rintro rfl
  rw [k_irrefl] at h
  cases h
abbrev Up (l : List (Int × Int)) : Prop := l.Pairwise (fun a b => kLt a b = true)
theorem not_mem_head {b : Int × Int} {l : List (Int × Int)} (h : ∀ x ∈ l, kLt b x = true) : b ∉ l := fun hm => k_ne (h b hm) rfl
/-- who is chosen -/
theorem mem_choose (L B R : Bool) (z : Int × Int) : ∀ (x y : List (Int × Int)), Up x → Up y → (z ∈ chooseF L B R x y ↔ (L = true ∧ z ∈ x ∧ z ∉ y) ∨ (B = true ∧ z ∈ x ∧ z ∈ y) ∨ (R = true ∧ z ∉ x ∧ z ∈ y))
  | [], [] => by intro _ _; rw [chooseF]; simp
  | [], b :: tb => by
    intro hx hy
    have := mem_choose L B R z [] tb hx (List.pairwise_cons.mp hy).2
    rw [chooseF, List.mem_append, this]
    cases R <;> simp
  | a :: ta, [] => by
    intro hx hy
    have := mem_choose L B R z ta [] (List.pairwise_cons.mp hx).2 hy
    rw [chooseF, List.mem_append, this]
    cases L <;> simp
  | a :: ta, b :: tb => by
    intro hx hy
    obtain ⟨hx1, hx2⟩ := List.pairwise_cons.mp hx
    obtain ⟨hy1, hy2⟩ := List.pairwise_cons.mp hy
    have i1 := mem_choose L B R z ta (b :: tb) hx2 hy
    have i2 := mem_choose L B R z ta tb hx2 hy2
    have i3 := mem_choose L B R z (a :: ta) tb hx hy2
    rcases Int.lt_trichotomy (cmpF a b) 0 with h | h | h
    · have hab : kLt a b = true := by unfold kLt; exact decide_eq_true ((cmpF_neg a b).mp h)
      rw [chooseF_lt _ _ _ _ _ _ _ h, List.mem_append, i1]
      have n1 : a ∉ b :: tb := by
        apply not_mem_head
        intro q hq
        rcases List.mem_cons.mp hq with rfl | hq
        · exact hab
        · exact k_trans hab (hy1 q hq)
      have n2 : a ∉ ta := not_mem_head hx1
      by_cases hz : z = a
      · subst hz
        have n1' : ¬ (z = b ∨ z ∈ tb) := by simpa using n1
        cases L <;> simp [n2, n1']
      · cases L <;> simp [hz]
    · have hab := (cmpF_zero a b).mp h
      subst hab
      rw [chooseF_eq _ _ _ _ _ _ _ h, List.mem_append, i2]
      have n1 : a ∉ tb := not_mem_head hy1
      have n2 : a ∉ ta := not_mem_head hx1
      by_cases hz : z = a
      · subst hz
        cases B <;> simp [n2, n1]
      · cases B <;> simp [hz]
    · have hba : kLt b a = true := by
        have h1 : ¬ cmpF a b < 0 := by omega
        rw [cmpF_neg] at h1
        have h2 : a ≠ b := fun e => by rw [(cmpF_zero a b).mpr e] at h; omega
        unfold kLt
        apply decide_eq_true
        have h3 : ¬ (a.1 = b.1 ∧ a.2 = b.2) := fun e => h2 (Prod.ext e.1 e.2)
        omega
      rw [chooseF_gt _ _ _ _ _ _ _ h, List.mem_append, i3]
      have n1 : b ∉ a :: ta := by
        apply not_mem_head
        intro q hq
        rcases List.mem_cons.mp hq with rfl | hq
        · exact hba
        · exact k_trans hba (hx1 q hq)
      have n2 : b ∉ tb := not_mem_head hy1
      by_cases hz : z = b
      · subst hz
        have n1' : ¬ (z = a ∨ z ∈ ta) := by simpa using n1
        cases R <;> simp [n2, n1']
      · cases R <;> simp [hz]
termination_by x y => x.length + y.length
theorem choose_sub (L B R : Bool) (z : Int × Int) (x y : List (Int × Int)) (hx : Up x) (hy : Up y) (h : z ∈ chooseF L B R x y) : z ∈ x ∨ z ∈ y := by
  rw [mem_choose L B R z x y hx hy] at h
  rcases h with h | h | h
  · exact .inl h.2.1
  · exact .inl h.2.1
  · exact .inr h.2.2
theorem up_app {f : Bool} {a : Int × Int} {l : List (Int × Int)} (h : Up l) (ha : ∀ z ∈ l, kLt a z = true) : Up ((if f = true then [a] else []) ++ l) := by
  cases f
  · simpa using h
  · simpa using ⟨fun a1 b1 hm => ha _ hm, h⟩
/-- what is chosen is a set -/
theorem up_choose (L B R : Bool) : ∀ (x y : List (Int × Int)), Up x → Up y → Up (chooseF L B R x y)
  | [], [] => by intro _ _; rw [chooseF]; exact List.Pairwise.nil
  | [], b :: tb => by
    intro hx hy
    obtain ⟨hy1, hy2⟩ := List.pairwise_cons.mp hy
    rw [chooseF]
    refine up_app (up_choose L B R [] tb hx hy2) (fun z hz => ?_)
    rcases choose_sub L B R z [] tb hx hy2 hz with h | h
    · simp at h
    · exact hy1 z h
  | a :: ta, [] => by
    intro hx hy
    obtain ⟨hx1, hx2⟩ := List.pairwise_cons.mp hx
    rw [chooseF]
    refine up_app (up_choose L B R ta [] hx2 hy) (fun z hz => ?_)
    rcases choose_sub L B R z ta [] hx2 hy hz with h | h
    · exact hx1 z h
    · simp at h
  | a :: ta, b :: tb => by
    intro hx hy
    obtain ⟨hx1, hx2⟩ := List.pairwise_cons.mp hx
    obtain ⟨hy1, hy2⟩ := List.pairwise_cons.mp hy
    rcases Int.lt_trichotomy (cmpF a b) 0 with h | h | h
    · have hab : kLt a b = true := by unfold kLt; exact decide_eq_true ((cmpF_neg a b).mp h)
      rw [chooseF_lt _ _ _ _ _ _ _ h]
      refine up_app (up_choose L B R ta (b :: tb) hx2 hy) (fun z hz => ?_)
      rcases choose_sub L B R z ta (b :: tb) hx2 hy hz with h | h
      · exact hx1 z h
      · rcases List.mem_cons.mp h with rfl | h
        · exact hab
        · exact k_trans hab (hy1 z h)
    · have hab := (cmpF_zero a b).mp h
      subst hab
      rw [chooseF_eq _ _ _ _ _ _ _ h]
      refine up_app (up_choose L B R ta tb hx2 hy2) (fun z hz => ?_)
      rcases choose_sub L B R z ta tb hx2 hy2 hz with h | h
      · exact hx1 z h
      · exact hy1 z h
    · have hba : kLt b a = true := by
        have h1 : ¬ cmpF a b < 0 := by omega
        rw [cmpF_neg] at h1
        have h2 : a ≠ b := fun e => by rw [(cmpF_zero a b).mpr e] at h; omega
        unfold kLt
        apply decide_eq_true
        have h3 : ¬ (a.1 = b.1 ∧ a.2 = b.2) := fun e => h2 (Prod.ext e.1 e.2)
        omega
      rw [chooseF_gt _ _ _ _ _ _ _ h]
      refine up_app (up_choose L B R (a :: ta) tb hx hy2) (fun z hz => ?_)
      rcases choose_sub L B R z (a :: ta) tb hx hy2 hz with h | h
      · rcases List.mem_cons.mp h with rfl | h
        · exact hba
        · exact k_trans hba (hx1 z h)
      · exact hy1 z h
termination_by x y => x.length + y.length
/-- how many are chosen -/
theorem len_choose : ∀ (x y : List (Int × Int)), (chooseF true true true x y).length + (chooseF false true false x y).length = x.length + y.length ∧ (chooseF true false false x y).length + (chooseF false true false x y).length = x.length
  | [], [] => by simp [chooseF]
  | [], b :: tb => by
    have := len_choose [] tb
    rw [chooseF_ny, chooseF_ny, chooseF_ny]
    simp only [if_true, if_false, Bool.false_eq_true, List.length_append, List.length_cons, List.length_nil] at this ⊢
    omega
  | a :: ta, [] => by
    have := len_choose ta []
    rw [chooseF_xn, chooseF_xn, chooseF_xn]
    simp only [if_true, if_false, Bool.false_eq_true, List.length_append, List.length_cons, List.length_nil] at this ⊢
    omega
  | a :: ta, b :: tb => by
    have i1 := len_choose ta (b :: tb)
    have i2 := len_choose ta tb
    have i3 := len_choose (a :: ta) tb
    rcases Int.lt_trichotomy (cmpF a b) 0 with h | h | h
    · rw [chooseF_lt _ _ _ _ _ _ _ h, chooseF_lt _ _ _ _ _ _ _ h, chooseF_lt _ _ _ _ _ _ _ h]
      simp only [if_true, if_false, Bool.false_eq_true, List.length_append, List.length_cons, List.length_nil] at i1 ⊢
      omega
    · rw [chooseF_eq _ _ _ _ _ _ _ h, chooseF_eq _ _ _ _ _ _ _ h, chooseF_eq _ _ _ _ _ _ _ h]
      simp only [if_true, if_false, Bool.false_eq_true, List.length_append, List.length_cons, List.length_nil] at i2 ⊢
      omega
    · rw [chooseF_gt _ _ _ _ _ _ _ h, chooseF_gt _ _ _ _ _ _ _ h, chooseF_gt _ _ _ _ _ _ _ h]
      simp only [if_true, if_false, Bool.false_eq_true, List.length_append, List.length_cons, List.length_nil] at i3 ⊢
      omega
termination_by x y => x.length + y.length
/-- not above -/
def kLe (a b : Int × Int) : Bool := !(ltOf cmpF) b a
theorem kLe_iff (a b : Int × Int) : kLe a b = true ↔ ¬ kLt b a = true := by unfold kLe; rw [ltOf_eq]; cases kLt b a <;> simp
theorem sortedL_eq (l : List (Int × Int)) : sortedL l = l.mergeSort kLe := rfl
theorem sortedL_pair (l : List (Int × Int)) : (sortedL l).Pairwise (fun a b => kLe a b = true) := by
  rw [sortedL_eq]
  apply List.pairwise_mergeSort
  · intro a b c h1 h2
    rw [kLe_iff] at *
    unfold kLt at *
    simp only [decide_eq_true_eq] at *
    omega
  · intro a b
    unfold kLe
    rw [ltOf_eq, ltOf_eq]
    unfold kLt
    simp only [Bool.or_eq_true, Bool.not_eq_true', decide_eq_false_iff_not]
    omega
theorem mem_sortedL (l : List (Int × Int)) (z : Int × Int) : z ∈ sortedL l ↔ z ∈ l := by rw [sortedL_eq]; exact (List.mergeSort_perm l kLe).mem_iff
theorem lt_of_le_ne {a b : Int × Int} (h : kLe a b = true) (hn : a ≠ b) : kLt a b = true := by
  rw [kLe_iff] at h
  unfold kLt at *
  simp only [decide_eq_true_eq] at *
  have : ¬ (a.1 = b.1 ∧ a.2 = b.2) := fun e => hn (Prod.ext e.1 e.2)
  omega
theorem le_lt_trans {a b c : Int × Int} (h1 : kLe a b = true) (h2 : kLt b c = true) : kLt a c = true := by
  rw [kLe_iff] at h1
  unfold kLt at *
  simp only [decide_eq_true_eq] at *
  omega
theorem compact_get (s : List (Int × Int)) (j : Nat) (hj : j < s.length) : s.toArray[j]! = s[j] := by
  rw [getElem!_pos s.toArray j (by simpa using hj)]
  rfl
/-- a sorted list compacted is a set -/
theorem up_compact (s : List (Int × Int)) (hs : s.Pairwise (fun a b => kLe a b = true)) : Up (compactUpTo s.toArray s.length) := by
  unfold compactUpTo
  rw [Up, List.pairwise_map]
  have hrange : (List.range s.length).Pairwise (· < ·) := List.pairwise_lt_range
  have hf := hrange.filter (keeps s.toArray)
  refine hf.imp_of_mem (fun {i j} hi hj hij => ?_)
  obtain ⟨hi1, _⟩ := List.mem_filter.mp hi
  obtain ⟨hj1, hj2⟩ := List.mem_filter.mp hj
  have hi3 := List.mem_range.mp hi1
  have hj3 := List.mem_range.mp hj1
  rw [compact_get s i hi3, compact_get s j hj3]
  have hne : s[j - 1]'(by omega) ≠ s[j] := by
    intro e
    have := keeps_neg (d := s.toArray) (m := j) (by omega) (by rw [compact_get s j hj3, compact_get s (j - 1) (by omega)]; exact e.symm)
    rw [this] at hj2
    cases hj2
  have h1 : kLt (s[j - 1]'(by omega)) s[j] = true := lt_of_le_ne (List.pairwise_iff_getElem.mp hs (j - 1) j (by omega) hj3 (by omega)) hne
  rcases Nat.lt_or_ge i (j - 1) with h | h
  · exact le_lt_trans (List.pairwise_iff_getElem.mp hs i (j - 1) hi3 (by omega) h) h1
  · have e : i = j - 1 := by omega
    subst e
    exact h1
theorem mem_compact (s : List (Int × Int)) (z : Int × Int) : z ∈ compactUpTo s.toArray s.length ↔ z ∈ s := by
  unfold compactUpTo
  constructor
  · intro h
    obtain ⟨j, hj, rfl⟩ := List.mem_map.mp h
    have hj3 := List.mem_range.mp (List.mem_filter.mp hj).1
    rw [compact_get s j hj3]
    exact List.getElem_mem hj3
  · intro h
    obtain ⟨j, hj, rfl⟩ := List.mem_iff_getElem.mp h
    clear h
    induction j with
    | zero => exact List.mem_map.mpr ⟨0, List.mem_filter.mpr ⟨List.mem_range.mpr hj, by simp [keeps]⟩, compact_get s 0 hj⟩
    | succ j ih =>
      by_cases e : s[j + 1] = s[j]'(by omega)
      · rw [e]
        exact ih (by omega)
      · exact List.mem_map.mpr ⟨j + 1, List.mem_filter.mpr ⟨List.mem_range.mpr hj, keeps_pos (by rw [compact_get s (j + 1) hj, show j + 1 - 1 = j by omega, compact_get s j (by omega)]; exact e)⟩, compact_get s (j + 1) hj⟩
theorem up_sort (l : List (Int × Int)) : Up (sortF l) := up_compact _ (sortedL_pair l)
theorem mem_sort (l : List (Int × Int)) (z : Int × Int) : z ∈ sortF l ↔ z ∈ l := by unfold sortF; rw [mem_compact, mem_sortedL]
theorem rising_sort (l : List (Int × Int)) (h : soundF l = true) : Rising (sortF l) := ⟨fun z hz => List.all_eq_true.mp h z ((mem_sort l z).mp hz), up_sort l⟩
theorem sort_up (l : List (Int × Int)) (h : Up l) : sortF l = l := by
  have e : sortedL l = l := by
    rw [sortedL_eq]
    refine List.mergeSort_of_pairwise (h.imp (fun {a b} hab => ?_))
    rw [kLe_iff]
    intro hba
    have := k_trans hab hba
    rw [k_irrefl] at this
    cases this
  unfold sortF
  rw [e, compactUpTo_all l.toArray l.length ?_]
  · have := range_map_get l.toArray
    simpa using this
  · intro j hj
    by_cases h0 : j = 0
    · subst h0; simp [keeps]
    · refine keeps_pos ?_
      rw [compact_get l j hj, compact_get l (j - 1) (by omega)]
      exact fun e => k_ne (List.pairwise_iff_getElem.mp h (j - 1) j (by omega) hj (by omega)) e.symm
theorem rising_choose (L B R : Bool) {x y : List (Int × Int)} (hx : Rising x) (hy : Rising y) : Rising (chooseF L B R x y) :=
  ⟨fun z hz => by rcases choose_sub L B R z x y hx.2 hy.2 hz with h | h; exact hx.1 z h; exact hy.1 z h, up_choose L B R x y hx.2 hy.2⟩
theorem sound_of_rising {l : List (Int × Int)} (h : Rising l) : soundF l = true := List.all_eq_true.mpr h.1
end Go.Proofs.YtbmfldoobkeieaaDoor.KForm
