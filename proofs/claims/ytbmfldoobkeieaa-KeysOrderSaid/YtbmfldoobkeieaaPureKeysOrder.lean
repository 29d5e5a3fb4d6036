/- The pure side of KeysOrder: Check and Compare are the document's. No condition. -/
import Derived.Test.YtbmfldoobkeieaaPKeysOrderx3
namespace Go.Proofs.Ytbmfldoobkeieaa.keysOrder
open Go.RowKit Go.Proofs.Ytbmfldoobkeieaa.PKeysOrder Go.Proofs.YtbmfldoobkeieaaW.PrintWords
set_option linter.unusedSimpArgs false

def cmpI (a b : Int) : Int := if a < b then -1 else if b < a then 1 else 0
def cmpK (a b c d : Int) : Int := if a < c then -1 else if c < a then 1 else cmpI b d

theorem compare_int (a b : Int) : cmp_Compare_int.f a b = some (cmpI a b) := by
  unfold cmp_Compare_int.f cmp_isNaN_int.f cmpI
  simp only [Option.bind_some, bne_self_eq_false, Bool.false_eq_true, if_false]
  by_cases h1 : a < b
  · simp [h1]
  · by_cases h2 : b < a
    · simp [h1, h2]
    · simp [h1, h2]
theorem compare_int64 (a b : Int) : cmp_Compare_int64.f a b = some (cmpI a b) := by
  unfold cmp_Compare_int64.f cmp_isNaN_int64.f cmpI
  simp only [Option.bind_some, bne_self_eq_false, Bool.false_eq_true, if_false]
  by_cases h1 : a < b
  · simp [h1]
  · by_cases h2 : b < a
    · simp [h1, h2]
    · simp [h1, h2]
theorem or_two (k : Nat) (x y : Int) : cmp_Or_int.f (k + 3) [x, y] = some (if x = 0 then y else x) := by
  unfold cmp_Or_int.f
  have e1 : wrap64 (0 + 1) = 1 := by unfold wrap64; omega
  have e2 : wrap64 (1 + 1) = 2 := by unfold wrap64; omega
  have r0 : rd [x, y] 0 = x := rfl
  have r1 : rd [x, y] 1 = y := rfl
  simp only [cmp_Or_int.l0, List.length_cons, List.length_nil, e1, e2, r0, r1]
  by_cases hx : x = 0
  · by_cases hy : y = 0
    · simp [hx, hy]
    · simp [hx, hy]
  · simp [hx]
theorem compare_val (k : Nat) (a b c d : Int) : keys_Compare.f (k + 3) a b c d = some (cmpK a b c d) := by
  unfold keys_Compare.f
  simp only [compare_int, compare_int64, Option.bind_some, or_two]
  by_cases h : a = c ∧ b = d
  · obtain ⟨rfl, rfl⟩ := h
    simp [cmpK, cmpI]
  · have hb : (a == c && b == d) = false := by simpa using h
    simp only [hb, Bool.false_eq_true, if_false]
    unfold cmpK
    by_cases h1 : a < c
    · simp [cmpI, h1]
    · by_cases h2 : c < a
      · simp [cmpI, h1, h2]
      · simp [cmpI, h1, h2]
theorem ref_val (a b c d : Int) : preluderef02_Compare.f a b c d = some (cmpK a b c d) := by
  unfold preluderef02_Compare.f cmpK cmpI
  by_cases h1 : a < c
  · simp [h1]
  · by_cases h2 : c < a
    · simp [h1, h2]
    · by_cases h3 : b < d
      · simp [h1, h2, h3]
      · by_cases h4 : d < b
        · simp [h1, h2, h3, h4]
        · simp [h1, h2, h3, h4]
theorem check_some (a b : Int) : ∃ r, keys_Check.f a b = some r ∧ preluderef02_Check.f a b = some r := by
  unfold keys_Check.f preluderef02_Check.f
  split
  · exact ⟨_, rfl, rfl⟩
  · split
    · exact ⟨_, rfl, rfl⟩
    · exact ⟨_, rfl, rfl⟩
theorem pure (k : Nat) (a b c d : Int) : preludelaw02_KeysOrder.f (k + 3) a b c d = some true := by
  unfold preludelaw02_KeysOrder.f
  obtain ⟨r, h1, h2⟩ := check_some a b
  obtain ⟨s, h3, h4⟩ := check_some c d
  simp [h1, h2, h3, h4, compare_val, ref_val, preludelaw02_num.f]
theorem walk (a b : Int) (_ : (Lit.int .i64 a).wf = true) (_ : (Lit.int .i64 b).wf = true) (c d : Int) (_ : (Lit.int .i64 c).wf = true) (_ : (Lit.int .i64 d).wf = true) (w : World) :
    Calls Try.prog 7 #[.agg #[.int .i64 a, .int .i64 b], .agg #[.int .i64 c, .int .i64 d]] w fun e w' => e = .returned (.bool true) ∧ Below w.heap.size w w' :=
  preludelaw02_KeysOrder.calls 3 a b c d true w (pure 0 a b c d)
end Go.Proofs.Ytbmfldoobkeieaa.keysOrder
