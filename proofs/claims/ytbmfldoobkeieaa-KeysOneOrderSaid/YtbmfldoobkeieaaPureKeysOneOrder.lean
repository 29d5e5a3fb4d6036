/- The pure side of KeysOneOrder: Compare of keys is one total order of the pairs of numbers. No condition. -/
import Derived.Test.YtbmfldoobkeieaaPKeysOneOrderx3
namespace Go.Proofs.Ytbmfldoobkeieaa.keysOneOrder
open Go.RowKit Go.Proofs.Ytbmfldoobkeieaa.PKeysOneOrder Go.Proofs.YtbmfldoobkeieaaW.PrintWords
set_option linter.unusedSimpArgs false

def cmpI (a b : Int) : Int := if a < b then -1 else if b < a then 1 else 0
def cmpK (a b c d : Int) : Int := if a < c then -1 else if c < a then 1 else cmpI b d

theorem compare_int (a b : Int) : cmp_Compare_int.f a b = some (cmpI a b) := by
  unfold cmp_Compare_int.f cmp_isNaN_int.f cmpI
  simp only [Option.bind_some, bne_self_eq_false, Bool.false_eq_true, if_false]
  by_cases h1 : a < b
  · simp [h1]
  · by_cases h2 : b < a
    · simp [h1, h2]
    · simp [h1, h2]
theorem compare_int64 (a b : Int) : cmp_Compare_int64.f a b = some (cmpI a b) := by
  unfold cmp_Compare_int64.f cmp_isNaN_int64.f cmpI
  simp only [Option.bind_some, bne_self_eq_false, Bool.false_eq_true, if_false]
  by_cases h1 : a < b
  · simp [h1]
  · by_cases h2 : b < a
    · simp [h1, h2]
    · simp [h1, h2]
theorem or_two (k : Nat) (x y : Int) : cmp_Or_int.f (k + 3) [x, y] = some (if x = 0 then y else x) := by
  unfold cmp_Or_int.f
  have e1 : wrap64 (0 + 1) = 1 := by unfold wrap64; omega
  have e2 : wrap64 (1 + 1) = 2 := by unfold wrap64; omega
  have r0 : rd [x, y] 0 = x := rfl
  have r1 : rd [x, y] 1 = y := rfl
  simp only [cmp_Or_int.l0, List.length_cons, List.length_nil, e1, e2, r0, r1]
  by_cases hx : x = 0
  · by_cases hy : y = 0
    · simp [hx, hy]
    · simp [hx, hy]
  · simp [hx]
theorem compare_val (k : Nat) (a b c d : Int) : keys_Compare.f (k + 3) a b c d = some (cmpK a b c d) := by
  unfold keys_Compare.f
  simp only [compare_int, compare_int64, Option.bind_some, or_two]
  by_cases h : a = c ∧ b = d
  · obtain ⟨rfl, rfl⟩ := h
    simp [cmpK, cmpI]
  · have hb : (a == c && b == d) = false := by simpa using h
    simp only [hb, Bool.false_eq_true, if_false]
    unfold cmpK
    by_cases h1 : a < c
    · simp [cmpI, h1]
    · by_cases h2 : c < a
      · simp [cmpI, h1, h2]
      · simp [cmpI, h1, h2]
theorem cmpK_cases (a b c d : Int) : (cmpK a b c d = -1 ∧ (a < c ∨ a = c ∧ b < d)) ∨ (cmpK a b c d = 0 ∧ a = c ∧ b = d) ∨ (cmpK a b c d = 1 ∧ (c < a ∨ a = c ∧ d < b)) := by
  unfold cmpK cmpI
  by_cases h1 : a < c
  · simp [h1]
  · by_cases h2 : c < a
    · simp [h1, h2]
    · have : a = c := by omega
      by_cases h3 : b < d
      · simp [h1, h2, h3, this]
      · by_cases h4 : d < b
        · simp [h1, h2, h3, h4, this]
        · have : b = d := by omega
          simp [h1, h2, h3, h4]
          omega
theorem pure (k : Nat) (a b c d e f : Int) : preludelaw02_KeysOneOrder.f (k + 3) a b c d e f = some true := by
  unfold preludelaw02_KeysOneOrder.f
  simp only [compare_val, Option.bind_some]
  have hx := cmpK_cases a b c d
  have hy := cmpK_cases c d e f
  have hz := cmpK_cases a b e f
  have hu := cmpK_cases c d a b
  generalize cmpK a b c d = x at *
  generalize cmpK c d e f = y at *
  generalize cmpK a b e f = z at *
  generalize cmpK c d a b = u at *
  have w1 : x = wrap64 (-u) := by unfold wrap64; omega
  have w2 : ((x == 0) != (a == c && (b == d))) = false := by
    have : (x == 0) = (a == c && (b == d)) := by
      rw [Bool.eq_iff_iff]; simp; omega
    rw [this]; simp
  rw [if_pos w1, w2, if_neg (by simp), if_neg (by omega)]
  have w3 : decide (x > 1) = false := by simp; omega
  rw [w3]
  have w4 : a = c → ((decide (x < 0)) != (decide (b < d))) = false := by
    intro h
    have : decide (x < 0) = decide (b < d) := by
      rw [Bool.eq_iff_iff]; simp; omega
    rw [this]; simp
  have w5 : a ≠ c → ((decide (x < 0)) != (decide (a < c))) = false := by
    intro h
    have : decide (x < 0) = decide (a < c) := by
      rw [Bool.eq_iff_iff]; simp; omega
    rw [this]; simp
  have last : preludelaw02_KeysOneOrder.j1 (k + 2) x y z false = some true := by
    simp only [preludelaw02_KeysOneOrder.j1, Bool.false_eq_true, if_false]
    have hb : x = y → x ≠ 0 → (z == x) = true := by
      intro h1 h2; simp; omega
    repeat' split
    all_goals first | rfl | omega | (rw [hb (by omega) (by omega)]) | (exfalso; omega)
  simp only [preludelaw02_KeysOneOrder.j0, Bool.false_eq_true, if_false]
  by_cases h : a = c
  · rw [if_pos h, w4 h]
    simpa using last
  · rw [if_neg h, w5 h]
    exact last
end Go.Proofs.Ytbmfldoobkeieaa.keysOneOrder
namespace Go.Proofs.Ytbmfldoobkeieaa.keysOneOrder
open Go.RowKit Go.Proofs.Ytbmfldoobkeieaa.PKeysOneOrder
theorem walk (a b : Int) (_ : (Lit.int .i64 a).wf = true) (_ : (Lit.int .i64 b).wf = true) (c d : Int) (_ : (Lit.int .i64 c).wf = true) (_ : (Lit.int .i64 d).wf = true)
    (e f : Int) (_ : (Lit.int .i64 e).wf = true) (_ : (Lit.int .i64 f).wf = true) (w : World) :
    Calls Try.prog 6 #[.agg #[.int .i64 a, .int .i64 b], .agg #[.int .i64 c, .int .i64 d], .agg #[.int .i64 e, .int .i64 f]] w fun e w' => e = .returned (.bool true) ∧ Below w.heap.size w w' :=
  preludelaw02_KeysOneOrder.calls 3 a b c d e f true w (pure 0 a b c d e f)
end Go.Proofs.Ytbmfldoobkeieaa.keysOneOrder
