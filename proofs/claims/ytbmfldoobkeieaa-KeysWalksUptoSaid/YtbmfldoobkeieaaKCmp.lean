/- keys.Compare: what it answers, and how it leaves memory: new blocks alone. -/
import Derived.Test.YtbmfldoobkeieaaKForm
import Derived.Test.YtbmfldoobkeieaaShelfS
import Derived.StillTailTactics
namespace Go.Proofs.Ytbmfldoobkeieaa.KForm
open Go.RowKit Go.Lib Go.Sort
set_option linter.unusedVariables false
set_option linter.unusedSimpArgs false

/-- below, the same, or above -/
def cmpI (x y : Int) : Int := if x < y then -1 else if y < x then 1 else 0
theorem cmpi_calls (x y : Int) (W : World) : Calls Try.prog 41 #[.int .i64 x, .int .i64 y] W fun e w' => e = .returned (.int .i64 (cmpI x y)) ∧ w' = W := by
  unfold cmpI
  go_enter Try.func41, Try.ntmps41
  go_wp2
  all_goals (go_ret; exact ⟨rfl, rfl⟩)
theorem cmpl_calls (x y : Int) (W : World) : Calls Try.prog 42 #[.int .i64 x, .int .i64 y] W fun e w' => e = .returned (.int .i64 (cmpI x y)) ∧ w' = W := by
  unfold cmpI
  go_enter Try.func42, Try.ntmps42
  go_wp2
  all_goals (go_ret; exact ⟨rfl, rfl⟩)
/-- the first that is not 0 -/
def orI (x y : Int) : Int := if x ≠ 0 then x else y
theorem or_calls (x y : Int) (B : Nat) (W : World) (h0 : W.cell? ⟨B, 0, none⟩ = some (.int .i64 x)) (h1 : W.cell? ⟨B, 1, none⟩ = some (.int .i64 y)) :
    Calls Try.prog 40 #[.slice (some ⟨B, 0, none⟩) 2 2] W fun e w' => e = .returned (.int .i64 (orI x y)) ∧ w' = W := by
  unfold orI
  by_cases hx : x = 0
  · subst hx
    by_cases hy : y = 0
    · subst hy
      go_enter Try.func40, Try.ntmps40
      go_wp2
      go_rounds 3
      go_ret
      exact ⟨rfl, rfl⟩
    · have hy1 : (y != 0) = true := by simpa using hy
      go_enter Try.func40, Try.ntmps40
      go_wp2
      go_rounds 2
      go_ret
      exact ⟨rfl, rfl⟩
  · have hx1 : (x != 0) = true := by simpa using hx
    go_enter Try.func40, Try.ntmps40
    go_wp2
    go_rounds 1
    go_ret
    exact ⟨rfl, rfl⟩
/-- what Compare tells of two keys -/
def cmpF (a b : Int × Int) : Int := orI (cmpI a.1 b.1) (cmpI a.2 b.2)
set_option maxHeartbeats 8000000 in
set_option maxRecDepth 100000 in
theorem compare_calls (a b : Int × Int) (W : World) : Calls Try.prog 26 #[.agg #[.int .i64 a.1, .int .i64 a.2], .agg #[.int .i64 b.1, .int .i64 b.2]] W fun e w' => e = .returned (.int .i64 (cmpF a b)) ∧ ∃ q os, w' = grow (W.drewN q) os := by
  obtain ⟨a1, a2⟩ := a
  obtain ⟨b1, b2⟩ := b
  show Calls Try.prog 26 #[.agg #[.int .i64 a1, .int .i64 a2], .agg #[.int .i64 b1, .int .i64 b2]] W _
  have hr : cmpF (a1, a2) (b1, b2) = orI (cmpI a1 b1) (cmpI a2 b2) := rfl
  rw [hr]
  by_cases heq : a1 = b1 ∧ a2 = b2
  · obtain ⟨rfl, rfl⟩ := heq
    have h0 : orI (cmpI a1 a1) (cmpI a2 a2) = 0 := by simp [orI, cmpI]
    rw [h0]
    go_enter Try.func26, Try.ntmps26
    go_wp2_with fail
    all_goals first | (go_ret; exact ⟨rfl, 0, _, by rw [alloc_eq_grow, alloc_eq_grow, grow_grow]; rfl⟩) | (exfalso; simp_all; done)
  · have c1 := fun W => cmpi_calls a1 b1 W
    have c2 := fun W => cmpl_calls a2 b2 W
    generalize cmpI a1 b1 = x at c1 ⊢
    generalize cmpI a2 b2 = y at c2 ⊢
    clear hr
    by_cases h1 : a1 = b1
    · subst h1
      have h2 : ¬ a2 = b2 := fun h => heq ⟨rfl, h⟩
      clear heq
      go_enter Try.func26, Try.ntmps26
      go_wp2_with fail
      have q0 : ((W.alloc (Obj.cells #[.int .i64 a1, .int .i64 a2] 29)).alloc (Obj.cells #[.int .i64 a1, .int .i64 b2] 29)).drew.cell? ⟨W.heap.size, 0, none⟩ = some (.int .i64 a1) := by go_simp
      have q1 : ((W.alloc (Obj.cells #[.int .i64 a1, .int .i64 a2] 29)).alloc (Obj.cells #[.int .i64 a1, .int .i64 b2] 29)).drew.cell? ⟨W.heap.size, 1, none⟩ = some (.int .i64 a2) := by go_simp
      have q2 : ((W.alloc (Obj.cells #[.int .i64 a1, .int .i64 a2] 29)).alloc (Obj.cells #[.int .i64 a1, .int .i64 b2] 29)).drew.cell? ⟨W.heap.size + 1, 0, none⟩ = some (.int .i64 a1) := by go_simp
      have q3 : ((W.alloc (Obj.cells #[.int .i64 a1, .int .i64 a2] 29)).alloc (Obj.cells #[.int .i64 a1, .int .i64 b2] 29)).drew.cell? ⟨W.heap.size + 1, 1, none⟩ = some (.int .i64 b2) := by go_simp
      have QG : Hid (((W.alloc (Obj.cells #[.int .i64 a1, .int .i64 a2] 29)).alloc (Obj.cells #[.int .i64 a1, .int .i64 b2] 29)).drew = grow (W.drewN 1) #[Obj.cells #[.int .i64 a1, .int .i64 a2] 29, Obj.cells #[.int .i64 a1, .int .i64 b2] 29]) := Lib.hid (by rw [alloc_eq_grow, alloc_eq_grow, grow_grow]; rfl)
      refine wp_region_still_tail 10 (by kernel_rfl) (by kernel_rfl) ?_
      change wpStill _ _ (World.drew _) (fun a' => wpList _ _ _ _ a' (World.drew _)) _ _
      generalize (((W.alloc (Obj.cells #[.int .i64 a1, .int .i64 a2] 29)).alloc (Obj.cells #[.int .i64 a1, .int .i64 b2] 29)).drew) = W2 at q0 q1 q2 q3 QG ⊢
      simp only [List.take_succ_cons, List.take_zero, List.drop_succ_cons, List.drop_zero]
      repeat still_step
      still_call (c1 _)
      repeat still_step
      still_call (c2 _)
      repeat still_step
      refine wpStill_nil ?_
      go_wp2_with fail
      refine (or_calls x y _ _ (by rw [World.cell?_alloc_at _ _ _ _ (by simp)]; rfl) (by rw [World.cell?_alloc_at _ _ _ _ (by simp)]; rfl)).mono ?_
      rintro e w' ⟨rfl, rfl⟩
      go_wp2_with fail
      go_ret
      exact ⟨rfl, 1, _, by rw [QG.out, alloc_eq_grow, grow_grow]⟩
    · clear heq
      go_enter Try.func26, Try.ntmps26
      go_wp2_with fail
      have q0 : ((W.alloc (Obj.cells #[.int .i64 a1, .int .i64 a2] 29)).alloc (Obj.cells #[.int .i64 b1, .int .i64 b2] 29)).drew.cell? ⟨W.heap.size, 0, none⟩ = some (.int .i64 a1) := by go_simp
      have q1 : ((W.alloc (Obj.cells #[.int .i64 a1, .int .i64 a2] 29)).alloc (Obj.cells #[.int .i64 b1, .int .i64 b2] 29)).drew.cell? ⟨W.heap.size, 1, none⟩ = some (.int .i64 a2) := by go_simp
      have q2 : ((W.alloc (Obj.cells #[.int .i64 a1, .int .i64 a2] 29)).alloc (Obj.cells #[.int .i64 b1, .int .i64 b2] 29)).drew.cell? ⟨W.heap.size + 1, 0, none⟩ = some (.int .i64 b1) := by go_simp
      have q3 : ((W.alloc (Obj.cells #[.int .i64 a1, .int .i64 a2] 29)).alloc (Obj.cells #[.int .i64 b1, .int .i64 b2] 29)).drew.cell? ⟨W.heap.size + 1, 1, none⟩ = some (.int .i64 b2) := by go_simp
      have QG : Hid (((W.alloc (Obj.cells #[.int .i64 a1, .int .i64 a2] 29)).alloc (Obj.cells #[.int .i64 b1, .int .i64 b2] 29)).drew = grow (W.drewN 1) #[Obj.cells #[.int .i64 a1, .int .i64 a2] 29, Obj.cells #[.int .i64 b1, .int .i64 b2] 29]) := Lib.hid (by rw [alloc_eq_grow, alloc_eq_grow, grow_grow]; rfl)
      refine wp_region_still_tail 10 (by kernel_rfl) (by kernel_rfl) ?_
      change wpStill _ _ (World.drew _) (fun a' => wpList _ _ _ _ a' (World.drew _)) _ _
      generalize (((W.alloc (Obj.cells #[.int .i64 a1, .int .i64 a2] 29)).alloc (Obj.cells #[.int .i64 b1, .int .i64 b2] 29)).drew) = W2 at q0 q1 q2 q3 QG ⊢
      simp only [List.take_succ_cons, List.take_zero, List.drop_succ_cons, List.drop_zero]
      repeat still_step
      still_call (c1 _)
      repeat still_step
      still_call (c2 _)
      repeat still_step
      refine wpStill_nil ?_
      go_wp2_with fail
      refine (or_calls x y _ _ (by rw [World.cell?_alloc_at _ _ _ _ (by simp)]; rfl) (by rw [World.cell?_alloc_at _ _ _ _ (by simp)]; rfl)).mono ?_
      rintro e w' ⟨rfl, rfl⟩
      go_wp2_with fail
      go_ret
      exact ⟨rfl, 1, _, by rw [QG.out, alloc_eq_grow, grow_grow]⟩
end Go.Proofs.Ytbmfldoobkeieaa.KForm
