/- Lemmas of this claim's proof, out of several texts merged by wip/tools/prune.py of this session, what the claim does not use left out: ShelfS, KCmp, KCompact, KSort, KList, KList2, KFind, KChoose, PureSet, PlPure, PlPure2, PlPure3, PlCalls, PlCalls2, KApp, KLent. -/
import Derived.Test.YtbmfldoobkeieaaM5
import Derived.Shelf.SlGeneric
import Derived.Shelf.SlSortCmp.NoneTotal
import Derived.Shelf.SlicesE.Clone
import Derived.Ground.SlsfProg
import Derived.Ground.SlgnProg
import Derived.Test.YtbmfldoobkeieaaProg
import Derived.StillTailTactics
import Derived.Lib.SlicesCompact
import Derived.Lib.SliceRun
import Derived.Deep.QuietTactic
import Derived.BigQuiet
import Derived.Deep.RegionHeld3
import Derived.RegionTactic
import Derived.Laws.CopyOwn
import Derived.Laws.IdiomCopy
import Derived.OwnWalk
namespace Go.Proofs
open Go.Shelf
def Try.sortKey_ren : Go.Shelf.Ren := ⟨fun | 6 => 44 | 15 => 55 | 14 => 54 | 28 => 80 | 29 => 81 | 20 => 72 | 21 => 73 | 22 => 74 | 23 => 75 | 24 => 76 | 25 => 77 | 26 => 78 | 27 => 79 | 46 => 89 | 47 => 90 | 48 => 91 | 49 => 92 | 50 => 93 | 57 => 95 | n => n, fun | 22 => 22 | 24 => 29 | 25 => 47 | 3 => 3 | 39 => 63 | 0 => 0 | 53 => 100 | 55 => 44 | 4 => 4 | 46 => 94 | 45 => 93 | 50 => 85 | 5 => 5 | 9 => 9 | 66 => 105 | 70 => 109 | 76 => 112 | 77 => 113 | n => n, fun | n => n⟩
theorem Try.sortKey : Go.Proofs.SlLaysF0.n6 Try.prog Try.sortKey_ren := {
  mixed := by kernel_rfl
  f6 := ⟨Try.f44.name, by decide, Try.func44.trans (congrArg some (by kernel_rfl))⟩
  f14 := ⟨Try.f54.name, by decide, Try.func54.trans (congrArg some (by kernel_rfl))⟩
  f15 := Try.func55.trans (congrArg some (by kernel_rfl))
  f20 := ⟨Try.f72.name, by decide, Try.func72.trans (congrArg some (by kernel_rfl))⟩
  f21 := ⟨Try.f73.name, by decide, Try.func73.trans (congrArg some (by kernel_rfl))⟩
  f22 := ⟨Try.f74.name, by decide, Try.func74.trans (congrArg some (by kernel_rfl))⟩
  f23 := ⟨Try.f75.name, by decide, Try.func75.trans (congrArg some (by kernel_rfl))⟩
  f24 := ⟨Try.f76.name, by decide, Try.func76.trans (congrArg some (by kernel_rfl))⟩
  f25 := ⟨Try.f77.name, by decide, Try.func77.trans (congrArg some (by kernel_rfl))⟩
  f26 := ⟨Try.f78.name, by decide, Try.func78.trans (congrArg some (by kernel_rfl))⟩
  f27 := ⟨Try.f79.name, by decide, Try.func79.trans (congrArg some (by kernel_rfl))⟩
  f28 := Try.func80.trans (congrArg some (by kernel_rfl))
  f29 := Try.func81.trans (congrArg some (by kernel_rfl))
  f46 := ⟨Try.f89.name, by decide, Try.func89.trans (congrArg some (by kernel_rfl))⟩
  f47 := Try.func90.trans (congrArg some (by kernel_rfl))
  f48 := Try.func91.trans (congrArg some (by kernel_rfl))
  f49 := ⟨Try.f92.name, by decide, Try.func92.trans (congrArg some (by kernel_rfl))⟩
  f50 := ⟨Try.f93.name, by decide, Try.func93.trans (congrArg some (by kernel_rfl))⟩
  f57 := ⟨Try.f95.name, by decide, Try.func95.trans (congrArg some (by kernel_rfl))⟩
  t0 := Try.underlying0
  a0 := Try.isAgg0
  z0 := Try.sizeOf0
  v0 := Try.zeroValue0
  t3 := Try.underlying3
  a3 := Try.isAgg3
  z3 := Try.sizeOf3
  v3 := Try.zeroValue3
  t4 := Try.underlying4
  a4 := Try.isAgg4
  z4 := Try.sizeOf4
  v4 := Try.zeroValue4
  t5 := Try.underlying5
  a5 := Try.isAgg5
  z5 := Try.sizeOf5
  v5 := Try.zeroValue5
  t9 := Try.underlying9
  a9 := Try.isAgg9
  z9 := Try.sizeOf9
  v9 := Try.zeroValue9
  t22 := Try.underlying22
  a22 := Try.isAgg22
  z22 := Try.sizeOf22
  v22 := Try.zeroValue22
  t25 := Try.underlying47
  a25 := Try.isAgg47
  z25 := Try.sizeOf47
  v25 := Try.zeroValue47
  t39 := Try.underlying63
  a39 := Try.isAgg63
  z39 := Try.sizeOf63
  v39 := Try.zeroValue63
  t45 := Try.underlying93
  a45 := Try.isAgg93
  z45 := Try.sizeOf93
  v45 := Try.zeroValue93
  t46 := Try.underlying94
  a46 := Try.isAgg94
  z46 := Try.sizeOf94
  v46 := Try.zeroValue94
  t50 := Try.underlying85
  a50 := Try.isAgg85
  z50 := Try.sizeOf85
  v50 := Try.zeroValue85
  t53 := Try.underlying100
  a53 := Try.isAgg100
  z53 := Try.sizeOf100
  v53 := Try.zeroValue100
  t55 := Try.underlying44
  a55 := Try.isAgg44
  z55 := Try.sizeOf44
  v55 := Try.zeroValue44
  t66 := Try.underlying105
  a66 := Try.isAgg105
  z66 := Try.sizeOf105
  v66 := Try.zeroValue105
  t70 := Try.underlying109
  a70 := Try.isAgg109
  z70 := Try.sizeOf109
  v70 := Try.zeroValue109
  t76 := Try.underlying112
  a76 := Try.isAgg112
  z76 := Try.sizeOf112
  v76 := Try.zeroValue112
  t77 := Try.underlying113
  a77 := Try.isAgg113
  z77 := Try.sizeOf113
  v77 := Try.zeroValue113 }
def Try.cloneKey_ren : Go.Shelf.Ren := ⟨fun | 41 => 34 | n => n, fun | 22 => 22 | 23 => 29 | 4 => 4 | n => n, fun | n => n⟩
theorem Try.cloneKey : Go.Proofs.SlLaysE0.n41 Try.prog Try.cloneKey_ren := {
  mixed := by kernel_rfl
  f41 := ⟨Try.f34.name, by decide, Try.func34.trans (congrArg some (by kernel_rfl))⟩
  t4 := Try.underlying4
  a4 := Try.isAgg4
  z4 := Try.sizeOf4
  v4 := Try.zeroValue4
  t22 := Try.underlying22
  a22 := Try.isAgg22
  z22 := Try.sizeOf22
  v22 := Try.zeroValue22 }
end Go.Proofs

namespace Go.Proofs.Ytbmfldoobkeieaa.KForm
open Go.RowKit Go.Lib Go.Sort
set_option linter.unusedVariables false
set_option linter.unusedSimpArgs false
/-- below, the same, or above -/
def cmpI (x y : Int) : Int := if x < y then -1 else if y < x then 1 else 0
theorem cmpi_calls (x y : Int) (W : World) : Calls Try.prog 41 #[.int .i64 x, .int .i64 y] W fun e w' => e = .returned (.int .i64 (cmpI x y)) ∧ w' = W := by
  unfold cmpI
  go_enter Try.func41, Try.ntmps41
  go_wp2
  all_goals (go_ret; exact ⟨rfl, rfl⟩)
theorem cmpl_calls (x y : Int) (W : World) : Calls Try.prog 42 #[.int .i64 x, .int .i64 y] W fun e w' => e = .returned (.int .i64 (cmpI x y)) ∧ w' = W := by
  unfold cmpI
  go_enter Try.func42, Try.ntmps42
  go_wp2
  all_goals (go_ret; exact ⟨rfl, rfl⟩)
/-- the first that is not 0 -/
def orI (x y : Int) : Int := if x ≠ 0 then x else y
theorem or_calls (x y : Int) (B : Nat) (W : World) (h0 : W.cell? ⟨B, 0, none⟩ = some (.int .i64 x)) (h1 : W.cell? ⟨B, 1, none⟩ = some (.int .i64 y)) :
    Calls Try.prog 40 #[.slice (some ⟨B, 0, none⟩) 2 2] W fun e w' => e = .returned (.int .i64 (orI x y)) ∧ w' = W := by
  unfold orI
  by_cases hx : x = 0
  · subst hx
    by_cases hy : y = 0
    · subst hy
      go_enter Try.func40, Try.ntmps40
      go_wp2
      go_rounds 3
      go_ret
      exact ⟨rfl, rfl⟩
    · have hy1 : (y != 0) = true := by simpa using hy
      go_enter Try.func40, Try.ntmps40
      go_wp2
      go_rounds 2
      go_ret
      exact ⟨rfl, rfl⟩
  · have hx1 : (x != 0) = true := by simpa using hx
    go_enter Try.func40, Try.ntmps40
    go_wp2
    go_rounds 1
    go_ret
    exact ⟨rfl, rfl⟩
/-- what Compare tells of two keys -/
def cmpF (a b : Int × Int) : Int := orI (cmpI a.1 b.1) (cmpI a.2 b.2)
set_option maxHeartbeats 8000000 in
set_option maxRecDepth 100000 in
theorem compare_calls (a b : Int × Int) (W : World) : Calls Try.prog 26 #[.agg #[.int .i64 a.1, .int .i64 a.2], .agg #[.int .i64 b.1, .int .i64 b.2]] W fun e w' => e = .returned (.int .i64 (cmpF a b)) ∧ ∃ q os, w' = grow (W.drewN q) os := by
  obtain ⟨a1, a2⟩ := a
  obtain ⟨b1, b2⟩ := b
  show Calls Try.prog 26 #[.agg #[.int .i64 a1, .int .i64 a2], .agg #[.int .i64 b1, .int .i64 b2]] W _
  have hr : cmpF (a1, a2) (b1, b2) = orI (cmpI a1 b1) (cmpI a2 b2) := rfl
  rw [hr]
  by_cases heq : a1 = b1 ∧ a2 = b2
  · obtain ⟨rfl, rfl⟩ := heq
    have h0 : orI (cmpI a1 a1) (cmpI a2 a2) = 0 := by simp [orI, cmpI]
    rw [h0]
    go_enter Try.func26, Try.ntmps26
    go_wp2_with fail
    all_goals first | (go_ret; exact ⟨rfl, 0, _, by rw [alloc_eq_grow, alloc_eq_grow, grow_grow]; rfl⟩) | (exfalso; simp_all; done)
  · have c1 := fun W => cmpi_calls a1 b1 W
    have c2 := fun W => cmpl_calls a2 b2 W
    generalize cmpI a1 b1 = x at c1 ⊢
    generalize cmpI a2 b2 = y at c2 ⊢
    clear hr
    by_cases h1 : a1 = b1
    · subst h1
      have h2 : ¬ a2 = b2 := fun h => heq ⟨rfl, h⟩
      clear heq
      go_enter Try.func26, Try.ntmps26
      go_wp2_with fail
      have q0 : ((W.alloc (Obj.cells #[.int .i64 a1, .int .i64 a2] 29)).alloc (Obj.cells #[.int .i64 a1, .int .i64 b2] 29)).drew.cell? ⟨W.heap.size, 0, none⟩ = some (.int .i64 a1) := by go_simp
      have q1 : ((W.alloc (Obj.cells #[.int .i64 a1, .int .i64 a2] 29)).alloc (Obj.cells #[.int .i64 a1, .int .i64 b2] 29)).drew.cell? ⟨W.heap.size, 1, none⟩ = some (.int .i64 a2) := by go_simp
      have q2 : ((W.alloc (Obj.cells #[.int .i64 a1, .int .i64 a2] 29)).alloc (Obj.cells #[.int .i64 a1, .int .i64 b2] 29)).drew.cell? ⟨W.heap.size + 1, 0, none⟩ = some (.int .i64 a1) := by go_simp
      have q3 : ((W.alloc (Obj.cells #[.int .i64 a1, .int .i64 a2] 29)).alloc (Obj.cells #[.int .i64 a1, .int .i64 b2] 29)).drew.cell? ⟨W.heap.size + 1, 1, none⟩ = some (.int .i64 b2) := by go_simp
      have QG : Hid (((W.alloc (Obj.cells #[.int .i64 a1, .int .i64 a2] 29)).alloc (Obj.cells #[.int .i64 a1, .int .i64 b2] 29)).drew = grow (W.drewN 1) #[Obj.cells #[.int .i64 a1, .int .i64 a2] 29, Obj.cells #[.int .i64 a1, .int .i64 b2] 29]) := Lib.hid (by rw [alloc_eq_grow, alloc_eq_grow, grow_grow]; rfl)
      refine wp_region_still_tail 10 (by kernel_rfl) (by kernel_rfl) ?_
      change wpStill _ _ (World.drew _) (fun a' => wpList _ _ _ _ a' (World.drew _)) _ _
      generalize (((W.alloc (Obj.cells #[.int .i64 a1, .int .i64 a2] 29)).alloc (Obj.cells #[.int .i64 a1, .int .i64 b2] 29)).drew) = W2 at q0 q1 q2 q3 QG ⊢
      simp only [List.take_succ_cons, List.take_zero, List.drop_succ_cons, List.drop_zero]
      repeat still_step
      still_call (c1 _)
      repeat still_step
      still_call (c2 _)
      repeat still_step
      refine wpStill_nil ?_
      go_wp2_with fail
      refine (or_calls x y _ _ (by rw [World.cell?_alloc_at _ _ _ _ (by simp)]; rfl) (by rw [World.cell?_alloc_at _ _ _ _ (by simp)]; rfl)).mono ?_
      rintro e w' ⟨rfl, rfl⟩
      go_wp2_with fail
      go_ret
      exact ⟨rfl, 1, _, by rw [QG.out, alloc_eq_grow, grow_grow]⟩
    · clear heq
      go_enter Try.func26, Try.ntmps26
      go_wp2_with fail
      have q0 : ((W.alloc (Obj.cells #[.int .i64 a1, .int .i64 a2] 29)).alloc (Obj.cells #[.int .i64 b1, .int .i64 b2] 29)).drew.cell? ⟨W.heap.size, 0, none⟩ = some (.int .i64 a1) := by go_simp
      have q1 : ((W.alloc (Obj.cells #[.int .i64 a1, .int .i64 a2] 29)).alloc (Obj.cells #[.int .i64 b1, .int .i64 b2] 29)).drew.cell? ⟨W.heap.size, 1, none⟩ = some (.int .i64 a2) := by go_simp
      have q2 : ((W.alloc (Obj.cells #[.int .i64 a1, .int .i64 a2] 29)).alloc (Obj.cells #[.int .i64 b1, .int .i64 b2] 29)).drew.cell? ⟨W.heap.size + 1, 0, none⟩ = some (.int .i64 b1) := by go_simp
      have q3 : ((W.alloc (Obj.cells #[.int .i64 a1, .int .i64 a2] 29)).alloc (Obj.cells #[.int .i64 b1, .int .i64 b2] 29)).drew.cell? ⟨W.heap.size + 1, 1, none⟩ = some (.int .i64 b2) := by go_simp
      have QG : Hid (((W.alloc (Obj.cells #[.int .i64 a1, .int .i64 a2] 29)).alloc (Obj.cells #[.int .i64 b1, .int .i64 b2] 29)).drew = grow (W.drewN 1) #[Obj.cells #[.int .i64 a1, .int .i64 a2] 29, Obj.cells #[.int .i64 b1, .int .i64 b2] 29]) := Lib.hid (by rw [alloc_eq_grow, alloc_eq_grow, grow_grow]; rfl)
      refine wp_region_still_tail 10 (by kernel_rfl) (by kernel_rfl) ?_
      change wpStill _ _ (World.drew _) (fun a' => wpList _ _ _ _ a' (World.drew _)) _ _
      generalize (((W.alloc (Obj.cells #[.int .i64 a1, .int .i64 a2] 29)).alloc (Obj.cells #[.int .i64 b1, .int .i64 b2] 29)).drew) = W2 at q0 q1 q2 q3 QG ⊢
      simp only [List.take_succ_cons, List.take_zero, List.drop_succ_cons, List.drop_zero]
      repeat still_step
      still_call (c1 _)
      repeat still_step
      still_call (c2 _)
      repeat still_step
      refine wpStill_nil ?_
      go_wp2_with fail
      refine (or_calls x y _ _ (by rw [World.cell?_alloc_at _ _ _ _ (by simp)]; rfl) (by rw [World.cell?_alloc_at _ _ _ _ (by simp)]; rfl)).mono ?_
      rintro e w' ⟨rfl, rfl⟩
      go_wp2_with fail
      go_ret
      exact ⟨rfl, 1, _, by rw [QG.out, alloc_eq_grow, grow_grow]⟩
end Go.Proofs.Ytbmfldoobkeieaa.KForm

namespace Go.Proofs.Ytbmfldoobkeieaa.KForm
open Go.RowKit Go.Lib Go.Sort Go.Proofs.Ytbmfldoobkeieaa.Own Go.Proofs.YtbmfldoobkeieaaW.PrintWords
set_option linter.unusedVariables false
set_option linter.unusedSimpArgs false
/-- block b is a row of M cells that holds the keys dk at its head -/
def RowHas (w : World) (b M : Nat) (dk : Array (Int × Int)) : Prop := ∃ f, w.rowIs b 29 M f ∧ dk.size * 2 ≤ M ∧ ∀ j, j < dk.size → f (j * 2) = .int .i64 dk[j]!.1 ∧ f (j * 2 + 1) = .int .i64 dk[j]!.2
theorem RowHas.cell {w : World} {b M : Nat} {dk : Array (Int × Int)} (h : RowHas w b M dk) {j : Nat} (hj : j < dk.size) :
    w.cell? ⟨b, j * 2, none⟩ = some (.int .i64 dk[j]!.1) ∧ w.cell? ⟨b, j * 2 + 1, none⟩ = some (.int .i64 dk[j]!.2) ∧ w.frozen? ⟨b, j * 2, none⟩ = false ∧ w.frozen? ⟨b, j * 2 + 1, none⟩ = false := by
  obtain ⟨f, hr, hM, hf⟩ := h
  obtain ⟨h1, h2⟩ := hf j hj
  refine ⟨?_, ?_, hr.frozen _, hr.frozen _⟩
  · rw [hr.cell (by omega), h1]
  · rw [hr.cell (by omega), h2]
theorem RowHas.of_block {w w' : World} {b M : Nat} {dk : Array (Int × Int)} (h : RowHas w b M dk) (e : w'.heap[b]? = w.heap[b]?) : RowHas w' b M dk := by
  obtain ⟨f, hr, h⟩ := h
  exact ⟨f, hr.of_block e, h⟩
theorem RowHas.lt {w : World} {b M : Nat} {dk : Array (Int × Int)} (h : RowHas w b M dk) : b < w.heap.size := by
  obtain ⟨f, hr, h⟩ := h
  exact hr.lt
theorem RowHas.set {w : World} {b M : Nat} {dk : Array (Int × Int)} (h : RowHas w b M dk) {k : Nat} (hk : k < dk.size) (u : Int × Int) :
    RowHas ((w.setCell ⟨b, k * 2, none⟩ (.int .i64 u.1)).setCell ⟨b, k * 2 + 1, none⟩ (.int .i64 u.2)) b M (dk.setIfInBounds k u) := by
  obtain ⟨f, hr, hM, hf⟩ := h
  refine ⟨_, (hr.set _ _).set _ _, by simpa using hM, fun j hj => ?_⟩
  rw [Array.size_setIfInBounds] at hj
  obtain ⟨h1, h2⟩ := hf j hj
  by_cases e : j = k
  · subst e
    rw [getElem!_set_same dk j u hk]
    exact ⟨by simp, by simp⟩
  · have e2 : (dk.setIfInBounds k u)[j]! = dk[j]! := getElem!_set_other dk k j u e
    rw [e2]
    refine ⟨?_, ?_⟩
    · show (if j * 2 = k * 2 + 1 then _ else if j * 2 = k * 2 then _ else f (j * 2)) = _
      rw [if_neg (by omega), if_neg (by omega), h1]
    · show (if j * 2 + 1 = k * 2 + 1 then _ else if j * 2 + 1 = k * 2 then _ else f (j * 2 + 1)) = _
      rw [if_neg (by omega), if_neg (by omega), h2]
theorem zeroCells_mem (n : Nat) : ∀ v ∈ (Builtin.zeroCells #[.int .i64 0, .int .i64 0] n).toList, v.oneCell' = true := by
  intro v hv
  simp only [Builtin.zeroCells, Array.toList_map, List.mem_map] at hv
  obtain ⟨i, _, rfl⟩ := hv
  have h2 : i % 2 < 2 := Nat.mod_lt _ (by omega)
  show ((#[Value.int .i64 0, Value.int .i64 0] : Array Value)[i % 2]!).oneCell' = true
  generalize i % 2 = j at h2
  match j, h2 with
  | 0, _ => rfl
  | 1, _ => rfl
theorem run_clear_keys (w : World) (ty : TypeId) (b o n c : Nat) (hn : 0 < n) (hc : ∀ j, j < n * 2 → (w.cell? ⟨b, o + j, none⟩).isSome = true) (hf : ∀ j, j < n * 2 → w.frozen? ⟨b, o + j, none⟩ = false) :
    (Builtin.clear_ #[22] ty #[.slice (some ⟨b, o, none⟩) n c]).run Try.prog w = .ok (.tuple #[]) (w.setCells b o (Builtin.zeroCells #[.int .i64 0, .int .i64 0] n).toList) := by
  have hl : (Builtin.zeroCells #[.int .i64 0, .int .i64 0] n).toList.length = n * 2 := by simp [Builtin.zeroCells]
  have hst := run_storeCells_cells (P := Try.prog) b o (Builtin.zeroCells #[.int .i64 0, .int .i64 0] n).toList 0 w (by rw [hl]; simpa using hc) (by rw [hl]; simpa using hf) (zeroCells_mem n)
  simp only [Nat.add_zero] at hst
  obtain ⟨m, rfl⟩ : ∃ m, n = m + 1 := ⟨n - 1, by omega⟩
  have hv := fun w => Try.zeroValue29 w
  simp [Builtin.clear_, run_underlying Try.underlying22, hv, Value.cells, hst]
theorem below_setCells {base b : Nat} (hb : base ≤ b) : ∀ (vs : List Value) (o : Nat) (w : World), Below base w (w.setCells b o vs)
  | [], _, w => Below.refl _ _
  | v :: r, o, w => ((Below.refl _ w).setCell (p := ⟨b, o, none⟩) hb v).trans (below_setCells hb r (o + 1) _)
theorem RowHas.there {w : World} {b M k n : Nat} {dk : Array (Int × Int)} (h : RowHas w b M dk) (hn : dk.size = n) (hk : k ≤ n) : (∀ j, j < (n - k) * 2 → (w.cell? ⟨b, k * 2 + j, none⟩).isSome = true) ∧ (∀ j, j < (n - k) * 2 → w.frozen? ⟨b, k * 2 + j, none⟩ = false) := by
  obtain ⟨f, hr, hM, _⟩ := h
  exact ⟨fun j hj => by rw [hr.cell (by omega)]; rfl, fun j hj => hr.frozen _⟩
theorem RowHas.cut {w : World} {b M k : Nat} {d dk : Array (Int × Int)} {vs : List Value} (h : RowHas w b M dk) (hI : CompInv d d.size k dk) : RowHas (w.setCells b (k * 2) vs) b M (compactUpTo d d.size).toArray := by
  obtain ⟨f, hr, hM, hf⟩ := h
  have hs := hI.size
  have hlt := hI.lt
  refine ⟨_, rowIs_sets b _ M vs (k * 2) w f hr, by simp [hI.len]; omega, fun j hj => ?_⟩
  have hj' : j < k := by simpa [hI.len] using hj
  have e : (compactUpTo d d.size).toArray[j]! = dk[j]! := by
    have := hI.low j hj'
    rw [show (compactUpTo d d.size).toArray[j]! = (compactUpTo d d.size)[j]! by simp, List.getElem!_eq_getElem?_getD, this]
    rfl
  rw [e]
  obtain ⟨h1, h2⟩ := hf j (by omega)
  refine ⟨?_, ?_⟩
  · show (if k * 2 ≤ j * 2 ∧ _ then _ else f (j * 2)) = _
    rw [if_neg (by omega), h1]
  · show (if k * 2 ≤ j * 2 + 1 ∧ _ then _ else f (j * 2 + 1)) = _
    rw [if_neg (by omega), h2]
set_option maxHeartbeats 4000000 in
set_option maxRecDepth 100000 in
theorem compact_calls (b M c base : Nat) (d : Array (Int × Int)) (w : World) (hH : RowHas w b M d) (hM : d.size * 2 ≤ 9223372036854775807) (hc : d.size ≤ c) (hb : base ≤ b) :
    Calls Try.prog 46 #[.slice (some ⟨b, 0, none⟩) d.size c] w fun e w' =>
      e = .returned (.slice (some ⟨b, 0, none⟩) (compactUpTo d d.size).length c) ∧ Below base w w' ∧ RowHas w' b M (compactUpTo d d.size).toArray := by
  have hsz : d.size * 2 ≤ M := by obtain ⟨_, _, h, _⟩ := hH; exact h
  have same : ∀ w', Below base w w' → RowHas w' b M d → (∀ j, j < d.size → keeps d j = true) → (compactUpTo d d.size).length = d.size ∧ RowHas w' b M (compactUpTo d d.size).toArray := by
    intro w' hb hr hall
    have e : compactUpTo d d.size = d.toList := by rw [compactUpTo_all d _ hall, range_map_get]
    rw [e]
    exact ⟨by simp, by simpa using hr⟩
  have HS := Lib.hid same
  clear same
  by_cases h2 : d.size < 2
  · have HH := Lib.hid hH
    clear hH
    go_enter Try.func46, Try.ntmps46
    go_wp2
    go_ret
    obtain ⟨e1, e2⟩ := HS.out w (Below.refl _ _) HH.out (fun j hj => keeps_lt_one d j (by omega))
    exact ⟨by rw [e1]; rfl, Below.refl _ _, e2⟩
  · have HH := Lib.hid hH
    clear hH
    go_enter Try.func46, Try.ntmps46
    go_wp2
    go_loopg [3] d.size (fun g s3 wr => ∃ k : Nat, 1 ≤ k ∧ k ≤ d.size ∧ d.size - k ≤ g ∧ s3 = .int .i64 k ∧ Aside (Below base w wr) ∧ Aside (RowHas wr b M d) ∧ Aside (∀ j, j < k → keeps d j = true))
    case atStart => exact ⟨1, Nat.le_refl _, by omega, by omega, rfl, Below.refl _ _, HH.out, keeps_lt_one d⟩
    case round =>
      clear HH
      obtain ⟨k, hk1, hk, hg, rfl, BW, HH, A⟩ := hrel
      by_cases hlt : k < d.size
      · obtain ⟨c1, c2, _, _⟩ := HH.out.cell hlt
        obtain ⟨c3, c4, _, _⟩ := HH.out.cell (j := k - 1) (by omega)
        obtain ⟨x, hx⟩ : ∃ x, x = d[k]! := ⟨_, rfl⟩
        obtain ⟨y, hy⟩ : ∃ y, y = d[k - 1]! := ⟨_, rfl⟩
        rw [← hx] at c1 c2
        rw [← hy] at c3 c4
        have HX := Lib.hid hx
        have HY := Lib.hid hy
        clear hx hy
        by_cases hdup : x = y
        · subst hdup
          go_wp2_with fail
          go_quiet (fail)
          go_wp2_with fail
          have B1 : Hid (Below base w (wr.drewN nq)) := Lib.hid (pw_below_drewN BW.out nq)
          have H1 : Hid (RowHas (wr.drewN nq) b M d) := Lib.hid (HH.out.of_block (by simp))
          have I1 : Hid (CompInv d (k + 1) k d) := Lib.hid (CompInv.start A.out (keeps_neg (by omega) (by rw [← HX.out, ← HY.out])))
          clear c1 c2 c3 c4 BW HH A
          go_loopg [3, 5] d.size (fun g s3 s5 wq => ∃ (kk k2 : Nat) (dk : Array (Int × Int)), s3 = .int .i64 kk ∧ s5 = .int .i64 k2 ∧ 1 ≤ k2 ∧ k + k2 ≤ d.size ∧ d.size - (k + k2) ≤ g ∧ kk < k + k2 ∧ dk.size = d.size ∧ Aside (Below base w wq) ∧ Aside (RowHas wq b M dk) ∧ Aside (CompInv d (k + k2) kk dk))
          case atStart => exact ⟨k, 1, d, rfl, rfl, Nat.le_refl _, by omega, by omega, by omega, rfl, B1.out, H1.out, I1.out⟩
          case round =>
            clear B1 H1 I1 hg
            obtain ⟨kk, k2, dk, rfl, rfl, h1, hle, hg2, hkk, hds, BW, HH, II⟩ := hrel
            by_cases hlt2 : k + k2 < d.size
            · obtain ⟨m1, m2, _, _⟩ := HH.out.cell (j := k + k2) (by omega)
              obtain ⟨n1, n2, _, _⟩ := HH.out.cell (j := k + k2 - 1) (by omega)
              obtain ⟨p1, p2, f1, f2⟩ := HH.out.cell (j := kk) (by omega)
              rw [II.out.high (k + k2) (by omega), show (k + k2) * 2 = k * 2 + k2 * 2 by omega] at m1 m2
              rw [II.out.high (k + k2 - 1) (by omega), show (k + k2 - 1) * 2 = k * 2 + (k2 - 1) * 2 by omega] at n1 n2
              obtain ⟨u, hu⟩ : ∃ u, u = d[k + k2]! := ⟨_, rfl⟩
              obtain ⟨v, hv⟩ : ∃ v, v = d[k + k2 - 1]! := ⟨_, rfl⟩
              rw [← hu] at m1 m2
              rw [← hv] at n1 n2
              generalize dk[kk]! = old at p1 p2
              have HU := Lib.hid hu
              have HV := Lib.hid hv
              clear hu hv
              by_cases huv : u = v
              · subst huv
                go_wp2_with fail
                go_quiet (fail)
                go_wp2_with fail
                go_roundg (d.size - (k + (k2 + 1)))
                case measure => omega
                case rel => exact ⟨kk, k2 + 1, dk, rfl, by go_num, by omega, by omega, Nat.le_refl _, by omega, hds, pw_below_drewN BW.out nq, HH.out.of_block (by simp), II.out.skip (keeps_neg (by omega) (by rw [← HU.out, ← HV.out]))⟩
              · have HUV := Lib.hid huv
                have hparts : ¬ u.1 = v.1 ∨ (u.1 = v.1 ∧ ¬ u.2 = v.2) := by
                  by_cases e1 : u.1 = v.1
                  · exact .inr ⟨e1, fun e2 => huv (Prod.ext e1 e2)⟩
                  · exact .inl e1
                clear huv
                rcases hparts with e1 | ⟨e1, e2⟩
                all_goals
                  go_wp2_with fail
                  go_quiet (fail)
                  go_wp2_with fail
                  go_roundg (d.size - (k + (k2 + 1)))
                  case measure => omega
                  case rel =>
                    refine ⟨kk + 1, k2 + 1, dk.setIfInBounds kk u, by go_num, by go_num, by omega, by omega, Nat.le_refl _, by omega, by simpa using hds, (show Aside _ from ((pw_below_drewN BW.out nq).setCell hb _).setCell hb _), (show Aside _ from ?_), (show Aside _ from ?_)⟩
                    · have hs := (HH.out.of_block (w' := wr.drewN nq) (by simp)).set (k := kk) (by omega) u
                      first | exact hs | (rw [e1] at hs; exact hs)
                    have := II.out.keep hlt2 (keeps_pos (by rw [← HU.out, ← HV.out]; exact HUV.out))
                    rwa [← HU.out] at this
            · have hend : k + k2 = d.size := by omega
              have hcl := fun ty => run_clear_keys wr ty b (kk * 2) (d.size - kk) (c - kk) (by omega) (HH.out.there hds (by omega)).1 (HH.out.there hds (by omega)).2
              have HZ : Hid (RowHas (wr.setCells b (kk * 2) (Builtin.zeroCells #[.int .i64 0, .int .i64 0] (d.size - kk)).toList) b M (compactUpTo d d.size).toArray) := Lib.hid (by
                have hI := II.out
                rw [hend] at hI
                exact HH.out.cut hI)
              have BZ : Hid (Below base w (wr.setCells b (kk * 2) (Builtin.zeroCells #[.int .i64 0, .int .i64 0] (d.size - kk)).toList)) := Lib.hid (BW.out.trans (below_setCells hb _ _ _))
              have HL : Hid ((compactUpTo d d.size).length = kk) := Lib.hid (by have := II.out; rw [hend] at this; exact this.len)
              clear BW HH II
              go_wp2_with fail
              go_ret
              exact ⟨by rw [HL.out]; rfl, BZ.out, HZ.out⟩
        · have HD := Lib.hid hdup
          have hparts : ¬ x.1 = y.1 ∨ (x.1 = y.1 ∧ ¬ x.2 = y.2) := by
            by_cases e1 : x.1 = y.1
            · exact .inr ⟨e1, fun e2 => hdup (Prod.ext e1 e2)⟩
            · exact .inl e1
          clear hdup
          rcases hparts with e1 | ⟨e1, e2⟩
          all_goals
            go_wp2_with fail
            go_quiet (fail)
            go_wp2_with fail
            go_roundg (d.size - (k + 1))
            case measure => omega
            case rel =>
              refine ⟨k + 1, by omega, by omega, Nat.le_refl _, by go_num, (show Aside _ from pw_below_drewN BW.out nq), (show Aside _ from HH.out.of_block (by simp)), (show Aside _ from fun j hj => ?_)⟩
              by_cases e : j = k
              · subst e
                exact keeps_pos (by rw [← HX.out, ← HY.out]; exact HD.out)
              · exact A.out j (by omega)
      · have : k = d.size := by omega
        subst this
        go_wp2_with fail
        go_ret
        obtain ⟨e1, e2⟩ := HS.out wr BW.out HH.out A.out
        exact ⟨by rw [e1]; rfl, BW.out, e2⟩
end Go.Proofs.Ytbmfldoobkeieaa.KForm

namespace Go.Proofs.Ytbmfldoobkeieaa.KForm
open Go.RowKit Go.Lib Go.Sort Go.Proofs.Ytbmfldoobkeieaa.Own Go.Proofs.YtbmfldoobkeieaaW.PrintWords
set_option linter.unusedVariables false
set_option linter.unusedSimpArgs false
theorem cmpF_neg (a b : Int × Int) : cmpF a b < 0 ↔ (a.1 < b.1 ∨ (a.1 = b.1 ∧ a.2 < b.2)) := by
  unfold cmpF orI cmpI
  split <;> split <;> (try split) <;> omega
/-- is the first key below the second? -/
def kLt (a b : Int × Int) : Bool := decide (a.1 < b.1 ∨ (a.1 = b.1 ∧ a.2 < b.2))
theorem ltOf_eq (a b : Int × Int) : ltOf cmpF a b = kLt a b := by
  unfold ltOf kLt
  exact decide_eq_decide.mpr (cmpF_neg a b)
theorem kLt_swo : SWO (ltOf cmpF) where
  irrefl := by intro x; rw [ltOf_eq]; unfold kLt; simp
  trans := by intro x y z; rw [ltOf_eq, ltOf_eq, ltOf_eq]; unfold kLt; simp only [decide_eq_true_eq]; omega
  ntrans := by intro x y z; simp only [ltOf_eq]; unfold kLt; simp only [decide_eq_false_iff_not]; omega
theorem kLt_total (x y : Int × Int) (h1 : ltOf cmpF x y = false) (h2 : ltOf cmpF y x = false) : x = y := by
  rw [ltOf_eq] at h1 h2
  unfold kLt at h1 h2
  simp only [decide_eq_false_iff_not] at h1 h2
  exact Prod.ext (by omega) (by omega)
theorem flat_get (d : Array (Int × Int)) (t : Nat) (h : t < d.size * 2) : (flatK keyCells 2 d)[t]! = (if t % 2 = 0 then .int .i64 d[t / 2]!.1 else .int .i64 d[t / 2]!.2) := by
  rw [get_flatK _ _ _ _ h]
  have h2 : t % 2 < 2 := Nat.mod_lt _ (by omega)
  generalize t % 2 = j at h2
  match j, h2 with
  | 0, _ => rfl
  | 1, _ => rfl
theorem cmpLays (b o n : Nat) (w : World) : CmpLays Try.prog 26 #[] keyCells 2 cmpF b o n w := fun m os dk _ x y => compare_calls x y _
theorem RowHas.holds {w : World} {b M : Nat} {d : Array (Int × Int)} (h : RowHas w b M d) : HoldsK keyCells 2 w b 0 d := by
  intro t ht
  rw [size_flatK] at ht
  rw [flat_get d t ht, Nat.zero_add]
  obtain ⟨c1, c2, f1, f2⟩ := h.cell (j := t / 2) (by omega)
  rcases Nat.mod_two_eq_zero_or_one t with e | e
  · have : t = t / 2 * 2 := by omega
    rw [if_pos e, this]
    simp only [Nat.mul_div_cancel _ (show 0 < 2 by omega)]
    exact ⟨c1, f1⟩
  · have : t = t / 2 * 2 + 1 := by omega
    rw [if_neg (by omega), this]
    rw [show (t / 2 * 2 + 1) / 2 = t / 2 by omega]
    exact ⟨c2, f2⟩
theorem heap_put (w : World) (b m k : Nat) (d : Array (Int × Int)) (os : Array Obj) (hk : k < w.heap.size) : (sortWorldK keyCells 2 w b 0 m d os).heap[k]? = if b = k then (w.heap[k]?).map (onCells (putCells id 0 (flatK keyCells 2 d))) else w.heap[k]? := by
  show ((w.heap.modify b (onCells (putCells id 0 (flatK keyCells 2 d)))) ++ os)[k]? = _
  rw [Array.getElem?_append_left (by simpa using hk), Array.getElem?_modify]
theorem RowHas.sorted {w : World} {b M m : Nat} {d d' : Array (Int × Int)} {os : Array Obj} (h : RowHas w b M d) (hs : d'.size = d.size) : RowHas (sortWorldK keyCells 2 w b 0 m d' os) b M d' := by
  have hlt := h.lt
  obtain ⟨f, ⟨c, hb, hc, hcf⟩, hM, hf⟩ := h
  refine ⟨fun t => if t < d'.size * 2 then (flatK keyCells 2 d')[t]! else f t, ⟨putCells id 0 (flatK keyCells 2 d') c, ?_, by simpa [putCells] using hc, fun t ht => ?_⟩, by omega, fun j hj => ?_⟩
  · rw [heap_put w b m b d' os hlt, if_pos rfl, hb]
    rfl
  · unfold putCells
    rw [Array.getElem?_mapIdx, hcf t ht]
    by_cases e : t < d'.size * 2
    · simp [e, size_flatK]
    · simp [e, size_flatK]
  · refine ⟨?_, ?_⟩
    · show (if j * 2 < d'.size * 2 then (flatK keyCells 2 d')[j * 2]! else f (j * 2)) = _
      rw [if_pos (by omega), flat_get d' _ (by omega), if_pos (by omega), show j * 2 / 2 = j by omega]
    · show (if j * 2 + 1 < d'.size * 2 then (flatK keyCells 2 d')[j * 2 + 1]! else f (j * 2 + 1)) = _
      rw [if_pos (by omega), flat_get d' _ (by omega), if_neg (by omega), show (j * 2 + 1) / 2 = j by omega]
theorem below_sorted {w : World} {b m base : Nat} {d' : Array (Int × Int)} {os : Array Obj} (hb : base ≤ b) (hbs : base ≤ w.heap.size) : RowKit.Below base w (sortWorldK keyCells 2 w b 0 m d' os) :=
  ⟨rfl, rfl, rfl, by show w.heap.size ≤ ((w.heap.modify b _) ++ os).size; simp, fun k hk => by rw [heap_put w b m k d' os (by omega), if_neg (by omega)]⟩
/-- the keys of a list, sorted -/
def sortedL (l : List (Int × Int)) : List (Int × Int) := l.mergeSort fun x y => !(ltOf cmpF) y x
/-- .. each once -/
def sortF (l : List (Int × Int)) : List (Int × Int) := compactUpTo (sortedL l).toArray (sortedL l).length
theorem sortedL_length (l : List (Int × Int)) : (sortedL l).length = l.length := by unfold sortedL; exact List.length_mergeSort _
theorem sortFunc_calls (b M c : Nat) (d : Array (Int × Int)) (w : World) (h : RowHas w b M d) (hsz : d.size < 4611686018427387904) :
    Calls Try.prog 44 #[.slice (some ⟨b, 0, none⟩) d.size c, .func (.func 26) #[] #[]] w fun e w' =>
      e = .returned (.tuple #[]) ∧ RowHas w' b M (sortedL d.toList).toArray ∧ ∀ base, base ≤ b → base ≤ w.heap.size → RowKit.Below base w w' := by
  have eg : ∀ args w, (callFunc 26 args).run Try.prog w = .ok (.enter 26 args) w := enters_of Try.func26 (by kernel_rfl) rfl
  have hcon := AnyQ.slices_SortFunc_total Try.sortKey 2 Try.isAgg29 Try.sizeOf29 keyCells (fun _ => rfl) (fun x v hv => by simp [keyCells] at hv; rcases hv with rfl | rfl <;> rfl) cmpF kLt_swo 26 #[] b 0 c d w eg (cmpLays b 0 d.size w) h.holds h.lt hsz kLt_total
  change Calls Try.prog 44 _ _ _ at hcon
  refine hcon.mono ?_
  rintro e w' ⟨rfl, n, os, rfl⟩
  exact ⟨rfl, h.sorted (by simp), fun base h1 h2 => below_sorted h1 h2⟩
theorem infoKey : (Try.prog.info? 29).map (fun i => (i.zero, i.size, i.bytes)) = some (some (.agg #[.int .i64 0, .int .i64 0]), 2, 16) := by kernel_rfl
/-- a list of keys that a call reads, its address written out -/
def ListAt (w : World) (A : Option Addr) (l : List (Int × Int)) : Prop :=
  (A = none ∧ l = []) ∨ ∃ b o, A = some ⟨b, o, none⟩ ∧ ∀ j, j < l.length → w.cell? ⟨b, o + j * 2, none⟩ = some (.int .i64 l[j]!.1) ∧ w.cell? ⟨b, o + j * 2 + 1, none⟩ = some (.int .i64 l[j]!.2)
theorem ListAt.below {w w' : World} {A : Option Addr} {l : List (Int × Int)} (h : ListAt w A l) (hb : RowKit.Below w.heap.size w w') : ListAt w' A l := by
  rcases h with h | ⟨b, o, rfl, h⟩
  · exact .inl h
  · refine .inr ⟨b, o, rfl, fun j hj => ?_⟩
    obtain ⟨h1, h2⟩ := h j hj
    have hlt := World.block_lt_of_cell? w _ h1
    exact ⟨(hb.cell (p := ⟨b, o + j * 2, none⟩) hlt).trans h1, (hb.cell (p := ⟨b, o + j * 2 + 1, none⟩) hlt).trans h2⟩
theorem clone_calls (b o c : Nat) (l : List (Int × Int)) (w : World) (hl : l.length < 8796093022208) (h : ∀ j, j < l.length → w.cell? ⟨b, o + j * 2, none⟩ = some (.int .i64 l[j]!.1) ∧ w.cell? ⟨b, o + j * 2 + 1, none⟩ = some (.int .i64 l[j]!.2)) :
    Calls Try.prog 34 #[.slice (some ⟨b, o, none⟩) l.length c] w fun e w' =>
      (∃ g cap, e = .returned (.slice (some ⟨g, 0, none⟩) l.length cap) ∧ w.heap.size ≤ g ∧ l.length ≤ cap ∧ RowHas w' g (cap * 2) l.toArray) ∧ RowKit.Below w.heap.size w w' := by
  obtain ⟨i0, ih, iz0, iz1, iz2⟩ := info_parts infoKey
  have hs : (flatK keyCells 2 l.toArray).size = l.length * 2 := by simp
  have hg : ∀ t u, (flatK keyCells 2 l.toArray).toList[t]? = some u → t < l.length * 2 ∧ u = (if t % 2 = 0 then .int .i64 l[t / 2]!.1 else .int .i64 l[t / 2]!.2) := by
    intro t u hu
    rw [Array.getElem?_toList] at hu
    obtain ⟨h1, h2⟩ := Array.getElem?_eq_some_iff.mp hu
    have hlt : t < l.toArray.size * 2 := by simpa using h1
    refine ⟨by simpa using hlt, ?_⟩
    have := flat_get l.toArray t hlt
    rw [getElem!_pos (flatK keyCells 2 l.toArray) t h1, h2] at this
    simpa using this
  have hcon := AnyE.slices_Clone Try.cloneKey i0 (.agg #[.int .i64 0, .int .i64 0]) 2 16 ih iz0 iz1 iz2 rfl (by decide) Try.sizeOf29 b o l.length c (flatK keyCells 2 l.toArray).toList w (by rw [Array.length_toList, hs]) (by unfold maxLen; omega) (by omega) (fun t u hu => ?_) (fun u hu => ?_)
  · change Calls Try.prog 34 _ _ _ at hcon
    refine hcon.mono ?_
    rintro e w' ⟨v, rfl, hown, hne, hbel⟩
    refine ⟨?_, hbel⟩
    rcases hown.2 with ⟨hv, _⟩ | ⟨g, cap, cur, rfl, hb, hh, hn, hm, hcs, ht⟩
    · exact absurd hv hne
    · refine ⟨g, cap, rfl, hb, hn, fun t => cur.getD t default, ⟨cur, hh, hcs, fun t ht => ?_⟩, by simp; omega, fun j hj => ?_⟩
      · show cur[t]? = some (cur.getD t default)
        rw [Array.getD_eq_getD_getElem?, Array.getElem?_eq_getElem (by omega)]
        rfl
      · have hj' : j < l.length := by simpa using hj
        have key : ∀ t, t < l.length * 2 → cur.getD t default = (if t % 2 = 0 then .int .i64 l[t / 2]!.1 else .int .i64 l[t / 2]!.2) := by
          intro t htt
          have e1 : (flatK keyCells 2 l.toArray).toList[t]? = some (cur.getD t default) := by
            rw [← ht, List.getElem?_take_of_lt htt, Array.getElem?_toList, Array.getD_eq_getD_getElem?, Array.getElem?_eq_getElem (by omega)]
            rfl
          exact (hg t _ e1).2
        refine ⟨?_, ?_⟩
        · show cur.getD (j * 2) default = _
          rw [key _ (by omega), if_pos (by omega), show j * 2 / 2 = j by omega]
          simp
        · show cur.getD (j * 2 + 1) default = _
          rw [key _ (by omega), if_neg (by omega), show (j * 2 + 1) / 2 = j by omega]
          simp
  · obtain ⟨h1, rfl⟩ := hg t u hu
    obtain ⟨c1, c2⟩ := h (t / 2) (by omega)
    rcases Nat.mod_two_eq_zero_or_one t with e | e
    · rw [if_pos e, show o + t = o + t / 2 * 2 by omega]
      exact c1
    · rw [if_neg (by omega), show o + t = o + t / 2 * 2 + 1 by omega]
      exact c2
  · obtain ⟨t, ht, rfl⟩ := List.mem_iff_getElem.mp hu
    have := (hg t _ (List.getElem?_eq_getElem ht)).2
    rw [this]
    split <;> rfl
theorem ListAt.keys {w : World} {A : Option Addr} {l : List (Int × Int)} (h : ListAt w A l) (h0 : 0 < l.length) : ∃ ad, A = some ad ∧ KeysAt w ad l := by
  rcases h with ⟨_, rfl⟩ | ⟨b, o, rfl, h⟩
  · simp at h0
  · refine ⟨_, rfl, ?_, fun j hj i v hv => ?_⟩
    · exact World.block_lt_of_cell? w _ (h 0 h0).1
    · obtain ⟨h1, h2⟩ := h j hj
      rw [Addr.add_lit]
      match i, hv with
      | 0, hv => rw [← Option.some.inj hv]; exact h1
      | 1, hv => rw [← Option.some.inj hv]; exact h2
/-- a list of keys in memory of its own -/
def OwnKeys (w : World) (base : Nat) (v : Value) (r : List (Int × Int)) : Prop :=
  (v = .slice none 0 0 ∧ r = []) ∨ ∃ g c M, v = .slice (some ⟨g, 0, none⟩) r.length c ∧ base ≤ g ∧ r.length ≤ c ∧ c * 2 ≤ M ∧ RowHas w g M r.toArray
theorem compact_short (A : Option Addr) (n c : Nat) (w : World) (h : n < 2) : Calls Try.prog 46 #[.slice A n c] w fun e w' => e = .returned (.slice A n c) ∧ w' = w := by
  have h2 : (n : Int) < 2 := by omega
  go_enter Try.func46, Try.ntmps46
  go_wp2
  go_ret
  exact ⟨rfl, rfl⟩
theorem clip_calls (A : Option Addr) (n c : Nat) (w : World) (h : n ≤ c) (hb : n ≤ 9223372036854775807) : Calls Try.prog 45 #[.slice A n c] w fun e w' => e = .returned (.slice A n n) ∧ w' = w := by
  go_enter Try.func45, Try.ntmps45
  go_wp2
  go_ret
  exact ⟨rfl, rfl⟩
theorem sortF_length (l : List (Int × Int)) : (sortF l).length ≤ l.length := by
  unfold sortF compactUpTo
  rw [List.length_map]
  have := List.length_filter_le (keeps (sortedL l).toArray) (List.range (sortedL l).length)
  rw [List.length_range, sortedL_length] at this
  rw [sortedL_length]
  exact this
set_option maxHeartbeats 4000000 in
set_option maxRecDepth 100000 in
theorem sort_calls (A : Option Addr) (c : Nat) (l : List (Int × Int)) (w : World) (hl : l.length < 8796093022208) (hc : l.length ≤ c) (h : ListAt w A l) :
    Calls Try.prog 30 #[.slice A l.length c] w fun e w' => ∃ v, e = .returned (.tuple #[v, .int .i64 (if soundF l = true then 0 else 20)]) ∧ OwnKeys w' w.heap.size v (if soundF l = true then sortF l else []) ∧ RowKit.Below w.heap.size w w' := by
  have H := Lib.hid h
  clear h
  cases hs : soundF l with
  | false =>
    go_enter Try.func30, Try.ntmps30
    go_wp2_with fail
    refine (sound_calls A l.length c l _ rfl (by omega) H.out.keys).mono ?_
    rintro e w1 ⟨rfl, hb1⟩
    rw [hs]
    go_wp2_with fail
    go_ret2
    exact ⟨_, rfl, .inl ⟨rfl, rfl⟩, hb1⟩
  | true =>
    go_enter Try.func30, Try.ntmps30
    go_wp2_with fail
    refine (sound_calls A l.length c l _ rfl (by omega) H.out.keys).mono ?_
    rintro e w1 ⟨rfl, hb1⟩
    rw [hs]
    have B1 := Lib.hid hb1
    have H1 := Lib.hid (H.out.below hb1)
    clear hb1
    have z1 := B1.out.size
    rcases H.out with ⟨hA, hnil⟩ | ⟨b, o, hA, _⟩
    · subst hA
      subst hnil
      have hcl := AnyE.slices_Clone_nil Try.cloneKey 0 c w1
      change Calls Try.prog 34 _ _ _ at hcl
      go_wp2_with fail
      refine hcl.mono ?_
      rintro e w2 ⟨rfl, rfl⟩
      have hsf := AnyF.slices_SortFunc_none Try.sortKey none 0 (.func (.func 26) #[] #[]) w2
      change Calls Try.prog 44 _ _ _ at hsf
      go_wp2_with fail
      refine hsf.mono ?_
      rintro e w3 ⟨rfl, rfl⟩
      go_wp2_with fail
      refine (compact_short none 0 0 w3 (by omega)).mono ?_
      rintro e w4 ⟨rfl, rfl⟩
      go_wp2_with fail
      refine (clip_calls none 0 0 w4 (by omega) (by omega)).mono ?_
      rintro e w5 ⟨rfl, rfl⟩
      go_wp2_with fail
      go_ret2
      exact ⟨_, rfl, .inl ⟨rfl, by simp [sortF, sortedL, compactUpTo]⟩, B1.out⟩
    · subst hA
      have hcells : Hid (∀ j, j < l.length → w1.cell? ⟨b, o + j * 2, none⟩ = some (.int .i64 l[j]!.1) ∧ w1.cell? ⟨b, o + j * 2 + 1, none⟩ = some (.int .i64 l[j]!.2)) := Lib.hid (by
        rcases H1.out with ⟨h, _⟩ | ⟨b', o', h, hh⟩
        · cases h
        · cases h; exact hh)
      go_wp2_with fail
      refine (clone_calls b o c l w1 hl hcells.out).mono ?_
      rintro e w2 ⟨⟨g, cap, rfl, hg, hcap, hrow⟩, hb2⟩
      have B2 : Hid (RowKit.Below w.heap.size w w2) := Lib.hid (B1.out.trans (hb2.mono z1))
      have z2 := B2.out.size
      have R2 := Lib.hid hrow
      clear hrow hb2
      go_wp2_with fail
      refine (sortFunc_calls g (cap * 2) cap l.toArray w2 R2.out (by simp; omega)).mono ?_
      rintro e w3 ⟨rfl, hrow, hb3⟩
      have B3 : Hid (RowKit.Below w.heap.size w w3) := Lib.hid (B2.out.trans (hb3 w.heap.size (by omega) z2))
      have R3 : Hid (RowHas w3 g (cap * 2) (sortedL l).toArray) := Lib.hid hrow
      have hsl := sortedL_length l
      clear hrow hb3
      go_wp2_with fail
      have hco := compact_calls g (cap * 2) cap w.heap.size (sortedL l).toArray w3 R3.out (by simp; omega) (by simp; omega) (by omega)
      rw [show (sortedL l).toArray.size = l.length by simp [hsl]] at hco
      refine hco.mono ?_
      rintro e w4 ⟨rfl, hb4, hrow⟩
      have hse : compactUpTo (sortedL l).toArray l.length = sortF l := by unfold sortF; rw [hsl]
      rw [hse] at hrow ⊢
      have B4 : Hid (RowKit.Below w.heap.size w w4) := Lib.hid (B3.out.trans hb4)
      have R4 := Lib.hid hrow
      have hle : (sortF l).length * 2 ≤ cap * 2 := by obtain ⟨_, _, h, _⟩ := hrow; simpa using h
      have hsf := sortF_length l
      clear hrow hb4 hco hse
      go_wp2_with fail
      refine (clip_calls (some ⟨g, 0, none⟩) (sortF l).length cap w4 (by omega) (by omega)).mono ?_
      rintro e w5 ⟨rfl, rfl⟩
      go_wp2_with fail
      go_ret2
      exact ⟨_, rfl, .inr ⟨g, _, cap * 2, rfl, by omega, Nat.le_refl _, hle, R4.out⟩, B4.out⟩
end Go.Proofs.Ytbmfldoobkeieaa.KForm

namespace Go.Proofs.Ytbmfldoobkeieaa.KForm
open Go.RowKit Go.Lib Go.Sort Go.Proofs.Ytbmfldoobkeieaa.Own Go.Proofs.Ytbmfldoobkeieaa.GSet Go.Proofs.YtbmfldoobkeieaaW.PrintWords
set_option linter.unusedVariables false
set_option linter.unusedSimpArgs false
def toS (p : Int × Int) : S29 := ⟨p.1, p.2⟩
/-- a list of keys that is read, wherever it lies -/
def KR (w : World) (A : Option Addr) (l : List (Int × Int)) : Prop := 0 < l.length → ∃ ad, A = some ad ∧ KeysAt w ad l
theorem KR.below {w w' : World} {A : Option Addr} {l : List (Int × Int)} (h : KR w A l) (hb : RowKit.Below w.heap.size w w') : KR w' A l := fun h0 => by
  obtain ⟨ad, hA, hk⟩ := h h0
  exact ⟨ad, hA, hk.below hb⟩
theorem KR.C {w : World} {A : Option Addr} {l : List (Int × Int)} (h : KR w A l) (hl : l.length ≤ 9223372036854775807) : Kd.C k29 w A (l.map toS).length (l.map toS) := by
  refine ⟨rfl, by rw [List.length_map]; exact hl, fun h0 => ?_⟩
  rw [List.length_map] at h0
  obtain ⟨ad, hA, hk⟩ := h h0
  refine ⟨ad, hA, fun j p hj => ?_⟩
  rw [List.getElem?_map] at hj
  obtain ⟨q, hq, rfl⟩ := Option.map_eq_some_iff.mp hj
  obtain ⟨hlt, rfl⟩ := List.getElem?_eq_some_iff.mp hq
  refine ⟨keyCells l[j], rfl, ⟨[_], [_], rfl, rfl, rfl⟩, fun i u hu => ?_⟩
  refine hk.2 j hlt i u ?_
  rw [List.getElem!_eq_getElem?_getD, hq]
  exact hu
theorem OwnKeys.KR {w : World} {base : Nat} {v : Value} {r : List (Int × Int)} (h : OwnKeys w base v r) : ∃ A c, v = .slice A r.length c ∧ r.length ≤ c ∧ KForm.KR w A r ∧ ListAt w A r := by
  rcases h with ⟨rfl, rfl⟩ | ⟨g, c, M, rfl, _, hc, _, hrow⟩
  · exact ⟨none, 0, rfl, Nat.le_refl _, fun h => by simp at h, .inl ⟨rfl, rfl⟩⟩
  · have hL : ListAt w (some ⟨g, 0, none⟩) r := .inr ⟨g, 0, rfl, fun j hj => by
      obtain ⟨h1, h2, _, _⟩ := hrow.cell (j := j) (by simpa using hj)
      rw [Nat.zero_add]
      exact ⟨by simpa using h1, by simpa using h2⟩⟩
    exact ⟨some ⟨g, 0, none⟩, c, rfl, hc, hL.keys, hL⟩
theorem rdT (l : List (Int × Int)) (i : Nat) (h : i < l.length) : rd_T29 (l.map toS) (i : Int) = toS l[i] := by
  unfold rd_T29
  rw [List.getD_eq_getElem?_getD, Int.toNat_natCast, List.getElem?_map, List.getElem?_eq_getElem h]
  rfl
theorem same_f (l : List (Int × Int)) (hl : l.length ≤ 9223372036854775807) (d : Nat) : ∀ (i k : Nat), i ≤ l.length → l.length - i = d → d < k → preludelaw02_sameKeys.l0 k (l.map toS) (l.map toS) i = some true := by
  induction d with
  | zero =>
    intro i k h1 h2 h3
    obtain ⟨k, rfl⟩ : ∃ m, k = m + 1 := ⟨k - 1, by omega⟩
    rw [preludelaw02_sameKeys.l0, if_neg (by rw [List.length_map]; omega)]
  | succ d ih =>
    intro i k h1 h2 h3
    obtain ⟨k, rfl⟩ : ∃ m, k = m + 1 := ⟨k - 1, by omega⟩
    have hlt : i < l.length := by omega
    rw [preludelaw02_sameKeys.l0, if_pos (by rw [List.length_map]; omega), if_pos (by omega), if_pos (by rw [List.length_map]; omega), if_neg (by simp), show wrap64 ((i : Int) + 1) = ((i + 1 : Nat) : Int) by unfold wrap64; omega]
    exact ih (i + 1) k (by omega) (by omega) (by omega)
theorem same_calls (A A2 : Option Addr) (c c2 : Nat) (l : List (Int × Int)) (w : World) (h : KR w A l) (h2 : KR w A2 l) (hl : l.length ≤ 9223372036854775807) (hc : l.length ≤ c) (hc2 : l.length ≤ c2) :
    Calls Try.prog 36 #[.slice A l.length c, .slice A2 l.length c2] w fun e w' => e = .returned (.bool true) ∧ RowKit.Below w.heap.size w w' := by
  have := preludelaw02_sameKeys.calls (l.length + 1) A c (l.map toS) A2 c2 (l.map toS) true w (h.C hl) (by rw [List.length_map]; exact hc) (h2.C hl) (by rw [List.length_map]; exact hc2) (by unfold preludelaw02_sameKeys.f; rw [if_pos rfl]; exact same_f l hl l.length 0 (l.length + 1) (by omega) (by omega) (by omega))
  rw [List.length_map] at this
  exact this.mono fun _ _ h => ⟨h.1, h.2.below⟩
end Go.Proofs.Ytbmfldoobkeieaa.KForm

namespace Go.Proofs.Ytbmfldoobkeieaa.KForm
open Go.RowKit Go.Lib Go.Sort Go.Proofs.Ytbmfldoobkeieaa.Own Go.Proofs.Ytbmfldoobkeieaa.GSet Go.Proofs.YtbmfldoobkeieaaW.PrintWords
set_option linter.unusedVariables false
set_option linter.unusedSimpArgs false
theorem cmpi_f (x y : Int) : cmp_Compare_int.f x y = some (cmpI x y) := by
  unfold cmp_Compare_int.f cmp_isNaN_int.f cmpI
  simp only [Option.bind_some, bne_self_eq_false]
  rw [if_neg (by simp), if_neg (by simp)]
  by_cases a : x < y
  · rw [if_pos a, if_pos a]
  · rw [if_neg a, if_neg a]
    by_cases b : y < x
    · rw [if_pos b, if_pos b]
    · rw [if_neg b, if_neg b]
theorem cmpl_f (x y : Int) : cmp_Compare_int64.f x y = some (cmpI x y) := by
  unfold cmp_Compare_int64.f cmp_isNaN_int64.f cmpI
  simp only [Option.bind_some, bne_self_eq_false]
  rw [if_neg (by simp), if_neg (by simp)]
  by_cases a : x < y
  · rw [if_pos a, if_pos a]
  · rw [if_neg a, if_neg a]
    by_cases b : y < x
    · rw [if_pos b, if_pos b]
    · rw [if_neg b, if_neg b]
theorem or_f (k : Nat) (x y : Int) : cmp_Or_int.f (k + 3) [x, y] = some (orI x y) := by
  unfold cmp_Or_int.f orI
  rw [cmp_Or_int.l0, if_pos (by simp), if_pos (by omega), if_pos (by simp)]
  by_cases h : x = 0
  · rw [if_pos (show rd [x, y] 0 = 0 from h), show wrap64 (0 + 1) = 1 by unfold wrap64; omega, cmp_Or_int.l0, if_pos (by simp), if_pos (by omega), if_pos (by simp)]
    by_cases h2 : y = 0
    · rw [if_pos (show rd [x, y] 1 = 0 from h2), show wrap64 (1 + 1) = 2 by unfold wrap64; omega, cmp_Or_int.l0, if_neg (by simp), if_neg (by simp [h]), h2]
    · rw [if_neg (show ¬ rd [x, y] 1 = 0 from h2), if_neg (by simp [h])]
      rfl
  · rw [if_neg (show ¬ rd [x, y] 0 = 0 from h), if_pos h]
    rfl
theorem compare_f (k : Nat) (a b : Int × Int) : keys_Compare.f (k + 3) a.1 a.2 b.1 b.2 = some (cmpF a b) := by
  unfold keys_Compare.f
  rw [cmpi_f, cmpl_f]
  by_cases h : (a.1 == b.1 && a.2 == b.2) = true
  · rw [if_pos h]
    simp at h
    unfold cmpF orI cmpI
    simp [h.1, h.2]
  · rw [if_neg h]
    simp only [Option.bind_some, or_f]
    rfl
/-- a set: its members are keys, each above the one before it -/
def Rising (l : List (Int × Int)) : Prop := (∀ x ∈ l, keyB x = true) ∧ l.Pairwise (fun a b => kLt a b = true)
theorem rises_f (l : List (Int × Int)) (hl : l.length ≤ 9223372036854775807) (hR : Rising l) (d : Nat) : ∀ (i k : Nat), i ≤ l.length → l.length - i = d → d + 5 < k → keys_Rises.l0 k (l.map toS) (l.map toS) (l.length : Int) i = some true := by
  induction d with
  | zero =>
    intro i k h1 h2 h3
    obtain ⟨k, rfl⟩ : ∃ m, k = m + 1 := ⟨k - 1, by omega⟩
    rw [keys_Rises.l0, if_neg (by omega)]
  | succ d ih =>
    intro i k h1 h2 h3
    obtain ⟨k, rfl⟩ : ∃ m, k = m + 1 := ⟨k - 1, by omega⟩
    have hlt : i < l.length := by omega
    have hk := hR.1 l[i] (List.getElem_mem hlt)
    unfold keyB at hk
    have hk := of_decide_eq_true hk
    have hnext := ih (i + 1) k (by omega) (by omega) (by omega)
    have hck : keys_Check.f (toS l[i]).f0 (toS l[i]).f1 = some 0 := by
      unfold keys_Check.f
      show (if l[i].1 < 0 then some 20 else if l[i].1 > 65535 then some 20 else some 0) = some 0
      rw [if_neg (show ¬ l[i].1 < 0 by omega), if_neg (show ¬ l[i].1 > 65535 by omega)]
    rw [keys_Rises.l0, if_pos (by omega), if_pos (by omega), if_pos (by rw [List.length_map]; omega), rdT l i hlt, hck]
    simp only [Option.bind_some]
    rw [if_pos trivial, show wrap64 ((i : Int) + 1) = ((i + 1 : Nat) : Int) by unfold wrap64; omega, hnext]
    by_cases h0 : (i : Int) > 0
    · rw [if_pos h0, show wrap64 ((i : Int) - 1) = ((i - 1 : Nat) : Int) by unfold wrap64; omega, if_pos (by omega), if_pos (by rw [List.length_map]; omega), rdT l (i - 1) (by omega)]
      obtain ⟨k, rfl⟩ : ∃ m, k = m + 3 := ⟨k - 3, by omega⟩
      have hc := compare_f k l[i - 1] l[i]
      have hlt2 : kLt l[i - 1] l[i] = true := List.pairwise_iff_getElem.mp hR.2 (i - 1) i (by omega) hlt (by omega)
      have hneg : cmpF l[i - 1] l[i] < 0 := (cmpF_neg _ _).mpr (of_decide_eq_true hlt2)
      show (keys_Compare.f (k + 3) l[i - 1].1 l[i - 1].2 l[i].1 l[i].2).bind _ = _
      rw [hc]
      simp only [Option.bind_some]
      rw [if_neg (by omega)]
    · rw [if_neg h0]
theorem rises_calls (A : Option Addr) (c : Nat) (l : List (Int × Int)) (w : World) (h : KR w A l) (hl : l.length ≤ 9223372036854775807) (hc : l.length ≤ c) (hR : Rising l) :
    Calls Try.prog 56 #[.slice A l.length c] w fun e w' => e = .returned (.bool true) ∧ RowKit.Below w.heap.size w w' := by
  have := keys_Rises.calls (l.length + 7) A c (l.map toS) true w (h.C hl) (by rw [List.length_map]; exact hc) (by unfold keys_Rises.f; rw [List.length_map]; exact rises_f l hl hR l.length 0 (l.length + 7) (by omega) (by omega) (by omega))
  rw [List.length_map] at this
  exact this
/-- the cells of a list of keys -/
def flatV (l : List (Int × Int)) (t : Nat) : Value := if t % 2 = 0 then .int .i64 l[t / 2]!.1 else .int .i64 l[t / 2]!.2
theorem own_of_has {w : World} {base : Nat} {v : Value} {l : List (Int × Int)} (h : Has w base 29 2 v l.length (fun t x => x = flatV l t)) : OwnKeys w base v l := by
  rcases h with ⟨rfl, h0⟩ | ⟨b, c, f, rfl, hb, hrow, hn, hm, hg⟩
  · exact .inl ⟨rfl, List.eq_nil_of_length_eq_zero h0⟩
  · refine .inr ⟨b, c, c * 2, rfl, hb, hn, Nat.le_refl _, f, hrow, by simp; omega, fun j hj => ?_⟩
    have hj' : j < l.length := by simpa using hj
    have e1 : f (j * 2) = flatV l (j * 2) := hg (j * 2) (by omega)
    have e2 : f (j * 2 + 1) = flatV l (j * 2 + 1) := hg (j * 2 + 1) (by omega)
    unfold flatV at e1 e2
    rw [if_pos (by omega), show j * 2 / 2 = j by omega] at e1
    rw [if_neg (by omega), show (j * 2 + 1) / 2 = j by omega] at e2
    exact ⟨by rw [e1]; simp, by rw [e2]; simp⟩
/-- the cells of a list that is appended -/
def newsV (l : List (Int × Int)) : List Value := (List.range (l.length * 2)).map (flatV l)
theorem newsV_get (l : List (Int × Int)) (t : Nat) (u : Value) (h : (newsV l)[t]? = some u) : t < l.length * 2 ∧ u = flatV l t := by
  unfold newsV at h
  rw [List.getElem?_map] at h
  rcases Nat.lt_or_ge t (l.length * 2) with hj | hj
  · rw [List.getElem?_range hj] at h
    exact ⟨hj, by simpa using h.symm⟩
  · rw [List.getElem?_eq_none (by simpa using hj)] at h
    cases h
theorem newsV_one (l : List (Int × Int)) : ∀ u ∈ newsV l, u.oneCell' = true := by
  intro u hu
  obtain ⟨t, ht, rfl⟩ := List.mem_map.mp hu
  unfold flatV
  split <;> rfl
theorem KeysAt.news {w : World} {ad : Addr} {l : List (Int × Int)} (h : KeysAt w ad l) : ∀ t u, (newsV l)[t]? = some u → w.cell? (ad.add t) = some u := by
  intro t u hu
  obtain ⟨ht, rfl⟩ := newsV_get l t u hu
  have hj : t / 2 < l.length := by omega
  unfold flatV
  rcases Nat.mod_two_eq_zero_or_one t with e | e
  · rw [if_pos e]
    have := h.2 (t / 2) hj 0 _ rfl
    rwa [show t / 2 * 2 + 0 = t by omega] at this
  · rw [if_neg (by omega)]
    have := h.2 (t / 2) hj 1 _ rfl
    rwa [show t / 2 * 2 + 1 = t by omega] at this
theorem flatV_append (l m : List (Int × Int)) (t : Nat) : flatV (l ++ m) t = if t < l.length * 2 then flatV l t else flatV m (t - l.length * 2) := by
  unfold flatV
  by_cases h : t < l.length * 2
  · rw [if_pos h]
    have e : (l ++ m)[t / 2]! = l[t / 2]! := by
      rw [List.getElem!_eq_getElem?_getD, List.getElem!_eq_getElem?_getD, List.getElem?_append_left (by omega)]
    rw [e]
  · rw [if_neg h]
    have e : (l ++ m)[t / 2]! = m[(t - l.length * 2) / 2]! := by
      rw [List.getElem!_eq_getElem?_getD, List.getElem!_eq_getElem?_getD, List.getElem?_append_right (by omega), show t / 2 - l.length = (t - l.length * 2) / 2 by omega]
    rw [e, show (t - l.length * 2) % 2 = t % 2 by omega]
/-- behind an append of l onto r -/
theorem has_append {w : World} {base : Nat} {v : Value} {r l : List (Int × Int)} {n : Nat} (hn : n = r.length + l.length) (h : Has w base 29 2 v n (fun j x => (j < r.length * 2 → x = flatV r j) ∧ (r.length * 2 ≤ j → (newsV l)[j - r.length * 2]? = some x))) :
    Has w base 29 2 v (r ++ l).length (fun t x => x = flatV (r ++ l) t) := by
  subst hn
  rw [List.length_append]
  refine h.imp (fun j hj x hx => ?_)
  rw [flatV_append]
  by_cases e : j < r.length * 2
  · rw [if_pos e]
    exact hx.1 e
  · rw [if_neg e]
    exact (newsV_get l _ _ (hx.2 (by omega))).2
set_option maxHeartbeats 2000000 in
set_option maxRecDepth 100000 in
theorem copied_calls (A : Option Addr) (c : Nat) (l : List (Int × Int)) (w : World) (h : KR w A l) (hl : l.length < 8796093022208) (hc : l.length ≤ c) :
    Calls Try.prog 67 #[.slice A l.length c] w fun e w' => ∃ v, e = .returned v ∧ OwnKeys w' w.heap.size v l ∧ RowKit.Below w.heap.size w w' := by
  obtain ⟨i0, ih, iz0, iz1, iz2⟩ := info_parts infoKey
  by_cases h0 : l.length = 0
  · have hnil := List.eq_nil_of_length_eq_zero h0
    subst hnil
    clear h0
    go_enter Try.func67, Try.ntmps67
    go_wp2_with (at_builtin; refine wpList_append_nil0 _ rfl _ _ 22 rfl 29 i0 Try.underlying22 ih rfl A c rfl ?_)
    go_wp2
    go_ret
    exact ⟨_, rfl, .inl ⟨rfl, rfl⟩, RowKit.Below.refl _ _⟩
  · obtain ⟨ad, rfl, hk⟩ := h (by omega)
    have HN := Lib.hid hk.news
    clear h hk
    go_enter Try.func67, Try.ntmps67
    go_wp2_with (at_builtin; refine wpList_append_has _ rfl _ _ 22 rfl w.heap.size 29 i0 (.agg #[.int .i64 0, .int .i64 0]) 2 16 Try.underlying22 ih iz0 iz1 iz2 rfl (by decide) _ 0 (fun t x => x = flatV [] t) rfl ?hv ad l.length c (newsV l) rfl ?c0 ?c1 ?c2 ?c3 ?c4 ?c5 ?c6 ?_)
    case hv => exact .inl ⟨rfl, rfl⟩
    case c0 => simp [newsV]
    case c1 => exact HN.out
    case c2 => exact newsV_one l
    case c3 => omega
    case c4 => unfold maxLen; omega
    case c5 => omega
    case c6 => exact Nat.le_refl _
    intro b' c' w' hnew hblk hold hgr
    have K : Hid (OwnKeys w' w.heap.size (.slice (some ⟨b', 0, none⟩) l.length c') l) := Lib.hid (own_of_has (hnew.imp (fun j hj x hx => (newsV_get l j x hx).2)))
    have G : Hid (RowKit.Below w.heap.size w w') := Lib.hid ((RowKit.Below.refl _ _).grown hgr (Nat.le_refl _) (fun k hk => by simp [Value.ownBlock] at hk))
    clear hnew hblk hold hgr
    go_wp2
    go_ret
    exact ⟨_, rfl, K.out, G.out⟩
end Go.Proofs.Ytbmfldoobkeieaa.KForm

namespace Go.Proofs.Ytbmfldoobkeieaa.KForm
open Go.RowKit Go.Lib Go.Sort Go.Proofs.Ytbmfldoobkeieaa.Own Go.Proofs.YtbmfldoobkeieaaW.PrintWords
set_option linter.unusedVariables false
set_option linter.unusedSimpArgs false
theorem below_grow' {w w' : World} (h : ∃ q os, w' = grow (w.drewN q) os) : RowKit.Below w.heap.size w w' := by
  obtain ⟨q, os, rfl⟩ := h
  exact ⟨rfl, rfl, rfl, by simp, fun k hk => by show (w.heap ++ os)[k]? = _; rw [Array.getElem?_append_left hk]⟩
/-- how many members are below the key -/
def findN (l : List (Int × Int)) (x : Int × Int) : Nat := (l.filter fun y => kLt y x).length
theorem findN_le (l : List (Int × Int)) (x : Int × Int) : findN l x ≤ l.length := List.length_filter_le _ _
/-- in a set the members below the key are its first ones -/
theorem findN_lt {l : List (Int × Int)} (hP : l.Pairwise (fun a b => kLt a b = true)) (x : Int × Int) : ∀ i (hi : i < l.length), (i < findN l x ↔ kLt l[i] x = true) := by
  induction l with
  | nil => intro i hi; simp at hi
  | cons a l ih =>
    obtain ⟨h1, h2⟩ := List.pairwise_cons.mp hP
    have ktr : ∀ u v z : Int × Int, kLt u v = true → kLt v z = true → kLt u z = true := by
      intro u v z; unfold kLt; simp only [decide_eq_true_eq]; omega
    intro i hi
    show i < ((a :: l).filter fun y => kLt y x).length ↔ kLt (a :: l)[i] x = true
    cases hax : kLt a x with
    | true =>
      rw [show (a :: l).filter (fun y => kLt y x) = a :: l.filter (fun y => kLt y x) from List.filter_cons_of_pos (p := fun y => kLt y x) hax, List.length_cons]
      cases i with
      | zero => simp [hax]
      | succ i =>
        have := ih h2 i (by simpa using hi)
        unfold findN at this
        simp only [List.getElem_cons_succ]
        rw [← this]
        omega
    | false =>
      have hnone : l.filter (fun y => kLt y x) = [] := by
        rw [List.filter_eq_nil_iff]
        intro y hy hyx
        rw [ktr a y x (h1 y hy) hyx] at hax
        cases hax
      rw [show (a :: l).filter (fun y => kLt y x) = l.filter (fun y => kLt y x) from List.filter_cons_of_neg (p := fun y => kLt y x) (by simp [hax]), hnone]
      cases i with
      | zero => simp [hax]
      | succ i =>
        simp only [List.length_nil, Nat.not_lt_zero, false_iff, List.getElem_cons_succ]
        intro hyx
        have hi' : i < l.length := by simpa using hi
        have := ktr a (l[i]'hi') x (h1 _ (List.getElem_mem hi')) hyx
        rw [this] at hax
        cases hax
theorem cmpF_zero (a b : Int × Int) : cmpF a b = 0 ↔ a = b := by
  constructor
  · intro h
    have h1 : ¬ cmpF a b < 0 := by omega
    rw [cmpF_neg] at h1
    have h2 : ¬ (b.1 < a.1 ∨ (b.1 = a.1 ∧ b.2 < a.2)) := by
      unfold cmpF orI cmpI at h
      split at h <;> split at h <;> (try split at h) <;> omega
    exact Prod.ext (by omega) (by omega)
  · rintro rfl
    unfold cmpF orI cmpI
    simp
theorem find_at {l : List (Int × Int)} (hP : l.Pairwise (fun a b => kLt a b = true)) (x : Int × Int) (hx : x ∈ l) : ∃ h : findN l x < l.length, l[findN l x] = x := by
  obtain ⟨q, hq, rfl⟩ := List.mem_iff_getElem.mp hx
  have h1 := findN_lt hP l[q] q hq
  have hirr : kLt l[q] l[q] = false := by unfold kLt; simp
  rw [hirr] at h1
  have h2 : findN l l[q] ≤ q := by
    rcases Nat.lt_or_ge q (findN l l[q]) with h | h
    · exact absurd (h1.mp h) (by simp)
    · exact h
  have h3 : findN l l[q] < l.length := by omega
  refine ⟨h3, ?_⟩
  rcases Nat.lt_or_ge (findN l l[q]) q with h | h
  · have hk := List.pairwise_iff_getElem.mp hP (findN l l[q]) q h3 hq h
    have := (findN_lt hP l[q] (findN l l[q]) h3).mpr hk
    omega
  · have e : findN l l[q] = q := by omega
    congr 1
theorem find_in {l : List (Int × Int)} (hP : l.Pairwise (fun a b => kLt a b = true)) (x : Int × Int) (i : Nat) (hi : i = findN l x) (hin : i < l.length) : decide (x ∈ l) = (cmpF l[i] x == 0) := by
  subst hi
  by_cases hx : x ∈ l
  · obtain ⟨h1, h2⟩ := find_at hP x hx
    rw [decide_eq_true hx, h2, (cmpF_zero x x).mpr rfl]
    rfl
  · rw [decide_eq_false hx]
    symm
    rw [beq_eq_false_iff_ne]
    intro h
    rw [cmpF_zero] at h
    exact hx (by rw [← h]; exact List.getElem_mem hin)
theorem find_out {l : List (Int × Int)} (hP : l.Pairwise (fun a b => kLt a b = true)) (x : Int × Int) (h : findN l x = l.length) : decide (x ∈ l) = false := by
  apply decide_eq_false
  intro hx
  obtain ⟨h1, _⟩ := find_at hP x hx
  omega
/-- the member and the key lie where they lay -/
def FBox (w : World) (b p : Nat) (y x : Int × Int) (W : World) : Prop := W.cell? ⟨b, p, none⟩ = some (.int .i64 y.1) ∧ W.cell? ⟨b, p + 1, none⟩ = some (.int .i64 y.2) ∧ W.cell? ⟨w.heap.size, 0, none⟩ = some (.int .i64 x.1) ∧ W.cell? ⟨w.heap.size, 1, none⟩ = some (.int .i64 x.2) ∧ RowKit.Below w.heap.size w W ∧ b < W.heap.size ∧ w.heap.size < W.heap.size
theorem FBox.drewN {w : World} {b p : Nat} {y x : Int × Int} {W : World} (h : FBox w b p y x W) {n : Nat} : FBox w b p y x (W.drewN n) :=
  ⟨h.1, h.2.1, h.2.2.1, h.2.2.2.1, pw_below_drewN h.2.2.2.2.1 n, by simpa using h.2.2.2.2.2.1, by simpa using h.2.2.2.2.2.2⟩
theorem compare_box {w : World} {b p : Nat} {y x : Int × Int} {W : World} (h : FBox w b p y x W) : Calls Try.prog 26 #[.agg #[.int .i64 y.1, .int .i64 y.2], .agg #[.int .i64 x.1, .int .i64 x.2]] W fun e w' => e = .returned (.int .i64 (cmpF y x)) ∧
    (w'.cell? ⟨b, p, none⟩ = some (.int .i64 y.1) ∧ w'.cell? ⟨b, p + 1, none⟩ = some (.int .i64 y.2) ∧ w'.cell? ⟨w.heap.size, 0, none⟩ = some (.int .i64 x.1) ∧ w'.cell? ⟨w.heap.size, 1, none⟩ = some (.int .i64 x.2)) ∧ FBox w b p y x w' := by
  refine (compare_calls y x W).mono ?_
  rintro e w' ⟨rfl, hg⟩
  obtain ⟨h1, h2, h3, h4, h5, h6, h7⟩ := h
  have hb := below_grow' hg
  have g1 : w'.cell? ⟨b, p, none⟩ = some (.int .i64 y.1) := (hb.cell (p := ⟨b, p, none⟩) h6).trans h1
  have g2 : w'.cell? ⟨b, p + 1, none⟩ = some (.int .i64 y.2) := (hb.cell (p := ⟨b, p + 1, none⟩) h6).trans h2
  have g3 : w'.cell? ⟨w.heap.size, 0, none⟩ = some (.int .i64 x.1) := (hb.cell (p := ⟨w.heap.size, 0, none⟩) h7).trans h3
  have g4 : w'.cell? ⟨w.heap.size, 1, none⟩ = some (.int .i64 x.2) := (hb.cell (p := ⟨w.heap.size, 1, none⟩) h7).trans h4
  exact ⟨rfl, ⟨g1, g2, g3, g4⟩, g1, g2, g3, g4, h5.trans (hb.mono h5.size), Nat.lt_of_lt_of_le h6 hb.size, Nat.lt_of_lt_of_le h7 hb.size⟩
set_option maxHeartbeats 8000000 in
set_option maxRecDepth 100000 in
theorem search_calls (A : Option Addr) (c : Nat) (l : List (Int × Int)) (x : Int × Int) (w : World) (h : ListAt w A l) (hl : l.length < 8796093022208) (hP : l.Pairwise (fun a b => kLt a b = true)) :
    Calls Try.prog 84 #[.slice A l.length c, .agg #[.int .i64 x.1, .int .i64 x.2], .func (.func 26) #[] #[]] w fun e w' =>
      e = .returned (.tuple #[.int .i64 (findN l x), .bool (decide (x ∈ l))]) ∧ RowKit.Below w.heap.size w w' := by
  have H := Lib.hid h
  have HP := Lib.hid (findN_lt hP x)
  have hfl := findN_le l x
  have HM : Hid (∀ i (hi : i = findN l x) (hin : i < l.length), decide (x ∈ l) = (cmpF l[i] x == 0)) := Lib.hid (fun i hi hin => find_in hP x i hi hin)
  have HM1 : Hid (findN l x = l.length → decide (x ∈ l) = false) := Lib.hid (fun h => find_out hP x h)
  clear h hP
  go_enter Try.func84, Try.ntmps84
  go_wp2
  go_loopg [9, 10] l.length (fun gg s9 s10 wr => ∃ i j : Nat, s9 = .int .i64 i ∧ s10 = .int .i64 j ∧ i ≤ j ∧ j ≤ l.length ∧ j - i ≤ gg ∧ i ≤ findN l x ∧ findN l x ≤ j ∧ Aside (RowKit.Below w.heap.size w wr) ∧ Aside (wr.cell? ⟨w.heap.size, 0, none⟩ = some (.int .i64 x.1) ∧ wr.cell? ⟨w.heap.size, 1, none⟩ = some (.int .i64 x.2) ∧ w.heap.size < wr.heap.size))
  case atStart => exact ⟨0, l.length, rfl, rfl, by omega, by omega, by omega, by omega, hfl, (RowKit.Below.refl _ _).alloc (Nat.le_refl _) _, by rw [World.cell?_alloc_at _ _ _ _ rfl]; rfl, by rw [World.cell?_alloc_at _ _ _ _ rfl]; rfl, by simp⟩
  case round =>
    obtain ⟨i, j, rfl, rfl, hij, hj, hg, hlo, hhi, BW, BX⟩ := hrel
    by_cases hlt : i < j
    · have hltz : (i : Int) < (j : Int) := by omega
      go_wp2
      obtain ⟨m, hm⟩ : ∃ m : Nat, ((i : Int) + (j : Int)) / 2 = m := ⟨(i + j) / 2, by omega⟩
      rw [hm]
      have m1 : i ≤ m := by omega
      have m2 : m < j := by omega
      clear hm
      rcases H.out with ⟨_, hn⟩ | ⟨b, o, hA, hcells⟩
      · rw [hn] at hj; simp at hj; omega
      subst hA
      have hml : m < l.length := by omega
      have hmz : (m : Int) < (l.length : Int) := by omega
      obtain ⟨k1, k2⟩ := hcells m hml
      have hK := HP.out m hml
      obtain ⟨y, hy⟩ : ∃ y, y = l[m] := ⟨_, rfl⟩
      rw [getElem!_pos l m hml, ← hy] at k1 k2
      rw [← hy] at hK
      clear hy
      have hb := World.block_lt_of_cell? w _ k1
      have d1 : wr.drew.cell? ⟨b, o + m * 2, none⟩ = some (.int .i64 y.1) := (BW.out.cell (p := ⟨b, o + m * 2, none⟩) hb).trans k1
      have d2 : wr.drew.cell? ⟨b, o + m * 2 + 1, none⟩ = some (.int .i64 y.2) := (BW.out.cell (p := ⟨b, o + m * 2 + 1, none⟩) hb).trans k2
      obtain ⟨b1, b2, b3⟩ := BX.out
      have d3 : wr.drew.cell? ⟨w.heap.size, 0, none⟩ = some (.int .i64 x.1) := b1
      have d4 : wr.drew.cell? ⟨w.heap.size, 1, none⟩ = some (.int .i64 x.2) := b2
      have BD : Hid (RowKit.Below w.heap.size w wr.drew) := Lib.hid BW.out.drew
      have b3' : w.heap.size < wr.drew.heap.size := b3
      clear k1 k2 b1 b2 b3 hcells
      refine wp_region_still_tail 6 (by kernel_rfl) (by kernel_rfl) ?_
      change wpStill _ _ (World.drew _) (fun a' => wpList _ _ _ _ a' (World.drew _)) _ _
      generalize wr.drew = w3 at d1 d2 d3 d4 BD b3' ⊢
      simp only [List.take_succ_cons, List.take_zero, List.drop_succ_cons, List.drop_zero]
      repeat still_step
      refine wpStill_nil ?_
      go_wp2_with fail
      refine (compare_calls y x w3).mono ?_
      rintro e w4 ⟨rfl, hgrow⟩
      have B4 : Hid (RowKit.Below w.heap.size w w4) := Lib.hid (BD.out.trans ((below_grow' hgrow).mono BD.out.size))
      have BX4 : Hid (w4.cell? ⟨w.heap.size, 0, none⟩ = some (.int .i64 x.1) ∧ w4.cell? ⟨w.heap.size, 1, none⟩ = some (.int .i64 x.2) ∧ w.heap.size < w4.heap.size) := Lib.hid ⟨by rw [(below_grow' hgrow).cell (p := ⟨w.heap.size, 0, none⟩) b3']; exact d3, by rw [(below_grow' hgrow).cell (p := ⟨w.heap.size, 1, none⟩) b3']; exact d4, Nat.lt_of_lt_of_le b3' (below_grow' hgrow).size⟩
      have hC := cmpF_neg y x
      unfold kLt at hK
      rw [decide_eq_true_eq, ← hC] at hK
      clear d1 d2 d3 d4 BD hgrow hC b3' BX BW
      by_cases hneg : cmpF y x < 0
      · go_wp2_with fail
        go_roundg (j - (m + 1))
        case measure => omega
        case rel => exact ⟨m + 1, j, by go_num, rfl, by omega, hj, by omega, hK.mpr hneg, hhi, B4.out, BX4.out⟩
      · have hle : findN l x ≤ m := by
          rcases Nat.lt_or_ge m (findN l x) with h | h
          · exact absurd (hK.mp h) hneg
          · exact h
        go_wp2_with fail
        go_roundg (m - i)
        case measure => omega
        case rel => exact ⟨i, m, rfl, rfl, m1, by omega, by omega, hlo, hle, B4.out, BX4.out⟩
    · have hltz : ¬ (i : Int) < (j : Int) := by omega
      have hi1 : i = findN l x := by omega
      by_cases hin : i < l.length
      · have hinz : (i : Int) < (l.length : Int) := by omega
        rcases H.out with ⟨_, hn⟩ | ⟨b, o, hA, hcells⟩
        · rw [hn] at hin; simp at hin
        subst hA
        obtain ⟨k1, k2⟩ := hcells i hin
        have HY : Hid (decide (x ∈ l) = (cmpF l[i] x == 0)) := Lib.hid (HM.out i hi1 hin)
        obtain ⟨y, hy⟩ : ∃ y, y = l[i] := ⟨_, rfl⟩
        rw [getElem!_pos l i hin, ← hy] at k1 k2
        rw [← hy] at HY
        clear hy
        have hb := World.block_lt_of_cell? w _ k1
        have d1 : wr.drew.cell? ⟨b, o + i * 2, none⟩ = some (.int .i64 y.1) := (BW.out.cell (p := ⟨b, o + i * 2, none⟩) hb).trans k1
        have d2 : wr.drew.cell? ⟨b, o + i * 2 + 1, none⟩ = some (.int .i64 y.2) := (BW.out.cell (p := ⟨b, o + i * 2 + 1, none⟩) hb).trans k2
        obtain ⟨b1, b2, b3⟩ := BX.out
        have d3 : wr.drew.cell? ⟨w.heap.size, 0, none⟩ = some (.int .i64 x.1) := b1
        have d4 : wr.drew.cell? ⟨w.heap.size, 1, none⟩ = some (.int .i64 x.2) := b2
        have BD : Hid (RowKit.Below w.heap.size w wr.drew) := Lib.hid BW.out.drew
        clear k1 k2 b1 b2 b3 hcells
        have b3' : w.heap.size < wr.drew.heap.size := BX.out.2.2
        have d5 : decide ((i : Int) < (l.length : Int)) = true := decide_eq_true hinz
        have HI := Lib.hid hi1
        clear BX hi1
        have d5' : decide (i < l.length) = true := decide_eq_true hin
        have e1 : wr.cell? ⟨b, o + i * 2, none⟩ = some (.int .i64 y.1) := d1
        have e2 : wr.cell? ⟨b, o + i * 2 + 1, none⟩ = some (.int .i64 y.2) := d2
        have e3 : wr.cell? ⟨w.heap.size, 0, none⟩ = some (.int .i64 x.1) := d3
        have e4 : wr.cell? ⟨w.heap.size, 1, none⟩ = some (.int .i64 x.2) := d4
        have hS : FBox w b (o + i * 2) y x wr := ⟨e1, e2, e3, e4, BW.out, Nat.lt_of_lt_of_le hb BW.out.size, b3'⟩
        clear d1 d2 d3 d4 BD b3'
        go_wp2_with fail
        go_region_held3 (fun W => W.cell? ⟨b, o + i * 2, none⟩ = some (.int .i64 y.1) ∧ W.cell? ⟨b, o + i * 2 + 1, none⟩ = some (.int .i64 y.2) ∧ W.cell? ⟨w.heap.size, 0, none⟩ = some (.int .i64 x.1) ∧ W.cell? ⟨w.heap.size, 1, none⟩ = some (.int .i64 x.2)) (go_keep) (first | (go_at_call 26; refine (compare_box (by assumption)).mono ?_; rintro e w' ⟨rfl, hC, hS'⟩; obtain ⟨hC0, hC1, hC2, hC3⟩ := hC) | (go_at_call 26; refine (compare_box (FBox.drewN (by assumption))).mono ?_; rintro e w' ⟨rfl, hC, hS'⟩; obtain ⟨hC0, hC1, hC2, hC3⟩ := hC))
        all_goals go_wp2_with fail
        all_goals go_ret2
        all_goals exact ⟨by rw [← HI.out, HY.out]; rfl, hS'.2.2.2.2.1⟩
      · have hinz : ¬ (i : Int) < (l.length : Int) := by omega
        have HM0 : Hid (decide (x ∈ l) = false) := Lib.hid (HM1.out (by omega))
        have d0 : decide ((i : Int) < (l.length : Int)) = false := decide_eq_false hinz
        have d1 : decide (i < l.length) = false := decide_eq_false hin
        have HI := Lib.hid hi1
        have BW' := Lib.hid BW.out
        clear BX hi1
        go_wp2_with fail
        go_quiet (fail)
        go_wp2_with fail
        go_ret2
        exact ⟨by rw [← HI.out, HM0.out]; rfl, pw_below_drewN BW'.out nq⟩
set_option maxHeartbeats 2000000 in
set_option maxRecDepth 100000 in
theorem find_calls (A : Option Addr) (c : Nat) (l : List (Int × Int)) (x : Int × Int) (w : World) (h : ListAt w A l) (hl : l.length < 8796093022208) (hc : l.length ≤ c) (hR : Rising l) :
    Calls Try.prog 59 #[.slice A l.length c, .agg #[.int .i64 x.1, .int .i64 x.2]] w fun e w' => e = .returned (.tuple #[.int .i64 (findN l x), .bool (decide (x ∈ l))]) ∧ RowKit.Below w.heap.size w w' := by
  have H := Lib.hid h
  have R := Lib.hid hR
  clear h hR
  go_enter Try.func59, Try.ntmps59
  go_wp2_with fail
  refine (rises_calls A c l _ (H.out.below ((RowKit.Below.refl _ _).alloc (Nat.le_refl _) _)).keys (by omega) hc R.out).mono ?_
  rintro e w1 ⟨rfl, hb1⟩
  have z1 := hb1.size
  rw [World.size_alloc] at z1
  have q0 : w1.cell? ⟨w.heap.size, 0, none⟩ = some (.int .i64 x.1) := by rw [hb1.cell (p := ⟨w.heap.size, 0, none⟩) (by simp), World.cell?_alloc_at _ _ _ _ rfl]; rfl
  have q1 : w1.cell? ⟨w.heap.size, 1, none⟩ = some (.int .i64 x.2) := by rw [hb1.cell (p := ⟨w.heap.size, 1, none⟩) (by simp), World.cell?_alloc_at _ _ _ _ rfl]; rfl
  have B1 : Hid (RowKit.Below w.heap.size w w1) := Lib.hid (((RowKit.Below.refl _ _).alloc (Nat.le_refl _) _).trans (hb1.mono (by simp)))
  clear hb1
  go_wp2_with fail
  refine (search_calls A c l x w1 (H.out.below B1.out) hl R.out.2).mono ?_
  rintro e w2 ⟨rfl, hb2⟩
  have B2 : Hid (RowKit.Below w.heap.size w w2) := Lib.hid (B1.out.trans (hb2.mono B1.out.size))
  clear hb2
  go_wp2_with fail
  go_ret2
  exact ⟨rfl, B2.out⟩
end Go.Proofs.Ytbmfldoobkeieaa.KForm

namespace Go.Proofs.Ytbmfldoobkeieaa.KForm
open Go.RowKit Go.Lib Go.Sort Go.Proofs.Ytbmfldoobkeieaa.Own Go.Proofs.YtbmfldoobkeieaaW.PrintWords
set_option linter.unusedVariables false
set_option linter.unusedSimpArgs false
/-- what is chosen -/
def chooseF (L B R : Bool) : List (Int × Int) → List (Int × Int) → List (Int × Int)
  | [], [] => []
  | [], b :: tb => (if R = true then [b] else []) ++ chooseF L B R [] tb
  | a :: ta, [] => (if L = true then [a] else []) ++ chooseF L B R ta []
  | a :: ta, b :: tb => if cmpF a b < 0 then (if L = true then [a] else []) ++ chooseF L B R ta (b :: tb) else if cmpF a b = 0 then (if B = true then [a] else []) ++ chooseF L B R ta tb else (if R = true then [b] else []) ++ chooseF L B R (a :: ta) tb
termination_by x y => x.length + y.length
theorem below_grow {w w' : World} (h : ∃ q os, w' = grow (w.drewN q) os) : RowKit.Below w.heap.size w w' := by
  obtain ⟨q, os, rfl⟩ := h
  exact ⟨rfl, rfl, rfl, by simp, fun k hk => by show (w.heap ++ os)[k]? = _; rw [Array.getElem?_append_left hk]⟩
theorem has_below {w w' : World} {base : Nat} {e : TypeId} {size : Nat} {v : Value} {n : Nat} {good : Nat → Value → Prop} (h : Has w base e size v n good) (hb : RowKit.Below w.heap.size w w') : Has w' base e size v n good := by
  rcases h with h | ⟨b, c, f, rfl, h2, h3, h4⟩
  · exact .inl h
  · exact .inr ⟨b, c, f, rfl, h2, h3.of_block (hb.block b h3.lt), h4⟩
theorem newsV_single (a : Int × Int) : newsV [a] = [.int .i64 a.1, .int .i64 a.2] := by simp [newsV, flatV, List.range_succ]
theorem chooseF_ny (L B R : Bool) (b : Int × Int) (tb : List (Int × Int)) : chooseF L B R [] (b :: tb) = (if R = true then [b] else []) ++ chooseF L B R [] tb := by rw [chooseF]
theorem chooseF_xn (L B R : Bool) (a : Int × Int) (ta : List (Int × Int)) : chooseF L B R (a :: ta) [] = (if L = true then [a] else []) ++ chooseF L B R ta [] := by rw [chooseF]
theorem chooseF_lt (L B R : Bool) (a b : Int × Int) (ta tb : List (Int × Int)) (h : cmpF a b < 0) : chooseF L B R (a :: ta) (b :: tb) = (if L = true then [a] else []) ++ chooseF L B R ta (b :: tb) := by rw [chooseF, if_pos h]
theorem chooseF_eq (L B R : Bool) (a b : Int × Int) (ta tb : List (Int × Int)) (h : cmpF a b = 0) : chooseF L B R (a :: ta) (b :: tb) = (if B = true then [a] else []) ++ chooseF L B R ta tb := by rw [chooseF, if_neg (by omega), if_pos h]
theorem chooseF_gt (L B R : Bool) (a b : Int × Int) (ta tb : List (Int × Int)) (h : 0 < cmpF a b) : chooseF L B R (a :: ta) (b :: tb) = (if R = true then [b] else []) ++ chooseF L B R (a :: ta) tb := by rw [chooseF, if_neg (by omega), if_neg (by omega)]
theorem ListAt.head {w : World} {A : Option Addr} {a : Int × Int} {ta : List (Int × Int)} (h : ListAt w A (a :: ta)) : ∃ b o, A = some ⟨b, o, none⟩ ∧ w.cell? ⟨b, o, none⟩ = some (.int .i64 a.1) ∧ w.cell? ⟨b, o + 1, none⟩ = some (.int .i64 a.2) ∧ b < w.heap.size ∧ ∀ A', (ta ≠ [] → A' = some ⟨b, o + 2, none⟩) → (ta = [] → ∃ b o, A' = some ⟨b, o, none⟩) → ListAt w A' ta := by
  rcases h with ⟨_, h⟩ | ⟨b, o, rfl, h⟩
  · cases h
  · obtain ⟨h1, h2⟩ := h 0 (by simp)
    rw [Nat.zero_mul, Nat.add_zero] at h1 h2
    refine ⟨b, o, rfl, h1, h2, World.block_lt_of_cell? w _ h1, fun A' ha hb => ?_⟩
    cases ta with
    | nil =>
      obtain ⟨b', o', rfl⟩ := hb rfl
      exact .inr ⟨b', o', rfl, fun j hj => by simp at hj⟩
    | cons a2 ta =>
      rw [ha (by simp)]
      refine .inr ⟨b, o + 2, rfl, fun j hj => ?_⟩
      obtain ⟨h1, h2⟩ := h (j + 1) (by simpa using hj)
      rw [show o + (j + 1) * 2 = o + 2 + j * 2 by omega] at h1 h2
      exact ⟨by simpa using h1, by simpa using h2⟩
set_option maxHeartbeats 8000000 in
set_option maxRecDepth 100000 in
theorem choose_calls (L B R : Bool) (A A2 : Option Addr) (c c2 : Nat) (x y : List (Int × Int)) (w : World) (hx : ListAt w A x) (hy : ListAt w A2 y) (hlx : x.length < 4398046511104) (hly : y.length < 4398046511104) (hc : x.length ≤ c) (hc2 : y.length ≤ c2) (hRx : Rising x) (hRy : Rising y) :
    Calls Try.prog 49 #[.slice A x.length c, .slice A2 y.length c2, .bool L, .bool B, .bool R] w fun e w' => ∃ v, e = .returned (.tuple #[v, .int .i64 0]) ∧ OwnKeys w' w.heap.size v (chooseF L B R x y) ∧ RowKit.Below w.heap.size w w' := by
  obtain ⟨i0, ih, iz0, iz1, iz2⟩ := info_parts infoKey
  have HX := Lib.hid hx
  have HY := Lib.hid hy
  have RX := Lib.hid hRx
  have RY := Lib.hid hRy
  clear hx hy hRx hRy
  go_enter Try.func49, Try.ntmps49
  go_wp2_with fail
  refine (rises_calls A c x _ HX.out.keys (by omega) hc RX.out).mono ?_
  rintro e w1 ⟨rfl, hb1⟩
  have B1 := Lib.hid hb1
  clear hb1
  go_wp2_with fail
  refine (rises_calls A2 c2 y _ (HY.out.below B1.out).keys (by omega) hc2 RY.out).mono ?_
  rintro e w2 ⟨rfl, hb2⟩
  have B2 : Hid (RowKit.Below w.heap.size w w2) := Lib.hid (B1.out.trans (hb2.mono B1.out.size))
  clear hb2 B1
  go_wp2_with fail
  go_loopg [0, 1, 12] (x.length + y.length) (fun gg s0 s1 s12 wr => ∃ (xs ys acc : List (Int × Int)) (Ax Ay : Option Addr) (cx cy : Nat), s0 = .slice Ax xs.length cx ∧ s1 = .slice Ay ys.length cy ∧ xs.length ≤ cx ∧ ys.length ≤ cy ∧ xs.length + ys.length ≤ gg ∧ xs.length < 4398046511104 ∧ ys.length < 4398046511104 ∧ acc.length + xs.length + ys.length < 8796093022208 ∧
    Aside (acc ++ chooseF L B R xs ys = chooseF L B R x y) ∧ Aside (ListAt w Ax xs) ∧ Aside (ListAt w Ay ys) ∧ Aside (RowKit.Below w.heap.size w wr) ∧ Aside (Has wr w.heap.size 29 2 s12 acc.length (fun t u => u = flatV acc t)))
  case atStart => exact ⟨x, y, [], A, A2, c, c2, rfl, rfl, hc, hc2, by omega, hlx, hly, by simp; omega, (show Aside _ from by first | rfl | trivial), HX.out, HY.out, B2.out, .inl ⟨rfl, rfl⟩⟩
  case round =>
    clear HX HY RX RY B2 hc hc2 hlx hly
    obtain ⟨xs, ys, acc, Ax, Ay, cx, cy, rfl, rfl, hcx, hcy, hg, hlx, hly, hla, EQ, HX, HY, BW, HV⟩ := hrel
    cases xs with
    | nil =>
      cases ys with
      | nil =>
        go_wp2_with fail
        go_ret2
        exact ⟨_, rfl, own_of_has (by have := EQ.out; rw [chooseF, List.append_nil] at this; rw [← this]; exact HV.out), BW.out⟩
      | cons b tb =>
        obtain ⟨b2, o2, rfl, k1, k2, hb2, hnextY⟩ := HY.out.head
        have q1 : wr.cell? ⟨b2, o2, none⟩ = some (.int .i64 b.1) := by rw [BW.out.cell (p := ⟨b2, o2, none⟩) hb2]; exact k1
        have q2 : wr.cell? ⟨b2, o2 + 1, none⟩ = some (.int .i64 b.2) := by rw [BW.out.cell (p := ⟨b2, o2 + 1, none⟩) hb2]; exact k2
        have n1 : tb.length + 1 ≤ cy := by simpa using hcy
        have n2 : acc.length + tb.length + 1 < 8796093022208 := by simp at hla; omega
        have n3 : tb.length + 1 ≤ gk := by simp at hg; omega
        have n4 : tb.length + 1 < 4398046511104 := by simpa using hly
        clear k1 k2
        cases R
        · go_wp2_with fail
          all_goals
            go_roundg (tb.length)
            case measure => omega
            case rel =>
              refine ⟨[], tb, acc, _, _, _, _, rfl, rfl, by first | omega | (simp; done) | (simp; omega), by first | omega | (simp; done) | (simp; omega), by first | omega | (simp; done) | (simp; omega), by first | omega | (simp; done) | (simp; omega), by first | omega | (simp; done) | (simp; omega), by first | omega | (simp; done) | (simp; omega), (show Aside _ from ?_), (show Aside _ from ?_), (show Aside _ from ?_), (show Aside _ from BW.out), (show Aside _ from HV.out)⟩
              · show _ ++ _ = _
                rw [← EQ.out, chooseF_ny]; simp
              · exact HX.out
              · first | exact hnextY _ (fun _ => rfl) (fun _ => ⟨_, _, rfl⟩) | exact hnextY _ (fun hne => absurd (List.eq_nil_of_length_eq_zero (by omega)) hne) (fun _ => ⟨_, _, rfl⟩)
        · go_wp2_with (at_builtin; refine wpList_append_has _ rfl _ _ 22 rfl w.heap.size 29 i0 (.agg #[.int .i64 0, .int .i64 0]) 2 16 Try.underlying22 ih iz0 iz1 iz2 rfl (by decide) _ acc.length (fun t u => u = flatV acc t) rfl ?hv ⟨_, 0, none⟩ 1 1 [.int .i64 b.1, .int .i64 b.2] rfl rfl ?c1 ?c2 ?c3 ?c4 ?c5 ?c6 ?_)
          case hv => exact HV.out.alloc _
          case c1 =>
            intro t u ht
            rw [add_zero_off, World.cell?_alloc_at _ _ _ _ rfl]
            simpa using ht
          case c2 => first | (simp [Value.oneCell']; done) | exact ⟨rfl, rfl⟩
          case c3 => omega
          case c4 => unfold maxLen; omega
          case c5 => omega
          case c6 => have := BW.out.size; first | omega | (simp; omega)
          intro b' c' w' hnew hblk hold hgr
          rw [← newsV_single] at hnew
          have HV2 : Hid (Has w' w.heap.size 29 2 (.slice (some ⟨b', 0, none⟩) (acc.length + 1) c') (acc ++ [b]).length (fun t u => u = flatV (acc ++ [b]) t)) := Lib.hid (has_append (r := acc) (l := [b]) rfl hnew)
          have BW2 : Hid (RowKit.Below w.heap.size w w') := Lib.hid ((BW.out.alloc BW.out.size _).grown hgr (by simp; have := BW.out.size; omega) (fun k hk => (HV.out.block k hk).1))
          clear hnew hblk hold hgr HV
          go_wp2_with fail
          all_goals
            go_roundg (tb.length)
            case measure => omega
            case rel =>
              refine ⟨[], tb, acc ++ [b], _, _, _, _, rfl, rfl, by first | omega | (simp; done) | (simp; omega), by first | omega | (simp; done) | (simp; omega), by first | omega | (simp; done) | (simp; omega), by first | omega | (simp; done) | (simp; omega), by first | omega | (simp; done) | (simp; omega), by first | omega | (simp; done) | (simp; omega), (show Aside _ from ?_), (show Aside _ from ?_), (show Aside _ from ?_), (show Aside _ from BW2.out), (show Aside _ from HV2.out)⟩
              · show _ ++ _ = _
                rw [← EQ.out, chooseF_ny]; simp
              · exact HX.out
              · first | exact hnextY _ (fun _ => rfl) (fun _ => ⟨_, _, rfl⟩) | exact hnextY _ (fun hne => absurd (List.eq_nil_of_length_eq_zero (by omega)) hne) (fun _ => ⟨_, _, rfl⟩)
    | cons a ta =>
      obtain ⟨b1, o1, rfl, k1, k2, hb1, hnextX⟩ := HX.out.head
      have q1 : wr.cell? ⟨b1, o1, none⟩ = some (.int .i64 a.1) := by rw [BW.out.cell (p := ⟨b1, o1, none⟩) hb1]; exact k1
      have q2 : wr.cell? ⟨b1, o1 + 1, none⟩ = some (.int .i64 a.2) := by rw [BW.out.cell (p := ⟨b1, o1 + 1, none⟩) hb1]; exact k2
      have m1 : ta.length + 1 ≤ cx := by simpa using hcx
      have m4 : ta.length + 1 < 4398046511104 := by simpa using hlx
      clear k1 k2
      cases ys with
      | nil =>
        have n2 : acc.length + ta.length + 1 < 8796093022208 := by simp at hla; omega
        have n3 : ta.length + 1 ≤ gk := by simp at hg; omega
        cases L
        · go_wp2_with fail
          all_goals
            go_roundg (ta.length)
            case measure => omega
            case rel =>
              refine ⟨ta, [], acc, _, _, _, _, rfl, rfl, by first | omega | (simp; done) | (simp; omega), by first | omega | (simp; done) | (simp; omega), by first | omega | (simp; done) | (simp; omega), by first | omega | (simp; done) | (simp; omega), by first | omega | (simp; done) | (simp; omega), by first | omega | (simp; done) | (simp; omega), (show Aside _ from ?_), (show Aside _ from ?_), (show Aside _ from ?_), (show Aside _ from BW.out), (show Aside _ from HV.out)⟩
              · show _ ++ _ = _
                rw [← EQ.out, chooseF_xn]; simp
              · first | exact hnextX _ (fun _ => rfl) (fun _ => ⟨_, _, rfl⟩) | exact hnextX _ (fun hne => absurd (List.eq_nil_of_length_eq_zero (by omega)) hne) (fun _ => ⟨_, _, rfl⟩)
              · exact HY.out
        · go_wp2_with (at_builtin; refine wpList_append_has _ rfl _ _ 22 rfl w.heap.size 29 i0 (.agg #[.int .i64 0, .int .i64 0]) 2 16 Try.underlying22 ih iz0 iz1 iz2 rfl (by decide) _ acc.length (fun t u => u = flatV acc t) rfl ?hv ⟨_, 0, none⟩ 1 1 [.int .i64 a.1, .int .i64 a.2] rfl rfl ?c1 ?c2 ?c3 ?c4 ?c5 ?c6 ?_)
          case hv => exact HV.out.alloc _
          case c1 =>
            intro t u ht
            rw [add_zero_off, World.cell?_alloc_at _ _ _ _ rfl]
            simpa using ht
          case c2 => first | (simp [Value.oneCell']; done) | exact ⟨rfl, rfl⟩
          case c3 => omega
          case c4 => unfold maxLen; omega
          case c5 => omega
          case c6 => have := BW.out.size; first | omega | (simp; omega)
          intro b' c' w' hnew hblk hold hgr
          rw [← newsV_single] at hnew
          have HV2 : Hid (Has w' w.heap.size 29 2 (.slice (some ⟨b', 0, none⟩) (acc.length + 1) c') (acc ++ [a]).length (fun t u => u = flatV (acc ++ [a]) t)) := Lib.hid (has_append (r := acc) (l := [a]) rfl hnew)
          have BW2 : Hid (RowKit.Below w.heap.size w w') := Lib.hid ((BW.out.alloc BW.out.size _).grown hgr (by simp; have := BW.out.size; omega) (fun k hk => (HV.out.block k hk).1))
          clear hnew hblk hold hgr HV
          go_wp2_with fail
          all_goals
            go_roundg (ta.length)
            case measure => omega
            case rel =>
              refine ⟨ta, [], acc ++ [a], _, _, _, _, rfl, rfl, by first | omega | (simp; done) | (simp; omega), by first | omega | (simp; done) | (simp; omega), by first | omega | (simp; done) | (simp; omega), by first | omega | (simp; done) | (simp; omega), by first | omega | (simp; done) | (simp; omega), by first | omega | (simp; done) | (simp; omega), (show Aside _ from ?_), (show Aside _ from ?_), (show Aside _ from ?_), (show Aside _ from BW2.out), (show Aside _ from HV2.out)⟩
              · show _ ++ _ = _
                rw [← EQ.out, chooseF_xn]; simp
              · first | exact hnextX _ (fun _ => rfl) (fun _ => ⟨_, _, rfl⟩) | exact hnextX _ (fun hne => absurd (List.eq_nil_of_length_eq_zero (by omega)) hne) (fun _ => ⟨_, _, rfl⟩)
              · exact HY.out
      | cons b tb =>
        obtain ⟨b2, o2, rfl, j1, j2, hb2, hnextY⟩ := HY.out.head
        have r1 : wr.cell? ⟨b2, o2, none⟩ = some (.int .i64 b.1) := by rw [BW.out.cell (p := ⟨b2, o2, none⟩) hb2]; exact j1
        have r2 : wr.cell? ⟨b2, o2 + 1, none⟩ = some (.int .i64 b.2) := by rw [BW.out.cell (p := ⟨b2, o2 + 1, none⟩) hb2]; exact j2
        have n1 : tb.length + 1 ≤ cy := by simpa using hcy
        have n4 : tb.length + 1 < 4398046511104 := by simpa using hly
        have n2 : acc.length + ta.length + tb.length + 2 < 8796093022208 := by simp at hla; omega
        have n3 : ta.length + tb.length + 2 ≤ gk := by simp at hg; omega
        have RA : Hid (ListAt w (some ⟨b1, o1, none⟩) (a :: ta)) := Lib.hid HX.out
        have RB : Hid (ListAt w (some ⟨b2, o2, none⟩) (b :: tb)) := Lib.hid HY.out
        clear j1 j2
        go_wp2_with fail
        have d1 : wr.drew.cell? ⟨b1, o1, none⟩ = some (.int .i64 a.1) := q1
        have d2 : wr.drew.cell? ⟨b1, o1 + 1, none⟩ = some (.int .i64 a.2) := q2
        have d3 : wr.drew.cell? ⟨b2, o2, none⟩ = some (.int .i64 b.1) := r1
        have d4 : wr.drew.cell? ⟨b2, o2 + 1, none⟩ = some (.int .i64 b.2) := r2
        have BD : Hid (RowKit.Below w.heap.size w wr.drew) := Lib.hid BW.out.drew
        have HD : Hid (Has wr.drew w.heap.size 29 2 u12 acc.length (fun t u => u = flatV acc t)) := Lib.hid HV.out
        refine wp_region_still_tail 6 (by kernel_rfl) (by kernel_rfl) ?_
        change wpStill _ _ (World.drew _) (fun a' => wpList _ _ _ _ a' (World.drew _)) _ _
        generalize wr.drew = w3 at d1 d2 d3 d4 BD HD ⊢
        simp only [List.take_succ_cons, List.take_zero, List.drop_succ_cons, List.drop_zero]
        repeat still_step
        refine wpStill_nil ?_
        go_wp2_with fail
        refine (compare_calls a b w3).mono ?_
        rintro e w4 ⟨rfl, hgrow⟩
        have B4 : Hid (RowKit.Below w.heap.size w w4) := Lib.hid (BD.out.trans ((below_grow hgrow).mono BD.out.size))
        have HV4 : Hid (Has w4 w.heap.size 29 2 u12 acc.length (fun t u => u = flatV acc t)) := Lib.hid (has_below HD.out (below_grow hgrow))
        have q1 : w4.cell? ⟨b1, o1, none⟩ = some (.int .i64 a.1) := by rw [B4.out.cell (p := ⟨b1, o1, none⟩) hb1, ← BD.out.cell (p := ⟨b1, o1, none⟩) hb1]; exact d1
        have q2 : w4.cell? ⟨b1, o1 + 1, none⟩ = some (.int .i64 a.2) := by rw [B4.out.cell (p := ⟨b1, o1 + 1, none⟩) hb1, ← BD.out.cell (p := ⟨b1, o1 + 1, none⟩) hb1]; exact d2
        have r1 : w4.cell? ⟨b2, o2, none⟩ = some (.int .i64 b.1) := by rw [B4.out.cell (p := ⟨b2, o2, none⟩) hb2, ← BD.out.cell (p := ⟨b2, o2, none⟩) hb2]; exact d3
        have r2 : w4.cell? ⟨b2, o2 + 1, none⟩ = some (.int .i64 b.2) := by rw [B4.out.cell (p := ⟨b2, o2 + 1, none⟩) hb2, ← BD.out.cell (p := ⟨b2, o2 + 1, none⟩) hb2]; exact d4
        clear d1 d2 d3 d4 BD HD hgrow BW HV hcx hcy hg hla hlx hly
        have BW := B4
        have HV := HV4
        clear B4 HV4
        obtain ⟨z, hz⟩ : ∃ z, z = cmpF a b := ⟨_, rfl⟩
        rw [← hz]
        have HZ := Lib.hid hz
        clear hz
        rcases Int.lt_trichotomy z 0 with hneg | hzero | hpos
        · have e1 : ¬ z = 0 := by omega
          have e2 : ¬ 0 < z := by omega
          have e4 : z ≤ 0 := by omega
          have e5 : ¬ 0 ≤ z := by omega
          have hc : Hid (cmpF a b < 0) := Lib.hid (by rw [← HZ.out]; exact hneg)
          cases L
          · go_wp2_with fail
            all_goals
              go_roundg (ta.length + tb.length + 1)
              case measure => omega
              case rel =>
                refine ⟨ta, (b :: tb), acc, _, _, _, _, rfl, rfl, by first | omega | (simp; done) | (simp; omega), by first | omega | (simp; done) | (simp; omega), by first | omega | (simp; done) | (simp; omega), by first | omega | (simp; done) | (simp; omega), by first | omega | (simp; done) | (simp; omega), by first | omega | (simp; done) | (simp; omega), (show Aside _ from ?_), (show Aside _ from ?_), (show Aside _ from ?_), (show Aside _ from BW.out), (show Aside _ from HV.out)⟩
                · show _ ++ _ = _
                  rw [← EQ.out, chooseF_lt _ _ _ _ _ _ _ hc.out]; simp
                · first | exact hnextX _ (fun _ => rfl) (fun _ => ⟨_, _, rfl⟩) | exact hnextX _ (fun hne => absurd (List.eq_nil_of_length_eq_zero (by omega)) hne) (fun _ => ⟨_, _, rfl⟩)
                · exact HY.out
          · go_wp2_with (at_builtin; refine wpList_append_has _ rfl _ _ 22 rfl w.heap.size 29 i0 (.agg #[.int .i64 0, .int .i64 0]) 2 16 Try.underlying22 ih iz0 iz1 iz2 rfl (by decide) _ acc.length (fun t u => u = flatV acc t) rfl ?hv ⟨_, 0, none⟩ 1 1 [.int .i64 a.1, .int .i64 a.2] rfl rfl ?c1 ?c2 ?c3 ?c4 ?c5 ?c6 ?_)
            case hv => exact HV.out.alloc _
            case c1 =>
              intro t u ht
              rw [add_zero_off, World.cell?_alloc_at _ _ _ _ rfl]
              simpa using ht
            case c2 => first | (simp [Value.oneCell']; done) | exact ⟨rfl, rfl⟩
            case c3 => omega
            case c4 => unfold maxLen; omega
            case c5 => omega
            case c6 => have := BW.out.size; first | omega | (simp; omega)
            intro b' c' w' hnew hblk hold hgr
            rw [← newsV_single] at hnew
            have HV2 : Hid (Has w' w.heap.size 29 2 (.slice (some ⟨b', 0, none⟩) (acc.length + 1) c') (acc ++ [a]).length (fun t u => u = flatV (acc ++ [a]) t)) := Lib.hid (has_append (r := acc) (l := [a]) rfl hnew)
            have BW2 : Hid (RowKit.Below w.heap.size w w') := Lib.hid ((BW.out.alloc BW.out.size _).grown hgr (by simp; have := BW.out.size; omega) (fun k hk => (HV.out.block k hk).1))
            clear hnew hblk hold hgr HV
            go_wp2_with fail
            all_goals
              go_roundg (ta.length + tb.length + 1)
              case measure => omega
              case rel =>
                refine ⟨ta, (b :: tb), acc ++ [a], _, _, _, _, rfl, rfl, by first | omega | (simp; done) | (simp; omega), by first | omega | (simp; done) | (simp; omega), by first | omega | (simp; done) | (simp; omega), by first | omega | (simp; done) | (simp; omega), by first | omega | (simp; done) | (simp; omega), by first | omega | (simp; done) | (simp; omega), (show Aside _ from ?_), (show Aside _ from ?_), (show Aside _ from ?_), (show Aside _ from BW2.out), (show Aside _ from HV2.out)⟩
                · show _ ++ _ = _
                  rw [← EQ.out, chooseF_lt _ _ _ _ _ _ _ hc.out]; simp
                · first | exact hnextX _ (fun _ => rfl) (fun _ => ⟨_, _, rfl⟩) | exact hnextX _ (fun hne => absurd (List.eq_nil_of_length_eq_zero (by omega)) hne) (fun _ => ⟨_, _, rfl⟩)
                · exact HY.out
        · have hc : Hid (cmpF a b = 0) := Lib.hid (by rw [← HZ.out]; exact hzero)
          subst hzero
          cases B
          · go_wp2_with fail
            all_goals
              go_roundg (ta.length + tb.length)
              case measure => omega
              case rel =>
                refine ⟨ta, tb, acc, _, _, _, _, rfl, rfl, by first | omega | (simp; done) | (simp; omega), by first | omega | (simp; done) | (simp; omega), by first | omega | (simp; done) | (simp; omega), by first | omega | (simp; done) | (simp; omega), by first | omega | (simp; done) | (simp; omega), by first | omega | (simp; done) | (simp; omega), (show Aside _ from ?_), (show Aside _ from ?_), (show Aside _ from ?_), (show Aside _ from BW.out), (show Aside _ from HV.out)⟩
                · show _ ++ _ = _
                  rw [← EQ.out, chooseF_eq _ _ _ _ _ _ _ hc.out]; simp
                · first | exact hnextX _ (fun _ => rfl) (fun _ => ⟨_, _, rfl⟩) | exact hnextX _ (fun hne => absurd (List.eq_nil_of_length_eq_zero (by omega)) hne) (fun _ => ⟨_, _, rfl⟩)
                · first | exact hnextY _ (fun _ => rfl) (fun _ => ⟨_, _, rfl⟩) | exact hnextY _ (fun hne => absurd (List.eq_nil_of_length_eq_zero (by omega)) hne) (fun _ => ⟨_, _, rfl⟩)
          · go_wp2_with (at_builtin; refine wpList_append_has _ rfl _ _ 22 rfl w.heap.size 29 i0 (.agg #[.int .i64 0, .int .i64 0]) 2 16 Try.underlying22 ih iz0 iz1 iz2 rfl (by decide) _ acc.length (fun t u => u = flatV acc t) rfl ?hv ⟨_, 0, none⟩ 1 1 [.int .i64 a.1, .int .i64 a.2] rfl rfl ?c1 ?c2 ?c3 ?c4 ?c5 ?c6 ?_)
            case hv => exact HV.out.alloc _
            case c1 =>
              intro t u ht
              rw [add_zero_off, World.cell?_alloc_at _ _ _ _ rfl]
              simpa using ht
            case c2 => first | (simp [Value.oneCell']; done) | exact ⟨rfl, rfl⟩
            case c3 => omega
            case c4 => unfold maxLen; omega
            case c5 => omega
            case c6 => have := BW.out.size; first | omega | (simp; omega)
            intro b' c' w' hnew hblk hold hgr
            rw [← newsV_single] at hnew
            have HV2 : Hid (Has w' w.heap.size 29 2 (.slice (some ⟨b', 0, none⟩) (acc.length + 1) c') (acc ++ [a]).length (fun t u => u = flatV (acc ++ [a]) t)) := Lib.hid (has_append (r := acc) (l := [a]) rfl hnew)
            have BW2 : Hid (RowKit.Below w.heap.size w w') := Lib.hid ((BW.out.alloc BW.out.size _).grown hgr (by simp; have := BW.out.size; omega) (fun k hk => (HV.out.block k hk).1))
            clear hnew hblk hold hgr HV
            go_wp2_with fail
            all_goals
              go_roundg (ta.length + tb.length)
              case measure => omega
              case rel =>
                refine ⟨ta, tb, acc ++ [a], _, _, _, _, rfl, rfl, by first | omega | (simp; done) | (simp; omega), by first | omega | (simp; done) | (simp; omega), by first | omega | (simp; done) | (simp; omega), by first | omega | (simp; done) | (simp; omega), by first | omega | (simp; done) | (simp; omega), by first | omega | (simp; done) | (simp; omega), (show Aside _ from ?_), (show Aside _ from ?_), (show Aside _ from ?_), (show Aside _ from BW2.out), (show Aside _ from HV2.out)⟩
                · show _ ++ _ = _
                  rw [← EQ.out, chooseF_eq _ _ _ _ _ _ _ hc.out]; simp
                · first | exact hnextX _ (fun _ => rfl) (fun _ => ⟨_, _, rfl⟩) | exact hnextX _ (fun hne => absurd (List.eq_nil_of_length_eq_zero (by omega)) hne) (fun _ => ⟨_, _, rfl⟩)
                · first | exact hnextY _ (fun _ => rfl) (fun _ => ⟨_, _, rfl⟩) | exact hnextY _ (fun hne => absurd (List.eq_nil_of_length_eq_zero (by omega)) hne) (fun _ => ⟨_, _, rfl⟩)
        · have e1 : ¬ z = 0 := by omega
          have e2 : ¬ z < 0 := by omega
          have e4 : ¬ z ≤ 0 := by omega
          have e5 : 0 ≤ z := by omega
          have hc : Hid (0 < cmpF a b) := Lib.hid (by rw [← HZ.out]; exact hpos)
          cases R
          · go_wp2_with fail
            all_goals
              go_roundg (ta.length + tb.length + 1)
              case measure => omega
              case rel =>
                refine ⟨(a :: ta), tb, acc, _, _, _, _, rfl, rfl, by first | omega | (simp; done) | (simp; omega), by first | omega | (simp; done) | (simp; omega), by first | omega | (simp; done) | (simp; omega), by first | omega | (simp; done) | (simp; omega), by first | omega | (simp; done) | (simp; omega), by first | omega | (simp; done) | (simp; omega), (show Aside _ from ?_), (show Aside _ from ?_), (show Aside _ from ?_), (show Aside _ from BW.out), (show Aside _ from HV.out)⟩
                · show _ ++ _ = _
                  rw [← EQ.out, chooseF_gt _ _ _ _ _ _ _ hc.out]; simp
                · exact HX.out
                · first | exact hnextY _ (fun _ => rfl) (fun _ => ⟨_, _, rfl⟩) | exact hnextY _ (fun hne => absurd (List.eq_nil_of_length_eq_zero (by omega)) hne) (fun _ => ⟨_, _, rfl⟩)
          · go_wp2_with (at_builtin; refine wpList_append_has _ rfl _ _ 22 rfl w.heap.size 29 i0 (.agg #[.int .i64 0, .int .i64 0]) 2 16 Try.underlying22 ih iz0 iz1 iz2 rfl (by decide) _ acc.length (fun t u => u = flatV acc t) rfl ?hv ⟨_, 0, none⟩ 1 1 [.int .i64 b.1, .int .i64 b.2] rfl rfl ?c1 ?c2 ?c3 ?c4 ?c5 ?c6 ?_)
            case hv => exact HV.out.alloc _
            case c2 => first | (simp [Value.oneCell']; done) | exact ⟨rfl, rfl⟩
            case c4 => unfold maxLen; omega
            case c5 => omega
            case c6 => have := BW.out.size; first | omega | (simp; omega)
            intro b' c' w' hnew hblk hold hgr
            rw [← newsV_single] at hnew
            have HV2 : Hid (Has w' w.heap.size 29 2 (.slice (some ⟨b', 0, none⟩) (acc.length + 1) c') (acc ++ [b]).length (fun t u => u = flatV (acc ++ [b]) t)) := Lib.hid (has_append (r := acc) (l := [b]) rfl hnew)
            have BW2 : Hid (RowKit.Below w.heap.size w w') := Lib.hid ((BW.out.alloc BW.out.size _).grown hgr (by simp; have := BW.out.size; omega) (fun k hk => (HV.out.block k hk).1))
            clear hnew hblk hold hgr HV
            go_wp2_with fail
            all_goals
              go_roundg (ta.length + tb.length + 1)
              case measure => omega
              case rel =>
                refine ⟨(a :: ta), tb, acc ++ [b], _, _, _, _, rfl, rfl, by first | omega | (simp; done) | (simp; omega), by first | omega | (simp; done) | (simp; omega), by first | omega | (simp; done) | (simp; omega), by first | omega | (simp; done) | (simp; omega), by first | omega | (simp; done) | (simp; omega), by first | omega | (simp; done) | (simp; omega), (show Aside _ from ?_), (show Aside _ from ?_), (show Aside _ from ?_), (show Aside _ from BW2.out), (show Aside _ from HV2.out)⟩
                · show _ ++ _ = _
                  rw [← EQ.out, chooseF_gt _ _ _ _ _ _ _ hc.out]; simp
                · exact HX.out
                · first | exact hnextY _ (fun _ => rfl) (fun _ => ⟨_, _, rfl⟩) | exact hnextY _ (fun hne => absurd (List.eq_nil_of_length_eq_zero (by omega)) hne) (fun _ => ⟨_, _, rfl⟩)
end Go.Proofs.Ytbmfldoobkeieaa.KForm

namespace Go.Proofs.Ytbmfldoobkeieaa.KForm
open Go.RowKit Go.Lib Go.Sort
set_option linter.unusedVariables false
set_option linter.unusedSimpArgs false
theorem k_trans {a b c : Int × Int} (h1 : kLt a b = true) (h2 : kLt b c = true) : kLt a c = true := by
  unfold kLt at *; simp only [decide_eq_true_eq] at *; omega
theorem k_irrefl (a : Int × Int) : kLt a a = false := by unfold kLt; simp
theorem k_ne {a b : Int × Int} (h : kLt a b = true) : a ≠ b := by
  rintro rfl
  rw [k_irrefl] at h
  cases h
abbrev Up (l : List (Int × Int)) : Prop := l.Pairwise (fun a b => kLt a b = true)
theorem not_mem_head {b : Int × Int} {l : List (Int × Int)} (h : ∀ x ∈ l, kLt b x = true) : b ∉ l := fun hm => k_ne (h b hm) rfl
/-- who is chosen -/
theorem mem_choose (L B R : Bool) (z : Int × Int) : ∀ (x y : List (Int × Int)), Up x → Up y → (z ∈ chooseF L B R x y ↔ (L = true ∧ z ∈ x ∧ z ∉ y) ∨ (B = true ∧ z ∈ x ∧ z ∈ y) ∨ (R = true ∧ z ∉ x ∧ z ∈ y))
  | [], [] => by intro _ _; rw [chooseF]; simp
  | [], b :: tb => by
    intro hx hy
    have := mem_choose L B R z [] tb hx (List.pairwise_cons.mp hy).2
    rw [chooseF, List.mem_append, this]
    cases R <;> simp
  | a :: ta, [] => by
    intro hx hy
    have := mem_choose L B R z ta [] (List.pairwise_cons.mp hx).2 hy
    rw [chooseF, List.mem_append, this]
    cases L <;> simp
  | a :: ta, b :: tb => by
    intro hx hy
    obtain ⟨hx1, hx2⟩ := List.pairwise_cons.mp hx
    obtain ⟨hy1, hy2⟩ := List.pairwise_cons.mp hy
    have i1 := mem_choose L B R z ta (b :: tb) hx2 hy
    have i2 := mem_choose L B R z ta tb hx2 hy2
    have i3 := mem_choose L B R z (a :: ta) tb hx hy2
    rcases Int.lt_trichotomy (cmpF a b) 0 with h | h | h
    · have hab : kLt a b = true := by unfold kLt; exact decide_eq_true ((cmpF_neg a b).mp h)
      rw [chooseF_lt _ _ _ _ _ _ _ h, List.mem_append, i1]
      have n1 : a ∉ b :: tb := by
        apply not_mem_head
        intro q hq
        rcases List.mem_cons.mp hq with rfl | hq
        · exact hab
        · exact k_trans hab (hy1 q hq)
      have n2 : a ∉ ta := not_mem_head hx1
      by_cases hz : z = a
      · subst hz
        have n1' : ¬ (z = b ∨ z ∈ tb) := by simpa using n1
        cases L <;> simp [n2, n1']
      · cases L <;> simp [hz]
    · have hab := (cmpF_zero a b).mp h
      subst hab
      rw [chooseF_eq _ _ _ _ _ _ _ h, List.mem_append, i2]
      have n1 : a ∉ tb := not_mem_head hy1
      have n2 : a ∉ ta := not_mem_head hx1
      by_cases hz : z = a
      · subst hz
        cases B <;> simp [n2, n1]
      · cases B <;> simp [hz]
    · have hba : kLt b a = true := by
        have h1 : ¬ cmpF a b < 0 := by omega
        rw [cmpF_neg] at h1
        have h2 : a ≠ b := fun e => by rw [(cmpF_zero a b).mpr e] at h; omega
        unfold kLt
        apply decide_eq_true
        have h3 : ¬ (a.1 = b.1 ∧ a.2 = b.2) := fun e => h2 (Prod.ext e.1 e.2)
        omega
      rw [chooseF_gt _ _ _ _ _ _ _ h, List.mem_append, i3]
      have n1 : b ∉ a :: ta := by
        apply not_mem_head
        intro q hq
        rcases List.mem_cons.mp hq with rfl | hq
        · exact hba
        · exact k_trans hba (hx1 q hq)
      have n2 : b ∉ tb := not_mem_head hy1
      by_cases hz : z = b
      · subst hz
        have n1' : ¬ (z = a ∨ z ∈ ta) := by simpa using n1
        cases R <;> simp [n2, n1']
      · cases R <;> simp [hz]
termination_by x y => x.length + y.length
theorem choose_sub (L B R : Bool) (z : Int × Int) (x y : List (Int × Int)) (hx : Up x) (hy : Up y) (h : z ∈ chooseF L B R x y) : z ∈ x ∨ z ∈ y := by
  rw [mem_choose L B R z x y hx hy] at h
  rcases h with h | h | h
  · exact .inl h.2.1
  · exact .inl h.2.1
  · exact .inr h.2.2
theorem up_app {f : Bool} {a : Int × Int} {l : List (Int × Int)} (h : Up l) (ha : ∀ z ∈ l, kLt a z = true) : Up ((if f = true then [a] else []) ++ l) := by
  cases f
  · simpa using h
  · simpa using ⟨fun a1 b1 hm => ha _ hm, h⟩
/-- what is chosen is a set -/
theorem up_choose (L B R : Bool) : ∀ (x y : List (Int × Int)), Up x → Up y → Up (chooseF L B R x y)
  | [], [] => by intro _ _; rw [chooseF]; exact List.Pairwise.nil
  | [], b :: tb => by
    intro hx hy
    obtain ⟨hy1, hy2⟩ := List.pairwise_cons.mp hy
    rw [chooseF]
    refine up_app (up_choose L B R [] tb hx hy2) (fun z hz => ?_)
    rcases choose_sub L B R z [] tb hx hy2 hz with h | h
    · simp at h
    · exact hy1 z h
  | a :: ta, [] => by
    intro hx hy
    obtain ⟨hx1, hx2⟩ := List.pairwise_cons.mp hx
    rw [chooseF]
    refine up_app (up_choose L B R ta [] hx2 hy) (fun z hz => ?_)
    rcases choose_sub L B R z ta [] hx2 hy hz with h | h
    · exact hx1 z h
    · simp at h
  | a :: ta, b :: tb => by
    intro hx hy
    obtain ⟨hx1, hx2⟩ := List.pairwise_cons.mp hx
    obtain ⟨hy1, hy2⟩ := List.pairwise_cons.mp hy
    rcases Int.lt_trichotomy (cmpF a b) 0 with h | h | h
    · have hab : kLt a b = true := by unfold kLt; exact decide_eq_true ((cmpF_neg a b).mp h)
      rw [chooseF_lt _ _ _ _ _ _ _ h]
      refine up_app (up_choose L B R ta (b :: tb) hx2 hy) (fun z hz => ?_)
      rcases choose_sub L B R z ta (b :: tb) hx2 hy hz with h | h
      · exact hx1 z h
      · rcases List.mem_cons.mp h with rfl | h
        · exact hab
        · exact k_trans hab (hy1 z h)
    · have hab := (cmpF_zero a b).mp h
      subst hab
      rw [chooseF_eq _ _ _ _ _ _ _ h]
      refine up_app (up_choose L B R ta tb hx2 hy2) (fun z hz => ?_)
      rcases choose_sub L B R z ta tb hx2 hy2 hz with h | h
      · exact hx1 z h
      · exact hy1 z h
    · have hba : kLt b a = true := by
        have h1 : ¬ cmpF a b < 0 := by omega
        rw [cmpF_neg] at h1
        have h2 : a ≠ b := fun e => by rw [(cmpF_zero a b).mpr e] at h; omega
        unfold kLt
        apply decide_eq_true
        have h3 : ¬ (a.1 = b.1 ∧ a.2 = b.2) := fun e => h2 (Prod.ext e.1 e.2)
        omega
      rw [chooseF_gt _ _ _ _ _ _ _ h]
      refine up_app (up_choose L B R (a :: ta) tb hx hy2) (fun z hz => ?_)
      rcases choose_sub L B R z (a :: ta) tb hx hy2 hz with h | h
      · rcases List.mem_cons.mp h with rfl | h
        · exact hba
        · exact k_trans hba (hx1 z h)
      · exact hy1 z h
termination_by x y => x.length + y.length
/-- how many are chosen -/
theorem len_choose : ∀ (x y : List (Int × Int)), (chooseF true true true x y).length + (chooseF false true false x y).length = x.length + y.length ∧ (chooseF true false false x y).length + (chooseF false true false x y).length = x.length
  | [], [] => by simp [chooseF]
  | [], b :: tb => by
    have := len_choose [] tb
    rw [chooseF_ny, chooseF_ny, chooseF_ny]
    simp only [if_true, if_false, Bool.false_eq_true, List.length_append, List.length_cons, List.length_nil] at this ⊢
    omega
  | a :: ta, [] => by
    have := len_choose ta []
    rw [chooseF_xn, chooseF_xn, chooseF_xn]
    simp only [if_true, if_false, Bool.false_eq_true, List.length_append, List.length_cons, List.length_nil] at this ⊢
    omega
  | a :: ta, b :: tb => by
    have i1 := len_choose ta (b :: tb)
    have i2 := len_choose ta tb
    have i3 := len_choose (a :: ta) tb
    rcases Int.lt_trichotomy (cmpF a b) 0 with h | h | h
    · rw [chooseF_lt _ _ _ _ _ _ _ h, chooseF_lt _ _ _ _ _ _ _ h, chooseF_lt _ _ _ _ _ _ _ h]
      simp only [if_true, if_false, Bool.false_eq_true, List.length_append, List.length_cons, List.length_nil] at i1 ⊢
      omega
    · rw [chooseF_eq _ _ _ _ _ _ _ h, chooseF_eq _ _ _ _ _ _ _ h, chooseF_eq _ _ _ _ _ _ _ h]
      simp only [if_true, if_false, Bool.false_eq_true, List.length_append, List.length_cons, List.length_nil] at i2 ⊢
      omega
    · rw [chooseF_gt _ _ _ _ _ _ _ h, chooseF_gt _ _ _ _ _ _ _ h, chooseF_gt _ _ _ _ _ _ _ h]
      simp only [if_true, if_false, Bool.false_eq_true, List.length_append, List.length_cons, List.length_nil] at i3 ⊢
      omega
termination_by x y => x.length + y.length
/-- not above -/
def kLe (a b : Int × Int) : Bool := !(ltOf cmpF) b a
theorem kLe_iff (a b : Int × Int) : kLe a b = true ↔ ¬ kLt b a = true := by unfold kLe; rw [ltOf_eq]; cases kLt b a <;> simp
theorem sortedL_eq (l : List (Int × Int)) : sortedL l = l.mergeSort kLe := rfl
theorem sortedL_pair (l : List (Int × Int)) : (sortedL l).Pairwise (fun a b => kLe a b = true) := by
  rw [sortedL_eq]
  apply List.pairwise_mergeSort
  · intro a b c h1 h2
    rw [kLe_iff] at *
    unfold kLt at *
    simp only [decide_eq_true_eq] at *
    omega
  · intro a b
    unfold kLe
    rw [ltOf_eq, ltOf_eq]
    unfold kLt
    simp only [Bool.or_eq_true, Bool.not_eq_true', decide_eq_false_iff_not]
    omega
theorem mem_sortedL (l : List (Int × Int)) (z : Int × Int) : z ∈ sortedL l ↔ z ∈ l := by rw [sortedL_eq]; exact (List.mergeSort_perm l kLe).mem_iff
theorem lt_of_le_ne {a b : Int × Int} (h : kLe a b = true) (hn : a ≠ b) : kLt a b = true := by
  rw [kLe_iff] at h
  unfold kLt at *
  simp only [decide_eq_true_eq] at *
  have : ¬ (a.1 = b.1 ∧ a.2 = b.2) := fun e => hn (Prod.ext e.1 e.2)
  omega
theorem le_lt_trans {a b c : Int × Int} (h1 : kLe a b = true) (h2 : kLt b c = true) : kLt a c = true := by
  rw [kLe_iff] at h1
  unfold kLt at *
  simp only [decide_eq_true_eq] at *
  omega
theorem compact_get (s : List (Int × Int)) (j : Nat) (hj : j < s.length) : s.toArray[j]! = s[j] := by
  rw [getElem!_pos s.toArray j (by simpa using hj)]
  rfl
/-- a sorted list compacted is a set -/
theorem up_compact (s : List (Int × Int)) (hs : s.Pairwise (fun a b => kLe a b = true)) : Up (compactUpTo s.toArray s.length) := by
  unfold compactUpTo
  rw [Up, List.pairwise_map]
  have hrange : (List.range s.length).Pairwise (· < ·) := List.pairwise_lt_range
  have hf := hrange.filter (keeps s.toArray)
  refine hf.imp_of_mem (fun {i j} hi hj hij => ?_)
  obtain ⟨hi1, _⟩ := List.mem_filter.mp hi
  obtain ⟨hj1, hj2⟩ := List.mem_filter.mp hj
  have hi3 := List.mem_range.mp hi1
  have hj3 := List.mem_range.mp hj1
  rw [compact_get s i hi3, compact_get s j hj3]
  have hne : s[j - 1]'(by omega) ≠ s[j] := by
    intro e
    have := keeps_neg (d := s.toArray) (m := j) (by omega) (by rw [compact_get s j hj3, compact_get s (j - 1) (by omega)]; exact e.symm)
    rw [this] at hj2
    cases hj2
  have h1 : kLt (s[j - 1]'(by omega)) s[j] = true := lt_of_le_ne (List.pairwise_iff_getElem.mp hs (j - 1) j (by omega) hj3 (by omega)) hne
  rcases Nat.lt_or_ge i (j - 1) with h | h
  · exact le_lt_trans (List.pairwise_iff_getElem.mp hs i (j - 1) hi3 (by omega) h) h1
  · have e : i = j - 1 := by omega
    subst e
    exact h1
theorem mem_compact (s : List (Int × Int)) (z : Int × Int) : z ∈ compactUpTo s.toArray s.length ↔ z ∈ s := by
  unfold compactUpTo
  constructor
  · intro h
    obtain ⟨j, hj, rfl⟩ := List.mem_map.mp h
    have hj3 := List.mem_range.mp (List.mem_filter.mp hj).1
    rw [compact_get s j hj3]
    exact List.getElem_mem hj3
  · intro h
    obtain ⟨j, hj, rfl⟩ := List.mem_iff_getElem.mp h
    clear h
    induction j with
    | zero => exact List.mem_map.mpr ⟨0, List.mem_filter.mpr ⟨List.mem_range.mpr hj, by simp [keeps]⟩, compact_get s 0 hj⟩
    | succ j ih =>
      by_cases e : s[j + 1] = s[j]'(by omega)
      · rw [e]
        exact ih (by omega)
      · exact List.mem_map.mpr ⟨j + 1, List.mem_filter.mpr ⟨List.mem_range.mpr hj, keeps_pos (by rw [compact_get s (j + 1) hj, show j + 1 - 1 = j by omega, compact_get s j (by omega)]; exact e)⟩, compact_get s (j + 1) hj⟩
theorem up_sort (l : List (Int × Int)) : Up (sortF l) := up_compact _ (sortedL_pair l)
theorem mem_sort (l : List (Int × Int)) (z : Int × Int) : z ∈ sortF l ↔ z ∈ l := by unfold sortF; rw [mem_compact, mem_sortedL]
end Go.Proofs.Ytbmfldoobkeieaa.KForm

namespace Go.Proofs.Ytbmfldoobkeieaa.PlPure
open Go.RowKit Go.Proofs.Ytbmfldoobkeieaa.KForm Go.Proofs.Ytbmfldoobkeieaa.GRf Go.Proofs.YtbmfldoobkeieaaW.PrintWords
set_option linter.unusedVariables false
set_option linter.unusedSimpArgs false
def tS (p : Int × Int) : S29 := ⟨p.1, p.2⟩
theorem wrap_small {i : Int} (h0 : -9223372036854775808 ≤ i) (h1 : i ≤ 9223372036854775807) : wrap64 i = i := by unfold wrap64; omega
theorem rdS (l : List (Int × Int)) (i : Nat) (h : i < l.length) : rd_T29 (l.map tS) (i : Int) = tS l[i] := by
  unfold rd_T29
  rw [List.getD_eq_getElem?_getD, Int.toNat_natCast, List.getElem?_map, List.getElem?_eq_getElem h]
  rfl
theorem klt_iff (a b : Int × Int) : kLt a b = true ↔ (a.1 < b.1 ∨ (a.1 = b.1 ∧ a.2 < b.2)) := by unfold kLt; rw [decide_eq_true_iff]
theorem rcmp (a b : Int × Int) : ∃ t, preluderef02_Compare.f a.1 a.2 b.1 b.2 = some t ∧ (t < 0 ↔ kLt a b = true) ∧ (t = 0 ↔ a = b) ∧ (t ≤ 0 ↔ ¬ kLt b a = true) := by
  have he : a = b ↔ a.1 = b.1 ∧ a.2 = b.2 := ⟨fun h => by rw [h]; exact ⟨rfl, rfl⟩, fun h => Prod.ext h.1 h.2⟩
  unfold preluderef02_Compare.f
  rw [klt_iff, klt_iff, he]
  by_cases h1 : a.1 < b.1
  · rw [if_pos h1]; exact ⟨_, rfl, by omega, by omega, by omega⟩
  · rw [if_neg h1]
    by_cases h2 : a.1 > b.1
    · rw [if_pos h2]; exact ⟨_, rfl, by omega, by omega, by omega⟩
    · rw [if_neg h2]
      by_cases h3 : a.2 < b.2
      · rw [if_pos h3]; exact ⟨_, rfl, by omega, by omega, by omega⟩
      · rw [if_neg h3]
        by_cases h4 : a.2 > b.2
        · rw [if_pos h4]; exact ⟨_, rfl, by omega, by omega, by omega⟩
        · rw [if_neg h4]; exact ⟨_, rfl, by omega, by omega, by omega⟩
theorem rcheck (a : Int × Int) : preluderef02_Check.f a.1 a.2 = some (if keyB a = true then 0 else 20) := by
  unfold preluderef02_Check.f keyB
  by_cases h : a.1 < 0
  · rw [if_pos h, if_neg (by simp; omega)]
  · by_cases h2 : a.1 > 65535
    · rw [if_neg h, if_pos h2, if_neg (by simp; omega)]
    · rw [if_neg h, if_neg h2, if_pos (by simp; omega)]
theorem all_l0 (l : List (Int × Int)) (hl : l.length ≤ 4611686018427387903) (d : Nat) : ∀ (i k : Nat), i ≤ l.length → l.length - i = d → d < k → preluderef02_all.l0 k (l.map tS) i = some (soundF (l.drop i)) := by
  induction d with
  | zero =>
    intro i k h1 h2 h3
    obtain ⟨k, rfl⟩ : ∃ m, k = m + 1 := ⟨k - 1, by omega⟩
    rw [preluderef02_all.l0, if_neg (by rw [List.length_map]; omega), List.drop_eq_nil_of_le (by omega)]
    rfl
  | succ d ih =>
    intro i k h1 h2 h3
    obtain ⟨k, rfl⟩ : ∃ m, k = m + 1 := ⟨k - 1, by omega⟩
    have hlt : i < l.length := by omega
    rw [preluderef02_all.l0, if_pos (by rw [List.length_map]; omega), if_pos (by omega), rdS l i hlt, show (tS l[i]).f0 = l[i].1 from rfl, show (tS l[i]).f1 = l[i].2 from rfl, rcheck, Option.bind_some, List.drop_eq_getElem_cons hlt]
    unfold soundF
    rw [List.all_cons]
    cases hk : keyB l[i] with
    | false => simp
    | true =>
      simp only [if_true]
      rw [wrap_small (by omega) (by omega), show ((i : Int) + 1) = ((i + 1 : Nat) : Int) by omega, ih (i + 1) k (by omega) (by omega) (by omega)]
      rfl
theorem all_f (l : List (Int × Int)) (hl : l.length ≤ 4611686018427387903) (k : Nat) (hk : l.length < k) : preluderef02_all.f k (l.map tS) = some (soundF l) := by
  have := all_l0 l hl l.length 0 k (by omega) (by omega) (by omega)
  rw [List.drop_zero] at this
  exact this
/-- each member is above the one before it, from place i on -/
def adj (l : List (Int × Int)) (i : Nat) : Prop := ∀ j, i ≤ j → j < l.length → kLt l[j - 1]! l[j]! = true
theorem get! (l : List (Int × Int)) (j : Nat) (h : j < l.length) : l[j]! = l[j] := getElem!_pos l j h
theorem rises_l0 (l : List (Int × Int)) (hl : l.length ≤ 4611686018427387903) (d : Nat) : ∀ (i k : Nat) (b : Bool), 1 ≤ i → l.length - i = d → d < k → ∃ r, preluderef02_Rises.l0 k (l.map tS) b i = some r ∧ (r = true ↔ b = true ∧ adj l i) := by
  induction d with
  | zero =>
    intro i k b h1 h2 h3
    obtain ⟨k, rfl⟩ : ∃ m, k = m + 1 := ⟨k - 1, by omega⟩
    rw [preluderef02_Rises.l0, if_neg (by rw [List.length_map]; omega)]
    exact ⟨b, rfl, ⟨fun h => ⟨h, fun j hj hj2 => absurd hj2 (by omega)⟩, fun h => h.1⟩⟩
  | succ d ih =>
    intro i k b h1 h2 h3
    obtain ⟨k, rfl⟩ : ∃ m, k = m + 1 := ⟨k - 1, by omega⟩
    have hlt : i < l.length := by omega
    have hw : wrap64 ((i : Int) - 1) = ((i - 1 : Nat) : Int) := by rw [wrap_small (by omega) (by omega)]; omega
    have hw2 : wrap64 ((i : Int) + 1) = ((i + 1 : Nat) : Int) := by rw [wrap_small (by omega) (by omega)]; omega
    rw [preluderef02_Rises.l0, if_pos (by rw [List.length_map]; omega), hw, hw2]
    cases b with
    | false =>
      rw [if_neg (by simp)]
      obtain ⟨r, e, hr⟩ := ih (i + 1) k false (by omega) (by omega) (by omega)
      exact ⟨r, e, hr.trans (by simp)⟩
    | true =>
      rw [if_pos rfl, if_pos (by omega), if_pos (by rw [List.length_map]; omega), if_pos (by omega), rdS l i hlt, rdS l (i - 1) (by omega)]
      obtain ⟨t, et, h0, _, _⟩ := rcmp l[i - 1] l[i]
      rw [show (tS l[i - 1]).f0 = l[i - 1].1 from rfl, show (tS l[i - 1]).f1 = l[i - 1].2 from rfl, show (tS l[i]).f0 = l[i].1 from rfl, show (tS l[i]).f1 = l[i].2 from rfl, et, Option.bind_some]
      obtain ⟨r, e, hr⟩ := ih (i + 1) k (decide (t < 0)) (by omega) (by omega) (by omega)
      refine ⟨r, e, hr.trans ?_⟩
      rw [decide_eq_true_iff, h0]
      refine ⟨fun ⟨ha, hb⟩ => ⟨rfl, fun j hj hj2 => ?_⟩, fun ⟨_, hb⟩ => ⟨?_, fun j hj hj2 => hb j (by omega) hj2⟩⟩
      · by_cases e : j = i
        · subst e
          rw [get! l j hj2, get! l (j - 1) (by omega)]
          exact ha
        · exact hb j (by omega) hj2
      · have := hb i (Nat.le_refl _) hlt
        rwa [get! l i hlt, get! l (i - 1) (by omega)] at this
theorem up_of_adj {l : List (Int × Int)} (h : adj l 1) : Up l := by
  refine List.pairwise_iff_getElem.mpr fun i j hi hj hij => ?_
  have step : ∀ d i (hi : i < l.length) (hj : i + d + 1 < l.length), kLt l[i] l[i + d + 1] = true := by
    intro d
    induction d with
    | zero =>
      intro i hi hj
      have := h (i + 1) (by omega) (by omega)
      rw [get! l (i + 1) (by omega), get! l (i + 1 - 1) (by omega)] at this
      simpa using this
    | succ d ih =>
      intro i hi hj
      have h1 := ih i hi (by omega)
      have h2 := h (i + d + 2) (by omega) (by omega)
      rw [get! l (i + d + 2) (by omega), get! l (i + d + 2 - 1) (by omega)] at h2
      exact k_trans h1 (by simpa [show i + (d + 1) + 1 = i + d + 2 by omega] using h2)
  have := step (j - i - 1) i hi (by omega)
  simpa [show i + (j - i - 1) + 1 = j by omega] using this
theorem adj_of_up {l : List (Int × Int)} (h : Up l) : adj l 1 := by
  intro j h1 h2
  rw [get! l j h2, get! l (j - 1) (by omega)]
  exact List.pairwise_iff_getElem.mp h (j - 1) j (by omega) h2 (by omega)
open Classical in
/-- is it a set? -/
noncomputable def risesB (l : List (Int × Int)) : Bool := decide (Rising l)
open Classical in
theorem risesB_iff (l : List (Int × Int)) : risesB l = true ↔ Rising l := by unfold risesB; rw [decide_eq_true_iff]
theorem risesB_of {l : List (Int × Int)} {r : Bool} (h : r = true ↔ Rising l) : r = risesB l := by
  rw [Bool.eq_iff_iff, risesB_iff]
  exact h
theorem rises_ref (l : List (Int × Int)) (hl : l.length ≤ 4611686018427387903) (k : Nat) (hk : l.length < k) : preluderef02_Rises.f k (l.map tS) = some (risesB l) := by
  unfold preluderef02_Rises.f
  rw [all_f l hl k hk, Option.bind_some]
  obtain ⟨r, e, hr⟩ := rises_l0 l hl (l.length - 1) 1 k (soundF l) (by omega) (by omega) (by omega)
  rw [show ((1 : Int)) = ((1 : Nat) : Int) from rfl, e, risesB_of (l := l) (r := r)]
  refine hr.trans ⟨fun ⟨h1, h2⟩ => ⟨fun x hx => List.all_eq_true.mp h1 x hx, up_of_adj h2⟩, fun h => ⟨List.all_eq_true.mpr h.1, adj_of_up h.2⟩⟩
/-- what stands in two rising lists decides them -/
theorem up_unique : ∀ {a b : List (Int × Int)}, Up a → Up b → (∀ z, z ∈ a ↔ z ∈ b) → a = b
  | [], [], _, _, _ => rfl
  | [], y :: b, _, _, h => absurd ((h y).mpr List.mem_cons_self) (by simp)
  | x :: a, [], _, _, h => absurd ((h x).mp List.mem_cons_self) (by simp)
  | x :: a, y :: b, ha, hb, h => by
    have hxa : ∀ {z}, z ∈ a → kLt x z = true := fun hz => List.rel_of_pairwise_cons ha hz
    have hyb : ∀ {z}, z ∈ b → kLt y z = true := fun hz => List.rel_of_pairwise_cons hb hz
    have hxy : x = y := by
      rcases List.mem_cons.mp ((h x).mp List.mem_cons_self) with e | e
      · exact e
      · rcases List.mem_cons.mp ((h y).mpr List.mem_cons_self) with e2 | e2
        · exact e2.symm
        · exact absurd (k_trans (hyb e) (hxa e2)) (by rw [k_irrefl]; simp)
    subst hxy
    congr 1
    refine up_unique (List.Pairwise.of_cons ha) (List.Pairwise.of_cons hb) fun z => ⟨fun hz => ?_, fun hz => ?_⟩
    · rcases List.mem_cons.mp ((h z).mp (List.mem_cons_of_mem _ hz)) with e | e
      · subst e; exact absurd (hxa hz) (by rw [k_irrefl]; simp)
      · exact e
    · rcases List.mem_cons.mp ((h z).mpr (List.mem_cons_of_mem _ hz)) with e | e
      · subst e; exact absurd (hyb hz) (by rw [k_irrefl]; simp)
      · exact e
end Go.Proofs.Ytbmfldoobkeieaa.PlPure

namespace Go.Proofs.Ytbmfldoobkeieaa.PlPure
open Go.RowKit Go.Proofs.Ytbmfldoobkeieaa.KForm Go.Proofs.Ytbmfldoobkeieaa.GRf Go.Proofs.YtbmfldoobkeieaaW.PrintWords
set_option linter.unusedVariables false
set_option linter.unusedSimpArgs false
def ins (l : List (Int × Int)) (n : Nat) (z : Int × Int) : List (Int × Int) := l.take n ++ [z] ++ l.drop n
theorem ins_expr (l : List (Int × Int)) (n : Nat) (hn : n ≤ l.length) (hl : l.length < 4398046511104) (z : Int × Int) :
    ((some ((l.map tS).take ((n : Int)).toNat : List S29)).bind fun y115 => (if ([] : List S29).length + y115.length < 8796093022208 then ((some (([] : List S29) ++ y115 : List S29)).bind fun y119 => (if y119.length < 8796093022208 then ((some (y119 ++ [(⟨z.1, z.2⟩ : S29)] : List S29)).bind fun y122 => ((some ((l.map tS).drop ((n : Int)).toNat : List S29)).bind fun y125 => (if y122.length + y125.length < 8796093022208 then (some (y122 ++ y125)) else (none)))) else (none))) else (none))) = some ((ins l n z).map tS) := by
  simp only [Option.bind_some, Int.toNat_natCast, List.nil_append, List.length_nil, List.length_take, List.length_map, List.length_append, List.length_drop, List.length_singleton]
  rw [if_pos (by omega), if_pos (by omega), if_pos (by omega)]
  unfold ins
  simp only [List.map_append, List.map_cons, List.map_nil, List.map_take, List.map_drop]
  rfl
theorem nlt_of {a b : Int × Int} (h : ¬ kLt a b = true) (hne : b ≠ a) : kLt b a = true := by
  rw [klt_iff] at h ⊢
  have : ¬ (b.1 = a.1 ∧ b.2 = a.2) := fun e => hne (Prod.ext e.1 e.2)
  omega
theorem ins_up (l : List (Int × Int)) (n : Nat) (hn : n ≤ l.length) (z : Int × Int) (hU : Up l) (h1 : ∀ y ∈ l.take n, kLt y z = true) (h2 : ∀ y ∈ l.drop n, kLt z y = true) : Up (ins l n z) := by
  unfold ins
  have hs : (l.take n ++ l.drop n).Pairwise (fun a b => kLt a b = true) := by rw [List.take_append_drop]; exact hU
  obtain ⟨p1, p2, p3⟩ := List.pairwise_append.mp hs
  rw [List.append_assoc]
  refine List.pairwise_append.mpr ⟨p1, ?_, fun a ha b hb => ?_⟩
  · exact List.pairwise_cons.mpr ⟨h2, p2⟩
  · rcases List.mem_cons.mp hb with e | e
    · rw [e]; exact h1 a ha
    · exact p3 a ha b e
theorem ins_mem (l : List (Int × Int)) (n : Nat) (z y : Int × Int) : y ∈ ins l n z ↔ y = z ∨ y ∈ l := by
  unfold ins
  have : y ∈ l ↔ y ∈ l.take n ∨ y ∈ l.drop n := by rw [← List.mem_append, List.take_append_drop]
  rw [this]
  simp only [List.mem_append, List.mem_cons, List.not_mem_nil, or_false]
  constructor
  · rintro ((h | h) | h) <;> simp [h]
  · rintro (h | h | h) <;> simp [h]
theorem ins_len (l : List (Int × Int)) (n : Nat) (hn : n ≤ l.length) (z : Int × Int) : (ins l n z).length = l.length + 1 := by
  unfold ins
  simp
  omega
/-- at the place: a twin, or the key is put in -/
theorem put_here (l : List (Int × Int)) (hU : Up l) (z : Int × Int) (n : Nat) (hn : n ≤ l.length) (hb : ∀ j (h : j < l.length), j < n → kLt l[j] z = true) (ha : ∀ j (h : j < l.length), n ≤ j → ¬ kLt l[j] z = true) :
    (∀ h : n < l.length, z = l[n] → z ∈ l) ∧ ((∀ h : n < l.length, z ≠ l[n]) → Up (ins l n z)) := by
  refine ⟨fun h e => by rw [e]; exact List.getElem_mem h, fun hne => ins_up l n hn z hU (fun y hy => ?_) (fun y hy => ?_)⟩
  · obtain ⟨j, hj, rfl⟩ := List.mem_iff_getElem.mp hy
    rw [List.length_take] at hj
    rw [List.getElem_take]
    exact hb j (by omega) (by omega)
  · obtain ⟨j, hj, rfl⟩ := List.mem_iff_getElem.mp hy
    rw [List.length_drop] at hj
    rw [List.getElem_drop]
    rcases Nat.eq_zero_or_pos j with e | e
    · subst e
      exact nlt_of (ha n (by omega) (Nat.le_refl _)) (hne (by omega))
    · have h0 := nlt_of (ha n (by omega) (Nat.le_refl _)) (hne (by omega))
      have h1 : kLt l[n] l[n + j] = true := List.pairwise_iff_getElem.mp hU n (n + j) (by omega) (by omega) (by omega)
      exact k_trans h0 h1
theorem put_l0 (l : List (Int × Int)) (hU : Up l) (hl : l.length < 4398046511104) (z : Int × Int) : ∀ (n k : Nat), n ≤ l.length → n < k → (∀ j (h : j < l.length), n ≤ j → ¬ kLt l[j] z = true) →
    ∃ r : List (Int × Int), preluderef02_put.l0 k (l.map tS) n z.1 z.2 = some (r.map tS) ∧ Up r ∧ (∀ y, y ∈ r ↔ y = z ∨ y ∈ l) ∧ r.length ≤ l.length + 1 := by
  intro n
  induction n with
  | zero =>
    intro k h1 h2 ha
    obtain ⟨k, rfl⟩ : ∃ m, k = m + 1 := ⟨k - 1, by omega⟩
    obtain ⟨q1, q2⟩ := put_here l hU z 0 (by omega) (fun j h h0 => absurd h0 (Nat.not_lt_zero _)) ha
    rw [preluderef02_put.l0, if_neg (by omega)]
    by_cases hlt : 0 < l.length
    · rw [if_pos (by rw [List.length_map]; omega), if_pos (by omega), rdS l 0 hlt]
      obtain ⟨t, et, _, h0, _⟩ := rcmp z l[0]
      rw [show (tS l[0]).f0 = l[0].1 from rfl, show (tS l[0]).f1 = l[0].2 from rfl, et, Option.bind_some]
      by_cases e : t = 0
      · rw [if_pos e]
        have hz := q1 hlt (h0.mp e)
        exact ⟨l, rfl, hU, fun y => ⟨.inr, fun h => h.elim (fun e => e ▸ hz) id⟩, by omega⟩
      · rw [if_neg e, if_pos (by omega)]
        exact ⟨_, ins_expr l 0 (by omega) hl z, q2 (fun _ e2 => e (h0.mpr e2)), ins_mem l 0 z, by rw [ins_len l 0 (by omega)]; omega⟩
    · rw [if_neg (by rw [List.length_map]; omega), if_pos (by omega), if_pos (by omega)]
      exact ⟨_, ins_expr l 0 (by omega) hl z, q2 (fun h => absurd h hlt), ins_mem l 0 z, by rw [ins_len l 0 (by omega)]; omega⟩
  | succ n ih =>
    intro k h1 h2 ha
    obtain ⟨k, rfl⟩ : ∃ m, k = m + 1 := ⟨k - 1, by omega⟩
    have hw : wrap64 (((n + 1 : Nat) : Int) - 1) = (n : Int) := by rw [wrap_small (by omega) (by omega)]; omega
    rw [preluderef02_put.l0, if_pos (by omega), hw, if_pos (by omega), if_pos (by rw [List.length_map]; omega), rdS l n (by omega)]
    obtain ⟨t, et, _, _, h0⟩ := rcmp z l[n]
    rw [show (tS l[n]).f0 = l[n].1 from rfl, show (tS l[n]).f1 = l[n].2 from rfl, et, Option.bind_some]
    by_cases ht : t ≤ 0
    · rw [if_pos ht]
      refine ih k (by omega) (by omega) (fun j h hj => ?_)
      by_cases e : j = n
      · subst e; exact h0.mp ht
      · exact ha j h (by omega)
    · rw [if_neg ht]
      have hz : kLt l[n] z = true := by
        cases hh : kLt l[n] z with
        | true => rfl
        | false => exact absurd (h0.mpr (by rw [hh]; simp)) ht
      obtain ⟨q1, q2⟩ := put_here l hU z (n + 1) h1 (fun j h hj => by
        by_cases e : j = n
        · subst e; exact hz
        · exact k_trans (List.pairwise_iff_getElem.mp hU j n h (by omega) (by omega)) hz) ha
      by_cases hlt : n + 1 < l.length
      · rw [if_pos (by rw [List.length_map]; omega), if_pos (by omega), rdS l (n + 1) hlt]
        obtain ⟨t2, et2, _, h02, _⟩ := rcmp z l[n + 1]
        rw [show (tS l[n + 1]).f0 = l[n + 1].1 from rfl, show (tS l[n + 1]).f1 = l[n + 1].2 from rfl, et2, Option.bind_some]
        by_cases e : t2 = 0
        · rw [if_pos e]
          have hzm := q1 hlt (h02.mp e)
          exact ⟨l, rfl, hU, fun y => ⟨.inr, fun h => h.elim (fun e => e ▸ hzm) id⟩, by omega⟩
        · rw [if_neg e, if_pos (by rw [List.length_map]; omega)]
          exact ⟨_, ins_expr l (n + 1) h1 hl z, q2 (fun _ e2 => e (h02.mpr e2)), ins_mem l (n + 1) z, by rw [ins_len l (n + 1) h1]; omega⟩
      · rw [if_neg (by rw [List.length_map]; omega), if_pos (by omega), if_pos (by rw [List.length_map]; omega)]
        exact ⟨_, ins_expr l (n + 1) h1 hl z, q2 (fun h => absurd h hlt), ins_mem l (n + 1) z, by rw [ins_len l (n + 1) h1]; omega⟩
theorem put_f (l : List (Int × Int)) (hU : Up l) (hl : l.length < 4398046511104) (z : Int × Int) (k : Nat) (hk : l.length < k) :
    ∃ r : List (Int × Int), preluderef02_put.f k (l.map tS) z.1 z.2 = some (r.map tS) ∧ Up r ∧ (∀ y, y ∈ r ↔ y = z ∨ y ∈ l) ∧ r.length ≤ l.length + 1 := by
  unfold preluderef02_put.f
  rw [List.length_map]
  exact put_l0 l hU hl z l.length k (Nat.le_refl _) hk (fun j h h2 => absurd h (by omega))
theorem sort_l0 (l : List (Int × Int)) (hl : l.length < 4398046511104) (d : Nat) : ∀ (i k : Nat) (acc : List (Int × Int)), i ≤ l.length → l.length - i = d → l.length + d + 1 < k → Up acc → acc.length ≤ i → (∀ y, y ∈ acc ↔ y ∈ l.take i) →
    ∃ r : List (Int × Int), preluderef02_Sort.l0 k (l.map tS) (acc.map tS) i = some (r.map tS, 0) ∧ Up r ∧ ∀ y, y ∈ r ↔ y ∈ l := by
  induction d with
  | zero =>
    intro i k acc h1 h2 h3 hU hA hm
    obtain ⟨k, rfl⟩ : ∃ m, k = m + 1 := ⟨k - 1, by omega⟩
    rw [preluderef02_Sort.l0, if_neg (by rw [List.length_map]; omega)]
    exact ⟨acc, rfl, hU, fun y => by rw [hm, List.take_of_length_le (by omega)]⟩
  | succ d ih =>
    intro i k acc h1 h2 h3 hU hA hm
    obtain ⟨k, rfl⟩ : ∃ m, k = m + 1 := ⟨k - 1, by omega⟩
    have hlt : i < l.length := by omega
    rw [preluderef02_Sort.l0, if_pos (by rw [List.length_map]; omega), if_pos (by omega), rdS l i hlt]
    obtain ⟨r, er, hUr, hmr, hlr⟩ := put_f acc hU (by omega) l[i] k (by omega)
    rw [show (tS l[i]).f0 = l[i].1 from rfl, show (tS l[i]).f1 = l[i].2 from rfl, er, Option.bind_some, wrap_small (by omega) (by omega), show ((i : Int) + 1) = ((i + 1 : Nat) : Int) by omega]
    refine ih (i + 1) k r (by omega) (by omega) (by omega) hUr (by omega) (fun y => ?_)
    rw [hmr, hm, List.take_add_one, List.getElem?_eq_getElem hlt]
    simp only [Option.toList_some, List.mem_append, List.mem_cons, List.not_mem_nil, or_false]
    exact ⟨fun h => h.elim .inr .inl, fun h => h.elim .inr .inl⟩
theorem sort_ref (l : List (Int × Int)) (hl : l.length < 4398046511104) (k : Nat) (hk : 2 * l.length + 1 < k) : preluderef02_Sort.f k (l.map tS) = some ((if soundF l = true then sortF l else []).map tS, if soundF l = true then 0 else 20) := by
  unfold preluderef02_Sort.f
  rw [all_f l (by omega) k (by omega), Option.bind_some]
  cases hs : soundF l with
  | false => simp
  | true =>
    simp only [if_true]
    obtain ⟨r, er, hU, hm⟩ := sort_l0 l hl l.length 0 k [] (by omega) (by omega) (by omega) List.Pairwise.nil (by simp) (fun y => by simp)
    rw [List.map_nil] at er
    rw [show (0 : Int) = ((0 : Nat) : Int) from rfl, er]
    rw [up_unique hU (up_sort l) (fun y => by rw [hm, mem_sort])]
    rfl
theorem find_l0 (l : List (Int × Int)) (hU : Up l) (hl : l.length ≤ 4611686018427387903) (x : Int × Int) (d : Nat) : ∀ (i k : Nat), i ≤ findN l x → findN l x - i = d → d < k → preluderef02_Find.l0 k (l.map tS) i x.1 x.2 = some ((findN l x : Int), decide (x ∈ l)) := by
  have hle := findN_le l x
  induction d with
  | zero =>
    intro i k h1 h2 h3
    obtain ⟨k, rfl⟩ : ∃ m, k = m + 1 := ⟨k - 1, by omega⟩
    obtain rfl : i = findN l x := by omega
    by_cases hlt : findN l x < l.length
    · rw [preluderef02_Find.l0, if_pos (by rw [List.length_map]; omega), if_pos (by omega), rdS l _ hlt]
      obtain ⟨t, et, h0, h00, _⟩ := rcmp l[findN l x] x
      rw [show (tS l[findN l x]).f0 = l[findN l x].1 from rfl, show (tS l[findN l x]).f1 = l[findN l x].2 from rfl, et, Option.bind_some]
      have hn : ¬ t < 0 := fun h => absurd ((findN_lt hU x _ hlt).mpr (h0.mp h)) (Nat.lt_irrefl _)
      rw [if_neg hn, Option.bind_some, find_in hU x _ rfl hlt]
      congr 2
      rw [Bool.eq_iff_iff, beq_iff_eq, beq_iff_eq, h00, cmpF_zero]
    · rw [preluderef02_Find.l0, if_neg (by rw [List.length_map]; omega), find_out hU x (by omega)]
  | succ d ih =>
    intro i k h1 h2 h3
    obtain ⟨k, rfl⟩ : ∃ m, k = m + 1 := ⟨k - 1, by omega⟩
    have hlt : i < l.length := by omega
    rw [preluderef02_Find.l0, if_pos (by rw [List.length_map]; omega), if_pos (by omega), rdS l i hlt]
    obtain ⟨t, et, h0, _, _⟩ := rcmp l[i] x
    rw [show (tS l[i]).f0 = l[i].1 from rfl, show (tS l[i]).f1 = l[i].2 from rfl, et, Option.bind_some, if_pos (h0.mpr ((findN_lt hU x i hlt).mp (by omega))), wrap_small (by omega) (by omega), show ((i : Int) + 1) = ((i + 1 : Nat) : Int) by omega]
    exact ih (i + 1) k (by omega) (by omega) (by omega)
theorem find_ref (l : List (Int × Int)) (hl : l.length ≤ 4611686018427387903) (x : Int × Int) (k : Nat) (hk : l.length < k) : preluderef02_Find.f k (l.map tS) x.1 x.2 = some (if risesB l = true then ((findN l x : Int), decide (x ∈ l)) else (0, false)) := by
  unfold preluderef02_Find.f
  rw [rises_ref l hl k hk, Option.bind_some]
  cases hr : risesB l with
  | false => simp
  | true =>
    simp only [if_true]
    have hle := findN_le l x
    exact find_l0 l ((risesB_iff l).mp hr).2 hl x (findN l x) 0 k (by omega) (by omega) (by omega)
end Go.Proofs.Ytbmfldoobkeieaa.PlPure

namespace Go.Proofs.Ytbmfldoobkeieaa.PlPure
open Go.RowKit Go.Proofs.Ytbmfldoobkeieaa.KForm Go.Proofs.Ytbmfldoobkeieaa.GRf Go.Proofs.YtbmfldoobkeieaaW.PrintWords Go.Proofs.YtbmfldoobkeieaaW.PrintLast
set_option linter.unusedVariables false
set_option linter.unusedSimpArgs false
theorem has_l0 (l : List (Int × Int)) (hl : l.length ≤ 4611686018427387903) (x : Int × Int) (d : Nat) : ∀ (i k : Nat), i ≤ l.length → l.length - i = d → d < k → preluderef02_Has.l0 k (l.map tS) i x.1 x.2 = some (decide (x ∈ l.drop i)) := by
  induction d with
  | zero =>
    intro i k h1 h2 h3
    obtain ⟨k, rfl⟩ : ∃ m, k = m + 1 := ⟨k - 1, by omega⟩
    rw [preluderef02_Has.l0, if_neg (by rw [List.length_map]; omega), List.drop_eq_nil_of_le (by omega)]
    simp
  | succ d ih =>
    intro i k h1 h2 h3
    obtain ⟨k, rfl⟩ : ∃ m, k = m + 1 := ⟨k - 1, by omega⟩
    have hlt : i < l.length := by omega
    rw [preluderef02_Has.l0, if_pos (by rw [List.length_map]; omega), if_pos (by omega), rdS l i hlt]
    obtain ⟨t, et, _, h0, _⟩ := rcmp l[i] x
    rw [show (tS l[i]).f0 = l[i].1 from rfl, show (tS l[i]).f1 = l[i].2 from rfl, et, Option.bind_some, List.drop_eq_getElem_cons hlt]
    by_cases e : t = 0
    · rw [if_pos e, decide_eq_true (by rw [h0.mp e]; simp)]
    · rw [if_neg e, wrap_small (by omega) (by omega), show ((i : Int) + 1) = ((i + 1 : Nat) : Int) by omega, ih (i + 1) k (by omega) (by omega) (by omega)]
      congr 1
      rw [decide_eq_decide, List.mem_cons]
      exact ⟨.inr, fun h => h.resolve_left (fun h => e (h0.mpr h.symm))⟩
theorem has_f (l : List (Int × Int)) (hl : l.length ≤ 4611686018427387903) (x : Int × Int) (k : Nat) (hk : l.length < k) : preluderef02_Has.f k (l.map tS) x.1 x.2 = some (decide (x ∈ l)) := by
  have := has_l0 l hl x l.length 0 k (by omega) (by omega) (by omega)
  rw [List.drop_zero] at this
  exact this
theorem some_l0 (a b : List (Int × Int)) (ha : a.length < 4398046511104) (hb : b.length < 4398046511104) (w : Bool) (d : Nat) : ∀ (i k : Nat) (acc : List (Int × Int)), i ≤ a.length → a.length - i = d → b.length + d < k → acc.length ≤ i →
    preluderef02_some.l0 k (a.map tS) (b.map tS) w (acc.map tS) i = some ((acc ++ (a.drop i).filter fun x => decide (x ∈ b) == w).map tS, 0) := by
  induction d with
  | zero =>
    intro i k acc h1 h2 h3 h4
    obtain ⟨k, rfl⟩ : ∃ m, k = m + 1 := ⟨k - 1, by omega⟩
    rw [preluderef02_some.l0, if_neg (by rw [List.length_map]; omega), List.drop_eq_nil_of_le (by omega)]
    simp
  | succ d ih =>
    intro i k acc h1 h2 h3 h4
    obtain ⟨k, rfl⟩ : ∃ m, k = m + 1 := ⟨k - 1, by omega⟩
    have hlt : i < a.length := by omega
    have hw2 : wrap64 ((i : Int) + 1) = ((i + 1 : Nat) : Int) := by rw [wrap_small (by omega) (by omega)]; omega
    rw [preluderef02_some.l0, if_pos (by rw [List.length_map]; omega), if_pos (by omega), rdS a i hlt, show (tS a[i]).f0 = a[i].1 from rfl, show (tS a[i]).f1 = a[i].2 from rfl, has_f b (by omega) a[i] k (by omega), Option.bind_some, List.drop_eq_getElem_cons hlt, hw2]
    cases hc : (decide (a[i] ∈ b) == w) with
    | true =>
      rw [if_pos rfl, if_pos (by rw [List.length_map]; omega), List.filter_cons_of_pos (p := fun x => decide (x ∈ b) == w) hc]
      have := ih (i + 1) k (acc ++ [a[i]]) (by omega) (by omega) (by omega) (by simp; omega)
      rw [List.map_append, List.map_cons, List.map_nil, List.append_assoc] at this
      exact this
    | false =>
      rw [if_neg (by simp), List.filter_cons_of_neg (p := fun x => decide (x ∈ b) == w) (by rw [hc]; simp)]
      exact ih (i + 1) k acc (by omega) (by omega) (by omega) (by omega)
theorem both_f (a b : List (Int × Int)) (ha : a.length ≤ 4611686018427387903) (hb : b.length ≤ 4611686018427387903) (k : Nat) (hk : a.length < k) (hk2 : b.length < k) : preluderef02_both.f k (a.map tS) (b.map tS) = some (risesB a && risesB b) := by
  unfold preluderef02_both.f
  rw [rises_ref a ha k hk, rises_ref b hb k hk2, Option.bind_some, Option.bind_some]
  cases risesB a <;> simp
theorem some_ref (a b : List (Int × Int)) (ha : a.length < 4398046511104) (hb : b.length < 4398046511104) (w : Bool) (k : Nat) (hk : a.length + b.length < k) :
    preluderef02_some.f k (a.map tS) (b.map tS) w = some (if (risesB a && risesB b) = true then ((a.filter fun x => decide (x ∈ b) == w).map tS, 0) else ([], 22)) := by
  unfold preluderef02_some.f
  rw [both_f a b (by omega) (by omega) k (by omega) (by omega), Option.bind_some]
  cases (risesB a && risesB b) with
  | false => simp
  | true =>
    simp only [if_true]
    have := some_l0 a b ha hb w a.length 0 k [] (by omega) (by omega) (by omega) (by simp)
    rw [List.map_nil, List.nil_append, List.drop_zero] at this
    exact this
theorem filter_choose (a b : List (Int × Int)) (ha : Rising a) (hb : Rising b) : (a.filter fun x => decide (x ∈ b) == true) = chooseF false true false a b ∧ (a.filter fun x => decide (x ∈ b) == false) = chooseF true false false a b := by
  refine ⟨up_unique (List.Pairwise.filter _ ha.2) (up_choose _ _ _ a b ha.2 hb.2) fun z => ?_, up_unique (List.Pairwise.filter _ ha.2) (up_choose _ _ _ a b ha.2 hb.2) fun z => ?_⟩
  · rw [mem_choose _ _ _ _ a b ha.2 hb.2, List.mem_filter]
    simp
  · rw [mem_choose _ _ _ _ a b ha.2 hb.2, List.mem_filter]
    simp
theorem meet_ref (a b : List (Int × Int)) (ha : a.length < 4398046511104) (hb : b.length < 4398046511104) (k : Nat) (hk : a.length + b.length < k) :
    preluderef02_Meet.f k (a.map tS) (b.map tS) = some (if (risesB a && risesB b) = true then ((chooseF false true false a b).map tS, 0) else ([], 22)) := by
  unfold preluderef02_Meet.f
  rw [some_ref a b ha hb true k hk, Option.bind_some]
  cases hr : (risesB a && risesB b) with
  | false => simp
  | true =>
    rw [Bool.and_eq_true] at hr
    simp only [if_true]
    rw [(filter_choose a b ((risesB_iff a).mp hr.1) ((risesB_iff b).mp hr.2)).1]
theorem minus_ref (a b : List (Int × Int)) (ha : a.length < 4398046511104) (hb : b.length < 4398046511104) (k : Nat) (hk : a.length + b.length < k) :
    preluderef02_Minus.f k (a.map tS) (b.map tS) = some (if (risesB a && risesB b) = true then ((chooseF true false false a b).map tS, 0) else ([], 22)) := by
  unfold preluderef02_Minus.f
  rw [some_ref a b ha hb false k hk, Option.bind_some]
  cases hr : (risesB a && risesB b) with
  | false => simp
  | true =>
    rw [Bool.and_eq_true] at hr
    simp only [if_true]
    rw [(filter_choose a b ((risesB_iff a).mp hr.1) ((risesB_iff b).mp hr.2)).2]
theorem union_ref (a b : List (Int × Int)) (ha : a.length < 2199023255552) (hb : b.length < 2199023255552) (k : Nat) (hk : 2 * (a.length + b.length) + 1 < k) :
    preluderef02_Union.f k (a.map tS) (b.map tS) = some (if (risesB a && risesB b) = true then ((chooseF true true true a b).map tS, 0) else ([], 22)) := by
  unfold preluderef02_Union.f
  rw [both_f a b (by omega) (by omega) k (by omega) (by omega), Option.bind_some]
  cases hr : (risesB a && risesB b) with
  | false => simp
  | true =>
    rw [Bool.and_eq_true] at hr
    have hRa := (risesB_iff a).mp hr.1
    have hRb := (risesB_iff b).mp hr.2
    simp only [if_true, List.length_nil, List.nil_append, List.length_map, Option.bind_some]
    rw [if_pos (by omega), if_pos (by omega), ← List.map_append, sort_ref (a ++ b) (by rw [List.length_append]; omega) k (by rw [List.length_append]; omega), Option.bind_some]
    have hs : soundF (a ++ b) = true := List.all_eq_true.mpr fun x hx => (List.mem_append.mp hx).elim (hRa.1 x) (hRb.1 x)
    rw [hs]
    simp only [if_true]
    rw [up_unique (up_sort (a ++ b)) (up_choose true true true a b hRa.2 hRb.2) fun z => ?_]
    rw [mem_sort, mem_choose _ _ _ _ a b hRa.2 hRb.2, List.mem_append]
    by_cases h1 : z ∈ a <;> by_cases h2 : z ∈ b <;> simp [h1, h2]
theorem hstep_bounds (h x : Int) : 0 ≤ hstep h x ∧ hstep h x < 18446744073709551616 := by
  unfold hstep
  rw [IntKind.wrap_u64]
  omega
theorem hashU_bounds (t u : Int) : 0 ≤ hashU t u ∧ hashU t u < 18446744073709551616 := by
  unfold hashU hash10
  exact hstep_bounds _ _
/-- a key's partition, of n -/
def part (n : Nat) (x : S29) : Nat := (hashU x.f0 (ux x.f1) % (n : Int)).toNat
theorem part_lt (n : Nat) (hn : 1 ≤ n) (x : S29) : part n x < n := by
  unfold part
  have := hashU_bounds x.f0 (ux x.f1)
  have h1 := Int.emod_nonneg (hashU x.f0 (ux x.f1)) (show (n : Int) ≠ 0 by omega)
  have h2 := Int.emod_lt_of_pos (hashU x.f0 (ux x.f1)) (show (0 : Int) < n by omega)
  omega
/-- the numbers of a key -/
def Wide (x : S29) : Prop := -9223372036854775808 ≤ x.f1 ∧ x.f1 ≤ 9223372036854775807
def isKey (x : S29) : Bool := decide (0 ≤ x.f0 ∧ x.f0 ≤ 65535)
theorem partition_f (n : Nat) (hn : 1 ≤ n) (hn2 : n ≤ 256) (x : S29) (hx : Wide x) (hk : isKey x = true) : keys_Partition.f x.f0 x.f1 n = some ((part n x : Int), 0) := by
  have hk' := of_decide_eq_true hk
  unfold keys_Partition.f keys_Check.f keys_few.f keys_Hash.f hashF
  have hb := hashU_bounds x.f0 (ux x.f1)
  have h1 := Int.emod_nonneg (hashU x.f0 (ux x.f1)) (show (n : Int) ≠ 0 by omega)
  have h2 := Int.emod_lt_of_pos (hashU x.f0 (ux x.f1)) (show (0 : Int) < n by omega)
  have hr : -9223372036854775808 ≤ x.f1 ∧ x.f1 ≤ 9223372036854775807 := hx
  have hw : IntKind.u64.wrap (n : Int) = n := by rw [IntKind.wrap_u64]; omega
  have a1 : ¬ x.f0 < 0 := by omega
  have a2 : ¬ x.f0 > 65535 := by omega
  have a3 : (n : Int) ≥ 1 := by omega
  have a4 : (n : Int) ≤ 256 := by omega
  have a5 : ¬ (n : Int) = 0 := by omega
  rw [if_neg a1, if_neg a2, if_pos a3, if_pos hr, if_pos hk', hw]
  simp only [Option.bind_some, if_true]
  rw [if_pos (decide_eq_true a4), if_neg a5, Int.tmod_eq_emod_of_nonneg hb.1]
  congr 2
  unfold part wrap64
  omega
theorem rpartition_f (n : Nat) (hn : 1 ≤ n) (hn2 : n ≤ 256) (x : S29) (hx : Wide x) (hk : isKey x = true) : preluderef02_Partition.f x.f0 x.f1 n = some ((part n x : Int), 0) := by
  have hk' := of_decide_eq_true hk
  unfold preluderef02_Partition.f preluderef02_Check.f preluderef02_Hash.f hashF
  have hb := hashU_bounds x.f0 (ux x.f1)
  have h1 := Int.emod_nonneg (hashU x.f0 (ux x.f1)) (show (n : Int) ≠ 0 by omega)
  have h2 := Int.emod_lt_of_pos (hashU x.f0 (ux x.f1)) (show (0 : Int) < n by omega)
  have hr : -9223372036854775808 ≤ x.f1 ∧ x.f1 ≤ 9223372036854775807 := hx
  have hw : IntKind.u64.wrap (n : Int) = n := by rw [IntKind.wrap_u64]; omega
  have a1 : ¬ x.f0 < 0 := by omega
  have a2 : ¬ x.f0 > 65535 := by omega
  have a3 : ¬ (n : Int) < 1 := by omega
  have a4 : ¬ (n : Int) > 256 := by omega
  have a5 : ¬ (n : Int) = 0 := by omega
  rw [if_neg a1, if_neg a2, if_neg a3, if_neg a4, if_pos hr, if_pos hk', hw]
  simp only [Option.bind_some, if_true]
  rw [if_neg a5, Int.tmod_eq_emod_of_nonneg hb.1]
  congr 2
  unfold part wrap64
  omega
/-- the lists of the partitions -/
def grp (n : Nat) (l : List S29) : List (List S29) := (List.range n).map fun p => l.filter fun x => part n x == p
theorem grp_length (n : Nat) (l : List S29) : (grp n l).length = n := by unfold grp; simp
theorem grp_get (n : Nat) (l : List S29) (p : Nat) (hp : p < n) : (grp n l)[p]? = some (l.filter fun x => part n x == p) := by
  unfold grp
  rw [List.getElem?_map, List.getElem?_range hp]
  rfl
theorem rd_grp (n : Nat) (l : List S29) (p : Nat) (hp : p < n) : rd_L2 (grp n l) (p : Int) = l.filter fun x => part n x == p := by
  unfold rd_L2
  rw [List.getD_eq_getElem?_getD, Int.toNat_natCast, grp_get n l p hp]
  rfl
theorem take_next (l : List S29) (i : Nat) (h : i < l.length) : l.take (i + 1) = l.take i ++ [l[i]] := by
  rw [List.take_add_one, List.getElem?_eq_getElem h]
  rfl
theorem filter_next (n : Nat) (l : List S29) (i p : Nat) (h : i < l.length) : (l.take (i + 1)).filter (fun x => part n x == p) = (l.take i).filter (fun x => part n x == p) ++ (if part n l[i] = p then [l[i]] else []) := by
  rw [take_next l i h, List.filter_append]
  congr 1
  by_cases c : part n l[i] = p
  · rw [if_pos c, List.filter_cons_of_pos (by simp [c])]
    rfl
  · rw [if_neg c, List.filter_cons_of_neg (by simp [c])]
    rfl
theorem grp_step (n : Nat) (hn : 1 ≤ n) (l : List S29) (i : Nat) (h : i < l.length) :
    (grp n (l.take i)).set (part n l[i]) (rd_L2 (grp n (l.take i)) (part n l[i] : Int) ++ [l[i]]) = grp n (l.take (i + 1)) := by
  have hp := part_lt n hn l[i]
  rw [rd_grp n _ _ hp]
  apply List.ext_getElem?
  intro j
  rw [List.getElem?_set, grp_length]
  by_cases c : part n l[i] = j
  · subst c
    rw [if_pos rfl, if_pos hp, grp_get n _ _ hp, filter_next n l i _ h, if_pos rfl]
  · rw [if_neg c]
    rcases Nat.lt_or_ge j n with hj | hj
    · rw [grp_get n _ j hj, grp_get n _ j hj, filter_next n l i j h, if_neg c, List.append_nil]
    · rw [List.getElem?_eq_none (by rw [grp_length]; exact hj), List.getElem?_eq_none (by rw [grp_length]; exact hj)]
theorem rd_get (l : List S29) (i : Nat) (h : i < l.length) : rd_T29 l (i : Int) = l[i] := by
  unfold rd_T29
  rw [List.getD_eq_getElem?_getD, Int.toNat_natCast, List.getElem?_eq_getElem h]
  rfl
theorem grp_nil (n : Nat) : grp n [] = List.replicate n [] := by
  unfold grp
  apply List.ext_getElem?
  intro j
  rw [List.getElem?_map, List.getElem?_replicate]
  rcases Nat.lt_or_ge j n with hj | hj
  · rw [List.getElem?_range hj, if_pos hj]; rfl
  · rw [List.getElem?_eq_none (by simp; omega), if_neg (by omega)]; rfl
section
variable (n : Nat) (hn : 1 ≤ n) (hn2 : n ≤ 256) (l : List S29) (hw : ∀ x ∈ l, Wide x) (hk : ∀ x ∈ l, isKey x = true) (hl : l.length < 8796093022208)
include hn hn2 hw hk hl
theorem split_val (d : Nat) : ∀ (i k : Nat), i ≤ l.length → l.length - i = d → d < k → keys_Split.l0 k n (grp n (l.take i)) l (l.length : Int) i = some (grp n l, 0) := by
  induction d with
  | zero =>
    intro i k h1 h2 h3
    obtain ⟨k, rfl⟩ : ∃ m, k = m + 1 := ⟨k - 1, by omega⟩
    rw [keys_Split.l0, if_neg (by omega), List.take_of_length_le (by omega)]
  | succ d ih =>
    intro i k h1 h2 h3
    obtain ⟨k, rfl⟩ : ∃ m, k = m + 1 := ⟨k - 1, by omega⟩
    have hlt : i < l.length := by omega
    have hm : l[i] ∈ l := List.getElem_mem hlt
    have hp := part_lt n hn l[i]
    have hz : (rd_L2 (grp n (l.take i)) (part n l[i] : Int)).length < 8796093022208 := by
      rw [rd_grp n _ _ hp]
      have a := List.length_filter_le (fun x => part n x == part n l[i]) (l.take i)
      have b := List.length_take_le i l
      omega
    obtain ⟨bt, hpf, hb1⟩ : ∃ bt, keys_Partition.f l[i].f0 l[i].f1 n = some bt ∧ bt.1 = (part n l[i] : Int) := ⟨_, partition_f n hn hn2 l[i] (hw _ hm) (hk _ hm), rfl⟩
    have hstep := grp_step n hn l i hlt
    generalize part n l[i] = p at hb1 hp hz hstep
    rw [keys_Split.l0, if_pos (by omega), if_pos (by omega), if_pos (by omega), rd_get l i hlt, hpf, Option.bind_some, hb1]
    rw [if_pos (by omega), if_pos (by rw [grp_length]; omega), if_pos hz, Int.toNat_natCast, show wrap64 ((i : Int) + 1) = ((i + 1 : Nat) : Int) by unfold wrap64; omega]
    rw [show (⟨l[i].f0, l[i].f1⟩ : S29) = l[i] from rfl, hstep]
    exact ih (i + 1) k (by omega) (by omega) (by omega)
theorem rsplit_val (d : Nat) : ∀ (i k : Nat), i ≤ l.length → l.length - i = d → d < k → preluderef02_Split.l0 k l n (grp n (l.take i)) i = some (grp n l, 0) := by
  induction d with
  | zero =>
    intro i k h1 h2 h3
    obtain ⟨k, rfl⟩ : ∃ m, k = m + 1 := ⟨k - 1, by omega⟩
    rw [preluderef02_Split.l0, if_neg (by omega), List.take_of_length_le (by omega)]
  | succ d ih =>
    intro i k h1 h2 h3
    obtain ⟨k, rfl⟩ : ∃ m, k = m + 1 := ⟨k - 1, by omega⟩
    have hlt : i < l.length := by omega
    have hm : l[i] ∈ l := List.getElem_mem hlt
    have hp := part_lt n hn l[i]
    have hz : (rd_L2 (grp n (l.take i)) (part n l[i] : Int)).length < 8796093022208 := by
      rw [rd_grp n _ _ hp]
      have a := List.length_filter_le (fun x => part n x == part n l[i]) (l.take i)
      have b := List.length_take_le i l
      omega
    obtain ⟨bt, hpf, hb1⟩ : ∃ bt, preluderef02_Partition.f l[i].f0 l[i].f1 n = some bt ∧ bt.1 = (part n l[i] : Int) := ⟨_, rpartition_f n hn hn2 l[i] (hw _ hm) (hk _ hm), rfl⟩
    have hstep := grp_step n hn l i hlt
    generalize part n l[i] = p at hb1 hp hz hstep
    rw [preluderef02_Split.l0, if_pos (by omega), if_pos (by omega), rd_get l i hlt, hpf, Option.bind_some, hb1]
    rw [if_pos (by omega), if_pos (by rw [grp_length]; omega), if_pos hz, Int.toNat_natCast, show wrap64 ((i : Int) + 1) = ((i + 1 : Nat) : Int) by unfold wrap64; omega]
    rw [show (⟨l[i].f0, l[i].f1⟩ : S29) = l[i] from rfl, hstep]
    exact ih (i + 1) k (by omega) (by omega) (by omega)
end
theorem isKey_of (l : List (Int × Int)) : (l.map tS).all isKey = soundF l := by
  unfold soundF
  rw [List.all_map]
  rfl
/-- Split, of the program and of the document -/
theorem split_both (l : List (Int × Int)) (n : Int) (hl : l.length < 4398046511104) (hw : ∀ x ∈ l, -9223372036854775808 ≤ x.2 ∧ x.2 ≤ 9223372036854775807) (k : Nat) (hk : l.length + 2 < k) :
    ∃ (Q : List (List (Int × Int))) (e : Int), Q.length ≤ 256 ∧ (∀ q ∈ Q, q.length ≤ l.length) ∧ keys_Split.f k (l.map tS) n = some (Q.map (·.map tS), e) ∧ preluderef02_Split.f k (l.map tS) n = some (Q.map (·.map tS), e) := by
  have hsnd : keys_sound.f (l.map tS) = some (soundF l) := by
    unfold keys_sound.f
    rw [List.map_map, show ((fun x : S29 => (x.f0, x.f1)) ∘ tS) = id from rfl, List.map_id]
  obtain ⟨k', rfl⟩ : ∃ m, k = m + 1 := ⟨k - 1, by omega⟩
  unfold keys_Split.f keys_few.f preluderef02_Split.f
  by_cases h1 : n < 1
  · refine ⟨[], 21, by simp, by simp, ?_, ?_⟩
    · rw [if_neg (by omega), Option.bind_some, if_neg (by simp)]; rfl
    · rw [if_pos h1, preluderef02_Split.j0, if_pos rfl]; rfl
  · by_cases h2 : n > 256
    · refine ⟨[], 21, by simp, by simp, ?_, ?_⟩
      · rw [if_pos (by omega), Option.bind_some, if_neg (by simp; omega)]; rfl
      · rw [if_neg h1, preluderef02_Split.j0, if_pos (decide_eq_true h2)]; rfl
    · have d1 : decide (n ≤ 256) = true := decide_eq_true (by omega)
      have d2 : ¬ decide (n > 256) = true := by simp; omega
      have hall := all_f l (by omega) k' (by omega)
      cases hs : soundF l with
      | false =>
        rw [hs] at hsnd hall
        refine ⟨[], 20, by simp, by simp, ?_, ?_⟩
        · rw [if_pos (by omega), Option.bind_some, if_pos d1, hsnd, Option.bind_some, if_neg (by simp)]; rfl
        · rw [if_neg h1, preluderef02_Split.j0, if_neg d2, hall, Option.bind_some, if_neg (by simp)]; rfl
      | true =>
        rw [hs] at hsnd hall
        obtain ⟨m, rfl⟩ : ∃ m : Nat, n = (m : Int) := ⟨n.toNat, by omega⟩
        have hW : ∀ x ∈ l.map tS, Wide x := by
          intro x hx
          obtain ⟨q, hq, rfl⟩ := List.mem_map.mp hx
          exact hw q hq
        have hK : ∀ x ∈ l.map tS, isKey x = true := List.all_eq_true.mp (by rw [isKey_of, hs])
        have hL : (l.map tS).length < 8796093022208 := by rw [List.length_map]; omega
        have e1 := split_val m (by omega) (by omega) (l.map tS) hW hK hL l.length 0 (k' + 1) (by omega) (by rw [List.length_map]; omega) (by omega)
        have e2 := rsplit_val m (by omega) (by omega) (l.map tS) hW hK hL l.length 0 k' (by omega) (by rw [List.length_map]; omega) (by omega)
        rw [List.take_zero, grp_nil] at e1 e2
        have eS : ∀ L : List (List S29), (L.map (·.map fun x => (x.f0, x.f1))).map (·.map tS) = L := by
          intro L
          rw [List.map_map]
          conv => rhs; rw [← List.map_id L]
          refine List.map_congr_left fun x _ => ?_
          show (x.map fun x => (x.f0, x.f1)).map tS = x
          rw [List.map_map]
          exact List.map_id x
        refine ⟨(grp m (l.map tS)).map (·.map fun x => (x.f0, x.f1)), 0, ?_, ?_, ?_, ?_⟩
        · rw [List.length_map, grp_length]; omega
        · intro q hq
          obtain ⟨x, hx, rfl⟩ := List.mem_map.mp hq
          rw [List.length_map]
          unfold grp at hx
          obtain ⟨p, _, rfl⟩ := List.mem_map.mp hx
          have := List.length_filter_le (fun x => part m x == p) (l.map tS)
          rwa [List.length_map] at this
        · rw [eS, if_pos (by omega), Option.bind_some, if_pos d1, hsnd, Option.bind_some, if_pos rfl, if_pos (by omega), if_pos (by omega), Int.toNat_natCast]
          exact e1
        · rw [eS, if_neg h1, preluderef02_Split.j0, if_neg d2, hall, Option.bind_some, if_pos rfl, if_pos (by omega), if_pos (by omega), Int.toNat_natCast]
          exact e2
/-- what the holder of the i-th list writes -/
def mkK (i : Nat) : Int × Int := (-20 - (i : Int), (i : Int))
theorem mark_f (i : Nat) (hi : i ≤ 4611686018427387903) : preludelaw02_mark.f (i : Int) = some ((mkK i).1, (mkK i).2) := by
  unfold preludelaw02_mark.f mkK
  rw [wrap_small (by omega) (by omega)]
theorem full_l0 (i0 : Nat) (hi : i0 ≤ 4611686018427387903) (l : List (Int × Int)) (hl : l.length ≤ 4611686018427387903) (ha : ∀ x ∈ l, x = mkK i0) (d : Nat) : ∀ (i k : Nat), i ≤ l.length → l.length - i = d → d < k → preludelaw02_full.l0 k (l.map tS) (i0 : Int) i = some true := by
  induction d with
  | zero =>
    intro i k h1 h2 h3
    obtain ⟨k, rfl⟩ : ∃ m, k = m + 1 := ⟨k - 1, by omega⟩
    rw [preludelaw02_full.l0, if_neg (by rw [List.length_map]; omega)]
  | succ d ih =>
    intro i k h1 h2 h3
    obtain ⟨k, rfl⟩ : ∃ m, k = m + 1 := ⟨k - 1, by omega⟩
    have hlt : i < l.length := by omega
    rw [preludelaw02_full.l0, if_pos (by rw [List.length_map]; omega), if_pos (by omega), rdS l i hlt, ha _ (List.getElem_mem hlt), mark_f i0 hi, Option.bind_some]
    rw [if_neg (by simp [tS]), wrap_small (by omega) (by omega), show ((i : Int) + 1) = ((i + 1 : Nat) : Int) by omega]
    exact ih (i + 1) k (by omega) (by omega) (by omega)
theorem full_f (i0 : Nat) (hi : i0 ≤ 4611686018427387903) (l : List (Int × Int)) (hl : l.length ≤ 4611686018427387903) (ha : ∀ x ∈ l, x = mkK i0) (k : Nat) (hk : l.length < k) : preludelaw02_full.f k (l.map tS) (i0 : Int) = some true :=
  full_l0 i0 hi l hl ha l.length 0 k (by omega) (by omega) (by omega)
theorem sameK_l0 (l : List (Int × Int)) (hl : l.length ≤ 4611686018427387903) (d : Nat) : ∀ (i k : Nat), i ≤ l.length → l.length - i = d → d < k → preludelaw02_sameKeys.l0 k (l.map tS) (l.map tS) i = some true := by
  induction d with
  | zero =>
    intro i k h1 h2 h3
    obtain ⟨k, rfl⟩ : ∃ m, k = m + 1 := ⟨k - 1, by omega⟩
    rw [preludelaw02_sameKeys.l0, if_neg (by rw [List.length_map]; omega)]
  | succ d ih =>
    intro i k h1 h2 h3
    obtain ⟨k, rfl⟩ : ∃ m, k = m + 1 := ⟨k - 1, by omega⟩
    rw [preludelaw02_sameKeys.l0, if_pos (by rw [List.length_map]; omega), if_pos (by omega), if_pos (by rw [List.length_map]; omega), if_neg (by simp), wrap_small (by omega) (by omega), show ((i : Int) + 1) = ((i + 1 : Nat) : Int) by omega]
    exact ih (i + 1) k (by omega) (by omega) (by omega)
theorem sameK_f (l : List (Int × Int)) (hl : l.length ≤ 4611686018427387903) (k : Nat) (hk : l.length < k) : preludelaw02_sameKeys.f k (l.map tS) (l.map tS) = some true := by
  unfold preludelaw02_sameKeys.f
  rw [if_pos rfl]
  exact sameK_l0 l hl l.length 0 k (by omega) (by omega) (by omega)
theorem rdL (L : List (List (Int × Int))) (i : Nat) (h : i < L.length) : rd_L2 (L.map (·.map tS)) (i : Int) = L[i].map tS := by
  unfold rd_L2
  rw [List.getD_eq_getElem?_getD, Int.toNat_natCast, List.getElem?_map, List.getElem?_eq_getElem h]
  rfl
theorem sameL_l0 (L : List (List (Int × Int))) (hL : L.length ≤ 4611686018427387903) (M : Nat) (hM : M ≤ 4611686018427387903) (hl : ∀ l ∈ L, l.length ≤ M) (d : Nat) : ∀ (i k : Nat), i ≤ L.length → L.length - i = d → M + d < k → preludelaw02_sameLists.l0 k (L.map (·.map tS)) (L.map (·.map tS)) i = some true := by
  induction d with
  | zero =>
    intro i k h1 h2 h3
    obtain ⟨k, rfl⟩ : ∃ m, k = m + 1 := ⟨k - 1, by omega⟩
    rw [preludelaw02_sameLists.l0, if_neg (by rw [List.length_map]; omega)]
  | succ d ih =>
    intro i k h1 h2 h3
    obtain ⟨k, rfl⟩ : ∃ m, k = m + 1 := ⟨k - 1, by omega⟩
    have hlt : i < L.length := by omega
    have hli := hl _ (List.getElem_mem hlt)
    rw [preludelaw02_sameLists.l0, if_pos (by rw [List.length_map]; omega), if_pos (by omega), if_pos (by rw [List.length_map]; omega), rdL L i hlt, sameK_f L[i] (by omega) k (by omega), Option.bind_some, if_pos rfl, wrap_small (by omega) (by omega), show ((i : Int) + 1) = ((i + 1 : Nat) : Int) by omega]
    exact ih (i + 1) k (by omega) (by omega) (by omega)
theorem sameL_f (L : List (List (Int × Int))) (hL : L.length ≤ 4611686018427387903) (M : Nat) (hM : M ≤ 4611686018427387903) (hl : ∀ l ∈ L, l.length ≤ M) (k : Nat) (hk : M + L.length < k) : preludelaw02_sameLists.f k (L.map (·.map tS)) (L.map (·.map tS)) = some true := by
  unfold preludelaw02_sameLists.f
  rw [if_pos rfl]
  exact sameL_l0 L hL M hM hl L.length 0 k (by omega) (by omega) (by omega)
end Go.Proofs.Ytbmfldoobkeieaa.PlPure

namespace Go.Proofs.Ytbmfldoobkeieaa.PlCalls
open Go.RowKit Go.Proofs.Ytbmfldoobkeieaa.KForm Go.Proofs.Ytbmfldoobkeieaa.PlPure
set_option linter.unusedVariables false
set_option linter.unusedSimpArgs false
theorem prises_l0 (l : List (Int × Int)) (hl : l.length ≤ 4611686018427387903) (d : Nat) : ∀ (i k : Nat), i ≤ l.length → l.length - i = d → d + 5 < k →
    ∃ r, GSet.keys_Rises.l0 k (l.map toS) (l.map toS) (l.length : Int) i = some r ∧ (r = true ↔ ∀ j, i ≤ j → j < l.length → keyB l[j]! = true ∧ (1 ≤ j → kLt l[j - 1]! l[j]! = true)) := by
  induction d with
  | zero =>
    intro i k h1 h2 h3
    obtain ⟨k, rfl⟩ : ∃ m, k = m + 1 := ⟨k - 1, by omega⟩
    rw [GSet.keys_Rises.l0, if_neg (by omega)]
    exact ⟨true, rfl, ⟨fun _ j h4 h5 => absurd h5 (by omega), fun _ => rfl⟩⟩
  | succ d ih =>
    intro i k h1 h2 h3
    obtain ⟨k, rfl⟩ : ∃ m, k = m + 1 := ⟨k - 1, by omega⟩
    have hlt : i < l.length := by omega
    have hck : GSet.keys_Check.f (toS l[i]).f0 (toS l[i]).f1 = some (if keyB l[i] = true then 0 else 20) := by
      unfold GSet.keys_Check.f keyB
      show (if l[i].1 < 0 then some 20 else if l[i].1 > 65535 then some 20 else some 0) = _
      by_cases h : l[i].1 < 0
      · rw [if_pos h, if_neg (by simp; omega)]
      · by_cases h2 : l[i].1 > 65535
        · rw [if_neg h, if_pos h2, if_neg (by simp; omega)]
        · rw [if_neg h, if_neg h2, if_pos (by simp; omega)]
    have hw2 : wrap64 ((i : Int) + 1) = ((i + 1 : Nat) : Int) := by rw [PlPure.wrap_small (by omega) (by omega)]; omega
    obtain ⟨r, er, hr⟩ := ih (i + 1) k (by omega) (by omega) (by omega)
    rw [GSet.keys_Rises.l0, if_pos (by omega), if_pos (by omega), if_pos (by rw [List.length_map]; omega), rdT l i hlt, hck]
    simp only [Option.bind_some]
    cases hk : keyB l[i] with
    | false =>
      refine ⟨false, by simp, ⟨fun h => (by cases h), fun h => ?_⟩⟩
      have := (h i (Nat.le_refl _) hlt).1
      rw [get! l i hlt, hk] at this
      cases this
    | true =>
      simp only [if_true]
      rw [hw2]
      by_cases h0 : (i : Int) > 0
      · have hw : wrap64 ((i : Int) - 1) = ((i - 1 : Nat) : Int) := by rw [PlPure.wrap_small (by omega) (by omega)]; omega
        rw [if_pos h0, hw, if_pos (by omega), if_pos (by rw [List.length_map]; omega), rdT l (i - 1) (by omega)]
        obtain ⟨k, rfl⟩ : ∃ m, k = m + 3 := ⟨k - 3, by omega⟩
        have hc := compare_f k l[i - 1] l[i]
        have hcc : GSet.keys_Compare.f (k + 3) (toS l[i - 1]).f0 (toS l[i - 1]).f1 (toS l[i]).f0 (toS l[i]).f1 = some (cmpF l[i - 1] l[i]) := hc
        rw [hcc, Option.bind_some]
        have hneg : cmpF l[i - 1] l[i] < 0 ↔ kLt l[i - 1] l[i] = true := by rw [cmpF_neg, klt_iff]
        by_cases hge : cmpF l[i - 1] l[i] ≥ 0
        · rw [if_pos hge]
          refine ⟨false, rfl, ⟨fun h => (by cases h), fun h => ?_⟩⟩
          have := (h i (Nat.le_refl _) hlt).2 (by omega)
          rw [get! l i hlt, get! l (i - 1) (by omega)] at this
          exact absurd (hneg.mpr this) (by omega)
        · rw [if_neg hge]
          refine ⟨r, er, hr.trans ⟨fun h j hj hj2 => ?_, fun h j hj hj2 => h j (by omega) hj2⟩⟩
          by_cases e : j = i
          · subst e
            rw [get! l j hj2, get! l (j - 1) (by omega)]
            exact ⟨hk, fun _ => hneg.mp (by omega)⟩
          · exact h j (by omega) hj2
      · rw [if_neg h0]
        refine ⟨r, er, hr.trans ⟨fun h j hj hj2 => ?_, fun h j hj hj2 => h j (by omega) hj2⟩⟩
        by_cases e : j = i
        · subst e
          rw [get! l j hj2]
          exact ⟨hk, fun h => absurd h (by omega)⟩
        · exact h j (by omega) hj2
theorem prises_f (l : List (Int × Int)) (hl : l.length ≤ 4611686018427387903) : GSet.keys_Rises.f (l.length + 7) (l.map toS) = some (risesB l) := by
  unfold GSet.keys_Rises.f
  obtain ⟨r, er, hr⟩ := prises_l0 l hl l.length 0 (l.length + 7) (by omega) (by omega) (by omega)
  rw [List.length_map, show (0 : Int) = ((0 : Nat) : Int) from rfl, er, risesB_of (l := l) (r := r)]
  refine hr.trans ⟨fun h => ⟨fun x hx => ?_, up_of_adj fun j hj hj2 => (h j (by omega) hj2).2 hj⟩, fun h j _ hj2 => ⟨?_, fun hj => adj_of_up h.2 j hj hj2⟩⟩
  · obtain ⟨j, hj, rfl⟩ := List.mem_iff_getElem.mp hx
    have := (h j (Nat.zero_le _) hj).1
    rwa [get! l j hj] at this
  · rw [get! l j hj2]
    exact h.1 _ (List.getElem_mem hj2)
theorem prises_calls (A : Option Addr) (c : Nat) (l : List (Int × Int)) (w : World) (h : KR w A l) (hl : l.length ≤ 4611686018427387903) (hc : l.length ≤ c) :
    Calls Try.prog 56 #[.slice A l.length c] w fun e w' => e = .returned (.bool (risesB l)) ∧ RowKit.Below w.heap.size w w' := by
  have := GSet.keys_Rises.calls (l.length + 7) A c (l.map toS) (risesB l) w (h.C (by omega)) (by rw [List.length_map]; exact hc) (prises_f l hl)
  rw [List.length_map] at this
  exact this
set_option maxHeartbeats 2000000 in
theorem pfind_calls (A : Option Addr) (c : Nat) (l : List (Int × Int)) (x : Int × Int) (w : World) (h : ListAt w A l) (hl : l.length < 8796093022208) (hc : l.length ≤ c) :
    Calls Try.prog 59 #[.slice A l.length c, .agg #[.int .i64 x.1, .int .i64 x.2]] w fun e w' => e = .returned (.tuple #[.int .i64 (if risesB l = true then (findN l x : Int) else 0), .bool (if risesB l = true then decide (x ∈ l) else false)]) ∧ RowKit.Below w.heap.size w w' := by
  cases hr : risesB l with
  | true => simpa using find_calls A c l x w h hl hc ((risesB_iff l).mp hr)
  | false =>
    have H := Lib.hid h
    clear h
    go_enter Try.func59, Try.ntmps59
    go_wp2_with fail
    refine (prises_calls A c l _ (fun h0 => (H.out.below ((RowKit.Below.refl _ _).alloc (Nat.le_refl _) _)).keys h0) (by omega) hc).mono ?_
    rintro e w1 ⟨rfl, hb1⟩
    rw [hr]
    have B1 : Hid (RowKit.Below w.heap.size w w1) := Lib.hid (((RowKit.Below.refl _ _).alloc (Nat.le_refl _) _).trans (hb1.mono (by simp)))
    clear hb1
    go_wp2_with fail
    go_ret2
    exact ⟨rfl, B1.out⟩
set_option maxHeartbeats 2000000 in
theorem pchoose_bad (L B R : Bool) (A A2 : Option Addr) (c c2 : Nat) (x y : List (Int × Int)) (w : World) (hx : KR w A x) (hy : KR w A2 y) (hlx : x.length < 4398046511104) (hly : y.length < 4398046511104) (hc : x.length ≤ c) (hc2 : y.length ≤ c2) (hbad : (risesB x && risesB y) = false) :
    Calls Try.prog 49 #[.slice A x.length c, .slice A2 y.length c2, .bool L, .bool B, .bool R] w fun e w' => e = .returned (.tuple #[.slice none 0 0, .int .i64 22]) ∧ RowKit.Below w.heap.size w w' := by
  have HX := Lib.hid hx
  have HY := Lib.hid hy
  clear hx hy
  go_enter Try.func49, Try.ntmps49
  go_wp2_with fail
  refine (prises_calls A c x _ HX.out (by omega) hc).mono ?_
  rintro e w1 ⟨rfl, hb1⟩
  have B1 := Lib.hid hb1
  clear hb1
  cases hrx : risesB x with
  | false =>
    go_wp2_with fail
    go_ret2
    exact ⟨rfl, B1.out⟩
  | true =>
    go_wp2_with fail
    refine (prises_calls A2 c2 y _ (HY.out.below B1.out) (by omega) hc2).mono ?_
    rintro e w2 ⟨rfl, hb2⟩
    have B2 : Hid (RowKit.Below w.heap.size w w2) := Lib.hid (B1.out.trans (hb2.mono B1.out.size))
    clear hb2 B1
    have hry : risesB y = false := by rw [hrx] at hbad; simpa using hbad
    rw [hry]
    go_wp2_with fail
    go_ret2
    exact ⟨rfl, B2.out⟩
end Go.Proofs.Ytbmfldoobkeieaa.PlCalls

namespace Go.Proofs.Ytbmfldoobkeieaa.PlCalls
open Go.RowKit Go.Proofs.Ytbmfldoobkeieaa.KForm Go.Proofs.Ytbmfldoobkeieaa.PlPure
set_option linter.unusedVariables false
set_option linter.unusedSimpArgs false
/-- the program's answer: a list of its own, and an error -/
def PRes (w : World) (r : List (Int × Int)) (t : Int) (e : Ending) (w' : World) : Prop := ∃ v, e = .returned (.tuple #[v, .int .i64 t]) ∧ OwnKeys w' w.heap.size v r ∧ RowKit.Below w.heap.size w w'
theorem KR.CR {w : World} {A : Option Addr} {l : List (Int × Int)} (h : KR w A l) (hl : l.length ≤ 9223372036854775807) : YtbmfldoobkeieaaW.PrintWords.Kd.C GRf.k29 w A (l.map tS).length (l.map tS) := by
  refine ⟨rfl, by rw [List.length_map]; exact hl, fun h0 => ?_⟩
  rw [List.length_map] at h0
  obtain ⟨ad, hA, hk⟩ := h h0
  refine ⟨ad, hA, fun j p hj => ?_⟩
  rw [List.getElem?_map] at hj
  obtain ⟨q, hq, rfl⟩ := Option.map_eq_some_iff.mp hj
  obtain ⟨hlt, rfl⟩ := List.getElem?_eq_some_iff.mp hq
  refine ⟨keyCells l[j], rfl, ⟨[_], [_], rfl, rfl, rfl⟩, fun i u hu => ?_⟩
  refine hk.2 j hlt i u ?_
  rw [List.getElem!_eq_getElem?_getD, hq]
  exact hu
theorem rrises_calls (A : Option Addr) (c : Nat) (l : List (Int × Int)) (w : World) (h : KR w A l) (hl : l.length ≤ 4611686018427387903) (hc : l.length ≤ c) :
    Calls Try.prog 57 #[.slice A l.length c] w fun e w' => e = .returned (.bool (risesB l)) ∧ RowKit.Below w.heap.size w w' := by
  have := GRf.preluderef02_Rises.calls (l.length + 1) A c (l.map tS) (risesB l) w (KR.CR h (by omega)) (by rw [List.length_map]; exact hc) (rises_ref l hl _ (by omega))
  rw [List.length_map] at this
  exact this
theorem rfind_calls (A : Option Addr) (c : Nat) (l : List (Int × Int)) (x : Int × Int) (w : World) (h : KR w A l) (hl : l.length ≤ 4611686018427387903) (hc : l.length ≤ c) :
    Calls Try.prog 60 #[.slice A l.length c, .agg #[.int .i64 x.1, .int .i64 x.2]] w fun e w' => e = .returned (.tuple #[.int .i64 (if risesB l = true then (findN l x : Int) else 0), .bool (if risesB l = true then decide (x ∈ l) else false)]) ∧ RowKit.Below w.heap.size w w' := by
  have hf := find_ref l hl x (l.length + 1) (by omega)
  cases hr : risesB l with
  | true =>
    rw [hr] at hf
    simp only [if_true] at hf
    have := GRf.preluderef02_Find.calls (l.length + 1) A c (l.map tS) x.1 x.2 _ _ w (KR.CR h (by omega)) (by rw [List.length_map]; exact hc) hf
    rw [List.length_map] at this
    simpa using this
  | false =>
    rw [hr] at hf
    simp only [Bool.false_eq_true, if_false] at hf
    have := GRf.preluderef02_Find.calls (l.length + 1) A c (l.map tS) x.1 x.2 _ _ w (KR.CR h (by omega)) (by rw [List.length_map]; exact hc) hf
    rw [List.length_map] at this
    simpa using this
/-- what Sort answers -/
def sortR (l : List (Int × Int)) : List (Int × Int) := if soundF l = true then sortF l else []
def sortE (l : List (Int × Int)) : Int := if soundF l = true then 0 else 20
theorem psort_calls (A : Option Addr) (c : Nat) (l : List (Int × Int)) (w : World) (hl : l.length < 4398046511104) (hc : l.length ≤ c) (h : ListAt w A l) :
    Calls Try.prog 30 #[.slice A l.length c] w (PRes w (sortR l) (sortE l)) := sort_calls A c l w (by omega) hc h
/-- what the three answer of two lists -/
noncomputable def setR (L B R : Bool) (a b : List (Int × Int)) : List (Int × Int) := if (risesB a && risesB b) = true then chooseF L B R a b else []
noncomputable def setE (a b : List (Int × Int)) : Int := if (risesB a && risesB b) = true then 0 else 22
theorem pchoose_calls (L B R : Bool) (A A2 : Option Addr) (c c2 : Nat) (x y : List (Int × Int)) (w : World) (hx : ListAt w A x) (hy : ListAt w A2 y) (hlx : x.length < 4398046511104) (hly : y.length < 4398046511104) (hc : x.length ≤ c) (hc2 : y.length ≤ c2) :
    Calls Try.prog 49 #[.slice A x.length c, .slice A2 y.length c2, .bool L, .bool B, .bool R] w (PRes w (setR L B R x y) (setE x y)) := by
  cases hr : (risesB x && risesB y) with
  | false =>
    have e1 : setR L B R x y = [] := by unfold setR; rw [hr]; simp
    have e2 : setE x y = 22 := by unfold setE; rw [hr]; simp
    rw [e1, e2]
    refine (pchoose_bad L B R A A2 c c2 x y w (fun h0 => hx.keys h0) (fun h0 => hy.keys h0) hlx hly hc hc2 hr).mono ?_
    rintro e w' ⟨he, hb⟩
    exact ⟨_, he, .inl ⟨rfl, rfl⟩, hb⟩
  | true =>
    have e1 : setR L B R x y = chooseF L B R x y := by unfold setR; rw [hr]; simp
    have e2 : setE x y = 0 := by unfold setE; rw [hr]; simp
    rw [e1, e2]
    rw [Bool.and_eq_true] at hr
    exact choose_calls L B R A A2 c c2 x y w hx hy hlx hly hc hc2 ((risesB_iff x).mp hr.1) ((risesB_iff y).mp hr.2)
theorem punion_calls (A A2 : Option Addr) (c c2 : Nat) (x y : List (Int × Int)) (w : World) (hx : ListAt w A x) (hy : ListAt w A2 y) (hlx : x.length < 4398046511104) (hly : y.length < 4398046511104) (hc : x.length ≤ c) (hc2 : y.length ≤ c2) :
    Calls Try.prog 32 #[.slice A x.length c, .slice A2 y.length c2] w (PRes w (setR true true true x y) (setE x y)) := by
  have H := Lib.hid (pchoose_calls true true true A A2 c c2 x y w hx hy hlx hly hc hc2)
  clear hx hy
  go_enter Try.func32, Try.ntmps32
  go_wp2_with fail
  refine H.out.mono ?_
  rintro e w' ⟨v, rfl, hv, hb⟩
  have HV := Lib.hid hv
  have HB := Lib.hid hb
  clear hv hb
  go_wp2_with fail
  go_ret2
  exact ⟨_, rfl, HV.out, HB.out⟩
theorem pmeet_calls (A A2 : Option Addr) (c c2 : Nat) (x y : List (Int × Int)) (w : World) (hx : ListAt w A x) (hy : ListAt w A2 y) (hlx : x.length < 4398046511104) (hly : y.length < 4398046511104) (hc : x.length ≤ c) (hc2 : y.length ≤ c2) :
    Calls Try.prog 62 #[.slice A x.length c, .slice A2 y.length c2] w (PRes w (setR false true false x y) (setE x y)) := by
  have H := Lib.hid (pchoose_calls false true false A A2 c c2 x y w hx hy hlx hly hc hc2)
  clear hx hy
  go_enter Try.func62, Try.ntmps62
  go_wp2_with fail
  refine H.out.mono ?_
  rintro e w' ⟨v, rfl, hv, hb⟩
  have HV := Lib.hid hv
  have HB := Lib.hid hb
  clear hv hb
  go_wp2_with fail
  go_ret2
  exact ⟨_, rfl, HV.out, HB.out⟩
theorem pminus_calls (A A2 : Option Addr) (c c2 : Nat) (x y : List (Int × Int)) (w : World) (hx : ListAt w A x) (hy : ListAt w A2 y) (hlx : x.length < 4398046511104) (hly : y.length < 4398046511104) (hc : x.length ≤ c) (hc2 : y.length ≤ c2) :
    Calls Try.prog 64 #[.slice A x.length c, .slice A2 y.length c2] w (PRes w (setR true false false x y) (setE x y)) := by
  have H := Lib.hid (pchoose_calls true false false A A2 c c2 x y w hx hy hlx hly hc hc2)
  clear hx hy
  go_enter Try.func64, Try.ntmps64
  go_wp2_with fail
  refine H.out.mono ?_
  rintro e w' ⟨v, rfl, hv, hb⟩
  have HV := Lib.hid hv
  have HB := Lib.hid hb
  clear hv hb
  go_wp2_with fail
  go_ret2
  exact ⟨_, rfl, HV.out, HB.out⟩
theorem ref_pair {L B R : Bool} {a b : List (Int × Int)} {f : Option (List GRf.S29 × Int)} (h : f = some (if (risesB a && risesB b) = true then ((chooseF L B R a b).map tS, 0) else ([], 22))) : f = some ((setR L B R a b).map tS, setE a b) := by
  rw [h]
  unfold setR setE
  cases (risesB a && risesB b) <;> simp
end Go.Proofs.Ytbmfldoobkeieaa.PlCalls

namespace Go.Proofs.Ytbmfldoobkeieaa.KForm
open Go.RowKit Go.Lib Go.Sort Go.Proofs.Ytbmfldoobkeieaa.Own Go.Proofs.YtbmfldoobkeieaaW.PrintWords
set_option linter.unusedVariables false
set_option linter.unusedSimpArgs false
theorem OwnKeys.block {w : World} {base : Nat} {v : Value} {r : List (Int × Int)} (h : OwnKeys w base v r) : ∀ k, v.ownBlock = some k → base ≤ k ∧ k < w.heap.size := by
  intro k hk
  rcases h with ⟨rfl, _⟩ | ⟨g, c, M, rfl, h1, h2, h3, h4⟩
  · simp [Value.ownBlock] at hk
  · have : g = k := by simpa [Value.ownBlock] using hk
    subst this
    exact ⟨h1, h4.lt⟩
theorem OwnKeys.lower {w : World} {base base' : Nat} {v : Value} {r : List (Int × Int)} (h : OwnKeys w base v r) (hb : base' ≤ base) : OwnKeys w base' v r := by
  rcases h with h | ⟨g, c, M, rfl, h1, h2, h3, h4⟩
  · exact .inl h
  · exact .inr ⟨g, c, M, rfl, Nat.le_trans hb h1, h2, h3, h4⟩
theorem OwnKeys.below {w w' : World} {base : Nat} {v : Value} {r : List (Int × Int)} (h : OwnKeys w base v r) (hb : RowKit.Below w.heap.size w w') : OwnKeys w' base v r := by
  rcases h with h | ⟨g, c, M, rfl, h1, h2, h3, h4⟩
  · exact .inl h
  · exact .inr ⟨g, c, M, rfl, h1, h2, h3, h4.of_block (hb.block g h4.lt)⟩
end Go.Proofs.Ytbmfldoobkeieaa.KForm

namespace Go.Proofs.Ytbmfldoobkeieaa.KForm
open Go.RowKit Go.Lib Go.Sort Go.Proofs.Ytbmfldoobkeieaa.Own
set_option linter.unusedVariables false
set_option linter.unusedSimpArgs false
theorem below_grown {w w' : World} (h : RowKit.Below w.heap.size w w') : w.grownBy w' none := ⟨h.os, h.tape, h.output, h.size, fun k hk _ => h.block k hk⟩
theorem grown_weak {w w' : World} (h : w.grownBy w' none) (r : Option Nat) : w.grownBy w' r := ⟨h.os, h.tape, h.output, h.size, fun k hk _ => h.block k hk (by simp)⟩
theorem run_nil_keys (w : World) (a : Option Addr) (l c : Nat) : (binOp .eql 22 (.slice a l c) (.slice none 0 0)).run Try.prog w = .ok (.bool a.isNone) w := by
  have h := run_equalIn_slice_nil (P := Try.prog) w 9999 22 29 a l c Try.underlying22
  simp only [binOp, Op.equal, show Op.maxDepth = 9999 + 1 from rfl, Sem.run_bind, h, Result.andThen_ok, Sem.run_pure]
/-- the cells of a list of keys, one behind the other -/
def cellsK (l : List (Int × Int)) : List Value := (flatK keyCells 2 l.toArray).toList
theorem cellsK_len (l : List (Int × Int)) : (cellsK l).length = l.length * 2 := by simp [cellsK]
theorem cellsK_get (l : List (Int × Int)) (t : Nat) (u : Value) (hu : (cellsK l)[t]? = some u) : t < l.length * 2 ∧ u = (if t % 2 = 0 then .int .i64 l[t / 2]!.1 else .int .i64 l[t / 2]!.2) := by
  unfold cellsK at hu
  rw [Array.getElem?_toList] at hu
  obtain ⟨h1, h2⟩ := Array.getElem?_eq_some_iff.mp hu
  have hlt : t < l.toArray.size * 2 := by simpa using h1
  refine ⟨by simpa using hlt, ?_⟩
  have := flat_get l.toArray t hlt
  rw [getElem!_pos (flatK keyCells 2 l.toArray) t h1, h2] at this
  simpa using this
theorem cellsK_at (l : List (Int × Int)) (t : Nat) (h : t < l.length * 2) : (cellsK l)[t]! = (if t % 2 = 0 then .int .i64 l[t / 2]!.1 else .int .i64 l[t / 2]!.2) := by
  have h1 : t < (cellsK l).length := by rw [cellsK_len]; exact h
  rw [List.getElem!_eq_getElem?_getD, List.getElem?_eq_getElem h1]
  exact (cellsK_get l t _ (List.getElem?_eq_getElem h1)).2
theorem cellsK_one (l : List (Int × Int)) : ∀ u ∈ cellsK l, u.oneCell' = true := by
  intro u hu
  obtain ⟨t, ht, rfl⟩ := List.mem_iff_getElem.mp hu
  have := (cellsK_get l t _ (List.getElem?_eq_getElem ht)).2
  rw [this]
  split <;> rfl
theorem KeysAt.cells {w : World} {ad : Addr} {l : List (Int × Int)} (h : KeysAt w ad l) : ∀ t u, (cellsK l)[t]? = some u → w.cell? (ad.add t) = some u := by
  intro t u hu
  obtain ⟨ht, rfl⟩ := cellsK_get l t u hu
  rcases Nat.mod_two_eq_zero_or_one t with e | e
  · rw [if_pos e]
    have := h.2 (t / 2) (by omega) 0 _ rfl
    rwa [show t / 2 * 2 + 0 = t by omega] at this
  · rw [if_neg (by omega)]
    have := h.2 (t / 2) (by omega) 1 _ rfl
    rwa [show t / 2 * 2 + 1 = t by omega] at this
/-- copy of a list of keys into a row -/
theorem run_copy_keys (w : World) (ty : TypeId) (b n dc : Nat) (A : Option Addr) (c : Nat) (l : List (Int × Int)) (h : KR w A l) (hn : l.length ≤ n)
    (hc : ∀ j, j < l.length * 2 → (w.cell? ⟨b, j, none⟩).isSome = true) (hf : ∀ j, j < l.length * 2 → w.frozen? ⟨b, j, none⟩ = false) :
    (Builtin.copy_ #[22, 22] ty #[.slice (some ⟨b, 0, none⟩) n dc, .slice A l.length c]).run Try.prog w = .ok (goInt l.length) (w.setCells b 0 (cellsK l)) := by
  obtain ⟨i0, ih, iz0, iz1, iz2⟩ := info_parts infoKey
  have hmin : Nat.min l.length n = l.length := Nat.min_eq_left hn
  have hst := run_storeCells_cells (P := Try.prog) b 0 (cellsK l) 0 w (by rw [cellsK_len]; simpa using hc) (by rw [cellsK_len]; simpa using hf) (cellsK_one l)
  simp only [Nat.add_zero] at hst
  cases A with
  | none =>
    have h0 : l = [] := by
      rcases Nat.eq_zero_or_pos l.length with h0 | h0
      · exact List.eq_nil_of_length_eq_zero h0
      · obtain ⟨ad, hA, _⟩ := h h0
        cases hA
    subst h0
    have e : cellsK [] = [] := List.eq_nil_of_length_eq_zero (by rw [cellsK_len]; rfl)
    rw [e] at hst ⊢
    have hmin0 : Nat.min 0 n = 0 := Nat.zero_min n
    simp [Builtin.copy_, run_underlying Try.underlying22, Builtin.lenOf, Builtin.firstCells, sizeOf, typeInfo, ih, storeCells, World.setCells, hmin0]
  | some ad =>
    have hcs : ∀ j v, (cellsK l)[j]? = some v → w.cell? (ad.add j) = some v := by
      intro j v hv
      have hlt := (cellsK_get l j v hv).1
      obtain ⟨ad', hA, hk⟩ := h (by omega)
      cases hA
      exact hk.cells j v hv
    have hl := run_loadCells_list (P := Try.prog) w ad (cellsK l) hcs
    rw [cellsK_len] at hl
    simp [Builtin.copy_, run_underlying Try.underlying22, Builtin.lenOf, Builtin.firstCells, sizeOf, typeInfo, ih, iz1, hmin, hl, hst]
theorem wpList_copy_keys {w : World} {ops : Array Oper} {rest : List Oper} {o : Oper} {a : Act} {Q : Exit → Act → World → Prop} (hgd : o.guard = none) (d s : Operand)
    (ho : o.op = .call { callee := .builtin .copy, args := #[d, s], argTypes := #[22, 22] }) (b n dc : Nat) (A : Option Addr) (c : Nat) (l : List (Int × Int)) (hd : a.eval d = .slice (some ⟨b, 0, none⟩) n dc) (hs : a.eval s = .slice A l.length c)
    (h : KR w A l) (hn : l.length ≤ n) (M : Nat) (f : Nat → Value) (hrow : w.rowIs b 29 M f) (hM : l.length * 2 ≤ M)
    (hK : ∀ w' f', w'.rowIs b 29 M f' → (∀ j, j < l.length → f' (j * 2) = .int .i64 l[j]!.1 ∧ f' (j * 2 + 1) = .int .i64 l[j]!.2) → w.grownBy w' (some b) → wpList Try.prog ops Q rest (a.put o.dst (goInt l.length)) w') : wpList Try.prog ops Q (o :: rest) a w := by
  refine wpList_plain hgd fun K hK' => ?_
  have hrun := run_copy_keys w o.type b n dc A c l h hn (fun j hj => by rw [hrow.cell (by omega)]; rfl) (fun j hj => hrow.frozen _)
  unfold Oper.wp
  simp [execOp, ho, resolve, invoke, builtin, hd, hs, hrun, Result.andThen]
  refine hK' _ _ (hK _ _ (rowIs_sets b 29 M (cellsK l) 0 w f hrow) (fun j hj => ⟨?_, ?_⟩) (grownBy_setCells b _ _ w))
  · rw [if_pos (by rw [cellsK_len]; omega), Nat.sub_zero, cellsK_at l _ (by omega), if_pos (by omega), show j * 2 / 2 = j by omega]
  · rw [if_pos (by rw [cellsK_len]; omega), Nat.sub_zero, cellsK_at l _ (by omega), if_neg (by omega), show (j * 2 + 1) / 2 = j by omega]
/-- a row that holds a list, and behind it so many keys of its holder's -/
def LentRow (w : World) (g : Nat) (l : List (Int × Int)) (k : Nat) : Prop := ∃ f, w.rowIs g 29 ((l.length + 5) * 2) f ∧ (∀ j, j < l.length → f (j * 2) = .int .i64 l[j]!.1 ∧ f (j * 2 + 1) = .int .i64 l[j]!.2) ∧ ∀ j, j < k → f ((l.length + j) * 2) = .int .i64 (-9) ∧ f ((l.length + j) * 2 + 1) = .int .i64 (j : Int)
/-- what lent hands back -/
def Lent (w : World) (base : Nat) (v : Value) (A : Option Addr) (l : List (Int × Int)) : Prop :=
  (A = none ∧ l = [] ∧ v = .slice none 0 0) ∨ ∃ g ad, A = some ad ∧ v = .slice (some ⟨g, 0, none⟩) l.length (l.length + 5) ∧ base ≤ g ∧ LentRow w g l 5
theorem LentRow.set {w : World} {g k : Nat} {l : List (Int × Int)} (h : LentRow w g l k) : LentRow ((w.setCell ⟨g, (l.length + k) * 2, none⟩ (.int .i64 (-9))).setCell ⟨g, (l.length + k) * 2 + 1, none⟩ (.int .i64 (k : Int))) g l (k + 1) := by
  obtain ⟨f, hr, h1, h2⟩ := h
  refine ⟨_, (hr.set _ _).set _ _, fun j hj => ⟨?_, ?_⟩, fun j hj => ?_⟩
  · show (if j * 2 = (l.length + k) * 2 + 1 then _ else if j * 2 = (l.length + k) * 2 then _ else f (j * 2)) = _
    rw [if_neg (by omega), if_neg (by omega), (h1 j hj).1]
  · show (if j * 2 + 1 = (l.length + k) * 2 + 1 then _ else if j * 2 + 1 = (l.length + k) * 2 then _ else f (j * 2 + 1)) = _
    rw [if_neg (by omega), if_neg (by omega), (h1 j hj).2]
  · by_cases e : j = k
    · subst e
      exact ⟨by show (if (l.length + j) * 2 = (l.length + j) * 2 + 1 then _ else if (l.length + j) * 2 = (l.length + j) * 2 then _ else _) = _; rw [if_neg (by omega), if_pos rfl], by show (if (l.length + j) * 2 + 1 = (l.length + j) * 2 + 1 then _ else _) = _; rw [if_pos rfl]⟩
    · obtain ⟨e1, e2⟩ := h2 j (by omega)
      refine ⟨?_, ?_⟩
      · show (if (l.length + j) * 2 = (l.length + k) * 2 + 1 then _ else if (l.length + j) * 2 = (l.length + k) * 2 then _ else f ((l.length + j) * 2)) = _
        rw [if_neg (by omega), if_neg (by omega), e1]
      · show (if (l.length + j) * 2 + 1 = (l.length + k) * 2 + 1 then _ else if (l.length + j) * 2 + 1 = (l.length + k) * 2 then _ else f ((l.length + j) * 2 + 1)) = _
        rw [if_neg (by omega), if_neg (by omega), e2]
theorem LentRow.at {w : World} {g k : Nat} {l : List (Int × Int)} (h : LentRow w g l k) (j : Nat) (hj : j < (l.length + 5) * 2) : (∃ u, w.cell? ⟨g, j, none⟩ = some u) ∧ w.frozen? ⟨g, j, none⟩ = false := by
  obtain ⟨f, hr, _⟩ := h
  exact ⟨⟨_, hr.cell hj⟩, hr.frozen _⟩
theorem LentRow.lt {w : World} {g k : Nat} {l : List (Int × Int)} (h : LentRow w g l k) : g < w.heap.size := by
  obtain ⟨f, hr, _⟩ := h
  exact hr.lt
set_option maxHeartbeats 4000000 in
set_option maxRecDepth 100000 in
theorem lent_calls (A : Option Addr) (c : Nat) (l : List (Int × Int)) (w : World) (h : KR w A l) (hA : A = none → l = []) (hl : l.length ≤ 4398046511104) :
    Calls Try.prog 12 #[.slice A l.length c] w fun e w' => ∃ v, e = .returned v ∧ Lent w' w.heap.size v A l ∧ RowKit.Below w.heap.size w w' := by
  obtain ⟨i0, ih, iz0, iz1, iz2⟩ := info_parts infoKey
  cases A with
  | none =>
    obtain rfl := hA rfl
    go_enter Try.func12, Try.ntmps12
    have hnil := run_nil_keys
    go_wp2
    go_ret
    exact ⟨_, rfl, .inl ⟨rfl, rfl, rfl⟩, RowKit.Below.refl _ _⟩
  | some ad =>
    have H := Lib.hid h
    clear h hA
    go_enter Try.func12, Try.ntmps12
    have hn : wrap64 ((l.length : Int) + 5) = ((l.length + 5 : Nat) : Int) := by unfold wrap64; omega
    have hnil := run_nil_keys
    go_wp2_with (at_make; refine wpList_make_full _ rfl _ _ 22 rfl w.heap.size 29 i0 (.agg #[.int .i64 0, .int .i64 0]) 2 Try.underlying22 ih iz0 iz1 .i64 .i64 _ _ (l.length + 5) rfl rfl (by omega) (by omega) ?b2 ?b3 ?b4 ?_)
    case b2 => rw [iz2]; omega
    case b3 => unfold maxLen; omega
    case b4 => exact Nat.le_refl _
    intro w1 hown hgr
    have B1 : Hid (RowKit.Below w.heap.size w w1) := Lib.hid ((RowKit.Below.refl _ _).grown hgr (Nat.le_refl _) (fun k hk => by cases hk))
    obtain ⟨f1, hrow1⟩ : ∃ f, w1.rowIs w.heap.size 29 ((l.length + 5) * 2) f := by
      rcases Has.of_owns hown with ⟨hv, _⟩ | ⟨b, cc, f, hv, _, hr, _⟩
      · cases hv
      · injection hv with e1 e2 e3
        injection e1 with e1
        injection e1 with e1 _ _
        subst e1; subst e3
        exact ⟨f, hr⟩
    have R1 := Lib.hid hrow1
    have K1 : Hid (KR w1 (some ad) l) := Lib.hid (H.out.below B1.out)
    clear hown hgr hrow1
    go_wp2_with (refine wpList_copy_keys rfl _ _ rfl w.heap.size (l.length + 5) (l.length + 5) (some ad) c l rfl rfl K1.out (by omega) ((l.length + 5) * 2) f1 R1.out (by omega) ?_)
    intro w2 f2 hr2 hf2 hg2
    have B2 : Hid (RowKit.Below w.heap.size w w2) := Lib.hid (B1.out.grown hg2 B1.out.size (fun k hk => by cases hk; exact Nat.le_refl _))
    have L2 : Hid (LentRow w2 w.heap.size l 0) := Lib.hid ⟨f2, hr2, fun j hj => by simpa using hf2 j hj, fun j hj => absurd hj (Nat.not_lt_zero _)⟩
    clear hr2 hf2 hg2
    go_wp2_with fail
    go_loopg [4] 5 (fun gg s4 wr => ∃ k : Nat, k ≤ 5 ∧ 5 - k ≤ gg ∧ s4 = .int .i64 k ∧ Aside (RowKit.Below w.heap.size w wr) ∧ Aside (LentRow wr w.heap.size l k))
    case atStart => exact ⟨0, Nat.zero_le _, by omega, rfl, B2.out, L2.out⟩
    case round =>
      obtain ⟨k, hk, hg, rfl, BW, LW⟩ := hrel
      by_cases hlt : k < 5
      · have hltz : (k : Int) < 5 := by omega
        have hi : wrap64 ((l.length : Int) + (k : Int)) = ((l.length + k : Nat) : Int) := by unfold wrap64; omega
        obtain ⟨⟨u0, hu0⟩, hf0⟩ := LW.out.at ((l.length + k) * 2) (by omega)
        obtain ⟨⟨u1, hu1⟩, hf1⟩ := LW.out.at ((l.length + k) * 2 + 1) (by omega)
        go_wp2
        go_roundg (5 - (k + 1))
        case measure => omega
        case rel =>
          have hgs : wr.grownBy ((wr.setCell ⟨w.heap.size, (l.length + k) * 2, none⟩ (.int .i64 (-9))).setCell ⟨w.heap.size, (l.length + k) * 2 + 1, none⟩ (.int .i64 (k : Int))) (some w.heap.size) := grownBy_setCells w.heap.size [_, _] _ wr
          exact ⟨k + 1, by omega, by omega, by go_num, (show Aside _ from BW.out.grown hgs BW.out.size (fun k hk => by cases hk; exact Nat.le_refl _)), (show Aside _ from LW.out.set)⟩
      · obtain rfl : k = 5 := by omega
        go_wp2
        go_ret
        exact ⟨_, rfl, .inr ⟨_, _, rfl, rfl, Nat.le_refl _, LW.out⟩, BW.out⟩
set_option maxHeartbeats 4000000 in
set_option maxRecDepth 100000 in
theorem back_calls (base : Nat) (v : Value) (A A0 : Option Addr) (c n0 : Nat) (l : List (Int × Int)) (w : World) (hv : Lent w base v A0 l) (hn : A0 = none ↔ A = none) (h : KR w A l) (hl : l.length ≤ 4398046511104) (hc : l.length ≤ c) :
    Calls Try.prog 14 #[v, .slice A l.length c] w fun e w' => e = .returned (.bool true) ∧ w.grownBy w' v.ownBlock := by
  rcases hv with ⟨hA, rfl, rfl⟩ | ⟨g, ad, hA, rfl, hg, hrow⟩
  · obtain rfl := hn.mp hA
    have hnil := run_nil_keys
    go_enter Try.func14, Try.ntmps14
    go_wp2_with fail
    refine (same_calls none none 0 c [] _ (fun h => absurd h (by simp)) (fun h => absurd h (by simp)) (by simp) (by simp) (by simp)).mono ?_
    rintro e w1 ⟨rfl, hb1⟩
    go_wp2
    go_ret
    exact ⟨rfl, grown_weak (below_grown hb1) _⟩
  · obtain ⟨ad2, rfl⟩ : ∃ ad2, A = some ad2 := by
      cases A with
      | none => exact absurd (hn.mpr rfl) (by rw [hA]; simp)
      | some a => exact ⟨a, rfl⟩
    have hnil := run_nil_keys
    have R0 := Lib.hid hrow
    have H0 := Lib.hid h
    have hkr : KR w (some ⟨g, 0, none⟩) l := fun h0 => ⟨_, rfl, hrow.lt, fun j hj i v hv => by
      obtain ⟨f, hr, h1, h2⟩ := hrow
      obtain ⟨e1, e2⟩ := h1 j hj
      rw [Addr.add_lit, Nat.zero_add]
      match i, hv with
      | 0, hv => rw [← Option.some.inj hv, Nat.add_zero, hr.cell (by omega), e1]
      | 1, hv => rw [← Option.some.inj hv, hr.cell (by omega), e2]⟩
    have HK := Lib.hid hkr
    clear hrow h hkr
    go_enter Try.func14, Try.ntmps14
    go_wp2_with fail
    refine (same_calls (some ⟨g, 0, none⟩) (some ad2) (l.length + 5) c l _ HK.out H0.out (by omega) (by omega) hc).mono ?_
    rintro e w1 ⟨rfl, hb1⟩
    have G1 : Hid (w.grownBy w1 (some g)) := Lib.hid (grown_weak (below_grown hb1) _)
    have hlt : g < w.heap.size := R0.out.lt
    have R1 : Hid (LentRow w1 g l 5) := Lib.hid (by
      obtain ⟨f, hr, h1, h2⟩ := R0.out
      exact ⟨f, hr.of_block (hb1.block g hlt), h1, h2⟩)
    clear hb1
    have hn5 : wrap64 ((l.length : Int) + 5) = ((l.length + 5 : Nat) : Int) := by unfold wrap64; omega
    go_wp2
    go_loopg [7, 5] 5 (fun gg s7 s5 wr => ∃ k : Nat, k ≤ 5 ∧ 5 - k ≤ gg ∧ s7 = .int .i64 k ∧ s5 = .bool true ∧ wr = w1)
    case atStart => exact ⟨0, Nat.zero_le _, by omega, rfl, rfl, rfl⟩
    case round =>
      obtain ⟨k, hk, hg, rfl, rfl, rfl⟩ := hrel
      by_cases hlt5 : k < 5
      · have hltz : (k : Int) < 5 := by omega
        have hi : wrap64 ((l.length : Int) + (k : Int)) = ((l.length + k : Nat) : Int) := by unfold wrap64; omega
        obtain ⟨f, hr, h1, h2⟩ := R1.out
        obtain ⟨e1, e2⟩ := h2 k hlt5
        have c1 := hr.cell (i := (l.length + k) * 2) (by omega)
        have c2 := hr.cell (i := (l.length + k) * 2 + 1) (by omega)
        rw [e1] at c1
        rw [e2] at c2
        clear hr h1 h2 e1 e2
        go_wp2
        go_roundg (5 - (k + 1))
        case measure => omega
        case rel => exact ⟨k + 1, by omega, by omega, by go_num, rfl, rfl⟩
      · obtain rfl : k = 5 := by omega
        go_wp2
        go_loopg [8] (l.length + 5) (fun gg s8 wq => ∃ m : Nat, m ≤ l.length + 5 ∧ l.length + 5 - m ≤ gg ∧ s8 = .int .i64 m ∧ Aside (w.grownBy wq (some g)) ∧ Aside (∃ f, wq.rowIs g 29 ((l.length + 5) * 2) f))
        case atStart => exact ⟨0, Nat.zero_le _, by omega, rfl, G1.out, by obtain ⟨f, hr, _⟩ := R1.out; exact ⟨f, hr⟩⟩
        case round =>
          obtain ⟨m, hm, hg2, rfl, GW, RW⟩ := hrel
          by_cases hlm : m < l.length + 5
          · have hltm : (m : Int) < ((l.length + 5 : Nat) : Int) := by omega
            obtain ⟨f, hr⟩ := RW.out
            have c1 := hr.cell (i := m * 2) (by omega)
            have c2 := hr.cell (i := m * 2 + 1) (by omega)
            have f1 := hr.frozen (m * 2)
            have f2 := hr.frozen (m * 2 + 1)
            have RH := Lib.hid hr
            clear hr
            go_wp2
            go_roundg (l.length + 5 - (m + 1))
            case measure => omega
            case rel =>
              exact ⟨m + 1, by omega, by omega, by go_num, (show Aside _ from GW.out.trans (grownBy_setCells g [_, _] _ wr)), (show Aside _ from ⟨_, (RH.out.set _ _).set _ _⟩)⟩
          · obtain rfl : m = l.length + 5 := by omega
            go_wp2
            go_ret
            exact ⟨rfl, GW.out⟩
end Go.Proofs.Ytbmfldoobkeieaa.KForm
