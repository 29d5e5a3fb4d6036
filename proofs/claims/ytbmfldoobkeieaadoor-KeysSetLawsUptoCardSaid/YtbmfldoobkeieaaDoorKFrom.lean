/- The walk of keys.FromBytes: of ten bytes the key that they tell; of fewer 10, of more 11. -/
import Derived.Test.YtbmfldoobkeieaaDoorKBytes
namespace Go.Proofs.YtbmfldoobkeieaaDoor.KForm
open Go.RowKit
set_option linter.unusedVariables false
set_option linter.unusedSimpArgs false

/-- what a byte does to the number so far -/
def fstep (u x : Int) : Int := bits BinOp.or IntKind.u64 (IntKind.u64.wrap (u * 256)) x
/-- the row of 64 bits, the highest one turned -/
def rx (u : Int) : Int := wrap64 (bits BinOp.xor IntKind.u64 u 9223372036854775808)
def tab2 (x y : Int) : Int := bits BinOp.or IntKind.i64 (x * 256) y
def from8 (b2 b3 b4 b5 b6 b7 b8 b9 : Int) : Int := fstep (fstep (fstep (fstep (fstep (fstep (fstep (bits BinOp.or IntKind.u64 0 b2) b3) b4) b5) b6) b7) b8) b9
theorem fstep_def (u x : Int) : bits BinOp.or IntKind.u64 (IntKind.u64.wrap (u * 256)) x = fstep u x := rfl

set_option maxHeartbeats 1600000 in
set_option maxRecDepth 100000 in
theorem from_b (ad : Addr) (c : Nat) (b0 b1 b2 b3 b4 b5 b6 b7 b8 b9 : Int) (w : World) (hc : 10 ≤ c)
    (k0 : w.cell? (ad.add 0) = some (.int .u8 b0)) (k1 : w.cell? (ad.add 1) = some (.int .u8 b1)) (k2 : w.cell? (ad.add 2) = some (.int .u8 b2)) (k3 : w.cell? (ad.add 3) = some (.int .u8 b3)) (k4 : w.cell? (ad.add 4) = some (.int .u8 b4))
    (k5 : w.cell? (ad.add 5) = some (.int .u8 b5)) (k6 : w.cell? (ad.add 6) = some (.int .u8 b6)) (k7 : w.cell? (ad.add 7) = some (.int .u8 b7)) (k8 : w.cell? (ad.add 8) = some (.int .u8 b8)) (k9 : w.cell? (ad.add 9) = some (.int .u8 b9))
    (h0 : 0 ≤ b0 ∧ b0 ≤ 255) (h1 : 0 ≤ b1 ∧ b1 ≤ 255) (h2 : 0 ≤ b2 ∧ b2 ≤ 255) (h3 : 0 ≤ b3 ∧ b3 ≤ 255) (h4 : 0 ≤ b4 ∧ b4 ≤ 255) (h5 : 0 ≤ b5 ∧ b5 ≤ 255) (h6 : 0 ≤ b6 ∧ b6 ≤ 255) (h7 : 0 ≤ b7 ∧ b7 ≤ 255) (h8 : 0 ≤ b8 ∧ b8 ≤ 255) (h9 : 0 ≤ b9 ∧ b9 ≤ 255) :
    Calls Tryd.prog 15 #[.slice (some ad) 10 c] w fun e w' => e = .returned (.tuple #[.agg #[.int .i64 (tab2 b0 b1), .int .i64 (rx (from8 b2 b3 b4 b5 b6 b7 b8 b9))], .int .i64 0]) ∧ Below w.heap.size w w' := by
  obtain ⟨b, o, sp⟩ := ad
  have hlt : b < w.heap.size := World.block_lt_of_cell? w _ k0
  have j3 : w.cell? ⟨b, o + 2 + 1, none⟩ = some (.int .u8 b3) := k3
  have j4 : w.cell? ⟨b, o + 2 + 2, none⟩ = some (.int .u8 b4) := k4
  have j5 : w.cell? ⟨b, o + 2 + 3, none⟩ = some (.int .u8 b5) := k5
  have j6 : w.cell? ⟨b, o + 2 + 4, none⟩ = some (.int .u8 b6) := k6
  have j7 : w.cell? ⟨b, o + 2 + 5, none⟩ = some (.int .u8 b7) := k7
  have j8 : w.cell? ⟨b, o + 2 + 6, none⟩ = some (.int .u8 b8) := k8
  have j9 : w.cell? ⟨b, o + 2 + 7, none⟩ = some (.int .u8 b9) := k9
  have j0 : w.cell? ⟨b, o, sp⟩ = some (.int .u8 b0) := k0
  have j1 : w.cell? ⟨b, o + 1, none⟩ = some (.int .u8 b1) := k1
  have j2 : w.cell? ⟨b, o + 2, none⟩ = some (.int .u8 b2) := k2
  clear k0 k1 k2 k3 k4 k5 k6 k7 k8 k9
  go_enter Tryd.func15, Tryd.ntmps15
  go_wp2
  go_rounds 9
  simp only [fstep_def]
  go_region
  all_goals go_wp2
  all_goals go_returns
  all_goals exact ⟨rfl, by go_grown⟩

theorem from_short (A : Option Addr) (n c : Nat) (w : World) (h : n < 10) :
    Calls Tryd.prog 15 #[.slice A n c] w fun e w' => e = .returned (.tuple #[.agg #[.int .i64 0, .int .i64 0], .int .i64 10]) ∧ Below w.heap.size w w' := by
  go_enter Tryd.func15, Tryd.ntmps15
  go_wp2
  go_returns
  exact ⟨rfl, by go_grown⟩
theorem from_long (A : Option Addr) (n c : Nat) (w : World) (h : 10 < n) (h2 : n ≤ 9223372036854775807) :
    Calls Tryd.prog 15 #[.slice A n c] w fun e w' => e = .returned (.tuple #[.agg #[.int .i64 0, .int .i64 0], .int .i64 11]) ∧ Below w.heap.size w w' := by
  go_enter Tryd.func15, Tryd.ntmps15
  go_wp2
  go_returns
  exact ⟨rfl, by go_grown⟩

/-- what FromBytes tells of any bytes (none: a member is no byte) -/
def fromF (l : List Int) : Option (Int × Int × Int) :=
  if l.length < 10 then some (0, 0, 10) else if 10 < l.length then some (0, 0, 11) else
  match l with
  | [b0, b1, b2, b3, b4, b5, b6, b7, b8, b9] => if ∀ x ∈ [b0, b1, b2, b3, b4, b5, b6, b7, b8, b9], 0 ≤ x ∧ x ≤ 255 then some (tab2 b0 b1, rx (from8 b2 b3 b4 b5 b6 b7 b8 b9), 0) else none
  | _ => none
open Go.Proofs.YtbmfldoobkeieaaDoorW.PrintWords in
theorem cells_of_C {w : World} {A : Option Addr} {l : List Int} (h : Kd.C (Kd.int .u8) w A l.length l) : ∀ j x, l[j]? = some x → ∃ ad, A = some ad ∧ w.cell? (ad.add j) = some (.int .u8 x) := by
  intro j x hj
  have hl : j < l.length := by
    rcases Nat.lt_or_ge j l.length with h | h
    · exact h
    · rw [List.getElem?_eq_none h] at hj; cases hj
  obtain ⟨ad, hA, hc⟩ := h.2.2 (by omega)
  obtain ⟨c, hs, hr, hcell⟩ := hc j x hj
  refine ⟨ad, hA, ?_⟩
  have e : c = [.int .u8 x] := hr
  subst e
  simpa [Kd.int, Kd.scalar] using hcell 0 _ rfl
open Go.Proofs.YtbmfldoobkeieaaDoorW.PrintWords in
theorem from_given (A0 : Option Addr) (c0 : Nat) (l0 : List Int) (r1 r2 r3 : Int) (w : World) (hr0 : Kd.C (Kd.int .u8) w A0 l0.length l0) (hc0 : l0.length ≤ c0) (h : fromF l0 = some (r1, r2, r3)) :
    Calls Tryd.prog 15 #[.slice A0 l0.length c0] w fun e w' => e = .returned (.tuple #[.agg #[.int .i64 r1, .int .i64 r2], .int .i64 r3]) ∧ Below w.heap.size w w' := by
  unfold fromF at h
  split at h
  · rename_i hl
    simp only [Option.some.injEq, Prod.mk.injEq] at h
    obtain ⟨rfl, rfl, rfl⟩ := h
    exact from_short A0 _ c0 w hl
  · split at h
    · rename_i hl
      simp only [Option.some.injEq, Prod.mk.injEq] at h
      obtain ⟨rfl, rfl, rfl⟩ := h
      exact from_long A0 _ c0 w hl hr0.2.1
    · split at h
      · rename_i b0 b1 b2 b3 b4 b5 b6 b7 b8 b9 _ _
        split at h
        · rename_i hb
          simp only [Option.some.injEq, Prod.mk.injEq] at h
          obtain ⟨rfl, rfl, rfl⟩ := h
          have hc := cells_of_C hr0
          obtain ⟨ad, rfl, k0⟩ := hc 0 b0 rfl
          have kk : ∀ j x, [b0, b1, b2, b3, b4, b5, b6, b7, b8, b9][j]? = some x → w.cell? (ad.add j) = some (.int .u8 x) := by
            intro j x hj
            obtain ⟨ad', e, k⟩ := hc j x hj
            cases e
            exact k
          exact from_b ad c0 b0 b1 b2 b3 b4 b5 b6 b7 b8 b9 w hc0 (kk 0 _ rfl) (kk 1 _ rfl) (kk 2 _ rfl) (kk 3 _ rfl) (kk 4 _ rfl) (kk 5 _ rfl) (kk 6 _ rfl) (kk 7 _ rfl) (kk 8 _ rfl) (kk 9 _ rfl)
            (hb _ (by simp)) (hb _ (by simp)) (hb _ (by simp)) (hb _ (by simp)) (hb _ (by simp)) (hb _ (by simp)) (hb _ (by simp)) (hb _ (by simp)) (hb _ (by simp)) (hb _ (by simp))
        · cases h
      · cases h
end Go.Proofs.YtbmfldoobkeieaaDoor.KForm
