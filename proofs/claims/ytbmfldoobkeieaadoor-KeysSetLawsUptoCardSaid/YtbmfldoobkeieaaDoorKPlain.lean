/- The walks of keys.Partition (of a key, of a number that may be) and of the statements' plain: it returns true, in a world that holds the library's table of powers of ten. -/
import Derived.Test.YtbmfldoobkeieaaDoorKText
import Derived.Test.YtbmfldoobkeieaaDoorKHash
import Derived.Test.YtbmfldoobkeieaaDoorKBytes
namespace Go.Proofs.YtbmfldoobkeieaaDoor.KForm
open Go.RowKit
set_option linter.unusedVariables false
set_option linter.unusedSimpArgs false

theorem few_calls (n : Int) (w : World) (h1 : 1 ≤ n) (h2 : n ≤ 256) : Calls Tryd.prog 33 #[.int .i64 n] w fun e w' => e = .returned (.bool true) ∧ w = w' := by
  go_enter Tryd.func33, Tryd.ntmps33
  go_wp2
  go_ret
  exact ⟨by simp, rfl⟩
set_option maxHeartbeats 800000 in
theorem part_b (t r n h : Int) (hf : ∀ W, Calls Tryd.prog 35 #[.agg #[.int .i64 t, .int .i64 r]] W fun e w' => e = .returned (.int .u64 h) ∧ Below W.heap.size W w') (w : World) (ht : 0 ≤ t) (ht2 : t ≤ 65535) (h1 : 1 ≤ n) (h2 : n ≤ 256)
    (g1 : 0 ≤ h) (g2 : h ≤ 18446744073709551615) :
    Calls Tryd.prog 14 #[.agg #[.int .i64 t, .int .i64 r], .int .i64 n] w fun e w' => e = .returned (.tuple #[.int .i64 (h % n), .int .i64 0]) ∧ Below w.heap.size w w' := by
  have HF := Lib.hid hf
  clear hf
  have m1 : 0 ≤ h % n := Int.emod_nonneg _ (by omega)
  have m2 : h % n ≤ 256 := by have := Int.emod_lt_of_pos h (b := n) (by omega); omega
  go_enter Tryd.func14, Tryd.ntmps14
  go_wp2_with fail
  refine (check_calls t r 0 _ (by unfold checkF; rw [if_neg (by omega), if_neg (by omega)])).mono ?_
  rintro e w1 ⟨rfl, hb1⟩
  obtain ⟨hc1, hf1⟩ := bcell hb1
  have hz1 := hb1.size
  go_wp2_with fail
  refine (few_calls n _ h1 h2).mono ?_
  rintro e w' ⟨rfl, rfl⟩
  go_wp2_with fail
  refine (HF.out _).mono ?_
  rintro e w2 ⟨rfl, hb2⟩
  clear hc1 hf1 hz1
  go_wp2_with fail
  go_ret2
  exact ⟨rfl, (((Below.refl _ _).alloc (Nat.le_refl _) _).trans (hb1.mono (by simp))).trans (hb2.mono (by have := hb1.size; simp at this; omega))⟩
theorem hashU_lo (t u : Int) : 0 ≤ hashU t u := by
  unfold hashU hash10 hstep
  rw [IntKind.wrap_u64]
  omega
theorem hashU_hi (t u : Int) : hashU t u ≤ 18446744073709551615 := by
  unfold hashU hash10 hstep
  rw [IntKind.wrap_u64]
  omega
theorem part_calls (t r n : Int) (w : World) (ht : 0 ≤ t) (ht2 : t ≤ 65535) (hr : -9223372036854775808 ≤ r) (hr2 : r ≤ 9223372036854775807) (h1 : 1 ≤ n) (h2 : n ≤ 256) :
    Calls Tryd.prog 14 #[.agg #[.int .i64 t, .int .i64 r], .int .i64 n] w fun e w' => e = .returned (.tuple #[.int .i64 (hashU t (ux r) % n), .int .i64 0]) ∧ Below w.heap.size w w' :=
  part_b t r n _ (fun W => hash_calls t r W ht ht2 hr hr2) w ht ht2 h1 h2 (hashU_lo _ _) (hashU_hi _ _)

theorem num_calls (n : Int) (w : World) : Calls Tryd.prog 13 #[.int .i64 n] w fun e w' => e = .returned (.int .i64 n) ∧ w = w' := by
  go_enter Tryd.func13, Tryd.ntmps13
  go_wp2
  go_ret
  exact ⟨rfl, rfl⟩
theorem itoa7 : Lib.itoa 7 = [55] := by
  simp [Lib.itoa, Lib.decDigits]
theorem itoa12 : Lib.itoa (-12) = [45, 49, 50] := by
  simp [Lib.itoa, Lib.decDigits]
theorem text7 : textF 7 (-12) = some (⟨#[55, 58, 45, 49, 50]⟩, 0) := by
  unfold textF
  rw [if_pos (by omega), if_pos (by omega), itoa7, itoa12]
  rfl
set_option maxHeartbeats 1600000 in
set_option maxRecDepth 100000 in
theorem plain_given (r : Bool) (w : World) (h : some true = some r) (hT : TabW w) :
    Calls Tryd.prog 9 #[] w fun e w' => e = .returned (.bool r) ∧ Below w.heap.size w w' := by
  obtain rfl := Option.some.inj h
  clear h
  go_enter Tryd.func9, Tryd.ntmps9
  go_wp2_with fail
  refine (text_given 7 (-12) _ _ _ text7 (TabW.of ((Below.refl _ _).alloc (Nat.le_refl _) _) hT)).mono ?_
  rintro e w1 ⟨rfl, hb1⟩
  obtain ⟨hc1, hf1⟩ := bcell hb1
  have hz1 := hb1.size
  go_wp2_with fail
  refine (bytes_calls 7 (-12) _ (by omega) (by omega) (by omega) (by omega)).mono ?_
  rintro e w2 ⟨v, rfl, hown, hb2⟩
  obtain ⟨g, cap, rfl⟩ : ∃ g cap, v = .slice (some ⟨g, 0, none⟩) 10 cap := by
    rcases hown.2 with ⟨_, h⟩ | ⟨g, cap, cur, hv, _⟩
    · cases h
    · exact ⟨g, cap, hv⟩
  have hb12 : Below w.heap.size w w2 := (((Below.refl _ _).alloc (Nat.le_refl _) _).trans (hb1.mono (by simp))).trans (hb2.mono (by have := hb1.size; simp at this; omega))
  have c20 : w2.cell? ⟨w.heap.size, 0, none⟩ = some (.int .i64 7) := (hb2.cell (p := ⟨w.heap.size, 0, none⟩) (by have := hb1.size; simp at this; simp; omega)).trans ((hb1.cell (p := ⟨w.heap.size, 0, none⟩) (by simp)).trans (by simp))
  have c21 : w2.cell? ⟨w.heap.size, 1, none⟩ = some (.int .i64 (-12)) := (hb2.cell (p := ⟨w.heap.size, 1, none⟩) (by have := hb1.size; simp at this; simp; omega)).trans ((hb1.cell (p := ⟨w.heap.size, 1, none⟩) (by simp)).trans (by simp))
  have hz2 : w.heap.size < w2.heap.size := by have := hb1.size; have := hb2.size; simp at *; omega
  clear hc1 hf1 hz1 hown hb1 hb2
  go_wp2_with fail
  refine (part_calls 7 (-12) 1 _ (by omega) (by omega) (by omega) (by omega) (by omega) (by omega)).mono ?_
  rw [Int.emod_one]
  rintro e w3 ⟨rfl, hb3⟩
  have c30 : w3.cell? ⟨w.heap.size, 0, none⟩ = some (.int .i64 7) := (hb3.cell (p := ⟨w.heap.size, 0, none⟩) hz2).trans c20
  have c31 : w3.cell? ⟨w.heap.size, 1, none⟩ = some (.int .i64 (-12)) := (hb3.cell (p := ⟨w.heap.size, 1, none⟩) hz2).trans c21
  have hb13 := hb12.trans (hb3.mono (Nat.le_of_lt hz2))
  have hz3 : w.heap.size < w3.heap.size := by have := hb3.size; omega
  clear c20 c21 hb3 hb12 hz2
  have hck : checkF 7 (-12) = some 0 := rfl
  have HC := Lib.hid hck
  clear hck
  go_wp2_with (first | (go_at_call 13; refine (num_calls _ _).mono ?_; rintro e w' ⟨rfl, rfl⟩) | (go_at_call 18; refine (check_calls 7 (-12) 0 _ HC.out).mono ?_; rintro e w4 ⟨rfl, hb4⟩))
  go_ret
  exact ⟨rfl, hb13.trans (hb4.mono (Nat.le_of_lt hz3))⟩
end Go.Proofs.YtbmfldoobkeieaaDoor.KForm
