/- The walks of both Hash functions: one function of a key's ten bytes. -/
import Derived.Test.YtbmfldoobkeieaaDoorKForm
namespace Go.Proofs.YtbmfldoobkeieaaDoor.KForm
open Go.RowKit
set_option linter.unusedVariables false
set_option linter.unusedSimpArgs false

/-- what a byte does to a hash -/
def hstep (h x : Int) : Int := IntKind.u64.wrap (bits BinOp.xor IntKind.u64 h x * 1099511628211)
def hash10 (b0 b1 b2 b3 b4 b5 b6 b7 b8 b9 : Int) : Int :=
  hstep (hstep (hstep (hstep (hstep (hstep (hstep (hstep (hstep (hstep 14695981039346656037 b0) b1) b2) b3) b4) b5) b6) b7) b8) b9
def hashU (t u : Int) : Int := hash10 (t / 256) (t % 256) (u / 72057594037927936) (u / 281474976710656 % 256) (u / 1099511627776 % 256) (u / 4294967296 % 256) (u / 16777216 % 256) (u / 65536 % 256) (u / 256 % 256) (u % 256)
theorem hstep_def (h x : Int) : IntKind.u64.wrap (bits BinOp.xor IntKind.u64 h x * 1099511628211) = hstep h x := rfl
set_option maxHeartbeats 1600000 in
set_option maxRecDepth 100000 in
theorem hash_b (t r b0 b1 b2 b3 b4 b5 b6 b7 b8 b9 : Int) (w : World) (ht : 0 ≤ t) (ht2 : t ≤ 65535)
    (hf : ∀ W, Calls Tryd.prog 36 #[.agg #[.int .i64 t, .int .i64 r]] W fun e w' => e = .returned (.agg #[.int .u8 b0, .int .u8 b1, .int .u8 b2, .int .u8 b3, .int .u8 b4, .int .u8 b5, .int .u8 b6, .int .u8 b7, .int .u8 b8, .int .u8 b9]) ∧ Below W.heap.size W w')
    (h0 : 0 ≤ b0 ∧ b0 ≤ 255) (h1 : 0 ≤ b1 ∧ b1 ≤ 255) (h2 : 0 ≤ b2 ∧ b2 ≤ 255) (h3 : 0 ≤ b3 ∧ b3 ≤ 255) (h4 : 0 ≤ b4 ∧ b4 ≤ 255) (h5 : 0 ≤ b5 ∧ b5 ≤ 255) (h6 : 0 ≤ b6 ∧ b6 ≤ 255) (h7 : 0 ≤ b7 ∧ b7 ≤ 255) (h8 : 0 ≤ b8 ∧ b8 ≤ 255) (h9 : 0 ≤ b9 ∧ b9 ≤ 255) :
    Calls Tryd.prog 35 #[.agg #[.int .i64 t, .int .i64 r]] w fun e w' => e = .returned (.int .u64 (hash10 b0 b1 b2 b3 b4 b5 b6 b7 b8 b9)) ∧ Below w.heap.size w w' := by
  have HF := Lib.hid hf
  clear hf
  have i0 : ∀ w, (Instr.index 64 (.agg #[.int .u8 b0, .int .u8 b1, .int .u8 b2, .int .u8 b3, .int .u8 b4, .int .u8 b5, .int .u8 b6, .int .u8 b7, .int .u8 b8, .int .u8 b9]) (.int .i64 0)).run Tryd.prog w = .ok (.int .u8 b0) w := fun _ => by kernel_rfl
  have i1 : ∀ w, (Instr.index 64 (.agg #[.int .u8 b0, .int .u8 b1, .int .u8 b2, .int .u8 b3, .int .u8 b4, .int .u8 b5, .int .u8 b6, .int .u8 b7, .int .u8 b8, .int .u8 b9]) (.int .i64 1)).run Tryd.prog w = .ok (.int .u8 b1) w := fun _ => by kernel_rfl
  have i2 : ∀ w, (Instr.index 64 (.agg #[.int .u8 b0, .int .u8 b1, .int .u8 b2, .int .u8 b3, .int .u8 b4, .int .u8 b5, .int .u8 b6, .int .u8 b7, .int .u8 b8, .int .u8 b9]) (.int .i64 2)).run Tryd.prog w = .ok (.int .u8 b2) w := fun _ => by kernel_rfl
  have i3 : ∀ w, (Instr.index 64 (.agg #[.int .u8 b0, .int .u8 b1, .int .u8 b2, .int .u8 b3, .int .u8 b4, .int .u8 b5, .int .u8 b6, .int .u8 b7, .int .u8 b8, .int .u8 b9]) (.int .i64 3)).run Tryd.prog w = .ok (.int .u8 b3) w := fun _ => by kernel_rfl
  have i4 : ∀ w, (Instr.index 64 (.agg #[.int .u8 b0, .int .u8 b1, .int .u8 b2, .int .u8 b3, .int .u8 b4, .int .u8 b5, .int .u8 b6, .int .u8 b7, .int .u8 b8, .int .u8 b9]) (.int .i64 4)).run Tryd.prog w = .ok (.int .u8 b4) w := fun _ => by kernel_rfl
  have i5 : ∀ w, (Instr.index 64 (.agg #[.int .u8 b0, .int .u8 b1, .int .u8 b2, .int .u8 b3, .int .u8 b4, .int .u8 b5, .int .u8 b6, .int .u8 b7, .int .u8 b8, .int .u8 b9]) (.int .i64 5)).run Tryd.prog w = .ok (.int .u8 b5) w := fun _ => by kernel_rfl
  have i6 : ∀ w, (Instr.index 64 (.agg #[.int .u8 b0, .int .u8 b1, .int .u8 b2, .int .u8 b3, .int .u8 b4, .int .u8 b5, .int .u8 b6, .int .u8 b7, .int .u8 b8, .int .u8 b9]) (.int .i64 6)).run Tryd.prog w = .ok (.int .u8 b6) w := fun _ => by kernel_rfl
  have i7 : ∀ w, (Instr.index 64 (.agg #[.int .u8 b0, .int .u8 b1, .int .u8 b2, .int .u8 b3, .int .u8 b4, .int .u8 b5, .int .u8 b6, .int .u8 b7, .int .u8 b8, .int .u8 b9]) (.int .i64 7)).run Tryd.prog w = .ok (.int .u8 b7) w := fun _ => by kernel_rfl
  have i8 : ∀ w, (Instr.index 64 (.agg #[.int .u8 b0, .int .u8 b1, .int .u8 b2, .int .u8 b3, .int .u8 b4, .int .u8 b5, .int .u8 b6, .int .u8 b7, .int .u8 b8, .int .u8 b9]) (.int .i64 8)).run Tryd.prog w = .ok (.int .u8 b8) w := fun _ => by kernel_rfl
  have i9 : ∀ w, (Instr.index 64 (.agg #[.int .u8 b0, .int .u8 b1, .int .u8 b2, .int .u8 b3, .int .u8 b4, .int .u8 b5, .int .u8 b6, .int .u8 b7, .int .u8 b8, .int .u8 b9]) (.int .i64 9)).run Tryd.prog w = .ok (.int .u8 b9) w := fun _ => by kernel_rfl
  go_enter Tryd.func35, Tryd.ntmps35
  go_wp2_with fail
  refine (check_calls t r 0 _ (by unfold checkF; rw [if_neg (by omega), if_neg (by omega)])).mono ?_
  rintro e w1 ⟨rfl, hb1⟩
  obtain ⟨hc1, hf1⟩ := bcell hb1
  have hz1 := hb1.size
  go_wp2_with fail
  refine (HF.out _).mono ?_
  rintro e w2 ⟨rfl, hb2⟩
  clear hc1 hf1 hz1
  go_wp2_with fail
  go_rounds 11
  simp only [hstep_def]
  go_ret
  exact ⟨rfl, (((Below.refl _ _).alloc (Nat.le_refl _) _).trans (hb1.mono (by simp))).trans (hb2.mono (by have := hb1.size; simp at this; omega))⟩
/-- both, of any key's numbers -/
theorem hash_calls (t r : Int) (w : World) (ht : 0 ≤ t) (ht2 : t ≤ 65535) (hr : -9223372036854775808 ≤ r) (hr2 : r ≤ 9223372036854775807) :
    Calls Tryd.prog 35 #[.agg #[.int .i64 t, .int .i64 r]] w fun e w' => e = .returned (.int .u64 (hashU t (ux r))) ∧ Below w.heap.size w w' := by
  have h1 := ux_lo r
  have h2 := ux_hi r
  exact hash_b t r _ _ _ _ _ _ _ _ _ _ w ht ht2 (fun W => form_u t r (ux r) rfl W h1 h2 ht ht2 hr hr2) (by omega) (by omega) (by omega) (by omega) (by omega) (by omega) (by omega) (by omega) (by omega) (by omega)
/-- of what is no key: 0 -/
theorem hash_none (t r : Int) (w : World) (ht : t < 0 ∨ 65535 < t) :
    Calls Tryd.prog 35 #[.agg #[.int .i64 t, .int .i64 r]] w fun e w' => e = .returned (.int .u64 0) ∧ Below w.heap.size w w' := by
  have hk : checkF t r = some 20 := by
    unfold checkF
    by_cases h : t < 0
    · rw [if_pos h]
    · rw [if_neg h, if_pos (by omega)]
  go_enter Tryd.func35, Tryd.ntmps35
  go_wp2_with fail
  refine (check_calls t r 20 _ hk).mono ?_
  rintro e w1 ⟨rfl, hb1⟩
  go_wp2_with fail
  go_ret
  exact ⟨rfl, ((Below.refl _ _).alloc (Nat.le_refl _) _).trans (hb1.mono (by simp))⟩
/-- what both Hash functions compute, of the numbers of any api.Key (none: the row is no int64) -/
def hashF (t r : Int) : Option Int := if -9223372036854775808 ≤ r ∧ r ≤ 9223372036854775807 then some (if 0 ≤ t ∧ t ≤ 65535 then hashU t (ux r) else 0) else none
theorem hash_given (t r h : Int) (w : World) (e : hashF t r = some h) :
    Calls Tryd.prog 35 #[.agg #[.int .i64 t, .int .i64 r]] w fun e w' => e = .returned (.int .u64 h) ∧ Below w.heap.size w w' := by
  unfold hashF at e
  split at e
  · rename_i hr
    obtain rfl := Option.some.inj e
    by_cases ht : 0 ≤ t ∧ t ≤ 65535
    · rw [if_pos ht]
      exact hash_calls t r w ht.1 ht.2 hr.1 hr.2
    · rw [if_neg ht]
      exact hash_none t r w (by omega)
  · cases e
end Go.Proofs.YtbmfldoobkeieaaDoor.KForm
