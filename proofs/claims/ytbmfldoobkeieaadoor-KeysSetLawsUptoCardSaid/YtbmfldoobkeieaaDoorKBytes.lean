/- The walks of keys.Bytes and of the reference's Bytes: a new slice of a key's ten bytes; of what is no key nil and 20. -/
import Derived.Test.YtbmfldoobkeieaaDoorKForm
import Derived.Test.YtbmfldoobkeieaaDoorWMore
import Derived.Laws.AppendOwn
import Derived.Laws.OwnMore
namespace Go.Proofs.YtbmfldoobkeieaaDoor.KForm
open Go.RowKit
set_option linter.unusedVariables false
set_option linter.unusedSimpArgs false

theorem info5 : (Tryd.prog.info? 5).map (fun i => (i.zero, i.size, i.bytes)) = some (some (.int .u8 0), 1, 1) := by kernel_rfl
theorem add_zero_off (b j : Nat) : (⟨b, 0, none⟩ : Addr).add j = ⟨b, j, none⟩ := by
  unfold Addr.add
  split
  · rename_i h; subst h; rfl
  · simp
theorem own_base {w : World} {base e size n : Nat} {v : Value} {xs : List Value} (h : w.ownsRow base e size v n xs) : ∀ k, v.ownBlock = some k → base ≤ k := by
  intro k hk
  rcases h.2 with ⟨rfl, _⟩ | ⟨g, cap, cur, rfl, hg, hh, r⟩
  · simp [Value.ownBlock] at hk
  · have : g = k := by simpa [Value.ownBlock] using hk
    omega
theorem own_lower {w : World} {base base' e size n : Nat} {v : Value} {xs : List Value} (h : w.ownsRow base e size v n xs) (hb : base' ≤ base) : w.ownsRow base' e size v n xs := by
  obtain ⟨h1, h2⟩ := h
  refine ⟨h1, ?_⟩
  rcases h2 with h2 | ⟨g, cap, cur, hv, hg, r⟩
  · exact .inl h2
  · exact .inr ⟨g, cap, cur, hv, by omega, r⟩
set_option maxHeartbeats 1600000 in
set_option maxRecDepth 100000 in
theorem bytes_b (t r b0 b1 b2 b3 b4 b5 b6 b7 b8 b9 : Int) (w : World) (ht : 0 ≤ t) (ht2 : t ≤ 65535)
    (hf : ∀ W, Calls Tryd.prog 36 #[.agg #[.int .i64 t, .int .i64 r]] W fun e w' => e = .returned (.agg #[.int .u8 b0, .int .u8 b1, .int .u8 b2, .int .u8 b3, .int .u8 b4, .int .u8 b5, .int .u8 b6, .int .u8 b7, .int .u8 b8, .int .u8 b9]) ∧ Below W.heap.size W w') :
    Calls Tryd.prog 16 #[.agg #[.int .i64 t, .int .i64 r]] w fun e w' => ∃ v, e = .returned (.tuple #[v, .int .i64 0]) ∧ w'.ownsRow w.heap.size 5 1 v 10 ([b0, b1, b2, b3, b4, b5, b6, b7, b8, b9].map (Value.int .u8)) ∧ Below w.heap.size w w' := by
  have HF := Lib.hid hf
  clear hf
  obtain ⟨i0, hi, hz0, hz1, hz2⟩ := info_parts info5
  go_enter Tryd.func16, Tryd.ntmps16
  go_wp2_with fail
  refine (check_calls t r 0 _ (by unfold checkF; rw [if_neg (by omega), if_neg (by omega)])).mono ?_
  rintro e w1 ⟨rfl, hb1⟩
  obtain ⟨hc1, hf1⟩ := bcell hb1
  have hz1' := hb1.size
  go_wp2_with fail
  refine (HF.out _).mono ?_
  rintro e w2 ⟨rfl, hb2⟩
  clear hc1 hf1 hz1'
  have hle : w.heap.size + 1 ≤ w2.heap.size := by have := hb1.size; have := hb2.size; simp at *; omega
  have hbel : Below w.heap.size w w2 := (((Below.refl _ _).alloc (Nat.le_refl _) _).trans (hb1.mono (by simp))).trans (hb2.mono (by have := hb1.size; simp at this; omega))
  clear hb1 hb2
  go_wp2_with (at_builtin; refine wpList_append_own _ rfl _ _ 37 rfl w.heap.size 5 i0 (.int .u8 0) 1 1 Tryd.underlying37 hi hz0 hz1 hz2 rfl (by decide) _ _ _ rfl (World.ownsRow_nil _ _ _ _) ⟨w2.heap.size, 0, none⟩ 10 10 [.int .u8 b0, .int .u8 b1, .int .u8 b2, .int .u8 b3, .int .u8 b4, .int .u8 b5, .int .u8 b6, .int .u8 b7, .int .u8 b8, .int .u8 b9] rfl rfl ?c1 ?c2 ?c3 ?c4 ?c5 ?_)
  case c1 =>
    intro j u hj
    rw [add_zero_off, World.cell?_alloc_at _ _ _ _ rfl]
    simpa using hj
  case c2 => simp [Value.oneCell']
  case c3 => unfold maxLen; omega
  case c4 => omega
  case c5 => simp; omega
  intro v' w3 hown hg _
  go_wp2
  go_ret2
  refine ⟨_, rfl, by simpa using hown, ?_⟩
  exact ((hbel.alloc (by omega) _)).grown hg (by simp; omega) (fun j hj => by simp [Value.ownBlock] at hj)
theorem bytes_none (t r : Int) (w : World) (ht : t < 0 ∨ 65535 < t) :
    Calls Tryd.prog 16 #[.agg #[.int .i64 t, .int .i64 r]] w fun e w' => e = .returned (.tuple #[.slice none 0 0, .int .i64 20]) ∧ Below w.heap.size w w' := by
  have hk : checkF t r = some 20 := by
    unfold checkF
    by_cases h : t < 0
    · rw [if_pos h]
    · rw [if_neg h, if_pos (by omega)]
  go_enter Tryd.func16, Tryd.ntmps16
  go_wp2_with fail
  refine (check_calls t r 20 _ hk).mono ?_
  rintro e w1 ⟨rfl, hb1⟩
  go_wp2_with fail
  go_ret2
  exact ⟨rfl, ((Below.refl _ _).alloc (Nat.le_refl _) _).trans (hb1.mono (by simp))⟩
/-- a key's ten bytes -/
def bytesU (t u : Int) : List Int := [t / 256, t % 256, u / 72057594037927936, u / 281474976710656 % 256, u / 1099511627776 % 256, u / 4294967296 % 256, u / 16777216 % 256, u / 65536 % 256, u / 256 % 256, u % 256]
theorem bytes_calls (t r : Int) (w : World) (ht : 0 ≤ t) (ht2 : t ≤ 65535) (hr : -9223372036854775808 ≤ r) (hr2 : r ≤ 9223372036854775807) :
    Calls Tryd.prog 16 #[.agg #[.int .i64 t, .int .i64 r]] w fun e w' => ∃ v, e = .returned (.tuple #[v, .int .i64 0]) ∧ w'.ownsRow w.heap.size 5 1 v 10 ((bytesU t (ux r)).map (Value.int .u8)) ∧ Below w.heap.size w w' :=
  bytes_b t r _ _ _ _ _ _ _ _ _ _ w ht ht2 (fun W => form_u t r (ux r) rfl W (ux_lo r) (ux_hi r) ht ht2 hr hr2)
open Go.Proofs.YtbmfldoobkeieaaDoorW.PrintWords in
/-- both, in the print's own form -/
def bytesF (t r : Int) : Option (List Int × Int) := if -9223372036854775808 ≤ r ∧ r ≤ 9223372036854775807 then some (if 0 ≤ t ∧ t ≤ 65535 then (bytesU t (ux r), 0) else ([], 20)) else none
open Go.Proofs.YtbmfldoobkeieaaDoorW.PrintWords in
theorem bytes_given (t r : Int) (r1 : List Int) (r2 : Int) (w : World) (h : bytesF t r = some (r1, r2)) :
    Calls Tryd.prog 16 #[.agg #[.int .i64 t, .int .i64 r]] w fun e w' => ∃ v0_ : Value, e = .returned (.tuple #[v0_, .int .i64 r2]) ∧ Kd.R (Kd.int .u8) 5 w' w.heap.size (fun _ => True) v0_ r1 ∧ Below w.heap.size w w' := by
  unfold bytesF at h
  split at h
  · rename_i hr
    have h := Option.some.inj h
    by_cases ht : 0 ≤ t ∧ t ≤ 65535
    · rw [if_pos ht] at h
      obtain ⟨rfl, rfl⟩ := Prod.mk.inj h
      refine (bytes_calls t r w ht.1 ht.2 hr.1 hr.2).mono ?_
      rintro e w' ⟨v, rfl, hown, hb⟩
      exact ⟨v, rfl, Kd.R_of_own (enc := Value.int .u8) (h1 := fun _ => rfl) (xs := bytesU t (ux r)) hown (fun _ _ => trivial), hb⟩
    · rw [if_neg ht] at h
      obtain ⟨rfl, rfl⟩ := Prod.mk.inj h
      refine (bytes_none t r w (by omega)).mono ?_
      rintro e w' ⟨rfl, hb⟩
      exact ⟨_, rfl, Kd.R_nil _ _ _ _ _, hb⟩
  · cases h
end Go.Proofs.YtbmfldoobkeieaaDoor.KForm
