/- The walks of the reference's Check, ten, Hash and Bytes: what the program's compute. -/
import Derived.Test.YtbmfldoobkeieaaKHash
import Derived.Test.YtbmfldoobkeieaaKBytes
namespace Go.Proofs.Ytbmfldoobkeieaa.KForm
open Go.RowKit
set_option linter.unusedVariables false
set_option linter.unusedSimpArgs false

theorem rcheck_calls (t r e : Int) (w : World) (h : checkF t r = some e) :
    Calls Try.prog 28 #[.agg #[.int .i64 t, .int .i64 r]] w fun x w' => x = .returned (.int .i64 e) ∧ Below w.heap.size w w' := by
  unfold checkF at h
  by_cases h1 : t < 0
  · rw [if_pos h1] at h
    obtain rfl := Option.some.inj h
    go_enter Try.func28, Try.ntmps28
    go_wp2
    go_ret
    exact ⟨rfl, by go_grown⟩
  · rw [if_neg h1] at h
    by_cases h2 : t > 65535
    · rw [if_pos h2] at h
      obtain rfl := Option.some.inj h
      go_enter Try.func28, Try.ntmps28
      go_wp2
      go_ret
      exact ⟨rfl, by go_grown⟩
    · rw [if_neg h2] at h
      obtain rfl := Option.some.inj h
      go_enter Try.func28, Try.ntmps28
      go_wp2
      go_ret
      exact ⟨rfl, by go_grown⟩
set_option maxHeartbeats 800000 in
set_option maxRecDepth 100000 in
theorem ten_u (t r u : Int) (hx : ux r = u) (w : World) (hu1 : 0 ≤ u) (hu2 : u ≤ 18446744073709551615) (ht : 0 ≤ t) (ht2 : t ≤ 65535) (hr : -9223372036854775808 ≤ r) (hr2 : r ≤ 9223372036854775807) :
    Calls Try.prog 38 #[.agg #[.int .i64 t, .int .i64 r]] w fun e w' => e = .returned (.agg #[.int .u8 (t / 256), .int .u8 (t % 256), .int .u8 (u / 72057594037927936), .int .u8 (u / 281474976710656 % 256),
      .int .u8 (u / 1099511627776 % 256), .int .u8 (u / 4294967296 % 256), .int .u8 (u / 16777216 % 256), .int .u8 (u / 65536 % 256), .int .u8 (u / 256 % 256), .int .u8 (u % 256)]) ∧ Below w.heap.size w w' := by
  have HX := Lib.hid hx
  clear hx
  go_enter Try.func38, Try.ntmps38
  go_wp2
  rw [ux_def, HX.out]
  go_rounds 9
  go_returns
  exact ⟨ar_eq _ _ _ _ _ _ _ _ _ _ _ _ _ _ _ _ _ _ _ _ (by omega) (by omega) (by omega) (by omega) (by omega) (by omega) (by omega) (by omega) (by omega) (by omega), by go_grown⟩
set_option maxHeartbeats 1600000 in
set_option maxRecDepth 100000 in
theorem rhash_b (t r b0 b1 b2 b3 b4 b5 b6 b7 b8 b9 : Int) (w : World) (ht : 0 ≤ t) (ht2 : t ≤ 65535)
    (hf : ∀ W, Calls Try.prog 38 #[.agg #[.int .i64 t, .int .i64 r]] W fun e w' => e = .returned (.agg #[.int .u8 b0, .int .u8 b1, .int .u8 b2, .int .u8 b3, .int .u8 b4, .int .u8 b5, .int .u8 b6, .int .u8 b7, .int .u8 b8, .int .u8 b9]) ∧ Below W.heap.size W w')
    (h0 : 0 ≤ b0 ∧ b0 ≤ 255) (h1 : 0 ≤ b1 ∧ b1 ≤ 255) (h2 : 0 ≤ b2 ∧ b2 ≤ 255) (h3 : 0 ≤ b3 ∧ b3 ≤ 255) (h4 : 0 ≤ b4 ∧ b4 ≤ 255) (h5 : 0 ≤ b5 ∧ b5 ≤ 255) (h6 : 0 ≤ b6 ∧ b6 ≤ 255) (h7 : 0 ≤ b7 ∧ b7 ≤ 255) (h8 : 0 ≤ b8 ∧ b8 ≤ 255) (h9 : 0 ≤ b9 ∧ b9 ≤ 255) :
    Calls Try.prog 25 #[.agg #[.int .i64 t, .int .i64 r]] w fun e w' => e = .returned (.int .u64 (hash10 b0 b1 b2 b3 b4 b5 b6 b7 b8 b9)) ∧ Below w.heap.size w w' := by
  have HF := Lib.hid hf
  clear hf
  go_enter Try.func25, Try.ntmps25
  go_wp2_with fail
  refine (rcheck_calls t r 0 _ (by unfold checkF; rw [if_neg (by omega), if_neg (by omega)])).mono ?_
  rintro e w1 ⟨rfl, hb1⟩
  obtain ⟨hc1, hf1⟩ := bcell hb1
  have hz1 := hb1.size
  go_wp2_with fail
  refine (HF.out _).mono ?_
  rintro e w2 ⟨rfl, hb2⟩
  clear hc1 hf1 hz1
  go_wp2_with fail
  go_rounds 11
  simp only [hstep_def]
  go_ret
  exact ⟨rfl, ((((Below.refl _ _).alloc (Nat.le_refl _) _).trans (hb1.mono (by simp))).trans (hb2.mono (by have := hb1.size; simp at this; omega))).alloc (by have := hb1.size; have := hb2.size; simp at *; omega) _⟩
theorem rhash_calls (t r : Int) (w : World) (ht : 0 ≤ t) (ht2 : t ≤ 65535) (hr : -9223372036854775808 ≤ r) (hr2 : r ≤ 9223372036854775807) :
    Calls Try.prog 25 #[.agg #[.int .i64 t, .int .i64 r]] w fun e w' => e = .returned (.int .u64 (hashU t (ux r))) ∧ Below w.heap.size w w' := by
  have h1 := ux_lo r
  have h2 := ux_hi r
  exact rhash_b t r _ _ _ _ _ _ _ _ _ _ w ht ht2 (fun W => ten_u t r (ux r) rfl W h1 h2 ht ht2 hr hr2) (by omega) (by omega) (by omega) (by omega) (by omega) (by omega) (by omega) (by omega) (by omega) (by omega)
theorem rhash_none (t r : Int) (w : World) (ht : t < 0 ∨ 65535 < t) :
    Calls Try.prog 25 #[.agg #[.int .i64 t, .int .i64 r]] w fun e w' => e = .returned (.int .u64 0) ∧ Below w.heap.size w w' := by
  have hk : checkF t r = some 20 := by
    unfold checkF
    by_cases h : t < 0
    · rw [if_pos h]
    · rw [if_neg h, if_pos (by omega)]
  go_enter Try.func25, Try.ntmps25
  go_wp2_with fail
  refine (rcheck_calls t r 20 _ hk).mono ?_
  rintro e w1 ⟨rfl, hb1⟩
  go_wp2_with fail
  go_ret
  exact ⟨rfl, ((Below.refl _ _).alloc (Nat.le_refl _) _).trans (hb1.mono (by simp))⟩
theorem rhash_given (t r h : Int) (w : World) (e : hashF t r = some h) :
    Calls Try.prog 25 #[.agg #[.int .i64 t, .int .i64 r]] w fun e w' => e = .returned (.int .u64 h) ∧ Below w.heap.size w w' := by
  unfold hashF at e
  split at e
  · rename_i hr
    obtain rfl := Option.some.inj e
    by_cases ht : 0 ≤ t ∧ t ≤ 65535
    · rw [if_pos ht]
      exact rhash_calls t r w ht.1 ht.2 hr.1 hr.2
    · rw [if_neg ht]
      exact rhash_none t r w (by omega)
  · cases e
set_option maxHeartbeats 1600000 in
set_option maxRecDepth 100000 in
theorem rbytes_b (t r b0 b1 b2 b3 b4 b5 b6 b7 b8 b9 : Int) (w : World) (ht : 0 ≤ t) (ht2 : t ≤ 65535)
    (hf : ∀ W, Calls Try.prog 38 #[.agg #[.int .i64 t, .int .i64 r]] W fun e w' => e = .returned (.agg #[.int .u8 b0, .int .u8 b1, .int .u8 b2, .int .u8 b3, .int .u8 b4, .int .u8 b5, .int .u8 b6, .int .u8 b7, .int .u8 b8, .int .u8 b9]) ∧ Below W.heap.size W w') :
    Calls Try.prog 16 #[.agg #[.int .i64 t, .int .i64 r]] w fun e w' => ∃ v, e = .returned (.tuple #[v, .int .i64 0]) ∧ w'.ownsRow w.heap.size 5 1 v 10 ([b0, b1, b2, b3, b4, b5, b6, b7, b8, b9].map (Value.int .u8)) ∧ Below w.heap.size w w' := by
  have HF := Lib.hid hf
  clear hf
  obtain ⟨i0, hi, hz0, hz1, hz2⟩ := info_parts info5
  go_enter Try.func16, Try.ntmps16
  go_wp2_with fail
  refine (rcheck_calls t r 0 _ (by unfold checkF; rw [if_neg (by omega), if_neg (by omega)])).mono ?_
  rintro e w1 ⟨rfl, hb1⟩
  obtain ⟨hc1, hf1⟩ := bcell hb1
  have hz1' := hb1.size
  go_wp2_with fail
  refine (HF.out _).mono ?_
  rintro e w2 ⟨rfl, hb2⟩
  clear hc1 hf1 hz1'
  have hle : w.heap.size + 1 ≤ w2.heap.size := by have := hb1.size; have := hb2.size; simp at *; omega
  have hbel : Below w.heap.size w w2 := (((Below.refl _ _).alloc (Nat.le_refl _) _).trans (hb1.mono (by simp))).trans (hb2.mono (by have := hb1.size; simp at this; omega))
  clear hb1 hb2
  go_wp2_with fail
  obtain ⟨B, hB⟩ : ∃ B, B = w2.heap.size := ⟨_, rfl⟩
  obtain ⟨W0, hW0⟩ : ∃ W0, W0 = w2.alloc (.cells #[.int .u8 b0, .int .u8 b1, .int .u8 b2, .int .u8 b3, .int .u8 b4, .int .u8 b5, .int .u8 b6, .int .u8 b7, .int .u8 b8, .int .u8 b9] 61) := ⟨_, rfl⟩
  have hcells : ∀ j u, [b0, b1, b2, b3, b4, b5, b6, b7, b8, b9][j]? = some u → W0.cell? ⟨B, j, none⟩ = some (.int .u8 u) := by
    intro j u hj
    rw [hW0, hB, World.cell?_alloc_at _ _ _ _ rfl]
    match j, hj with
    | 0, h => simpa using h
    | 1, h => simpa using h
    | 2, h => simpa using h
    | 3, h => simpa using h
    | 4, h => simpa using h
    | 5, h => simpa using h
    | 6, h => simpa using h
    | 7, h => simpa using h
    | 8, h => simpa using h
    | 9, h => simpa using h
    | _ + 10, h => simp at h
  have hWs : W0.heap.size = B + 1 := by rw [hW0, hB]; simp
  have hbel0 : Below w.heap.size w W0 := by rw [hW0]; exact hbel.alloc (by omega) _
  have hBw : w.heap.size ≤ B := by omega
  rw [← hW0, ← hB]
  clear hW0 hB hbel hle
  go_loopw [6, 7] (fun v i wr => ∃ k : Nat, k ≤ 10 ∧ i = .int .i64 k ∧ wr.ownsRow (B + 1) 5 1 v k (([b0, b1, b2, b3, b4, b5, b6, b7, b8, b9].take k).map (Value.int .u8)) ∧ Below (B + 1) W0 wr) (fun _ i _ => 10 - (intOf i).toNat)
  case atStart => exact ⟨0, by omega, rfl, World.ownsRow_nil _ _ _ _, Below.refl _ _⟩
  case round =>
    obtain ⟨k, hk, rfl, hown, hbw⟩ := hrel
    by_cases hlt : k < 10
    · have hcl : wr.cell? ⟨B, k, none⟩ = some (.int .u8 ([b0, b1, b2, b3, b4, b5, b6, b7, b8, b9].getD k 0)) := by
        rw [hbw.cell (p := ⟨B, k, none⟩) (by simp)]
        exact hcells k _ (by rw [List.getD_eq_getElem?_getD, List.getElem?_eq_getElem (by simpa using hlt)]; rfl)
      have hsz := hbw.size
      have HT : Hid (([b0, b1, b2, b3, b4, b5, b6, b7, b8, b9].take (k + 1)).map (Value.int .u8) = ([b0, b1, b2, b3, b4, b5, b6, b7, b8, b9].take k).map (Value.int .u8) ++ [.int .u8 ([b0, b1, b2, b3, b4, b5, b6, b7, b8, b9].getD k 0)]) := by
        rw [List.take_succ_eq_append_getElem (by simpa using hlt), List.map_append, List.getD_eq_getElem?_getD, List.getElem?_eq_getElem (by simpa using hlt)]; rfl
      have HW := Lib.hid hWs
      generalize [b0, b1, b2, b3, b4, b5, b6, b7, b8, b9].getD k 0 = x at hcl HT
      generalize ([b0, b1, b2, b3, b4, b5, b6, b7, b8, b9].take k).map (Value.int .u8) = xs at hown HT
      have HC := Lib.hid hcells
      clear hcells hWs
      go_wp2_with (at_builtin; refine wpList_append_own _ rfl _ _ 31 rfl (B + 1) 5 i0 (.int .u8 0) 1 1 Try.underlying31 hi hz0 hz1 hz2 rfl (by decide) _ _ _ rfl (hown.alloc _) ⟨wr.heap.size, 0, none⟩ 1 1 [.int .u8 x] rfl rfl (cell_one_new _ _ _) ?c2 ?c3 ?c4 ?c5 ?_)
      case c2 => simp [Value.oneCell']
      case c3 => unfold maxLen; omega
      case c4 => omega
      case c5 => have := HW.out; simp; omega
      intro v' w3 hown' hg _
      go_wp2
      go_roundw
      case rel =>
        refine ⟨k + 1, by omega, by go_num, by rw [HT.out]; exact hown', ?_⟩
        have := HW.out
        exact (hbw.alloc (by omega) _).grown hg (by simp; omega) (own_base hown)
      case measure => simp [intOf]; omega
    · obtain rfl : k = 10 := by omega
      go_wp2
      go_ret2
      refine ⟨_, rfl, ?_, hbel0.trans (hbw.mono (by omega))⟩
      exact own_lower hown (by omega)
theorem rbytes_none (t r : Int) (w : World) (ht : t < 0 ∨ 65535 < t) :
    Calls Try.prog 16 #[.agg #[.int .i64 t, .int .i64 r]] w fun e w' => e = .returned (.tuple #[.slice none 0 0, .int .i64 20]) ∧ Below w.heap.size w w' := by
  have hk : checkF t r = some 20 := by
    unfold checkF
    by_cases h : t < 0
    · rw [if_pos h]
    · rw [if_neg h, if_pos (by omega)]
  go_enter Try.func16, Try.ntmps16
  go_wp2_with fail
  refine (rcheck_calls t r 20 _ hk).mono ?_
  rintro e w1 ⟨rfl, hb1⟩
  go_wp2_with fail
  go_ret2
  exact ⟨rfl, ((Below.refl _ _).alloc (Nat.le_refl _) _).trans (hb1.mono (by simp))⟩
theorem rbytes_calls (t r : Int) (w : World) (ht : 0 ≤ t) (ht2 : t ≤ 65535) (hr : -9223372036854775808 ≤ r) (hr2 : r ≤ 9223372036854775807) :
    Calls Try.prog 16 #[.agg #[.int .i64 t, .int .i64 r]] w fun e w' => ∃ v, e = .returned (.tuple #[v, .int .i64 0]) ∧ w'.ownsRow w.heap.size 5 1 v 10 ((bytesU t (ux r)).map (Value.int .u8)) ∧ Below w.heap.size w w' :=
  rbytes_b t r _ _ _ _ _ _ _ _ _ _ w ht ht2 (fun W => ten_u t r (ux r) rfl W (ux_lo r) (ux_hi r) ht ht2 hr hr2)
open Go.Proofs.YtbmfldoobkeieaaW.PrintWords in
theorem rbytes_given (t r : Int) (r1 : List Int) (r2 : Int) (w : World) (h : bytesF t r = some (r1, r2)) :
    Calls Try.prog 16 #[.agg #[.int .i64 t, .int .i64 r]] w fun e w' => ∃ v0_ : Value, e = .returned (.tuple #[v0_, .int .i64 r2]) ∧ Kd.R (Kd.int .u8) 5 w' w.heap.size (fun _ => True) v0_ r1 ∧ Below w.heap.size w w' := by
  unfold bytesF at h
  split at h
  · rename_i hr
    have h := Option.some.inj h
    by_cases ht : 0 ≤ t ∧ t ≤ 65535
    · rw [if_pos ht] at h
      obtain ⟨rfl, rfl⟩ := Prod.mk.inj h
      refine (rbytes_calls t r w ht.1 ht.2 hr.1 hr.2).mono ?_
      rintro e w' ⟨v, rfl, hown, hb⟩
      exact ⟨v, rfl, Kd.R_of_own (enc := Value.int .u8) (h1 := fun _ => rfl) (xs := bytesU t (ux r)) hown (fun _ _ => trivial), hb⟩
    · rw [if_neg ht] at h
      obtain ⟨rfl, rfl⟩ := Prod.mk.inj h
      refine (rbytes_none t r w (by omega)).mono ?_
      rintro e w' ⟨rfl, hb⟩
      exact ⟨_, rfl, Kd.R_nil _ _ _ _ _, hb⟩
  · cases h
end Go.Proofs.Ytbmfldoobkeieaa.KForm
