/- FromBytes and the reference's FromBytes tell the same of any bytes. Plain. -/
import Derived.Test.YtbmfldoobkeieaaKFrom
import Derived.Test.YtbmfldoobkeieaaGByx1
namespace Go.Proofs.Ytbmfldoobkeieaa.PureBy
open Go.RowKit Go.Proofs.Ytbmfldoobkeieaa.KForm Go.Proofs.Ytbmfldoobkeieaa.GBy Go.Proofs.YtbmfldoobkeieaaW.PrintWords
set_option linter.unusedVariables false
set_option linter.unusedSimpArgs false

theorem nat_low (x : Nat) (h : x < 9223372036854775808) : x ^^^ 9223372036854775808 = x + 9223372036854775808 := by
  have e : (9223372036854775808 : Nat) = 2 ^ 63 := by decide
  have h2 : x < 2 ^ 63 := by omega
  have h1 := Nat.two_pow_add_eq_or_of_lt h2 1
  rw [Nat.mul_one] at h1
  rw [e, Nat.add_comm, h1]
  apply Nat.eq_of_testBit_eq
  intro i
  rw [Nat.testBit_xor, Nat.testBit_or, Nat.testBit_two_pow]
  by_cases hi : 63 = i
  · subst hi
    rw [Nat.testBit_lt_two_pow h2]; simp
  · simp [hi]
theorem nat_high (x : Nat) (h1 : 9223372036854775808 ≤ x) (h2 : x < 18446744073709551616) : x ^^^ 9223372036854775808 = x - 9223372036854775808 := by
  obtain ⟨y, rfl⟩ : ∃ y, x = y + 9223372036854775808 := ⟨x - 9223372036854775808, by omega⟩
  rw [← nat_low y (by omega), Nat.xor_assoc, Nat.xor_self, Nat.xor_zero, nat_low y (by omega)]
  omega
theorem int_xor (x : Int) (h0 : 0 ≤ x) (h1 : x ≤ 18446744073709551615) : bits BinOp.xor IntKind.u64 x 9223372036854775808 = if x < 9223372036854775808 then x + 9223372036854775808 else x - 9223372036854775808 := by
  rw [u64_xor x 9223372036854775808 h0 (by omega) (by omega) (by omega)]
  have e : (9223372036854775808 : Int).toNat = 9223372036854775808 := rfl
  rw [e]
  by_cases h : x < 9223372036854775808
  · rw [if_pos h, nat_low _ (by omega)]; omega
  · rw [if_neg h, nat_high _ (by omega) (by omega)]; omega
theorem ux_val (r : Int) (h1 : -9223372036854775808 ≤ r) (h2 : r ≤ 9223372036854775807) : ux r = r + 9223372036854775808 := by
  unfold ux
  rw [IntKind.wrap_u64, int_xor _ (by omega) (by omega)]
  split <;> omega
theorem rx_val (u : Int) (h1 : 0 ≤ u) (h2 : u ≤ 18446744073709551615) : rx u = u - 9223372036854775808 := by
  unfold rx
  rw [int_xor _ (by omega) (by omega)]
  unfold wrap64
  split <;> omega
theorem nat_or (u x : Nat) (h : x < 256) : (u * 256) ||| x = u * 256 + x := by
  have := Nat.two_pow_add_eq_or_of_lt (i := 8) h u
  rw [Nat.mul_comm u 256]
  exact this.symm
theorem fstep_val (u x : Int) (h0 : 0 ≤ u) (h1 : u ≤ 72057594037927935) (h2 : 0 ≤ x) (h3 : x ≤ 255) : fstep u x = u * 256 + x := by
  unfold fstep
  rw [IntKind.wrap_u64, show u * 256 % 18446744073709551616 = u * 256 by omega, u64_or _ _ (by omega) (by omega) (by omega) (by omega)]
  obtain ⟨n, rfl⟩ := Int.eq_ofNat_of_zero_le h0
  obtain ⟨m, rfl⟩ := Int.eq_ofNat_of_zero_le h2
  rw [show ((n : Int) * 256).toNat = n * 256 by omega, Int.toNat_natCast, nat_or n m (by omega)]
  omega
theorem first_val (x : Int) (h2 : 0 ≤ x) (h3 : x ≤ 255) : bits BinOp.or IntKind.u64 0 x = x := by
  have := fstep_val 0 x (by omega) (by omega) h2 h3
  unfold fstep at this
  simpa [IntKind.wrap_u64] using this
theorem tab2_val (x y : Int) (h0 : 0 ≤ x) (h1 : x ≤ 255) (h2 : 0 ≤ y) (h3 : y ≤ 255) : tab2 x y = x * 256 + y := by
  unfold tab2
  obtain ⟨n, rfl⟩ := Int.eq_ofNat_of_zero_le h0
  obtain ⟨m, rfl⟩ := Int.eq_ofNat_of_zero_le h2
  rw [show (n : Int) * 256 = ((n * 256 : Nat) : Int) by omega]
  show IntKind.i64.wrap ((BitVec.ofInt 64 ((n * 256 : Nat) : Int) ||| BitVec.ofInt 64 (m : Int)).toNat : Int) = _
  rw [BitVec.toNat_or, ofInt_u64 _ (by omega), ofInt_u64 _ (by omega), nat_or n m (by omega), IntKind.wrap_i64]
  omega
theorem from8_val (a2 a3 a4 a5 a6 a7 a8 a9 : Int) (ha2 : 0 ≤ a2 ∧ a2 ≤ 255) (ha3 : 0 ≤ a3 ∧ a3 ≤ 255) (ha4 : 0 ≤ a4 ∧ a4 ≤ 255) (ha5 : 0 ≤ a5 ∧ a5 ≤ 255) (ha6 : 0 ≤ a6 ∧ a6 ≤ 255) (ha7 : 0 ≤ a7 ∧ a7 ≤ 255) (ha8 : 0 ≤ a8 ∧ a8 ≤ 255) (ha9 : 0 ≤ a9 ∧ a9 ≤ 255) : from8 a2 a3 a4 a5 a6 a7 a8 a9 = a2 * 72057594037927936 + a3 * 281474976710656 + a4 * 1099511627776 + a5 * 4294967296 + a6 * 16777216 + a7 * 65536 + a8 * 256 + a9 := by
  unfold from8
  rw [first_val _ ha2.1 ha2.2, fstep_val a2 a3 (by omega) (by omega) (by omega) (by omega)]
  rw [fstep_val _ a4 (by omega) (by omega) (by omega) (by omega), fstep_val _ a5 (by omega) (by omega) (by omega) (by omega), fstep_val _ a6 (by omega) (by omega) (by omega) (by omega), fstep_val _ a7 (by omega) (by omega) (by omega) (by omega),
    fstep_val _ a8 (by omega) (by omega) (by omega) (by omega), fstep_val _ a9 (by omega) (by omega) (by omega) (by omega)]
  omega
theorem ref_step (l : List Int) (hl : l.length = 10) (k i : Nat) (hi : i < 10) (b u : Int) (hb : rd l (i : Int) = b) (h0 : 0 ≤ u) (h1 : u ≤ 72057594037927935) (h2 : 0 ≤ b) (h3 : b ≤ 255) :
    preluderef02_FromBytes.l0 (k + 1) l u i = preluderef02_FromBytes.l0 k l (u * 256 + b) ((i + 1 : Nat) : Int) := by
  rw [preluderef02_FromBytes.l0, if_pos (by omega), if_pos (by omega), if_pos (by omega), hb, show wrap64 ((i : Int) + 1) = ((i + 1 : Nat) : Int) by unfold wrap64; omega]
  congr 1
  rw [IntKind.wrap_u64, IntKind.wrap_u64, IntKind.wrap_u64]
  omega
theorem from_same (l : List Int) (hb : ∀ x ∈ l, 0 ≤ x ∧ x ≤ 255) : ∃ p, fromF l = some p ∧ preluderef02_FromBytes.f 12 l = some p := by
  unfold fromF preluderef02_FromBytes.f
  by_cases h1 : l.length < 10
  · exact ⟨_, if_pos h1, if_pos (by omega)⟩
  by_cases h2 : 10 < l.length
  · refine ⟨_, (if_neg h1).trans (if_pos h2), (if_neg (by omega)).trans (if_pos (by omega))⟩
  rw [if_neg h1, if_neg h2, if_neg (by omega), if_neg (by omega)]
  have h10 : l.length = 10 := by omega
  match l, h10, hb with
  | [b0, b1, b2, b3, b4, b5, b6, b7, b8, b9], h10, hb =>
    have g : ∀ x ∈ [b0, b1, b2, b3, b4, b5, b6, b7, b8, b9], 0 ≤ x ∧ x ≤ 255 := hb
    have a0 := hb b0 (by simp)
    have a1 := hb b1 (by simp)
    have a2 := hb b2 (by simp)
    have a3 := hb b3 (by simp)
    have a4 := hb b4 (by simp)
    have a5 := hb b5 (by simp)
    have a6 := hb b6 (by simp)
    have a7 := hb b7 (by simp)
    have a8 := hb b8 (by simp)
    have a9 := hb b9 (by simp)
    refine ⟨_, if_pos g, ?_⟩
    rw [show (2 : Int) = ((2 : Nat) : Int) from rfl, ref_step _ h10 11 2 (by omega) b2 0 rfl (by omega) (by omega) a2.1 a2.2, ref_step _ h10 10 3 (by omega) b3 _ rfl (by omega) (by omega) a3.1 a3.2, ref_step _ h10 9 4 (by omega) b4 _ rfl (by omega) (by omega) a4.1 a4.2,
      ref_step _ h10 8 5 (by omega) b5 _ rfl (by omega) (by omega) a5.1 a5.2, ref_step _ h10 7 6 (by omega) b6 _ rfl (by omega) (by omega) a6.1 a6.2, ref_step _ h10 6 7 (by omega) b7 _ rfl (by omega) (by omega) a7.1 a7.2,
      ref_step _ h10 5 8 (by omega) b8 _ rfl (by omega) (by omega) a8.1 a8.2, ref_step _ h10 4 9 (by omega) b9 _ rfl (by omega) (by omega) a9.1 a9.2]
    rw [preluderef02_FromBytes.l0, if_neg (by omega), if_pos (by simp), if_pos (by simp), from8_val b2 b3 b4 b5 b6 b7 b8 b9 a2 a3 a4 a5 a6 a7 a8 a9, tab2_val b0 b1 a0.1 a0.2 a1.1 a1.2]
    show some (wrap64 (wrap64 (wrap64 b0 * 256) + wrap64 b1), _, _) = _
    rw [show wrap64 (wrap64 (wrap64 b0 * 256) + wrap64 b1) = b0 * 256 + b1 by unfold wrap64; omega]
    rw [show (((((((0 * 256 + b2) * 256 + b3) * 256 + b4) * 256 + b5) * 256 + b6) * 256 + b7) * 256 + b8) * 256 + b9 = b2 * 72057594037927936 + b3 * 281474976710656 + b4 * 1099511627776 + b5 * 4294967296 + b6 * 16777216 + b7 * 65536 + b8 * 256 + b9 by omega]
    rfl
end Go.Proofs.Ytbmfldoobkeieaa.PureBy
