/- The pure side of KeysBytesOrder: the bytes of two keys are in the order of the keys; ten bytes are those of the key that they tell. No condition but that the numbers are of their kinds. -/
import Derived.Test.YtbmfldoobkeieaaDoorGKeysBytesOrderx4
import Derived.Laws.BitsAllLaws
namespace Go.Proofs.YtbmfldoobkeieaaDoor.keysBytesOrder
open Go.RowKit Go.Proofs.YtbmfldoobkeieaaDoor.GKeysBytesOrder Go.Proofs.YtbmfldoobkeieaaDoor.KForm Go.Proofs.YtbmfldoobkeieaaDoorW.PrintWords
set_option linter.unusedSimpArgs false
set_option linter.unusedVariables false

/-! ### the highest bit turned -/
theorem nat_low (x : Nat) (h : x < 9223372036854775808) : x ^^^ 9223372036854775808 = x + 9223372036854775808 := by
  have e : (9223372036854775808 : Nat) = 2 ^ 63 := by decide
  have h2 : x < 2 ^ 63 := by omega
  have h1 := Nat.two_pow_add_eq_or_of_lt h2 1
  rw [Nat.mul_one] at h1
  rw [e, Nat.add_comm, h1]
  apply Nat.eq_of_testBit_eq
  intro i
  rw [Nat.testBit_xor, Nat.testBit_or, Nat.testBit_two_pow]
  by_cases hi : 63 = i
  · subst hi
    rw [Nat.testBit_lt_two_pow h2]; simp
  · simp [hi]
theorem nat_high (x : Nat) (h1 : 9223372036854775808 ≤ x) (h2 : x < 18446744073709551616) : x ^^^ 9223372036854775808 = x - 9223372036854775808 := by
  obtain ⟨y, rfl⟩ : ∃ y, x = y + 9223372036854775808 := ⟨x - 9223372036854775808, by omega⟩
  rw [← nat_low y (by omega), Nat.xor_assoc, Nat.xor_self, Nat.xor_zero, nat_low y (by omega)]
  omega
theorem int_xor (x : Int) (h0 : 0 ≤ x) (h1 : x ≤ 18446744073709551615) : bits BinOp.xor IntKind.u64 x 9223372036854775808 = if x < 9223372036854775808 then x + 9223372036854775808 else x - 9223372036854775808 := by
  rw [u64_xor x 9223372036854775808 h0 (by omega) (by omega) (by omega)]
  have e : (9223372036854775808 : Int).toNat = 9223372036854775808 := rfl
  rw [e]
  by_cases h : x < 9223372036854775808
  · rw [if_pos h, nat_low _ (by omega)]; omega
  · rw [if_neg h, nat_high _ (by omega) (by omega)]; omega
theorem ux_val (r : Int) (h1 : -9223372036854775808 ≤ r) (h2 : r ≤ 9223372036854775807) : ux r = r + 9223372036854775808 := by
  unfold ux
  rw [IntKind.wrap_u64, int_xor _ (by omega) (by omega)]
  split <;> omega
theorem rx_val (u : Int) (h1 : 0 ≤ u) (h2 : u ≤ 18446744073709551615) : rx u = u - 9223372036854775808 := by
  unfold rx
  rw [int_xor _ (by omega) (by omega)]
  unfold wrap64
  split <;> omega
theorem nat_or (u x : Nat) (h : x < 256) : (u * 256) ||| x = u * 256 + x := by
  have := Nat.two_pow_add_eq_or_of_lt (i := 8) h u
  rw [Nat.mul_comm u 256]
  exact this.symm
theorem fstep_val (u x : Int) (h0 : 0 ≤ u) (h1 : u ≤ 72057594037927935) (h2 : 0 ≤ x) (h3 : x ≤ 255) : fstep u x = u * 256 + x := by
  unfold fstep
  rw [IntKind.wrap_u64, show u * 256 % 18446744073709551616 = u * 256 by omega, u64_or _ _ (by omega) (by omega) (by omega) (by omega)]
  obtain ⟨n, rfl⟩ := Int.eq_ofNat_of_zero_le h0
  obtain ⟨m, rfl⟩ := Int.eq_ofNat_of_zero_le h2
  rw [show ((n : Int) * 256).toNat = n * 256 by omega, Int.toNat_natCast, nat_or n m (by omega)]
  omega
theorem first_val (x : Int) (h2 : 0 ≤ x) (h3 : x ≤ 255) : bits BinOp.or IntKind.u64 0 x = x := by
  have := fstep_val 0 x (by omega) (by omega) h2 h3
  unfold fstep at this
  simpa [IntKind.wrap_u64] using this
theorem tab2_val (x y : Int) (h0 : 0 ≤ x) (h1 : x ≤ 255) (h2 : 0 ≤ y) (h3 : y ≤ 255) : tab2 x y = x * 256 + y := by
  unfold tab2
  obtain ⟨n, rfl⟩ := Int.eq_ofNat_of_zero_le h0
  obtain ⟨m, rfl⟩ := Int.eq_ofNat_of_zero_le h2
  rw [show (n : Int) * 256 = ((n * 256 : Nat) : Int) by omega]
  show IntKind.i64.wrap ((BitVec.ofInt 64 ((n * 256 : Nat) : Int) ||| BitVec.ofInt 64 (m : Int)).toNat : Int) = _
  rw [BitVec.toNat_or, ofInt_u64 _ (by omega), ofInt_u64 _ (by omega), nat_or n m (by omega), IntKind.wrap_i64]
  omega
theorem w0 : wrap64 (0 + 1) = 1 := by unfold wrap64; omega
theorem w1 : wrap64 (1 + 1) = 2 := by unfold wrap64; omega
theorem w2 : wrap64 (2 + 1) = 3 := by unfold wrap64; omega
theorem w3 : wrap64 (3 + 1) = 4 := by unfold wrap64; omega
theorem w4 : wrap64 (4 + 1) = 5 := by unfold wrap64; omega
theorem w5 : wrap64 (5 + 1) = 6 := by unfold wrap64; omega
theorem w6 : wrap64 (6 + 1) = 7 := by unfold wrap64; omega
theorem w7 : wrap64 (7 + 1) = 8 := by unfold wrap64; omega
theorem w8 : wrap64 (8 + 1) = 9 := by unfold wrap64; omega
theorem w9 : wrap64 (9 + 1) = 10 := by unfold wrap64; omega
theorem from8_val (a2 a3 a4 a5 a6 a7 a8 a9 : Int) (ha2 : 0 ≤ a2 ∧ a2 ≤ 255) (ha3 : 0 ≤ a3 ∧ a3 ≤ 255) (ha4 : 0 ≤ a4 ∧ a4 ≤ 255) (ha5 : 0 ≤ a5 ∧ a5 ≤ 255) (ha6 : 0 ≤ a6 ∧ a6 ≤ 255) (ha7 : 0 ≤ a7 ∧ a7 ≤ 255) (ha8 : 0 ≤ a8 ∧ a8 ≤ 255) (ha9 : 0 ≤ a9 ∧ a9 ≤ 255) : from8 a2 a3 a4 a5 a6 a7 a8 a9 = a2 * 72057594037927936 + a3 * 281474976710656 + a4 * 1099511627776 + a5 * 4294967296 + a6 * 16777216 + a7 * 65536 + a8 * 256 + a9 := by
  unfold from8
  rw [first_val _ ha2.1 ha2.2, fstep_val a2 a3 (by omega) (by omega) (by omega) (by omega)]
  rw [fstep_val _ a4 (by omega) (by omega) (by omega) (by omega), fstep_val _ a5 (by omega) (by omega) (by omega) (by omega), fstep_val _ a6 (by omega) (by omega) (by omega) (by omega), fstep_val _ a7 (by omega) (by omega) (by omega) (by omega),
    fstep_val _ a8 (by omega) (by omega) (by omega) (by omega), fstep_val _ a9 (by omega) (by omega) (by omega) (by omega)]
  omega
theorem same10 (k : Nat) (a0 a1 a2 a3 a4 a5 a6 a7 a8 a9 b0 b1 b2 b3 b4 b5 b6 b7 b8 b9 : Int) : preludelaw02_sameBytes.f (k + 11) [a0, a1, a2, a3, a4, a5, a6, a7, a8, a9] [b0, b1, b2, b3, b4, b5, b6, b7, b8, b9] = some (decide (a0 = b0 ∧ a1 = b1 ∧ a2 = b2 ∧ a3 = b3 ∧ a4 = b4 ∧ a5 = b5 ∧ a6 = b6 ∧ a7 = b7 ∧ a8 = b8 ∧ a9 = b9)) := by
  have ra0 : rd [a0, a1, a2, a3, a4, a5, a6, a7, a8, a9] 0 = a0 := rfl
  have ra1 : rd [a0, a1, a2, a3, a4, a5, a6, a7, a8, a9] 1 = a1 := rfl
  have ra2 : rd [a0, a1, a2, a3, a4, a5, a6, a7, a8, a9] 2 = a2 := rfl
  have ra3 : rd [a0, a1, a2, a3, a4, a5, a6, a7, a8, a9] 3 = a3 := rfl
  have ra4 : rd [a0, a1, a2, a3, a4, a5, a6, a7, a8, a9] 4 = a4 := rfl
  have ra5 : rd [a0, a1, a2, a3, a4, a5, a6, a7, a8, a9] 5 = a5 := rfl
  have ra6 : rd [a0, a1, a2, a3, a4, a5, a6, a7, a8, a9] 6 = a6 := rfl
  have ra7 : rd [a0, a1, a2, a3, a4, a5, a6, a7, a8, a9] 7 = a7 := rfl
  have ra8 : rd [a0, a1, a2, a3, a4, a5, a6, a7, a8, a9] 8 = a8 := rfl
  have ra9 : rd [a0, a1, a2, a3, a4, a5, a6, a7, a8, a9] 9 = a9 := rfl
  have rb0 : rd [b0, b1, b2, b3, b4, b5, b6, b7, b8, b9] 0 = b0 := rfl
  have rb1 : rd [b0, b1, b2, b3, b4, b5, b6, b7, b8, b9] 1 = b1 := rfl
  have rb2 : rd [b0, b1, b2, b3, b4, b5, b6, b7, b8, b9] 2 = b2 := rfl
  have rb3 : rd [b0, b1, b2, b3, b4, b5, b6, b7, b8, b9] 3 = b3 := rfl
  have rb4 : rd [b0, b1, b2, b3, b4, b5, b6, b7, b8, b9] 4 = b4 := rfl
  have rb5 : rd [b0, b1, b2, b3, b4, b5, b6, b7, b8, b9] 5 = b5 := rfl
  have rb6 : rd [b0, b1, b2, b3, b4, b5, b6, b7, b8, b9] 6 = b6 := rfl
  have rb7 : rd [b0, b1, b2, b3, b4, b5, b6, b7, b8, b9] 7 = b7 := rfl
  have rb8 : rd [b0, b1, b2, b3, b4, b5, b6, b7, b8, b9] 8 = b8 := rfl
  have rb9 : rd [b0, b1, b2, b3, b4, b5, b6, b7, b8, b9] 9 = b9 := rfl
  unfold preludelaw02_sameBytes.f
  simp only [preludelaw02_sameBytes.l0, List.length_cons, List.length_nil, w0, w1, w2, w3, w4, w5, w6, w7, w8, w9, ra0, ra1, ra2, ra3, ra4, ra5, ra6, ra7, ra8, ra9, rb0, rb1, rb2, rb3, rb4, rb5, rb6, rb7, rb8, rb9]
  by_cases e0 : a0 = b0
  case neg => simp [e0]
  by_cases e1 : a1 = b1
  case neg => simp [e0, e1]
  by_cases e2 : a2 = b2
  case neg => simp [e0, e1, e2]
  by_cases e3 : a3 = b3
  case neg => simp [e0, e1, e2, e3]
  by_cases e4 : a4 = b4
  case neg => simp [e0, e1, e2, e3, e4]
  by_cases e5 : a5 = b5
  case neg => simp [e0, e1, e2, e3, e4, e5]
  by_cases e6 : a6 = b6
  case neg => simp [e0, e1, e2, e3, e4, e5, e6]
  by_cases e7 : a7 = b7
  case neg => simp [e0, e1, e2, e3, e4, e5, e6, e7]
  by_cases e8 : a8 = b8
  case neg => simp [e0, e1, e2, e3, e4, e5, e6, e7, e8]
  by_cases e9 : a9 = b9
  case neg => simp [e0, e1, e2, e3, e4, e5, e6, e7, e8, e9]
  simp [e0, e1, e2, e3, e4, e5, e6, e7, e8, e9]
theorem below10 (k : Nat) (a0 a1 a2 a3 a4 a5 a6 a7 a8 a9 b0 b1 b2 b3 b4 b5 b6 b7 b8 b9 : Int) : preludelaw02_below.f (k + 22) [a0, a1, a2, a3, a4, a5, a6, a7, a8, a9] [b0, b1, b2, b3, b4, b5, b6, b7, b8, b9] = some (if a0 = b0 then (if a1 = b1 then (if a2 = b2 then (if a3 = b3 then (if a4 = b4 then (if a5 = b5 then (if a6 = b6 then (if a7 = b7 then (if a8 = b8 then (if a9 = b9 then false else decide (a9 < b9)) else decide (a8 < b8)) else decide (a7 < b7)) else decide (a6 < b6)) else decide (a5 < b5)) else decide (a4 < b4)) else decide (a3 < b3)) else decide (a2 < b2)) else decide (a1 < b1)) else decide (a0 < b0)) := by
  have ra0 : rd [a0, a1, a2, a3, a4, a5, a6, a7, a8, a9] 0 = a0 := rfl
  have ra1 : rd [a0, a1, a2, a3, a4, a5, a6, a7, a8, a9] 1 = a1 := rfl
  have ra2 : rd [a0, a1, a2, a3, a4, a5, a6, a7, a8, a9] 2 = a2 := rfl
  have ra3 : rd [a0, a1, a2, a3, a4, a5, a6, a7, a8, a9] 3 = a3 := rfl
  have ra4 : rd [a0, a1, a2, a3, a4, a5, a6, a7, a8, a9] 4 = a4 := rfl
  have ra5 : rd [a0, a1, a2, a3, a4, a5, a6, a7, a8, a9] 5 = a5 := rfl
  have ra6 : rd [a0, a1, a2, a3, a4, a5, a6, a7, a8, a9] 6 = a6 := rfl
  have ra7 : rd [a0, a1, a2, a3, a4, a5, a6, a7, a8, a9] 7 = a7 := rfl
  have ra8 : rd [a0, a1, a2, a3, a4, a5, a6, a7, a8, a9] 8 = a8 := rfl
  have ra9 : rd [a0, a1, a2, a3, a4, a5, a6, a7, a8, a9] 9 = a9 := rfl
  have rb0 : rd [b0, b1, b2, b3, b4, b5, b6, b7, b8, b9] 0 = b0 := rfl
  have rb1 : rd [b0, b1, b2, b3, b4, b5, b6, b7, b8, b9] 1 = b1 := rfl
  have rb2 : rd [b0, b1, b2, b3, b4, b5, b6, b7, b8, b9] 2 = b2 := rfl
  have rb3 : rd [b0, b1, b2, b3, b4, b5, b6, b7, b8, b9] 3 = b3 := rfl
  have rb4 : rd [b0, b1, b2, b3, b4, b5, b6, b7, b8, b9] 4 = b4 := rfl
  have rb5 : rd [b0, b1, b2, b3, b4, b5, b6, b7, b8, b9] 5 = b5 := rfl
  have rb6 : rd [b0, b1, b2, b3, b4, b5, b6, b7, b8, b9] 6 = b6 := rfl
  have rb7 : rd [b0, b1, b2, b3, b4, b5, b6, b7, b8, b9] 7 = b7 := rfl
  have rb8 : rd [b0, b1, b2, b3, b4, b5, b6, b7, b8, b9] 8 = b8 := rfl
  have rb9 : rd [b0, b1, b2, b3, b4, b5, b6, b7, b8, b9] 9 = b9 := rfl
  unfold preludelaw02_below.f
  simp only [preludelaw02_below.l0, preludelaw02_below.j1, List.length_cons, List.length_nil, w0, w1, w2, w3, w4, w5, w6, w7, w8, w9, ra0, ra1, ra2, ra3, ra4, ra5, ra6, ra7, ra8, ra9, rb0, rb1, rb2, rb3, rb4, rb5, rb6, rb7, rb8, rb9]
  by_cases e0 : a0 = b0
  case neg => simp [e0]
  by_cases e1 : a1 = b1
  case neg => simp [e0, e1]
  by_cases e2 : a2 = b2
  case neg => simp [e0, e1, e2]
  by_cases e3 : a3 = b3
  case neg => simp [e0, e1, e2, e3]
  by_cases e4 : a4 = b4
  case neg => simp [e0, e1, e2, e3, e4]
  by_cases e5 : a5 = b5
  case neg => simp [e0, e1, e2, e3, e4, e5]
  by_cases e6 : a6 = b6
  case neg => simp [e0, e1, e2, e3, e4, e5, e6]
  by_cases e7 : a7 = b7
  case neg => simp [e0, e1, e2, e3, e4, e5, e6, e7]
  by_cases e8 : a8 = b8
  case neg => simp [e0, e1, e2, e3, e4, e5, e6, e7, e8]
  by_cases e9 : a9 = b9
  case neg => simp [e0, e1, e2, e3, e4, e5, e6, e7, e8, e9]
  simp [e0, e1, e2, e3, e4, e5, e6, e7, e8, e9]
theorem lex_val (a0 a1 a2 a3 a4 a5 a6 a7 a8 a9 b0 b1 b2 b3 b4 b5 b6 b7 b8 b9 x y z v : Int) (ha0 : 0 ≤ a0 ∧ a0 ≤ 255) (ha1 : 0 ≤ a1 ∧ a1 ≤ 255) (ha2 : 0 ≤ a2 ∧ a2 ≤ 255) (ha3 : 0 ≤ a3 ∧ a3 ≤ 255) (ha4 : 0 ≤ a4 ∧ a4 ≤ 255) (ha5 : 0 ≤ a5 ∧ a5 ≤ 255) (ha6 : 0 ≤ a6 ∧ a6 ≤ 255) (ha7 : 0 ≤ a7 ∧ a7 ≤ 255) (ha8 : 0 ≤ a8 ∧ a8 ≤ 255) (ha9 : 0 ≤ a9 ∧ a9 ≤ 255) (hb0 : 0 ≤ b0 ∧ b0 ≤ 255) (hb1 : 0 ≤ b1 ∧ b1 ≤ 255) (hb2 : 0 ≤ b2 ∧ b2 ≤ 255) (hb3 : 0 ≤ b3 ∧ b3 ≤ 255) (hb4 : 0 ≤ b4 ∧ b4 ≤ 255) (hb5 : 0 ≤ b5 ∧ b5 ≤ 255) (hb6 : 0 ≤ b6 ∧ b6 ≤ 255) (hb7 : 0 ≤ b7 ∧ b7 ≤ 255) (hb8 : 0 ≤ b8 ∧ b8 ≤ 255) (hb9 : 0 ≤ b9 ∧ b9 ≤ 255) (hx : x = a0 * 256 + a1) (hy : y = a2 * 72057594037927936 + a3 * 281474976710656 + a4 * 1099511627776 + a5 * 4294967296 + a6 * 16777216 + a7 * 65536 + a8 * 256 + a9) (hz : z = b0 * 256 + b1) (hv : v = b2 * 72057594037927936 + b3 * 281474976710656 + b4 * 1099511627776 + b5 * 4294967296 + b6 * 16777216 + b7 * 65536 + b8 * 256 + b9) :
    (if a0 = b0 then (if a1 = b1 then (if a2 = b2 then (if a3 = b3 then (if a4 = b4 then (if a5 = b5 then (if a6 = b6 then (if a7 = b7 then (if a8 = b8 then (if a9 = b9 then false else decide (a9 < b9)) else decide (a8 < b8)) else decide (a7 < b7)) else decide (a6 < b6)) else decide (a5 < b5)) else decide (a4 < b4)) else decide (a3 < b3)) else decide (a2 < b2)) else decide (a1 < b1)) else decide (a0 < b0)) = decide (x < z ∨ x = z ∧ y < v) := by
  rw [Bool.eq_iff_iff]
  by_cases e0 : a0 = b0
  case neg => simp only [e0, if_true, if_false, decide_eq_true_eq]; omega
  by_cases e1 : a1 = b1
  case neg => simp only [e0, e1, if_true, if_false, decide_eq_true_eq]; omega
  by_cases e2 : a2 = b2
  case neg => simp only [e0, e1, e2, if_true, if_false, decide_eq_true_eq]; omega
  by_cases e3 : a3 = b3
  case neg => simp only [e0, e1, e2, e3, if_true, if_false, decide_eq_true_eq]; omega
  by_cases e4 : a4 = b4
  case neg => simp only [e0, e1, e2, e3, e4, if_true, if_false, decide_eq_true_eq]; omega
  by_cases e5 : a5 = b5
  case neg => simp only [e0, e1, e2, e3, e4, e5, if_true, if_false, decide_eq_true_eq]; omega
  by_cases e6 : a6 = b6
  case neg => simp only [e0, e1, e2, e3, e4, e5, e6, if_true, if_false, decide_eq_true_eq]; omega
  by_cases e7 : a7 = b7
  case neg => simp only [e0, e1, e2, e3, e4, e5, e6, e7, if_true, if_false, decide_eq_true_eq]; omega
  by_cases e8 : a8 = b8
  case neg => simp only [e0, e1, e2, e3, e4, e5, e6, e7, e8, if_true, if_false, decide_eq_true_eq]; omega
  by_cases e9 : a9 = b9
  case neg => simp only [e0, e1, e2, e3, e4, e5, e6, e7, e8, e9, if_true, if_false, decide_eq_true_eq]; omega
  simp only [e0, e1, e2, e3, e4, e5, e6, e7, e8, e9, if_true, decide_eq_true_eq]; simp; omega

/-- the ten bytes of two numbers: digits that make them up, told back by FromBytes -/
theorem digits (t u : Int) (ht : 0 ≤ t) (ht2 : t ≤ 65535) (hu : 0 ≤ u) (hu2 : u ≤ 18446744073709551615) :
    ∃ a0 a1 a2 a3 a4 a5 a6 a7 a8 a9 : Int, bytesU t u = [a0, a1, a2, a3, a4, a5, a6, a7, a8, a9] ∧ ((0 ≤ a0 ∧ a0 ≤ 255) ∧ (0 ≤ a1 ∧ a1 ≤ 255) ∧ (0 ≤ a2 ∧ a2 ≤ 255) ∧ (0 ≤ a3 ∧ a3 ≤ 255) ∧ (0 ≤ a4 ∧ a4 ≤ 255) ∧ (0 ≤ a5 ∧ a5 ≤ 255) ∧ (0 ≤ a6 ∧ a6 ≤ 255) ∧ (0 ≤ a7 ∧ a7 ≤ 255) ∧ (0 ≤ a8 ∧ a8 ≤ 255) ∧ (0 ≤ a9 ∧ a9 ≤ 255)) ∧ t = a0 * 256 + a1 ∧ u = a2 * 72057594037927936 + a3 * 281474976710656 + a4 * 1099511627776 + a5 * 4294967296 + a6 * 16777216 + a7 * 65536 + a8 * 256 + a9 := by
  refine ⟨_, _, _, _, _, _, _, _, _, _, rfl, ⟨by omega, by omega, by omega, by omega, by omega, by omega, by omega, by omega, by omega, by omega⟩, by omega, by omega⟩
theorem from_list (a0 a1 a2 a3 a4 a5 a6 a7 a8 a9 : Int) (h : (0 ≤ a0 ∧ a0 ≤ 255) ∧ (0 ≤ a1 ∧ a1 ≤ 255) ∧ (0 ≤ a2 ∧ a2 ≤ 255) ∧ (0 ≤ a3 ∧ a3 ≤ 255) ∧ (0 ≤ a4 ∧ a4 ≤ 255) ∧ (0 ≤ a5 ∧ a5 ≤ 255) ∧ (0 ≤ a6 ∧ a6 ≤ 255) ∧ (0 ≤ a7 ∧ a7 ≤ 255) ∧ (0 ≤ a8 ∧ a8 ≤ 255) ∧ (0 ≤ a9 ∧ a9 ≤ 255)) : fromF [a0, a1, a2, a3, a4, a5, a6, a7, a8, a9] = some (a0 * 256 + a1, (a2 * 72057594037927936 + a3 * 281474976710656 + a4 * 1099511627776 + a5 * 4294967296 + a6 * 16777216 + a7 * 65536 + a8 * 256 + a9) - 9223372036854775808, 0) := by
  obtain ⟨h0, h1, h2, h3, h4, h5, h6, h7, h8, h9⟩ := h
  unfold fromF
  rw [if_neg (by simp), if_neg (by simp)]
  simp only
  rw [if_pos (by simp only [List.mem_cons, List.not_mem_nil, or_false, forall_eq_or_imp, forall_eq]; exact ⟨h0, h1, h2, h3, h4, h5, h6, h7, h8, h9⟩), tab2_val _ _ h0.1 h0.2 h1.1 h1.2, from8_val _ _ _ _ _ _ _ _ h2 h3 h4 h5 h6 h7 h8 h9, rx_val _ (by omega) (by omega)]
theorem bytes_list (a0 a1 a2 a3 a4 a5 a6 a7 a8 a9 : Int) (h : (0 ≤ a0 ∧ a0 ≤ 255) ∧ (0 ≤ a1 ∧ a1 ≤ 255) ∧ (0 ≤ a2 ∧ a2 ≤ 255) ∧ (0 ≤ a3 ∧ a3 ≤ 255) ∧ (0 ≤ a4 ∧ a4 ≤ 255) ∧ (0 ≤ a5 ∧ a5 ≤ 255) ∧ (0 ≤ a6 ∧ a6 ≤ 255) ∧ (0 ≤ a7 ∧ a7 ≤ 255) ∧ (0 ≤ a8 ∧ a8 ≤ 255) ∧ (0 ≤ a9 ∧ a9 ≤ 255)) : bytesF (a0 * 256 + a1) ((a2 * 72057594037927936 + a3 * 281474976710656 + a4 * 1099511627776 + a5 * 4294967296 + a6 * 16777216 + a7 * 65536 + a8 * 256 + a9) - 9223372036854775808) = some ([a0, a1, a2, a3, a4, a5, a6, a7, a8, a9], 0) := by
  obtain ⟨h0, h1, h2, h3, h4, h5, h6, h7, h8, h9⟩ := h
  unfold bytesF
  rw [if_pos (by omega), if_pos (by omega), ux_val _ (by omega) (by omega)]
  have e : bytesU (a0 * 256 + a1) ((a2 * 72057594037927936 + a3 * 281474976710656 + a4 * 1099511627776 + a5 * 4294967296 + a6 * 16777216 + a7 * 65536 + a8 * 256 + a9) - 9223372036854775808 + 9223372036854775808) = [a0, a1, a2, a3, a4, a5, a6, a7, a8, a9] := by
    unfold bytesU
    simp only [List.cons.injEq, and_true]
    exact ⟨by omega, by omega, by omega, by omega, by omega, by omega, by omega, by omega, by omega, by omega⟩
  rw [e]
theorem key_bytes (t r : Int) (ht : 0 ≤ t) (ht2 : t ≤ 65535) (h1 : -9223372036854775808 ≤ r) (h2 : r ≤ 9223372036854775807) :
    ∃ a0 a1 a2 a3 a4 a5 a6 a7 a8 a9 : Int, bytesF t r = some ([a0, a1, a2, a3, a4, a5, a6, a7, a8, a9], 0) ∧ fromF [a0, a1, a2, a3, a4, a5, a6, a7, a8, a9] = some (t, r, 0) ∧ ((0 ≤ a0 ∧ a0 ≤ 255) ∧ (0 ≤ a1 ∧ a1 ≤ 255) ∧ (0 ≤ a2 ∧ a2 ≤ 255) ∧ (0 ≤ a3 ∧ a3 ≤ 255) ∧ (0 ≤ a4 ∧ a4 ≤ 255) ∧ (0 ≤ a5 ∧ a5 ≤ 255) ∧ (0 ≤ a6 ∧ a6 ≤ 255) ∧ (0 ≤ a7 ∧ a7 ≤ 255) ∧ (0 ≤ a8 ∧ a8 ≤ 255) ∧ (0 ≤ a9 ∧ a9 ≤ 255)) ∧ t = a0 * 256 + a1 ∧ r + 9223372036854775808 = a2 * 72057594037927936 + a3 * 281474976710656 + a4 * 1099511627776 + a5 * 4294967296 + a6 * 16777216 + a7 * 65536 + a8 * 256 + a9 := by
  obtain ⟨a0, a1, a2, a3, a4, a5, a6, a7, a8, a9, he, hr, e1, e2⟩ := digits t (r + 9223372036854775808) ht ht2 (by omega) (by omega)
  refine ⟨a0, a1, a2, a3, a4, a5, a6, a7, a8, a9, ?_, ?_, hr, e1, e2⟩
  · have := bytes_list a0 a1 a2 a3 a4 a5 a6 a7 a8 a9 hr
    rwa [← e1, ← e2, Int.add_sub_cancel] at this
  · have := from_list a0 a1 a2 a3 a4 a5 a6 a7 a8 a9 hr
    rwa [← e1, ← e2, Int.add_sub_cancel] at this
def cmpI (a b : Int) : Int := if a < b then -1 else if b < a then 1 else 0
def cmpK (a b c d : Int) : Int := if a < c then -1 else if c < a then 1 else cmpI b d
theorem compare_int (a b : Int) : cmp_Compare_int.f a b = some (cmpI a b) := by
  unfold cmp_Compare_int.f cmp_isNaN_int.f cmpI
  simp only [Option.bind_some, bne_self_eq_false, Bool.false_eq_true, if_false]
  by_cases h1 : a < b
  · simp [h1]
  · by_cases h2 : b < a
    · simp [h1, h2]
    · simp [h1, h2]
theorem compare_int64 (a b : Int) : cmp_Compare_int64.f a b = some (cmpI a b) := by
  unfold cmp_Compare_int64.f cmp_isNaN_int64.f cmpI
  simp only [Option.bind_some, bne_self_eq_false, Bool.false_eq_true, if_false]
  by_cases h1 : a < b
  · simp [h1]
  · by_cases h2 : b < a
    · simp [h1, h2]
    · simp [h1, h2]
theorem or_two (k : Nat) (x y : Int) : cmp_Or_int.f (k + 3) [x, y] = some (if x = 0 then y else x) := by
  unfold cmp_Or_int.f
  have r0 : rd [x, y] 0 = x := rfl
  have r1 : rd [x, y] 1 = y := rfl
  simp only [cmp_Or_int.l0, List.length_cons, List.length_nil, w0, w1, r0, r1]
  by_cases hx : x = 0
  · by_cases hy : y = 0
    · simp [hx, hy]
    · simp [hx, hy]
  · simp [hx]
theorem compare_val (k : Nat) (a b c d : Int) : keys_Compare.f (k + 3) a b c d = some (cmpK a b c d) := by
  unfold keys_Compare.f
  simp only [compare_int, compare_int64, Option.bind_some, or_two]
  by_cases h : a = c ∧ b = d
  · obtain ⟨rfl, rfl⟩ := h
    simp [cmpK, cmpI]
  · have hb : (a == c && b == d) = false := by simpa using h
    simp only [hb, Bool.false_eq_true, if_false]
    unfold cmpK
    by_cases h1 : a < c
    · simp [cmpI, h1]
    · by_cases h2 : c < a
      · simp [cmpI, h1, h2]
      · simp [cmpI, h1, h2]
theorem cmpK_cases (a b c d : Int) : (cmpK a b c d = -1 ∧ (a < c ∨ a = c ∧ b < d)) ∨ (cmpK a b c d = 0 ∧ a = c ∧ b = d) ∨ (cmpK a b c d = 1 ∧ (c < a ∨ a = c ∧ d < b)) := by
  unfold cmpK cmpI
  by_cases h1 : a < c
  · simp [h1]
  · by_cases h2 : c < a
    · simp [h1, h2]
    · have : a = c := by omega
      by_cases h3 : b < d
      · simp [h1, h2, h3, this]
      · by_cases h4 : d < b
        · simp [h1, h2, h3, h4, this]
        · have : b = d := by omega
          simp [h1, h2, h3, h4]
          omega
theorem check_none (t r : Int) (h : ¬ (0 ≤ t ∧ t ≤ 65535)) : keys_Check.f t r = some 20 := by
  unfold keys_Check.f
  by_cases h1 : t < 0
  · rw [if_pos h1]
  · rw [if_neg h1, if_pos (by omega)]
theorem check_key (t r : Int) (h : 0 ≤ t ∧ t ≤ 65535) : keys_Check.f t r = some 0 := by
  unfold keys_Check.f
  rw [if_neg (by omega), if_neg (by omega)]
theorem last (k : Nat) (t r s q : Int) (h1 : -9223372036854775808 ≤ r) (h2 : r ≤ 9223372036854775807) (h3 : -9223372036854775808 ≤ q) (h4 : q ≤ 9223372036854775807) :
    preludelaw02_KeysBytesOrder.j0 (k + 40) t r s q = some true := by
  simp only [preludelaw02_KeysBytesOrder.j0]
  by_cases hk : 0 ≤ t ∧ t ≤ 65535
  · rw [check_key t r hk]
    by_cases hk2 : 0 ≤ s ∧ s ≤ 65535
    · rw [check_key s q hk2]
      obtain ⟨a0, a1, a2, a3, a4, a5, a6, a7, a8, a9, ea, fa, ra, ta, ua⟩ := key_bytes t r hk.1 hk.2 h1 h2
      obtain ⟨b0, b1, b2, b3, b4, b5, b6, b7, b8, b9, eb, fb, rb, tb, ub⟩ := key_bytes s q hk2.1 hk2.2 h3 h4
      obtain ⟨p0, p1, p2, p3, p4, p5, p6, p7, p8, p9⟩ := ra
      obtain ⟨q0, q1, q2, q3, q4, q5, q6, q7, q8, q9⟩ := rb
      have l1 := lex_val a0 a1 a2 a3 a4 a5 a6 a7 a8 a9 b0 b1 b2 b3 b4 b5 b6 b7 b8 b9 t (r + 9223372036854775808) s (q + 9223372036854775808) p0 p1 p2 p3 p4 p5 p6 p7 p8 p9 q0 q1 q2 q3 q4 q5 q6 q7 q8 q9 ta ua tb ub
      have l2 := lex_val b0 b1 b2 b3 b4 b5 b6 b7 b8 b9 a0 a1 a2 a3 a4 a5 a6 a7 a8 a9 s (q + 9223372036854775808) t (r + 9223372036854775808) q0 q1 q2 q3 q4 q5 q6 q7 q8 q9 p0 p1 p2 p3 p4 p5 p6 p7 p8 p9 tb ub ta ua
      have hc := cmpK_cases t r s q
      have hsame : decide (a0 = b0 ∧ a1 = b1 ∧ a2 = b2 ∧ a3 = b3 ∧ a4 = b4 ∧ a5 = b5 ∧ a6 = b6 ∧ a7 = b7 ∧ a8 = b8 ∧ a9 = b9) = decide (t = s ∧ r = q) := by
        rw [Bool.eq_iff_iff, decide_eq_true_eq, decide_eq_true_eq]
        constructor
        · rintro ⟨rfl, rfl, rfl, rfl, rfl, rfl, rfl, rfl, rfl, rfl⟩
          exact ⟨by omega, by omega⟩
        · rintro ⟨e1, e2⟩
          refine ⟨by omega, by omega, by omega, by omega, by omega, by omega, by omega, by omega, by omega, by omega⟩
      simp only [preludelaw02_num.f, Option.bind_some, preludelaw02_KeysBytesOrder.j1, preludelaw02_KeysBytesOrder.j2, preludelaw02_KeysBytesOrder.j3, keys_Bytes.f, keys_FromBytes.f, ea, eb, fa, bne_self_eq_false, Bool.false_eq_true, if_false, if_true, List.length_cons, List.length_nil, beq_self_eq_true, Bool.not_true, Bool.or_self]
      rw [compare_val, below10, below10, same10, l1, l2, hsame]
      clear l1 l2 hsame
      generalize cmpK t r s q = c at hc ⊢
      have g1 : (decide (c < 0) == decide (t < s ∨ t = s ∧ r + 9223372036854775808 < q + 9223372036854775808)) = true := by
        rw [beq_iff_eq, Bool.eq_iff_iff, decide_eq_true_eq, decide_eq_true_eq]; omega
      have g2 : (decide (c > 0) == decide (s < t ∨ s = t ∧ q + 9223372036854775808 < r + 9223372036854775808)) = true := by
        rw [beq_iff_eq, Bool.eq_iff_iff, decide_eq_true_eq, decide_eq_true_eq]; omega
      have g3 : ((c == 0) == decide (t = s ∧ r = q)) = true := by
        rw [beq_iff_eq, Bool.eq_iff_iff, beq_iff_eq, decide_eq_true_eq]; omega
      simp only [Option.bind_some, g1, g2, g3, if_true]
      simp
    · rw [check_none s q hk2]
      simp [preludelaw02_num.f, preludelaw02_KeysBytesOrder.j1]
  · rw [check_none t r hk]
    simp [preludelaw02_num.f, preludelaw02_KeysBytesOrder.j1]
theorem pure (k : Nat) (t r s q : Int) (l : List Int) (h1 : -9223372036854775808 ≤ r) (h2 : r ≤ 9223372036854775807) (h3 : -9223372036854775808 ≤ q) (h4 : q ≤ 9223372036854775807) (hl : ∀ x ∈ l, 0 ≤ x ∧ x ≤ 255) :
    preludelaw02_KeysBytesOrder.f (k + 40) t r s q l = some true := by
  unfold preludelaw02_KeysBytesOrder.f preludelaw02_plain.f
  simp only [Option.bind_some, if_true]
  by_cases h : l.length = 10
  · rw [if_pos (by omega)]
    match l, h with
    | [a0, a1, a2, a3, a4, a5, a6, a7, a8, a9], _ =>
      have hr : (0 ≤ a0 ∧ a0 ≤ 255) ∧ (0 ≤ a1 ∧ a1 ≤ 255) ∧ (0 ≤ a2 ∧ a2 ≤ 255) ∧ (0 ≤ a3 ∧ a3 ≤ 255) ∧ (0 ≤ a4 ∧ a4 ≤ 255) ∧ (0 ≤ a5 ∧ a5 ≤ 255) ∧ (0 ≤ a6 ∧ a6 ≤ 255) ∧ (0 ≤ a7 ∧ a7 ≤ 255) ∧ (0 ≤ a8 ∧ a8 ≤ 255) ∧ (0 ≤ a9 ∧ a9 ≤ 255) := by simpa using hl
      have e1 := from_list a0 a1 a2 a3 a4 a5 a6 a7 a8 a9 hr
      have e2 := bytes_list a0 a1 a2 a3 a4 a5 a6 a7 a8 a9 hr
      simp only [keys_FromBytes.f, keys_Bytes.f, e1, e2, Option.bind_some, preludelaw02_num.f, if_true]
      rw [same10]
      simp only [and_self, decide_true, Option.bind_some, if_true]
      exact last k t r s q h1 h2 h3 h4
  · rw [if_neg (by omega)]
    exact last k t r s q h1 h2 h3 h4
theorem i64_range {x : Int} (h : (Lit.int .i64 x).wf = true) : -9223372036854775808 ≤ x ∧ x ≤ 9223372036854775807 := by
  simpa [Lit.wf, IntKind.min, IntKind.max, IntKind.signed, IntKind.bits] using h
theorem walk (w : World) (t r : Int) (_ : (Lit.int .i64 t).wf = true) (hr : (Lit.int .i64 r).wf = true) (s q : Int) (_ : (Lit.int .i64 s).wf = true) (hq : (Lit.int .i64 q).wf = true)
    (A : Option Addr) (c : Nat) (l : List Int) (hc : l.length ≤ c) (hC : Kd.C (Kd.int .u8) w A l.length l) (hb : ∀ x ∈ l, 0 ≤ x ∧ x ≤ 255) (hT : TabW w) :
    Calls Tryd.prog 4 #[.agg #[.int .i64 t, .int .i64 r], .agg #[.int .i64 s, .int .i64 q], .slice A l.length c] w fun e w' => e = .returned (.bool true) ∧ Below w.heap.size w w' :=
  preludelaw02_KeysBytesOrder.calls 40 t r s q A c l true w hC hc (pure 0 t r s q l (i64_range hr).1 (i64_range hr).2 (i64_range hq).1 (i64_range hq).2 hb) hT
end Go.Proofs.YtbmfldoobkeieaaDoor.keysBytesOrder
