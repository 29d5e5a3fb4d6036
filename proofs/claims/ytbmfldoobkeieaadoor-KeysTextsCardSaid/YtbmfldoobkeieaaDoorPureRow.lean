/- How many digits, and what they tell: the reference's row and value. Plain. -/
import Derived.Test.YtbmfldoobkeieaaDoorKSpan
import Derived.Test.YtbmfldoobkeieaaDoorGRefx1
namespace Go.Proofs.YtbmfldoobkeieaaDoor.PureRow
open Go.RowKit Go.Proofs.YtbmfldoobkeieaaDoor.KSpan Go.Proofs.YtbmfldoobkeieaaDoor.GRef Go.Proofs.YtbmfldoobkeieaaDoorW.PrintWords Go.Proofs.YtbmfldoobkeieaaDoorW.PrintLast
set_option linter.unusedVariables false
set_option linter.unusedSimpArgs false

theorem u64w (n : Int) : IntKind.u64.wrap n = n % 18446744073709551616 := by
  unfold IntKind.wrap
  simp [IntKind.signed, IntKind.bits]
theorem row_val (s : ByteArray) (hs : s.size ≤ 281474976710656) (a d : Nat) : ∀ (n k : Nat), a + n ≤ s.size + 2 → s.size - (a + n) = d → d < k →
    preluderef02_row.l0 k s a n = some ((n + span s (a + n) : Nat) : Int) := by
  induction d with
  | zero =>
    intro n k h1 h2 hk
    obtain ⟨k, rfl⟩ : ∃ m, k = m + 1 := ⟨k - 1, by omega⟩
    have hd : dig s (a + n) = false := by
      cases h : dig s (a + n)
      · rfl
      · have := dig_lt h; omega
    rw [preluderef02_row.l0, show wrap64 ((a : Int) + n) = ((a + n : Nat) : Int) by unfold wrap64; omega, if_neg (by omega), span_zero hd]
    simp
  | succ d ih =>
    intro n k h1 h2 hk
    obtain ⟨k, rfl⟩ : ∃ m, k = m + 1 := ⟨k - 1, by omega⟩
    rw [preluderef02_row.l0, show wrap64 ((a : Int) + n) = ((a + n : Nat) : Int) by unfold wrap64; omega, if_pos (by omega), if_pos (by omega)]
    cases h : dig s (a + n)
    · rw [span_zero h]
      have := of_decide_eq_false h
      by_cases c1 : bt s (a + n : Nat) ≥ 48
      · rw [if_pos c1, if_neg (fun c2 => this ⟨by omega, c1, c2⟩)]; simp
      · rw [if_neg c1]; simp
    · have hh := of_decide_eq_true h
      rw [if_pos hh.2.1, if_pos hh.2.2, show wrap64 ((n : Int) + 1) = ((n + 1 : Nat) : Int) by unfold wrap64; omega, ih (n + 1) k (by omega) (by omega) (by omega), span_pos h]
      congr 2
      rw [show a + (n + 1) = a + n + 1 by omega]; omega
theorem row_f (s : ByteArray) (hs : s.size ≤ 281474976710656) (a k : Nat) (ha : a ≤ s.size + 2) (hk : s.size + 1 ≤ k) : preluderef02_row.f k s a = some (span s a : Int) := by
  have := row_val s hs a (s.size - a) 0 k (by omega) (by omega) (by omega)
  rw [Nat.add_zero, Nat.zero_add] at this
  exact this

theorem value_val (t : ByteArray) (ht : t.size ≤ 281474976710656) (hd : Digits t.data.toList) (d : Nat) : ∀ (p acc k : Nat), t.size - p = d → p ≤ t.size → acc ≤ 9223372036854775808 → d < k →
    preluderef02_value.l0 k t acc p = if dvalFrom acc (t.data.toList.drop p) ≤ 9223372036854775808 then some ((dvalFrom acc (t.data.toList.drop p) : Int), true) else some (0, false) := by
  induction d with
  | zero =>
    intro p acc k h1 h2 ha hk
    obtain ⟨k, rfl⟩ : ∃ m, k = m + 1 := ⟨k - 1, by omega⟩
    have hp : p = t.size := by omega
    have hn : t.data.toList.drop p = [] := List.drop_eq_nil_of_le (by rw [Array.length_toList]; have : t.data.size = t.size := rfl; omega)
    rw [preluderef02_value.l0, if_neg (by omega), hn, dvalFrom_nil, if_pos ha]
  | succ d ih =>
    intro p acc k h1 h2 ha hk
    obtain ⟨k, rfl⟩ : ∃ m, k = m + 1 := ⟨k - 1, by omega⟩
    have hl : p < t.size := by omega
    have hc : t.data.toList.drop p = t[p] :: t.data.toList.drop (p + 1) := List.drop_eq_getElem_cons (by rw [Array.length_toList]; exact hl)
    have hm : t[p] ∈ t.data.toList := by
      have : t[p] ∈ t.data.toList.drop p := by rw [hc]; simp
      exact List.mem_of_mem_drop this
    have hb := hd _ hm
    have hg := dvalFrom_ge (t.data.toList.drop (p + 1)) (acc * 10 + (t[p].toNat - 48))
    rw [preluderef02_value.l0, if_pos (by omega), if_pos (by omega), hc, dvalFrom_cons, bt_nat t p hl]
    rw [show ((t[p].toNat : Int) - 48) % 256 = ((t[p].toNat - 48 : Nat) : Int) by omega]
    generalize hx : t[p].toNat - 48 = x at *
    by_cases c : (acc : Int) > (9223372036854775808 - (x : Int)) / 10
    · rw [if_pos c, if_neg (by omega)]
    · rw [if_neg c, show IntKind.u64.wrap (IntKind.u64.wrap (10 * (acc : Int)) + (x : Int)) = ((acc * 10 + x : Nat) : Int) by rw [u64w, u64w]; omega,
        show wrap64 ((p : Int) + 1) = ((p + 1 : Nat) : Int) by unfold wrap64; omega]
      exact ih (p + 1) (acc * 10 + x) k (by omega) (by omega) (by omega) (by omega)
theorem value_f (t : ByteArray) (ht : t.size ≤ 281474976710656) (hd : Digits t.data.toList) (k : Nat) (hk : t.size + 1 ≤ k) :
    preluderef02_value.f k t = if dval t.data.toList ≤ 9223372036854775808 then some ((dval t.data.toList : Int), true) else some (0, false) := by
  have := value_val t ht hd t.size 0 0 k (by omega) (by omega) (by omega) (by omega)
  rw [List.drop_zero] at this
  exact this
theorem ext_size (s : ByteArray) (i j : Nat) (hij : i ≤ j) (hj : j ≤ s.size) : (s.extract i j).size = j - i := by
  have := seg_length s i j hij hj
  have e : (s.extract i j).size = (seg s i j).length := (by unfold seg; rw [Array.length_toList]; rfl)
  omega
theorem value_seg (s : ByteArray) (hs : s.size ≤ 281474976710656) (i j k : Nat) (hij : i ≤ j) (hj : j ≤ s.size) (hd : Digits (seg s i j)) (hk : s.size + 1 ≤ k) :
    preluderef02_value.f k (s.extract i j) = if dval (seg s i j) ≤ 9223372036854775808 then some ((dval (seg s i j) : Int), true) else some (0, false) := by
  have e := ext_size s i j hij hj
  exact value_f (s.extract i j) (by omega) hd k (by omega)
theorem digits_span (s : ByteArray) (i : Nat) : Digits (seg s i (i + span s i)) := seg_digits s i _ (Nat.le_refl _)

end Go.Proofs.YtbmfldoobkeieaaDoor.PureRow
