/- Digits in a text: how many stand at a place, what they tell; what Parse of a key answers, in plain words. -/
import Derived.Test.YtbmfldoobkeieaaDoorGRunx1
import Derived.Lib.AtoiAll
import Derived.Lib.ParseIntBTie
namespace Go.Proofs.YtbmfldoobkeieaaDoor.KSpan
open Go.RowKit Go.Proofs.YtbmfldoobkeieaaDoor.GRun Go.Proofs.YtbmfldoobkeieaaDoorW.PrintWords
set_option linter.unusedVariables false
set_option linter.unusedSimpArgs false

def dig (s : ByteArray) (i : Nat) : Bool := decide (i < s.size ∧ 48 ≤ bt s i ∧ bt s i ≤ 57)
def span (s : ByteArray) (i : Nat) : Nat := if h : dig s i = true then span s (i + 1) + 1 else 0
termination_by s.size - i
decreasing_by
  have := (of_decide_eq_true h).1
  omega
theorem dig_lt {s : ByteArray} {i : Nat} (h : dig s i = true) : i < s.size := (of_decide_eq_true h).1
theorem span_pos {s : ByteArray} {i : Nat} (h : dig s i = true) : span s i = span s (i + 1) + 1 := by rw [span, dif_pos h]
theorem span_zero {s : ByteArray} {i : Nat} (h : dig s i = false) : span s i = 0 := by rw [span, dif_neg (by simp [h])]
theorem span_le (s : ByteArray) (d : Nat) : ∀ i, i ≤ s.size → s.size - i = d → i + span s i ≤ s.size := by
  induction d with
  | zero =>
    intro i h1 h2
    cases h : dig s i
    · rw [span_zero h]; omega
    · have := dig_lt h; omega
  | succ d ih =>
    intro i h1 h2
    cases h : dig s i
    · rw [span_zero h]; omega
    · have := ih (i + 1) (dig_lt h) (by omega)
      rw [span_pos h]; omega
theorem span_size (s : ByteArray) (i : Nat) (h : i ≤ s.size) : i + span s i ≤ s.size := span_le s _ i h rfl
theorem span_digit (s : ByteArray) (d : Nat) : ∀ i j, s.size - i = d → j < span s i → dig s (i + j) = true := by
  induction d with
  | zero =>
    intro i j h2 hj
    cases h : dig s i
    · rw [span_zero h] at hj; omega
    · have := dig_lt h; omega
  | succ d ih =>
    intro i j h2 hj
    cases h : dig s i
    · rw [span_zero h] at hj; omega
    · rw [span_pos h] at hj
      cases j with
      | zero => exact h
      | succ j =>
        have := ih (i + 1) j (by omega) (by omega)
        rwa [show i + 1 + j = i + (j + 1) by omega] at this
theorem span_dig {s : ByteArray} {i j : Nat} (h : j < span s i) : dig s (i + j) = true := span_digit s _ i j rfl h
theorem span_end (s : ByteArray) (d : Nat) : ∀ i, s.size - i = d → dig s (i + span s i) = false := by
  induction d with
  | zero =>
    intro i h2
    cases h : dig s i
    · rw [span_zero h]; exact h
    · have := dig_lt h; omega
  | succ d ih =>
    intro i h2
    cases h : dig s i
    · rw [span_zero h]; exact h
    · have := ih (i + 1) (by omega)
      rw [span_pos h, show i + (span s (i + 1) + 1) = i + 1 + span s (i + 1) by omega]
      exact this
theorem span_stop (s : ByteArray) (i : Nat) : dig s (i + span s i) = false := span_end s _ i rfl
theorem digit_val (s : ByteArray) (i : Nat) : keys_digit.f s i = some (dig s i) := by
  unfold keys_digit.f dig
  by_cases h : i < s.size
  · by_cases h2 : 48 ≤ bt s i
    · simp [h, h2]
    · simp [h, h2]
  · simp [h]
theorem run_val (s : ByteArray) (hs : s.size ≤ 281474976710656) (d : Nat) : ∀ (k i : Nat), i ≤ s.size + 1 → s.size - i = d → d < k → keys_run.l0 k s i = some ((i + span s i : Nat) : Int) := by
  induction d with
  | zero =>
    intro k i h1 h2 hk
    obtain ⟨k, rfl⟩ : ∃ m, k = m + 1 := ⟨k - 1, by omega⟩
    have hd : dig s i = false := by
      cases h : dig s i
      · rfl
      · have := dig_lt h; omega
    simp only [keys_run.l0]
    rw [digit_val, hd, span_zero hd]
    simp
  | succ d ih =>
    intro k i h1 h2 hk
    obtain ⟨k, rfl⟩ : ∃ m, k = m + 1 := ⟨k - 1, by omega⟩
    simp only [keys_run.l0]
    rw [digit_val]
    cases h : dig s i
    · rw [span_zero h]; simp
    · have := ih k (i + 1) (by omega) (by omega) (by omega)
      rw [span_pos h]
      simp only [Option.bind_some, if_true]
      rw [show wrap64 ((i : Int) + 1) = ((i + 1 : Nat) : Int) by unfold wrap64; omega, this]
      congr 1
      omega
theorem run_f (s : ByteArray) (hs : s.size ≤ 281474976710656) (i : Nat) (h : i ≤ s.size + 1) : keys_run.f (s.size + 2) s i = some ((i + span s i : Nat) : Int) :=
  run_val s hs _ _ i h rfl (by omega)

/-! ### what digits tell -/
def dvalFrom (acc : Nat) (l : List UInt8) : Nat := l.foldl (fun a c => a * 10 + (c.toNat - 48)) acc
def dval (l : List UInt8) : Nat := dvalFrom 0 l
def Digits (l : List UInt8) : Prop := ∀ c ∈ l, 48 ≤ c.toNat ∧ c.toNat ≤ 57
theorem dvalFrom_cons (acc : Nat) (c : UInt8) (r : List UInt8) : dvalFrom acc (c :: r) = dvalFrom (acc * 10 + (c.toNat - 48)) r := by
  unfold dvalFrom
  rw [List.foldl_cons]
theorem dvalFrom_nil (acc : Nat) : dvalFrom acc [] = acc := by
  unfold dvalFrom
  rw [List.foldl_nil]
theorem dvalFrom_ge (l : List UInt8) : ∀ acc, acc ≤ dvalFrom acc l := by
  induction l with
  | nil => intro acc; rw [dvalFrom_nil]; exact Nat.le_refl _
  | cons c r ih =>
    intro acc
    have := ih (acc * 10 + (c.toNat - 48))
    rw [dvalFrom_cons]
    omega
theorem uint_cons (acc : Nat) (c : UInt8) (r : List UInt8) (hc : 48 ≤ c.toNat ∧ c.toNat ≤ 57) : Lib.parseUint10 acc (c :: r) =
      if 1844674407370955162 ≤ acc then .range else if 18446744073709551616 ≤ acc * 10 + (c.toNat - 48) then .range else Lib.parseUint10 (acc * 10 + (c.toNat - 48)) r := by
  rw [Lib.parseUint10, if_pos hc]
theorem uint_digits (l : List UInt8) : ∀ acc, Digits l → acc < 18446744073709551616 →
    Lib.parseUint10 acc l = if dvalFrom acc l < 18446744073709551616 then .ok (dvalFrom acc l) else .range := by
  induction l with
  | nil =>
    intro acc _ h
    rw [Lib.parseUint10, dvalFrom_nil, if_pos h]
  | cons c r ih =>
    intro acc hd h
    have hc := hd c (by simp)
    have hg := dvalFrom_ge r (acc * 10 + (c.toNat - 48))
    rw [uint_cons acc c r hc, dvalFrom_cons]
    by_cases h1 : 1844674407370955162 ≤ acc
    · rw [if_pos h1, if_neg (by omega)]
    · rw [if_neg h1]
      by_cases h2 : 18446744073709551616 ≤ acc * 10 + (c.toNat - 48)
      · rw [if_pos h2, if_neg (by omega)]
      · rw [if_neg h2]
        exact ih _ (fun x hx => hd x (by simp [hx])) (by omega)
theorem mag_digits (l : List UInt8) (hl : l ≠ []) (hd : Digits l) : Lib.parseMag l = if dval l < 18446744073709551616 then .ok (dval l) else .range := by
  unfold Lib.parseMag
  rw [if_neg hl]
  exact uint_digits l 0 hd (by omega)
theorem atoi_digits (l : List UInt8) (hl : l ≠ []) (hd : Digits l) : Lib.atoiAll l = if dval l < 9223372036854775808 then .ok (dval l : Int) else .range := by
  obtain ⟨c, r, rfl⟩ := List.exists_cons_of_ne_nil hl
  have hc := hd c (by simp)
  unfold Lib.atoiAll
  simp only
  rw [if_neg (show ¬ (c.toNat = 43 ∨ c.toNat = 45) by omega), mag_digits _ hl hd]
  have h45 : ¬ c.toNat = 45 := by omega
  by_cases h1 : dval (c :: r) < 9223372036854775808
  · rw [if_pos (show dval (c :: r) < 18446744073709551616 by omega), if_pos h1]
    simp only [h45, not_false_eq_true, true_and, false_and, if_false]
    rw [if_neg (by omega)]
  · rw [if_neg h1]
    by_cases h2 : dval (c :: r) < 18446744073709551616
    · rw [if_pos h2]
      simp only [h45, not_false_eq_true, true_and]
      rw [if_pos (by omega)]
    · rw [if_neg h2]
theorem atoi_minus (m : UInt8) (hm : m.toNat = 45) (l : List UInt8) (hl : l ≠ []) (hd : Digits l) : Lib.atoiAll (m :: l) = if dval l ≤ 9223372036854775808 then .ok (-(dval l : Int)) else .range := by
  unfold Lib.atoiAll
  simp only
  rw [if_pos (show m.toNat = 43 ∨ m.toNat = 45 from .inr hm), mag_digits _ hl hd]
  by_cases h1 : dval l ≤ 9223372036854775808
  · rw [if_pos (show dval l < 18446744073709551616 by omega), if_pos h1]
    simp only [hm, not_true_eq_false, false_and, if_false, true_and, if_true]
    rw [if_neg (by omega)]
  · rw [if_neg h1]
    by_cases h2 : dval l < 18446744073709551616
    · rw [if_pos h2]
      simp only [hm, not_true_eq_false, false_and, if_false, true_and]
      rw [if_pos (by omega)]
    · rw [if_neg h2]

/-- a piece of a text -/
def seg (s : ByteArray) (i j : Nat) : List UInt8 := (s.extract i j).data.toList
theorem seg_eq (s : ByteArray) (i j : Nat) : seg s i j = (s.data.toList.drop i).take (j - i) := by
  unfold seg
  rw [ByteArray.data_extract, Array.toList_extract]
theorem seg_length (s : ByteArray) (i j : Nat) (hij : i ≤ j) (hj : j ≤ s.size) : (seg s i j).length = j - i := by
  rw [seg_eq, List.length_take, List.length_drop, Array.length_toList]
  have : s.data.size = s.size := rfl
  omega
theorem seg_get (s : ByteArray) (i j n : Nat) (c : UInt8) (h : (seg s i j)[n]? = some c) : ∃ hl : i + n < s.size, c = s[i + n] ∧ n < j - i := by
  rw [seg_eq, List.getElem?_take] at h
  split at h
  · rename_i hn
    rw [List.getElem?_drop, Array.getElem?_toList] at h
    have hl : i + n < s.size := by
      rcases Nat.lt_or_ge (i + n) s.data.size with h' | h'
      · exact h'
      · rw [Array.getElem?_eq_none h'] at h; cases h
    refine ⟨hl, ?_, hn⟩
    rw [Array.getElem?_eq_getElem hl] at h
    exact (Option.some.inj h).symm
  · cases h
theorem bt_nat (s : ByteArray) (i : Nat) (h : i < s.size) : bt s i = (s[i].toNat : Int) := by
  unfold bt
  rw [dif_pos (by simpa using h)]
  rfl
theorem seg_digits (s : ByteArray) (i n : Nat) (hn : n ≤ span s i) : Digits (seg s i (i + n)) := by
  intro c hc
  obtain ⟨k, hk⟩ := List.getElem?_of_mem hc
  obtain ⟨hl, rfl, hlt⟩ := seg_get s i (i + n) k c hk
  have hd := of_decide_eq_true (span_dig (s := s) (i := i) (j := k) (by omega))
  rw [bt_nat s (i + k) hl] at hd
  omega
theorem seg_ne (s : ByteArray) (i j : Nat) (hij : i < j) (hj : j ≤ s.size) : seg s i j ≠ [] := by
  intro h
  have := seg_length s i j (by omega) hj
  rw [h] at this
  simp at this
  omega

/-- what Parse tells of a text: the key's two numbers, the place, the error's number -/
def parseF (s : ByteArray) : Int × Int × Int × Int :=
  let e := span s 0
  if e = 0 then (0, 0, 0, 40)
  else if bt s 0 = 48 ∧ 1 < e then (0, 0, 1, 40)
  else if 65535 < dval (seg s 0 e) then (0, 0, 0, 41)
  else if s.size ≤ e ∨ bt s e ≠ 58 then (0, 0, e, 40)
  else
    let minus := decide (e + 1 < s.size ∧ bt s (e + 1 : Nat) = 45)
    let f := if minus = true then e + 2 else e + 1
    let m := span s f
    if m = 0 ∨ (minus = true ∧ bt s f = 48) then (0, 0, f, 40)
    else if bt s f = 48 ∧ 1 < m then (0, 0, f + 1, 40)
    else
      let v := dval (seg s f (f + m))
      if (minus = true ∧ 9223372036854775808 < v) ∨ (minus = false ∧ 9223372036854775808 ≤ v) then (0, 0, e + 1, 41)
      else if f + m < s.size then (0, 0, f + m, 40)
      else (dval (seg s 0 e), if minus = true then -(v : Int) else v, 0, 0)

theorem parse_0 {s : ByteArray} (hE0 : 0 = span s 0) : parseF s = ((0 : Int), (0 : Int), (0 : Int), (40 : Int)) := by
  unfold parseF
  simp only
  rw [if_pos hE0.symm]
section
variable {s : ByteArray} {E : Nat} (hE : E = span s 0)
include hE
theorem parse_1 (h0 : ¬ E = 0) (h1 : bt s 0 = 48 ∧ 1 < E) : parseF s = ((0 : Int), (0 : Int), (1 : Int), (40 : Int)) := by
  unfold parseF
  simp only
  rw [← hE, if_neg h0, if_pos h1]
theorem parse_2 (h0 : ¬ E = 0) (h1 : ¬ (bt s 0 = 48 ∧ 1 < E)) (h2 : 65535 < dval (seg s 0 E)) : parseF s = ((0 : Int), (0 : Int), (0 : Int), (41 : Int)) := by
  unfold parseF
  simp only
  rw [← hE, if_neg h0, if_neg h1, if_pos h2]
theorem parse_3 (h0 : ¬ E = 0) (h1 : ¬ (bt s 0 = 48 ∧ 1 < E)) (h2 : ¬ 65535 < dval (seg s 0 E)) (h3 : s.size ≤ E ∨ bt s E ≠ 58) : parseF s = ((0 : Int), (0 : Int), (E : Int), (40 : Int)) := by
  unfold parseF
  simp only
  rw [← hE, if_neg h0, if_neg h1, if_neg h2, if_pos h3]
theorem parse_4 (h0 : ¬ E = 0) (h1 : ¬ (bt s 0 = 48 ∧ 1 < E)) (h2 : ¬ 65535 < dval (seg s 0 E)) (h3 : ¬ (s.size ≤ E ∨ bt s E ≠ 58)) (f : Nat)
    (hf : (if decide (E + 1 < s.size ∧ bt s (E + 1 : Nat) = 45) = true then E + 2 else E + 1) = f) (h4 : span s f = 0 ∨ (decide (E + 1 < s.size ∧ bt s (E + 1 : Nat) = 45) = true ∧ bt s f = 48)) : parseF s = ((0 : Int), (0 : Int), (f : Int), (40 : Int)) := by
  unfold parseF
  simp only
  rw [← hE, if_neg h0, if_neg h1, if_neg h2, if_neg h3, hf, if_pos h4]
theorem parse_5 (h0 : ¬ E = 0) (h1 : ¬ (bt s 0 = 48 ∧ 1 < E)) (h2 : ¬ 65535 < dval (seg s 0 E)) (h3 : ¬ (s.size ≤ E ∨ bt s E ≠ 58)) (f : Nat)
    (hf : (if decide (E + 1 < s.size ∧ bt s (E + 1 : Nat) = 45) = true then E + 2 else E + 1) = f) (h4 : ¬ (span s f = 0 ∨ (decide (E + 1 < s.size ∧ bt s (E + 1 : Nat) = 45) = true ∧ bt s f = 48)))
    (h5 : bt s f = 48 ∧ 1 < span s f) : parseF s = ((0 : Int), (0 : Int), (f : Int) + 1, (40 : Int)) := by
  unfold parseF
  simp only
  rw [← hE, if_neg h0, if_neg h1, if_neg h2, if_neg h3, hf, if_neg h4, if_pos h5]
theorem parse_6 (h0 : ¬ E = 0) (h1 : ¬ (bt s 0 = 48 ∧ 1 < E)) (h2 : ¬ 65535 < dval (seg s 0 E)) (h3 : ¬ (s.size ≤ E ∨ bt s E ≠ 58)) (f : Nat)
    (hf : (if decide (E + 1 < s.size ∧ bt s (E + 1 : Nat) = 45) = true then E + 2 else E + 1) = f) (h4 : ¬ (span s f = 0 ∨ (decide (E + 1 < s.size ∧ bt s (E + 1 : Nat) = 45) = true ∧ bt s f = 48)))
    (h5 : ¬ (bt s f = 48 ∧ 1 < span s f))
    (h6 : (decide (E + 1 < s.size ∧ bt s (E + 1 : Nat) = 45) = true ∧ 9223372036854775808 < dval (seg s f (f + span s f))) ∨ (decide (E + 1 < s.size ∧ bt s (E + 1 : Nat) = 45) = false ∧ 9223372036854775808 ≤ dval (seg s f (f + span s f)))) :
    parseF s = ((0 : Int), (0 : Int), (E : Int) + 1, (41 : Int)) := by
  unfold parseF
  simp only
  rw [← hE, if_neg h0, if_neg h1, if_neg h2, if_neg h3, hf, if_neg h4, if_neg h5, if_pos h6]
theorem parse_7 (h0 : ¬ E = 0) (h1 : ¬ (bt s 0 = 48 ∧ 1 < E)) (h2 : ¬ 65535 < dval (seg s 0 E)) (h3 : ¬ (s.size ≤ E ∨ bt s E ≠ 58)) (f : Nat)
    (hf : (if decide (E + 1 < s.size ∧ bt s (E + 1 : Nat) = 45) = true then E + 2 else E + 1) = f) (h4 : ¬ (span s f = 0 ∨ (decide (E + 1 < s.size ∧ bt s (E + 1 : Nat) = 45) = true ∧ bt s f = 48)))
    (h5 : ¬ (bt s f = 48 ∧ 1 < span s f))
    (h6 : ¬ ((decide (E + 1 < s.size ∧ bt s (E + 1 : Nat) = 45) = true ∧ 9223372036854775808 < dval (seg s f (f + span s f))) ∨ (decide (E + 1 < s.size ∧ bt s (E + 1 : Nat) = 45) = false ∧ 9223372036854775808 ≤ dval (seg s f (f + span s f)))))
    (h7 : f + span s f < s.size) : parseF s = ((0 : Int), (0 : Int), ((f + span s f : Nat) : Int), (40 : Int)) := by
  unfold parseF
  simp only
  rw [← hE, if_neg h0, if_neg h1, if_neg h2, if_neg h3, hf, if_neg h4, if_neg h5, if_neg h6, if_pos h7]
  simp
theorem parse_8 (h0 : ¬ E = 0) (h1 : ¬ (bt s 0 = 48 ∧ 1 < E)) (h2 : ¬ 65535 < dval (seg s 0 E)) (h3 : ¬ (s.size ≤ E ∨ bt s E ≠ 58)) (f : Nat)
    (hf : (if decide (E + 1 < s.size ∧ bt s (E + 1 : Nat) = 45) = true then E + 2 else E + 1) = f) (h4 : ¬ (span s f = 0 ∨ (decide (E + 1 < s.size ∧ bt s (E + 1 : Nat) = 45) = true ∧ bt s f = 48)))
    (h5 : ¬ (bt s f = 48 ∧ 1 < span s f))
    (h6 : ¬ ((decide (E + 1 < s.size ∧ bt s (E + 1 : Nat) = 45) = true ∧ 9223372036854775808 < dval (seg s f (f + span s f))) ∨ (decide (E + 1 < s.size ∧ bt s (E + 1 : Nat) = 45) = false ∧ 9223372036854775808 ≤ dval (seg s f (f + span s f)))))
    (h7 : ¬ f + span s f < s.size) : parseF s = ((dval (seg s 0 E) : Int), if decide (E + 1 < s.size ∧ bt s (E + 1 : Nat) = 45) = true then -(dval (seg s f (f + span s f)) : Int) else (dval (seg s f (f + span s f)) : Int), (0 : Int), (0 : Int)) := by
  unfold parseF
  simp only
  rw [← hE, if_neg h0, if_neg h1, if_neg h2, if_neg h3, hf, if_neg h4, if_neg h5, if_neg h6, if_neg h7]
end
theorem seg_cons (s : ByteArray) (i j : Nat) (hi : i < s.size) (hij : i < j) : (s.extract i j).data.toList = s[i] :: seg s (i + 1) j := by
  change seg s i j = _
  rw [seg_eq, seg_eq, show j - i = (j - (i + 1)) + 1 by omega]
  have h2 : i < s.data.toList.length := by rw [Array.length_toList]; exact hi
  rw [List.drop_eq_getElem_cons h2, List.take_succ_cons]
  rfl
end Go.Proofs.YtbmfldoobkeieaaDoor.KSpan
