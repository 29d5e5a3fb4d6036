/- What parseF tells, there and back: the law KeysTextBack. Plain. -/
import Derived.Test.YtbmfldoobkeieaaDoorPureTxB
namespace Go.Proofs.YtbmfldoobkeieaaDoor.PureTxB
open Go.RowKit Go.Proofs.YtbmfldoobkeieaaDoor.KSpan Go.Proofs.YtbmfldoobkeieaaDoor.KForm Go.Proofs.YtbmfldoobkeieaaDoor.GTxB Go.Proofs.YtbmfldoobkeieaaDoorW.PrintWords Go.Proofs.YtbmfldoobkeieaaDoorW.PrintLast
set_option linter.unusedVariables false
set_option linter.unusedSimpArgs false

/-- every way of Parse -/
theorem parse_elim (s : ByteArray) (P : Int × Int × Int × Int → Prop)
    (q0 : span s 0 = 0 → P (0, 0, 0, 40))
    (q1 : ∀ E, E = span s 0 → ¬ E = 0 → (bt s 0 = 48 ∧ 1 < E) → P (0, 0, 1, 40))
    (q2 : ∀ E, E = span s 0 → ¬ E = 0 → ¬ (bt s 0 = 48 ∧ 1 < E) → 65535 < dval (seg s 0 E) → P (0, 0, 0, 41))
    (q3 : ∀ E, E = span s 0 → ¬ E = 0 → ¬ (bt s 0 = 48 ∧ 1 < E) → ¬ 65535 < dval (seg s 0 E) → (s.size ≤ E ∨ bt s E ≠ 58) → P (0, 0, E, 40))
    (q4 : ∀ E (mi : Bool) f, E = span s 0 → ¬ E = 0 → ¬ (bt s 0 = 48 ∧ 1 < E) → ¬ 65535 < dval (seg s 0 E) → ¬ (s.size ≤ E ∨ bt s E ≠ 58) → mi = decide (E + 1 < s.size ∧ bt s (E + 1 : Nat) = 45) → f = (if mi = true then E + 2 else E + 1) →
      (span s f = 0 ∨ (mi = true ∧ bt s f = 48)) → P (0, 0, f, 40))
    (q5 : ∀ E (mi : Bool) f, E = span s 0 → ¬ E = 0 → ¬ (bt s 0 = 48 ∧ 1 < E) → ¬ 65535 < dval (seg s 0 E) → ¬ (s.size ≤ E ∨ bt s E ≠ 58) → mi = decide (E + 1 < s.size ∧ bt s (E + 1 : Nat) = 45) → f = (if mi = true then E + 2 else E + 1) →
      ¬ (span s f = 0 ∨ (mi = true ∧ bt s f = 48)) → (bt s f = 48 ∧ 1 < span s f) → P (0, 0, (f : Int) + 1, 40))
    (q6 : ∀ E (mi : Bool) f, E = span s 0 → ¬ E = 0 → ¬ (bt s 0 = 48 ∧ 1 < E) → ¬ 65535 < dval (seg s 0 E) → ¬ (s.size ≤ E ∨ bt s E ≠ 58) → mi = decide (E + 1 < s.size ∧ bt s (E + 1 : Nat) = 45) → f = (if mi = true then E + 2 else E + 1) →
      ¬ (span s f = 0 ∨ (mi = true ∧ bt s f = 48)) → ¬ (bt s f = 48 ∧ 1 < span s f) → P (0, 0, (E : Int) + 1, 41))
    (q7 : ∀ E (mi : Bool) f, E = span s 0 → ¬ E = 0 → ¬ (bt s 0 = 48 ∧ 1 < E) → ¬ 65535 < dval (seg s 0 E) → ¬ (s.size ≤ E ∨ bt s E ≠ 58) → mi = decide (E + 1 < s.size ∧ bt s (E + 1 : Nat) = 45) → f = (if mi = true then E + 2 else E + 1) →
      ¬ (span s f = 0 ∨ (mi = true ∧ bt s f = 48)) → ¬ (bt s f = 48 ∧ 1 < span s f) → ¬ ((mi = true ∧ 9223372036854775808 < dval (seg s f (f + span s f))) ∨ (mi = false ∧ 9223372036854775808 ≤ dval (seg s f (f + span s f)))) →
      f + span s f < s.size → P (0, 0, ((f + span s f : Nat) : Int), 40))
    (q8 : ∀ E (mi : Bool) f, E = span s 0 → ¬ E = 0 → ¬ (bt s 0 = 48 ∧ 1 < E) → ¬ 65535 < dval (seg s 0 E) → ¬ (s.size ≤ E ∨ bt s E ≠ 58) → mi = decide (E + 1 < s.size ∧ bt s (E + 1 : Nat) = 45) → f = (if mi = true then E + 2 else E + 1) →
      ¬ (span s f = 0 ∨ (mi = true ∧ bt s f = 48)) → ¬ (bt s f = 48 ∧ 1 < span s f) → ¬ ((mi = true ∧ 9223372036854775808 < dval (seg s f (f + span s f))) ∨ (mi = false ∧ 9223372036854775808 ≤ dval (seg s f (f + span s f)))) →
      ¬ f + span s f < s.size → P ((dval (seg s 0 E) : Int), if mi = true then -(dval (seg s f (f + span s f)) : Int) else (dval (seg s f (f + span s f)) : Int), 0, 0)) : P (parseF s) := by
  obtain ⟨E, hE⟩ : ∃ E, E = span s 0 := ⟨_, rfl⟩
  by_cases h0 : E = 0
  · rw [parse_0 (by rw [← hE, h0])]; exact q0 (by rw [← hE, h0])
  by_cases h1 : bt s 0 = 48 ∧ 1 < E
  · rw [parse_1 hE h0 h1]; exact q1 E hE h0 h1
  by_cases h2 : 65535 < dval (seg s 0 E)
  · rw [parse_2 hE h0 h1 h2]; exact q2 E hE h0 h1 h2
  by_cases h3 : s.size ≤ E ∨ bt s E ≠ 58
  · rw [parse_3 hE h0 h1 h2 h3]; exact q3 E hE h0 h1 h2 h3
  obtain ⟨mi, hmi⟩ : ∃ mi, mi = decide (E + 1 < s.size ∧ bt s (E + 1 : Nat) = 45) := ⟨_, rfl⟩
  obtain ⟨f, hf⟩ : ∃ f, f = (if mi = true then E + 2 else E + 1) := ⟨_, rfl⟩
  have hff : (if decide (E + 1 < s.size ∧ bt s (E + 1 : Nat) = 45) = true then E + 2 else E + 1) = f := by rw [← hmi, hf]
  by_cases h4 : span s f = 0 ∨ (mi = true ∧ bt s f = 48)
  · rw [parse_4 hE h0 h1 h2 h3 f hff (by rw [← hmi]; exact h4)]; exact q4 E mi f hE h0 h1 h2 h3 hmi hf h4
  by_cases h5 : bt s f = 48 ∧ 1 < span s f
  · rw [parse_5 hE h0 h1 h2 h3 f hff (by rw [← hmi]; exact h4) h5]; exact q5 E mi f hE h0 h1 h2 h3 hmi hf h4 h5
  by_cases h6 : (mi = true ∧ 9223372036854775808 < dval (seg s f (f + span s f))) ∨ (mi = false ∧ 9223372036854775808 ≤ dval (seg s f (f + span s f)))
  · rw [parse_6 hE h0 h1 h2 h3 f hff (by rw [← hmi]; exact h4) h5 (by rw [← hmi]; exact h6)]; exact q6 E mi f hE h0 h1 h2 h3 hmi hf h4 h5
  by_cases h7 : f + span s f < s.size
  · rw [parse_7 hE h0 h1 h2 h3 f hff (by rw [← hmi]; exact h4) h5 (by rw [← hmi]; exact h6) h7]; exact q7 E mi f hE h0 h1 h2 h3 hmi hf h4 h5 h6 h7
  · rw [parse_8 hE h0 h1 h2 h3 f hff (by rw [← hmi]; exact h4) h5 (by rw [← hmi]; exact h6) h7, ← hmi]; exact q8 E mi f hE h0 h1 h2 h3 hmi hf h4 h5 h6 h7

/-! ### digits and numbers -/
theorem dvalFrom_append (a b : List UInt8) (acc : Nat) : dvalFrom acc (a ++ b) = dvalFrom (dvalFrom acc a) b := by unfold dvalFrom; rw [List.foldl_append]
theorem dval_concat (a : List UInt8) (c : UInt8) : dval (a ++ [c]) = dval a * 10 + (c.toNat - 48) := by
  unfold dval
  rw [dvalFrom_append, dvalFrom_cons, dvalFrom_nil]
theorem of48 (n : Nat) (h : n < 10) : (UInt8.ofNat (48 + n)).toNat = 48 + n := by rw [UInt8.toNat_ofNat']; omega
theorem dval_one (n : Nat) (h : n < 10) : dval [UInt8.ofNat (48 + n)] = n := by
  unfold dval
  rw [dvalFrom_cons, dvalFrom_nil, of48 n h]; omega
theorem dval_dec (d : Nat) : ∀ n, n ≤ d → dval (Lib.decDigits n) = n := by
  induction d with
  | zero => intro n h; rw [dec_small n (by omega), dval_one n (by omega)]
  | succ d ih =>
    intro n h
    by_cases c : n < 10
    · rw [dec_small n c, dval_one n c]
    · rw [dec_great n c, dval_concat, ih (n / 10) (by omega), of48 _ (by omega)]; omega
theorem digits_dec (d : Nat) : ∀ n, n ≤ d → Digits (Lib.decDigits n) := by
  induction d with
  | zero =>
    intro n h
    rw [dec_small n (by omega)]
    intro c hc
    rw [List.mem_singleton] at hc
    rw [hc, of48 n (by omega)]; omega
  | succ d ih =>
    intro n h
    by_cases c : n < 10
    · rw [dec_small n c]
      intro x hx
      rw [List.mem_singleton] at hx
      rw [hx, of48 n c]; omega
    · rw [dec_great n c]
      intro x hx
      rcases List.mem_append.mp hx with hx | hx
      · exact ih (n / 10) (by omega) x hx
      · rw [List.mem_singleton] at hx
        rw [hx, of48 _ (by omega)]; omega
/-- the first digit: 0 at 0 alone -/
theorem head_dec (d : Nat) : ∀ n, n ≤ d → ∃ c r, Lib.decDigits n = c :: r ∧ (c.toNat = 48 → n = 0 ∧ r = []) := by
  induction d with
  | zero =>
    intro n h
    refine ⟨_, _, dec_small n (by omega), fun h2 => ?_⟩
    exact ⟨by omega, rfl⟩
  | succ d ih =>
    intro n h
    by_cases c : n < 10
    · refine ⟨_, _, dec_small n c, fun h2 => ?_⟩
      rw [of48 n c] at h2
      exact ⟨by omega, rfl⟩
    · obtain ⟨x, r, e, hx⟩ := ih (n / 10) (by omega)
      rw [dec_great n c, e]
      exact ⟨x, r ++ _, rfl, fun h2 => by have := (hx h2).1; omega⟩
theorem dval_ge (c : UInt8) (r : List UInt8) : c.toNat - 48 ≤ dval (c :: r) := by
  unfold dval
  rw [dvalFrom_cons]
  have := dvalFrom_ge r (0 * 10 + (c.toNat - 48))
  omega
/-- digits without a leading 0 are those of their number -/
theorem dec_dval (d : Nat) : ∀ l : List UInt8, l.length ≤ d → Digits l → l ≠ [] → (∀ c r, l = c :: r → c.toNat = 48 → r = []) → Lib.decDigits (dval l) = l := by
  induction d with
  | zero =>
    intro l h _ hn
    exact absurd (List.eq_nil_of_length_eq_zero (by omega)) hn
  | succ d ih =>
    intro l h hd hn hc
    obtain ⟨a, c, rfl⟩ : ∃ a c, l = a ++ [c] := ⟨l.dropLast, l.getLast hn, (List.dropLast_concat_getLast hn).symm⟩
    have hcd := hd c (by simp)
    have hx : UInt8.ofNat (48 + (c.toNat - 48)) = c := by rw [show 48 + (c.toNat - 48) = c.toNat by omega]; simp
    rw [dval_concat]
    cases a with
    | nil =>
      have e : dval ([] : List UInt8) = 0 := rfl
      rw [e, Nat.zero_mul, Nat.zero_add, dec_small _ (by omega), hx]
      rfl
    | cons x r =>
      have hxd := hd x (by simp)
      have h0 : ¬ x.toNat = 48 := fun h2 => by
        have := hc x (r ++ [c]) rfl h2
        simp at this
      have hg := dval_ge x r
      have := ih (x :: r) (by simp at h ⊢; omega) (fun y hy => hd y (List.mem_append.mpr (.inl hy))) (by simp) (fun y q e h2 => by
        obtain ⟨rfl, rfl⟩ := List.cons.inj e
        exact absurd h2 h0)
      rw [dec_great _ (by omega), show (dval (x :: r) * 10 + (c.toNat - 48)) / 10 = dval (x :: r) by omega, show (dval (x :: r) * 10 + (c.toNat - 48)) % 10 = c.toNat - 48 by omega, this, hx]

/-! ### pieces -/
theorem dig_iff (s : ByteArray) (i : Nat) : dig s i = true ↔ ∃ c, s.data.toList[i]? = some c ∧ 48 ≤ c.toNat ∧ c.toNat ≤ 57 := by
  unfold dig
  rw [decide_eq_true_eq]
  constructor
  · rintro ⟨h, h1, h2⟩
    rw [bt_nat s i h] at h1 h2
    exact ⟨s[i], by rw [Array.getElem?_toList]; exact Array.getElem?_eq_getElem h, by omega, by omega⟩
  · rintro ⟨c, h, h1, h2⟩
    rw [Array.getElem?_toList] at h
    have hl : i < s.size := by
      rcases Nat.lt_or_ge i s.data.size with h' | h'
      · exact h'
      · rw [Array.getElem?_eq_none h'] at h; cases h
    rw [Array.getElem?_eq_getElem hl] at h
    have e : s[i] = c := Option.some.inj h
    rw [bt_nat s i hl, e]
    exact ⟨hl, by omega, by omega⟩
theorem bt_list (s : ByteArray) (i : Nat) (c : UInt8) (h : s.data.toList[i]? = some c) : i < s.size ∧ bt s i = (c.toNat : Int) := by
  rw [Array.getElem?_toList] at h
  have hl : i < s.size := by
    rcases Nat.lt_or_ge i s.data.size with h' | h'
    · exact h'
    · rw [Array.getElem?_eq_none h'] at h; cases h
  rw [Array.getElem?_eq_getElem hl] at h
  have e : s[i] = c := Option.some.inj h
  exact ⟨hl, by rw [bt_nat s i hl, e]⟩
theorem drop_get {l : List UInt8} {i : Nat} {c : UInt8} {r : List UInt8} (h : l.drop i = c :: r) : l[i]? = some c := by
  have : (l.drop i)[0]? = some c := by rw [h]; rfl
  rwa [List.getElem?_drop, Nat.add_zero] at this
theorem drop_next {l : List UInt8} {i : Nat} {c : UInt8} {r : List UInt8} (h : l.drop i = c :: r) : l.drop (i + 1) = r := by
  rw [← List.drop_drop, h]; rfl
theorem span_list (s : ByteArray) (rest : List UInt8) (hr : ∀ c q, rest = c :: q → ¬ (48 ≤ c.toNat ∧ c.toNat ≤ 57)) : ∀ (D : List UInt8) (i : Nat), s.data.toList.drop i = D ++ rest → Digits D → span s i = D.length
  | [], i, h, _ => by
    apply span_zero
    cases hd : dig s i
    · rfl
    · obtain ⟨c, hc, hcd⟩ := (dig_iff s i).mp hd
      rw [List.nil_append] at h
      cases rest with
      | nil =>
        have : (s.data.toList.drop i)[0]? = none := by rw [h]; rfl
        rw [List.getElem?_drop, Nat.add_zero, hc] at this
        cases this
      | cons x q =>
        rw [drop_get h] at hc
        exact absurd (Option.some.inj hc ▸ hcd) (hr x q rfl)
  | x :: D, i, h, hD => by
    rw [span_pos ((dig_iff s i).mpr ⟨x, drop_get h, hD x (by simp)⟩), span_list s rest hr D (i + 1) (drop_next h) (fun c hc => hD c (by simp [hc]))]
    rfl
theorem seg_list (s : ByteArray) (D rest : List UInt8) (i : Nat) (h : s.data.toList.drop i = D ++ rest) : seg s i (i + D.length) = D := by
  rw [seg_eq, h, show i + D.length - i = D.length by omega, List.take_left]

/-- Parse of a key's text -/
theorem parse_text (s : ByteArray) (a b : Nat) (mi : Bool) (ha : a ≤ 65535) (hb : if mi = true then 1 ≤ b ∧ b ≤ 9223372036854775808 else b < 9223372036854775808)
    (hs : s.data.toList = Lib.decDigits a ++ 58 :: ((if mi = true then [45] else []) ++ Lib.decDigits b)) : parseF s = ((a : Int), if mi = true then -(b : Int) else b, 0, 0) := by
  have hA := digits_dec a a (Nat.le_refl _)
  have hB := digits_dec b b (Nat.le_refl _)
  obtain ⟨c, r, eA, cA⟩ := head_dec a a (Nat.le_refl _)
  obtain ⟨c2, r2, eB, cB⟩ := head_dec b b (Nat.le_refl _)
  have hsz : s.size = (Lib.decDigits a).length + 1 + (if mi = true then 1 else 0) + (Lib.decDigits b).length := by
    have : s.data.toList.length = s.size := Array.length_toList
    rw [← this, hs]
    cases mi
    · simp
      omega
    · simp
      omega
  have s0 : s.data.toList.drop 0 = Lib.decDigits a ++ 58 :: ((if mi = true then [45] else []) ++ Lib.decDigits b) := hs
  have hE : (Lib.decDigits a).length = span s 0 := (span_list s _ (fun x q e => by obtain ⟨rfl, _⟩ := List.cons.inj e; decide) _ 0 s0 hA).symm
  have g0 : seg s 0 (Lib.decDigits a).length = Lib.decDigits a := by have := seg_list s _ _ 0 s0; rwa [Nat.zero_add] at this
  have vA := dval_dec a a (Nat.le_refl _)
  have vB := dval_dec b b (Nat.le_refl _)
  obtain ⟨E, hEE⟩ : ∃ E, E = (Lib.decDigits a).length := ⟨_, rfl⟩
  rw [← hEE] at hE g0
  have dE : s.data.toList.drop E = 58 :: ((if mi = true then [45] else []) ++ Lib.decDigits b) := by rw [hs, hEE, List.drop_left]
  have dE1 := drop_next dE
  have hbE := bt_list s E _ (drop_get dE)
  have hc0 := bt_list s 0 c (by rw [hs, eA]; rfl)
  have h0 : ¬ E = 0 := by rw [hEE, eA]; simp
  have h1 : ¬ (bt s 0 = 48 ∧ 1 < E) := by
    rintro ⟨x, y⟩
    rw [show bt s 0 = bt s (0 : Nat) from rfl, hc0.2] at x
    have := (cA (by omega)).2
    rw [hEE, eA, this] at y
    simp at y
  have h2 : ¬ 65535 < dval (seg s 0 E) := by rw [g0, vA]; omega
  have h3 : ¬ (s.size ≤ E ∨ bt s E ≠ 58) := by
    rintro (h | h)
    · omega
    · exact h (by rw [hbE.2]; rfl)
  have hmi : mi = decide (E + 1 < s.size ∧ bt s (E + 1 : Nat) = 45) := by
    cases mi
    · have e1 : s.data.toList.drop (E + 1) = c2 :: r2 := by rw [dE1, eB]; rfl
      have := bt_list s (E + 1) c2 (drop_get e1)
      have d2 := hB c2 (by rw [eB]; simp)
      rw [decide_eq_false]
      rintro ⟨_, h⟩
      rw [this.2] at h
      omega
    · have e1 : s.data.toList.drop (E + 1) = 45 :: Lib.decDigits b := by rw [dE1]; rfl
      have := bt_list s (E + 1) 45 (drop_get e1)
      rw [decide_eq_true]
      exact ⟨this.1, by rw [this.2]; rfl⟩
  obtain ⟨f, hf⟩ : ∃ f, f = (if mi = true then E + 2 else E + 1) := ⟨_, rfl⟩
  have hff : (if decide (E + 1 < s.size ∧ bt s (E + 1 : Nat) = 45) = true then E + 2 else E + 1) = f := by rw [← hmi, hf]
  have df : s.data.toList.drop f = Lib.decDigits b ++ [] := by
    rw [List.append_nil, hf]
    cases mi
    · rw [if_neg (by simp), dE1]; rfl
    · have e1 : s.data.toList.drop (E + 1) = 45 :: Lib.decDigits b := by rw [dE1]; rfl
      rw [if_pos rfl]
      exact drop_next e1
  have sf : span s f = (Lib.decDigits b).length := span_list s [] (fun x q e => by cases e) _ f df hB
  have gf : seg s f (f + span s f) = Lib.decDigits b := by rw [sf]; exact seg_list s _ _ f df
  have hcf := bt_list s f c2 (by rw [List.append_nil, eB] at df; exact drop_get df)
  have lb : (Lib.decDigits b).length = r2.length + 1 := by rw [eB]; rfl
  have h4 : ¬ (span s f = 0 ∨ (mi = true ∧ bt s f = 48)) := by
    rintro (h | ⟨h, h'⟩)
    · rw [sf] at h; omega
    · rw [hcf.2] at h'
      have := (cB (by omega)).1
      rw [if_pos h] at hb
      omega
  have h5 : ¬ (bt s f = 48 ∧ 1 < span s f) := by
    rintro ⟨h, h'⟩
    rw [hcf.2] at h
    have := (cB (by omega)).2
    rw [this] at lb
    rw [sf, lb] at h'
    simp at h'
  have h6 : ¬ ((mi = true ∧ 9223372036854775808 < dval (seg s f (f + span s f))) ∨ (mi = false ∧ 9223372036854775808 ≤ dval (seg s f (f + span s f)))) := by
    rw [gf, vB]
    rintro (⟨h, h'⟩ | ⟨h, h'⟩)
    · rw [if_pos h] at hb; omega
    · rw [if_neg (by rw [h]; simp)] at hb; omega
  have h7 : ¬ f + span s f < s.size := by
    rw [sf, hf, hsz, hEE]
    cases mi
    · simp
    · simp
      try omega
  rw [parse_8 hE h0 h1 h2 h3 f hff (by rw [← hmi]; exact h4) h5 (by rw [← hmi]; exact h6) h7, ← hmi, gf, g0, vA, vB]
theorem parse_of_text (t r : Int) (s : ByteArray) (h : textF t r = some (s, 0)) (hr0 : -9223372036854775808 ≤ r) (hr1 : r ≤ 9223372036854775807) : parseF s = (t, r, 0, 0) := by
  unfold textF at h
  rw [if_pos (show -9223372036854775808 ≤ r ∧ r ≤ 9223372036854775807 from ⟨hr0, hr1⟩)] at h
  have h := Option.some.inj h
  by_cases c : 0 ≤ t ∧ t ≤ 65535
  · rw [if_pos c] at h
    obtain ⟨rfl, _⟩ := Prod.mk.inj h
    obtain ⟨a, rfl⟩ : ∃ a : Nat, t = a := ⟨t.toNat, by omega⟩
    rw [Lib.itoa_nonneg]
    by_cases c2 : r < 0
    · obtain ⟨b, hb⟩ : ∃ b : Nat, r = -(b : Int) := ⟨r.natAbs, by omega⟩
      subst hb
      rw [Lib.itoa_neg b (by omega)]
      have := parse_text ⟨(Lib.decDigits a ++ 58 :: 45 :: Lib.decDigits b).toArray⟩ a b true (by omega) (by rw [if_pos rfl]; omega) (by simp)
      rw [this, if_pos rfl]
    · obtain ⟨b, rfl⟩ : ∃ b : Nat, r = b := ⟨r.toNat, by omega⟩
      rw [Lib.itoa_nonneg]
      have := parse_text ⟨(Lib.decDigits a ++ 58 :: Lib.decDigits b).toArray⟩ a b false (by omega) (by rw [if_neg (by simp)]; omega) (by simp)
      rw [this, if_neg (by simp)]
  · rw [if_neg c] at h
    have := (Prod.mk.inj h).2
    cases this
theorem seg_full (s : ByteArray) (i : Nat) : seg s i s.size = s.data.toList.drop i := by
  rw [seg_eq, List.take_of_length_le]
  rw [List.length_drop, Array.length_toList]
  exact Nat.le_refl _
theorem seg_join (s : ByteArray) (i j k : Nat) (h1 : i ≤ j) (h2 : j ≤ k) : seg s i j ++ seg s j k = seg s i k := by
  rw [seg_eq, seg_eq, seg_eq, show s.data.toList.drop j = (s.data.toList.drop i).drop (j - i) by rw [List.drop_drop]; congr 1; omega, show k - i = (j - i) + (k - j) by omega, List.take_add]
theorem seg_one (s : ByteArray) (i : Nat) (h : i < s.size) : seg s i (i + 1) = [s[i]] := by
  have := seg_cons s i (i + 1) h (by omega)
  rw [show seg s (i + 1) (i + 1) = [] by rw [seg_eq]; simp] at this
  exact this
theorem byte_of {c : UInt8} {n : Nat} (h : c.toNat = n) : c = UInt8.ofNat n := by rw [← h]; simp
/-- what Parse tells, there and back -/
theorem parse_cases (s : ByteArray) : (∃ t r, parseF s = (t, r, 0, 0) ∧ 0 ≤ t ∧ t ≤ 65535 ∧ -9223372036854775808 ≤ r ∧ r ≤ 9223372036854775807 ∧ s.data.toList = Lib.itoa t ++ 58 :: Lib.itoa r) ∨
    (∃ p c, parseF s = (0, 0, p, c) ∧ 0 ≤ p ∧ p ≤ (s.size : Int) ∧ (c = 40 ∨ c = 41)) := by
  have hsp := span_size s 0 (by omega)
  refine parse_elim s (fun x => (∃ t r, x = (t, r, 0, 0) ∧ 0 ≤ t ∧ t ≤ 65535 ∧ -9223372036854775808 ≤ r ∧ r ≤ 9223372036854775807 ∧ s.data.toList = Lib.itoa t ++ 58 :: Lib.itoa r) ∨ (∃ p c, x = (0, 0, p, c) ∧ 0 ≤ p ∧ p ≤ (s.size : Int) ∧ (c = 40 ∨ c = 41))) ?_ ?_ ?_ ?_ ?_ ?_ ?_ ?_ ?_
  · intro _; exact .inr ⟨_, _, rfl, by omega, by omega, .inl rfl⟩
  · intro E hE h0 h1; exact .inr ⟨_, _, rfl, by omega, by omega, .inl rfl⟩
  · intro E hE h0 h1 h2; exact .inr ⟨_, _, rfl, by omega, by omega, .inr rfl⟩
  · intro E hE h0 h1 h2 h3; exact .inr ⟨_, _, rfl, by omega, by omega, .inl rfl⟩
  · intro E mi f hE h0 h1 h2 h3 hmi hf h4
    refine .inr ⟨_, _, rfl, by omega, ?_, .inl rfl⟩
    cases mi
    · rw [if_neg (by simp)] at hf; omega
    · rw [if_pos rfl] at hf
      have := (of_decide_eq_true hmi.symm).1
      omega
  · intro E mi f hE h0 h1 h2 h3 hmi hf h4 h5
    have hlt : f < s.size := by
      have : dig s f = true := by
        cases h : dig s f
        · exact absurd (.inl (span_zero h)) h4
        · rfl
      exact dig_lt this
    exact .inr ⟨_, _, rfl, by omega, by omega, .inl rfl⟩
  · intro E mi f hE h0 h1 h2 h3 hmi hf h4 h5
    exact .inr ⟨_, _, rfl, by omega, by omega, .inr rfl⟩
  · intro E mi f hE h0 h1 h2 h3 hmi hf h4 h5 h6 h7
    exact .inr ⟨_, _, rfl, by omega, by omega, .inl rfl⟩
  · intro E mi f hE h0 h1 h2 h3 hmi hf h4 h5 h6 h7
    have hlt : f < s.size := by
      have : dig s f = true := by
        cases h : dig s f
        · exact absurd (.inl (span_zero h)) h4
        · rfl
      exact dig_lt this
    have hsf := span_size s f (by omega)
    have hE3 : E < s.size ∧ bt s E = 58 := by
      refine ⟨by omega, ?_⟩
      by_cases c : bt s E = 58
      · exact c
      · exact absurd (.inr c) h3
    have dA := digits_span s 0
    rw [Nat.zero_add, ← hE] at dA
    have dB := digits_span s f
    have nA : seg s 0 E ≠ [] := seg_ne s 0 E (by omega) (by omega)
    have nB : seg s f (f + span s f) ≠ [] := (by
      have : ¬ span s f = 0 := fun h => h4 (.inl h)
      exact seg_ne s f _ (by omega) hsf)
    have cA : ∀ c r, seg s 0 E = c :: r → c.toNat = 48 → r = [] := by
      intro c r e h
      have e2 : seg s 0 E = s[0]'(by omega) :: seg s 1 E := seg_cons s 0 E (by omega) (by omega)
      rw [e2] at e
      obtain ⟨e3, e4⟩ := List.cons.inj e
      have hb : bt s 0 = 48 := by rw [show bt s 0 = bt s (0 : Nat) from rfl, bt_nat s 0 (by omega), e3, h]; rfl
      have : ¬ 1 < E := fun h => h1 ⟨hb, h⟩
      rw [← e4]
      have := seg_length s 1 E (by omega) (by omega)
      exact List.eq_nil_of_length_eq_zero (by omega)
    have cB : ∀ c r, seg s f (f + span s f) = c :: r → c.toNat = 48 → r = [] := by
      intro c r e h
      have hp : ¬ span s f = 0 := fun h => h4 (.inl h)
      have e2 : seg s f (f + span s f) = s[f] :: seg s (f + 1) (f + span s f) := seg_cons s f _ hlt (by omega)
      rw [e2] at e
      obtain ⟨e3, e4⟩ := List.cons.inj e
      have hb : bt s f = 48 := by rw [bt_nat s f hlt, e3, h]; rfl
      have : ¬ 1 < span s f := fun h => h5 ⟨hb, h⟩
      rw [← e4]
      have := seg_length s (f + 1) (f + span s f) (by omega) (by omega)
      exact List.eq_nil_of_length_eq_zero (by omega)
    have eA := dec_dval _ _ (Nat.le_refl _) dA nA cA
    have eB := dec_dval _ _ (Nat.le_refl _) dB nB cB
    have full : s.data.toList = seg s 0 E ++ (seg s E (E + 1) ++ (seg s (E + 1) f ++ seg s f (f + span s f))) := by
      have hfe : E + 1 ≤ f := by cases mi <;> simp at hf <;> omega
      rw [seg_join s (E + 1) f _ hfe (by omega), seg_join s E (E + 1) _ (by omega) (by omega), seg_join s 0 E _ (by omega) (by omega), show f + span s f = s.size by omega, seg_full]
      rfl
    have e58 : s[E]'(by omega) = 58 := byte_of (n := 58) (by have := hE3.2; rw [bt_nat s E hE3.1] at this; omega)
    rw [seg_one s E hE3.1, e58] at full
    obtain ⟨D, hD⟩ : ∃ D, D = dval (seg s f (f + span s f)) := ⟨_, rfl⟩
    rw [← hD] at eB h6 ⊢
    cases mi
    · rw [if_neg (by simp)] at hf
      have hD2 : D < 9223372036854775808 := by
        rcases Nat.lt_or_ge D 9223372036854775808 with h | h
        · exact h
        · exact absurd (.inr ⟨rfl, h⟩) h6
      refine .inl ⟨_, _, rfl, by omega, by omega, ?_, ?_, ?_⟩
      · rw [if_neg (by simp)]; omega
      · rw [if_neg (by simp)]; omega
      · rw [if_neg (by simp), full, ← hf, show seg s f f = [] by rw [seg_eq]; simp, Lib.itoa_nonneg, Lib.itoa_nonneg, eA, eB]
        rfl
    · rw [if_pos rfl] at hf
      have hm := of_decide_eq_true hmi.symm
      have hD2 : D ≤ 9223372036854775808 := by
        rcases Nat.lt_or_ge 9223372036854775808 D with h | h
        · exact absurd (.inl ⟨rfl, h⟩) h6
        · exact h
      have hD1 : 1 ≤ D := by
        have hp : ¬ span s f = 0 := fun h => h4 (.inl h)
        have e2 : seg s f (f + span s f) = s[f] :: seg s (f + 1) (f + span s f) := seg_cons s f _ hlt (by omega)
        have hg := dval_ge (s[f]) (seg s (f + 1) (f + span s f))
        rw [← e2, ← hD] at hg
        have hd := dB (s[f]) (by rw [e2]; simp)
        have : ¬ bt s f = 48 := fun h => h4 (.inr ⟨rfl, h⟩)
        rw [bt_nat s f hlt] at this
        omega
      have e45 : s[E + 1]'(by omega) = 45 := byte_of (n := 45) (by have := hm.2; rw [bt_nat s (E + 1) hm.1] at this; omega)
      rw [show seg s (E + 1) f = [45] by rw [hf, show E + 2 = (E + 1) + 1 by omega, seg_one s (E + 1) hm.1, e45]] at full
      refine .inl ⟨_, _, rfl, by omega, by omega, ?_, ?_, ?_⟩
      · rw [if_pos rfl]; omega
      · rw [if_pos rfl]; omega
      · rw [if_pos rfl, full, Lib.itoa_nonneg, Lib.itoa_neg D hD1, eA, eB]
        rfl

theorem keysTextBack (t r : Int) (s : ByteArray) (t0 : -9223372036854775808 ≤ t) (t1 : t ≤ 9223372036854775807) (r0 : -9223372036854775808 ≤ r) (r1 : r ≤ 9223372036854775807) (hs : s.size ≤ 140737488351232) :
    ∃ k, preludelaw02_KeysTextBack.f k t r s = some true := by
  obtain ⟨⟨u, c⟩, hu⟩ : ∃ x, textF t r = some x := by unfold textF; rw [if_pos (show -9223372036854775808 ≤ r ∧ r ≤ 9223372036854775807 from ⟨r0, r1⟩)]; exact ⟨_, rfl⟩
  have hz := text_size t r u c t0 t1 hu
  have j1 : ∀ k, preludelaw02_KeysTextBack.j1 (k + 1) s = some true := by
    intro k
    rw [preludelaw02_KeysTextBack.j1, pf s (by omega)]
    simp only [Option.bind_some, num_f]
    rcases parse_cases s with ⟨a, b, e, a0, a1, b0, b1, es⟩ | ⟨p, x, e, p0, p1, hx⟩
    · rw [e]
      simp only
      rw [if_pos trivial, tf]
      have : textF a b = some (s, 0) := by
        unfold textF
        rw [if_pos (show -9223372036854775808 ≤ b ∧ b ≤ 9223372036854775807 from ⟨b0, b1⟩), if_pos ⟨a0, a1⟩, ← es]
      rw [this]
      simp
    · rw [e]
      simp only
      rw [if_neg (by omega), if_pos (by simp), if_pos (by omega), decide_eq_true p1]
  refine ⟨2, ?_⟩
  have hc : c = 0 ∧ (0 ≤ t ∧ t ≤ 65535) ∨ c = 20 ∧ ¬ (0 ≤ t ∧ t ≤ 65535) := by
    unfold textF at hu
    rw [if_pos (show -9223372036854775808 ≤ r ∧ r ≤ 9223372036854775807 from ⟨r0, r1⟩)] at hu
    have hu := Option.some.inj hu
    by_cases d : 0 ≤ t ∧ t ≤ 65535
    · rw [if_pos d] at hu; exact .inl ⟨(Prod.mk.inj hu).2.symm, d⟩
    · rw [if_neg d] at hu; exact .inr ⟨(Prod.mk.inj hu).2.symm, d⟩
  have hj : preludelaw02_KeysTextBack.j0 2 s u c false t r = some true := by
    rw [preludelaw02_KeysTextBack.j0, if_neg (by simp)]
    simp only [num_f, Option.bind_some]
    rcases hc with ⟨rfl, d⟩ | ⟨rfl, d⟩
    · rw [if_pos rfl, pf u (by omega), parse_of_text t r u hu r0 r1]
      simp only [num_f, Option.bind_some]
      rw [if_pos trivial, if_pos trivial, if_neg (by simp)]
      exact j1 0
    · rw [if_neg (by omega)]
      exact j1 0
  unfold preludelaw02_KeysTextBack.f
  have hp : preludelaw02_plain.f = some true := rfl
  rw [hp, tf, hu]
  simp only [num_f, Option.bind_some, if_true]
  rcases hc with ⟨rfl, d⟩ | ⟨rfl, d⟩
  · rw [if_pos d.1, decide_eq_true d.2]
    exact hj
  · by_cases g : t ≥ 0
    · rw [if_pos g, decide_eq_false (fun h => d ⟨g, h⟩)]
      exact hj
    · rw [if_neg g]
      exact hj
end Go.Proofs.YtbmfldoobkeieaaDoor.PureTxB
