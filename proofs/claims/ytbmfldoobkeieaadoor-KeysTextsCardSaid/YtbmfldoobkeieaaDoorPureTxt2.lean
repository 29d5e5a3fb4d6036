/- The reference's Text tells what textF tells; the law KeysTexts. Plain. -/
import Derived.Test.YtbmfldoobkeieaaDoorPureRow
import Derived.Test.YtbmfldoobkeieaaDoorGTxtx2
import Derived.Lib.ItoaLen
namespace Go.Proofs.YtbmfldoobkeieaaDoor.Pure
open Go.RowKit Go.Proofs.YtbmfldoobkeieaaDoor.KSpan Go.Proofs.YtbmfldoobkeieaaDoor.KForm Go.Proofs.YtbmfldoobkeieaaDoor.GTxt Go.Proofs.YtbmfldoobkeieaaDoorW.PrintWords Go.Proofs.YtbmfldoobkeieaaDoorW.PrintLast
set_option linter.unusedVariables false
set_option linter.unusedSimpArgs false

theorem u64w (n : Int) : IntKind.u64.wrap n = n % 18446744073709551616 := PureRow.u64w n
theorem dec_small (n : Nat) (h : n < 10) : Lib.decDigits n = [UInt8.ofNat (48 + n)] := by rw [Lib.decDigits, dif_pos h]
theorem dec_great (n : Nat) (h : ¬ n < 10) : Lib.decDigits n = Lib.decDigits (n / 10) ++ [UInt8.ofNat (48 + n % 10)] := by rw [Lib.decDigits, dif_neg h]
theorem one_num (n : Nat) : strOfNums [(IntKind.u64.wrap (48 + (Int.tmod (n : Int) 10))) % 256] = ⟨([UInt8.ofNat (48 + n % 10)] : List UInt8).toArray⟩ := by
  have e : (IntKind.u64.wrap (48 + (Int.tmod (n : Int) 10))) % 256 = ((48 + n % 10 : Nat) : Int) := by
    rw [u64w, Int.tmod_eq_emod_of_nonneg (by omega)]; omega
  rw [e]
  rfl
theorem natural_val (d : Nat) : ∀ (k n : Nat) (rest : List UInt8), n < 10 ^ (d + 1) → n < 18446744073709551616 → d < k → rest.length + d ≤ 1000 →
    preluderef02_natural.l0 k n ⟨(UInt8.ofNat (48 + n % 10) :: rest).toArray⟩ = some ⟨(Lib.decDigits n ++ rest).toArray⟩ := by
  induction d with
  | zero =>
    intro k n rest h1 h2 h3 h4
    obtain ⟨k, rfl⟩ : ∃ m, k = m + 1 := ⟨k - 1, by omega⟩
    rw [preluderef02_natural.l0, if_neg (by omega), dec_small n (by omega), Nat.mod_eq_of_lt (by omega)]
    rfl
  | succ d ih =>
    intro k n rest h1 h2 h3 h4
    obtain ⟨k, rfl⟩ : ∃ m, k = m + 1 := ⟨k - 1, by omega⟩
    rw [preluderef02_natural.l0]
    by_cases c : n < 10
    · rw [if_neg (by omega), dec_small n c, Nat.mod_eq_of_lt c]
      rfl
    · have hp : n / 10 < 10 ^ (d + 1) := by
        rw [Nat.div_lt_iff_lt_mul (by omega)]
        rw [Nat.pow_succ] at h1
        exact h1
      have e1 : IntKind.u64.wrap (Int.tdiv (n : Int) 10) = ((n / 10 : Nat) : Int) := by
        rw [u64w, Int.tdiv_eq_ediv_of_nonneg (by omega)]; omega
      rw [if_pos (by omega), e1]
      simp only [Option.bind_some]
      rw [one_num, if_pos, ByteArray.mk_append_mk, dec_great n c]
      · have := ih k (n / 10) (UInt8.ofNat (48 + n % 10) :: rest) hp (by omega) (by omega) (by simp; omega)
        rw [List.append_assoc]
        exact this
      · show ([UInt8.ofNat (48 + n / 10 % 10)] : List UInt8).toArray.size + (UInt8.ofNat (48 + n % 10) :: rest).toArray.size ≤ _
        simp
        omega
theorem natural_f (n k : Nat) (h : n < 18446744073709551616) (hk : 20 ≤ k) : preluderef02_natural.f k n = some ⟨(Lib.decDigits n).toArray⟩ := by
  unfold preluderef02_natural.f
  rw [one_num]
  have := natural_val 19 k n [] (by omega) h (by omega) (by simp)
  rw [List.append_nil] at this
  exact this
theorem itoa_size (n : Int) (h0 : -9223372036854775808 ≤ n) (h1 : n ≤ 9223372036854775807) : (⟨(Lib.itoa n).toArray⟩ : ByteArray).size ≤ 100 := itoa_len n h0 h1
theorem whole_f (n : Int) (k : Nat) (h0 : -9223372036854775808 ≤ n) (h1 : n ≤ 9223372036854775807) (hk : 20 ≤ k) : preluderef02_whole.f k n = some ⟨(Lib.itoa n).toArray⟩ := by
  unfold preluderef02_whole.f
  by_cases c : n < 0
  · rw [if_pos c, show IntKind.u64.wrap (-(IntKind.u64.wrap n)) = (n.natAbs : Int) by rw [u64w, u64w]; omega, natural_f _ _ (by omega) hk]
    have hl := itoa_size n h0 h1
    have e : Lib.itoa n = 45 :: Lib.decDigits n.natAbs := by unfold Lib.itoa; rw [if_pos c]
    rw [e] at hl ⊢
    simp only [Option.bind_some]
    have hl2 : (⟨(Lib.decDigits n.natAbs).toArray⟩ : ByteArray).size + 1 ≤ 100 := by
      have a : (⟨(45 :: Lib.decDigits n.natAbs).toArray⟩ : ByteArray).size = (Lib.decDigits n.natAbs).length + 1 := by show (45 :: Lib.decDigits n.natAbs).toArray.size = _; simp
      have b : (⟨(Lib.decDigits n.natAbs).toArray⟩ : ByteArray).size = (Lib.decDigits n.natAbs).length := by show (Lib.decDigits n.natAbs).toArray.size = _; simp
      omega
    rw [if_pos (by omega), show (⟨#[45]⟩ : ByteArray) = ⟨([45] : List UInt8).toArray⟩ from rfl, ByteArray.mk_append_mk]
    rfl
  · rw [if_neg c, show IntKind.u64.wrap n = (n.toNat : Int) by rw [u64w]; omega, natural_f _ _ (by omega) hk]
    have e : Lib.itoa n = Lib.decDigits n.toNat := by unfold Lib.itoa; rw [if_neg c]
    rw [e]
    rfl
theorem text_f (t r : Int) (k : Nat) (t0 : -9223372036854775808 ≤ t) (t1 : t ≤ 9223372036854775807) (r0 : -9223372036854775808 ≤ r) (r1 : r ≤ 9223372036854775807) (hk : 20 ≤ k) :
    preluderef02_Text.f k t r = textF t r := by
  unfold preluderef02_Text.f textF preluderef02_Check.f
  have hr : -9223372036854775808 ≤ r ∧ r ≤ 9223372036854775807 := ⟨r0, r1⟩
  rw [if_pos hr]
  by_cases c : 0 ≤ t ∧ t ≤ 65535
  · have e : Lib.itoa t = Lib.decDigits t.toNat := by unfold Lib.itoa; rw [if_neg (by omega)]
    have l1 := itoa_size t t0 t1
    have l2 := itoa_size r r0 r1
    rw [if_pos c, if_neg (by omega), if_neg (by omega)]
    simp only [Option.bind_some]
    rw [if_pos trivial, show IntKind.u64.wrap t = (t.toNat : Int) by rw [u64w]; omega, natural_f _ _ (by omega) hk, whole_f r k r0 r1 hk, ← e]
    simp only [Option.bind_some]
    rw [if_pos (by omega), if_pos]
    · rw [show ((⟨(Lib.itoa t).toArray⟩ : ByteArray) ++ ⟨#[58]⟩ ++ ⟨(Lib.itoa r).toArray⟩) = ⟨(Lib.itoa t ++ 58 :: Lib.itoa r).toArray⟩ from by
        rw [show (⟨#[58]⟩ : ByteArray) = ⟨([58] : List UInt8).toArray⟩ from rfl, ByteArray.mk_append_mk, ByteArray.mk_append_mk, List.append_assoc, List.singleton_append]]
    · rw [ByteArray.size_append]
      have : (⟨#[58]⟩ : ByteArray).size = 1 := rfl
      omega
  · rw [if_neg c]
    by_cases c1 : t < 0
    · rw [if_pos c1]; rfl
    · rw [if_neg c1, if_pos (by omega)]; rfl
theorem text_size (t r : Int) (s : ByteArray) (c : Int) (t0 : -9223372036854775808 ≤ t) (t1 : t ≤ 9223372036854775807) (h : textF t r = some (s, c)) : s.size ≤ 201 := by
  unfold textF at h
  split at h
  · rename_i hr
    have h := Option.some.inj h
    have l1 := itoa_size t t0 t1
    have l2 := itoa_size r hr.1 hr.2
    split at h
    · obtain ⟨rfl, _⟩ := Prod.mk.inj h
      have e : (⟨(Lib.itoa t ++ 58 :: Lib.itoa r).toArray⟩ : ByteArray).size = (Lib.itoa t).length + (Lib.itoa r).length + 1 := by
        show (Lib.itoa t ++ 58 :: Lib.itoa r).toArray.size = _
        simp; omega
      have a : (⟨(Lib.itoa t).toArray⟩ : ByteArray).size = (Lib.itoa t).length := by show (Lib.itoa t).toArray.size = _; simp
      have b : (⟨(Lib.itoa r).toArray⟩ : ByteArray).size = (Lib.itoa r).length := by show (Lib.itoa r).toArray.size = _; simp
      omega
    · obtain ⟨rfl, _⟩ := Prod.mk.inj h
      show 0 ≤ 201
      omega
  · cases h
theorem pf (s : ByteArray) (hs : s.size ≤ 281474976710656) : keys_Parse.f s = some (parseF s) := by unfold keys_Parse.f; rw [if_pos hs]
theorem qf (s : ByteArray) (hs : s.size ≤ 281474976710656) : preluderef02_Parse.f s = some (parseF s) := by unfold preluderef02_Parse.f; rw [if_pos hs]
theorem tf (t r : Int) : keys_Text.f t r = textF t r := rfl
theorem num_f (n : Int) : preludelaw02_num.f n = some n := rfl

theorem keysTexts (t r : Int) (s : ByteArray) (t0 : -9223372036854775808 ≤ t) (t1 : t ≤ 9223372036854775807) (r0 : -9223372036854775808 ≤ r) (r1 : r ≤ 9223372036854775807) (hs : s.size ≤ 140737488351232) :
    ∃ k, preludelaw02_KeysTexts.f k t r s = some true := by
  obtain ⟨⟨u, c⟩, hu⟩ : ∃ x, textF t r = some x := by unfold textF; rw [if_pos (show -9223372036854775808 ≤ r ∧ r ≤ 9223372036854775807 from ⟨r0, r1⟩)]; exact ⟨_, rfl⟩
  have hz := text_size t r u c t0 t1 hu
  refine ⟨1000, ?_⟩
  unfold preludelaw02_KeysTexts.f
  rw [tf, text_f t r _ t0 t1 r0 r1 (by omega), hu]
  simp only [Option.bind_some, if_true, num_f]
  rw [show (c != c) = false by simp, preludelaw02_KeysTexts.j0, if_neg (by simp), pf s (by omega), qf s (by omega)]
  simp only [Option.bind_some, num_f]
  generalize parseF s = a
  rw [if_neg (by simp), if_pos trivial, show (a.2.2.2 != a.2.2.2) = false by simp, preludelaw02_KeysTexts.j1, if_neg (by simp), pf u (by omega), qf u (by omega)]
  simp only [Option.bind_some, num_f]
  generalize parseF u = b
  rw [if_pos (by simp), if_pos trivial]
  simp
end Go.Proofs.YtbmfldoobkeieaaDoor.Pure
