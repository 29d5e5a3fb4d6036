/- Texts of keys: small facts for the laws KeysTextBack and KeysTextPlace. Plain. -/
import Derived.Test.YtbmfldoobkeieaaDoorGTxBx
namespace Go.Proofs.YtbmfldoobkeieaaDoor.PureTxB
open Go.RowKit Go.Proofs.YtbmfldoobkeieaaDoor.KSpan Go.Proofs.YtbmfldoobkeieaaDoor.KForm Go.Proofs.YtbmfldoobkeieaaDoor.GTxB Go.Proofs.YtbmfldoobkeieaaDoorW.PrintWords Go.Proofs.YtbmfldoobkeieaaDoorW.PrintLast
set_option linter.unusedVariables false
set_option linter.unusedSimpArgs false

theorem dec_small (n : Nat) (h : n < 10) : Lib.decDigits n = [UInt8.ofNat (48 + n)] := by rw [Lib.decDigits, dif_pos h]
theorem dec_great (n : Nat) (h : ¬ n < 10) : Lib.decDigits n = Lib.decDigits (n / 10) ++ [UInt8.ofNat (48 + n % 10)] := by rw [Lib.decDigits, dif_neg h]
theorem itoa_size (n : Int) (h0 : -9223372036854775808 ≤ n) (h1 : n ≤ 9223372036854775807) : (⟨(Lib.itoa n).toArray⟩ : ByteArray).size ≤ 100 := itoa_len n h0 h1
theorem text_size (t r : Int) (s : ByteArray) (c : Int) (t0 : -9223372036854775808 ≤ t) (t1 : t ≤ 9223372036854775807) (h : textF t r = some (s, c)) : s.size ≤ 201 := by
  unfold textF at h
  split at h
  · rename_i hr
    have h := Option.some.inj h
    have l1 := itoa_size t t0 t1
    have l2 := itoa_size r hr.1 hr.2
    split at h
    · obtain ⟨rfl, _⟩ := Prod.mk.inj h
      have e : (⟨(Lib.itoa t ++ 58 :: Lib.itoa r).toArray⟩ : ByteArray).size = (Lib.itoa t).length + (Lib.itoa r).length + 1 := by
        show (Lib.itoa t ++ 58 :: Lib.itoa r).toArray.size = _
        simp; omega
      have a : (⟨(Lib.itoa t).toArray⟩ : ByteArray).size = (Lib.itoa t).length := by show (Lib.itoa t).toArray.size = _; simp
      have b : (⟨(Lib.itoa r).toArray⟩ : ByteArray).size = (Lib.itoa r).length := by show (Lib.itoa r).toArray.size = _; simp
      omega
    · obtain ⟨rfl, _⟩ := Prod.mk.inj h
      show 0 ≤ 201
      omega
  · cases h
theorem pf (s : ByteArray) (hs : s.size ≤ 281474976710656) : keys_Parse.f s = some (parseF s) := by unfold keys_Parse.f; rw [if_pos hs]
theorem tf (t r : Int) : keys_Text.f t r = textF t r := rfl
theorem num_f (n : Int) : preludelaw02_num.f n = some n := rfl

theorem ext_size (s : ByteArray) (i j : Nat) (hij : i ≤ j) (hj : j ≤ s.size) : (s.extract i j).size = j - i := by
  have := seg_length s i j hij hj
  have e : (s.extract i j).size = (seg s i j).length := (by unfold seg; rw [Array.length_toList]; rfl)
  omega
theorem digits_span (s : ByteArray) (i : Nat) : Digits (seg s i (i + span s i)) := seg_digits s i _ (Nat.le_refl _)
end Go.Proofs.YtbmfldoobkeieaaDoor.PureTxB
