/- The walk of preluderef02.Parse: the texts that do not begin with a '0'. Printed by gen_refparse.py (own work). -/
import Derived.Test.YtbmfldoobkeieaaDoorKSpan
import Derived.Test.YtbmfldoobkeieaaDoorPureRow
import Derived.Test.YtbmfldoobkeieaaDoorKForm
import Derived.Test.YtbmfldoobkeieaaDoorKParse
namespace Go.Proofs.YtbmfldoobkeieaaDoor.KForm
open Go.RowKit Go.Proofs.YtbmfldoobkeieaaDoor.KSpan Go.Proofs.YtbmfldoobkeieaaDoor.GRef Go.Proofs.YtbmfldoobkeieaaDoorW.PrintWords
set_option linter.unusedVariables false
set_option linter.unusedSimpArgs false

set_option maxHeartbeats 40000000 in
set_option maxRecDepth 100000 in
theorem ref_walkA (s : ByteArray) (t r p c : Int) (w : World) (hs : s.size ≤ 281474976710656) (h : parseF s = (t, r, p, c)) (hq : ¬ bt s 0 = 48) (hz : 1 < span s 0) :
    Calls Tryd.prog 24 #[.string s] w fun e w' => e = .returned (.tuple #[.agg #[.int .i64 t, .int .i64 r], .int .i64 p, .int .i64 c]) ∧ Below w.heap.size w w' := by
  have H := Lib.hid h
  clear h
  have hsp := span_size s 0 (by omega)
  rw [Nat.zero_add] at hsp
  have HR : Hid (preluderef02_row.f (s.size + 1) s ((0 : Nat) : Int) = some (span s 0 : Int)) := Lib.hid (PureRow.row_f s hs 0 _ (by omega) (by omega))
  go_enter Tryd.func24, Tryd.ntmps24
  go_wp2_with fail
  refine (preluderef02_row.calls _ s ((0 : Nat) : Int) _ _ HR.out).mono ?_
  rintro e w' ⟨rfl, ⟨n1, rfl⟩⟩
  obtain ⟨E, hEq⟩ : ∃ E, E = span s 0 := ⟨_, rfl⟩
  rw [← hEq] at hsp ⊢
  have hz : 1 < E := by rw [hEq]; exact hz
  have HQ := Lib.hid hEq
  clear hEq HR
  by_cases h0 : E = 0
  · omega
  · have hlt : 0 < s.size := by omega
    rw [show bt s 0 = bt s (0 : Nat) from rfl, bt_nat s 0 hlt] at hq
    have Z : Hid (¬ (bt s 0 = 48 ∧ 1 < E)) := Lib.hid (by rw [show bt s 0 = bt s (0 : Nat) from rfl, bt_nat s 0 hlt]; exact fun h => hq h.1)
    have dA : Digits (seg s 0 E) := by have := seg_digits s 0 (span s 0) (Nat.le_refl _); rw [Nat.zero_add, ← HQ.out] at this; exact this
    have hval := PureRow.value_seg s hs 0 E (s.size + 1) (by omega) hsp dA (by omega)
    clear dA
    obtain ⟨T, hT⟩ : ∃ T, T = dval (seg s 0 E) := ⟨_, rfl⟩
    rw [← hT] at hval
    have HT := Lib.hid hT
    clear hT
    by_cases hv : 65535 < T
    case pos =>
      have V : Hid (65535 < dval (seg s 0 E)) := Lib.hid (by rw [← HT.out]; exact hv)
      by_cases hv2 : T ≤ 9223372036854775808
      · rw [if_pos hv2] at hval
        have HV := Lib.hid hval
        clear hval
        go_wp2_with fail
        all_goals
          refine (preluderef02_value.calls _ (s.extract 0 E) _ _ _ HV.out).mono ?_
          rintro e w' ⟨rfl, ⟨n2, rfl⟩⟩
          go_wp2_with fail
          have hp := H.out
          rw [parse_2 HQ.out h0 Z.out V.out] at hp
          cases hp
          go_returns
          exact ⟨rfl, by repeat (first | exact Below.refl _ _ | apply pw_below_drewN | apply below_alloc | (refine Below.setCell ?_ (by first | exact Nat.le_refl _ | (simp; done) | omega) _))⟩
      · rw [if_neg hv2] at hval
        have HV := Lib.hid hval
        clear hval
        go_wp2_with fail
        all_goals
          refine (preluderef02_value.calls _ (s.extract 0 E) _ _ _ HV.out).mono ?_
          rintro e w' ⟨rfl, ⟨n2, rfl⟩⟩
          go_wp2_with fail
          have hp := H.out
          rw [parse_2 HQ.out h0 Z.out V.out] at hp
          cases hp
          go_returns
          exact ⟨rfl, by repeat (first | exact Below.refl _ _ | apply pw_below_drewN | apply below_alloc | (refine Below.setCell ?_ (by first | exact Nat.le_refl _ | (simp; done) | omega) _))⟩
    have V : Hid (¬ 65535 < dval (seg s 0 E)) := Lib.hid (by rw [← HT.out]; exact hv)
    rw [if_pos (show T ≤ 9223372036854775808 by omega)] at hval
    have HV := Lib.hid hval
    clear hval
    go_wp2_with fail
    refine (preluderef02_value.calls _ (s.extract 0 E) _ _ _ HV.out).mono ?_
    rintro e w' ⟨rfl, ⟨n2, rfl⟩⟩
    by_cases c1 : E = s.size
    case pos =>
      have C1 := Lib.hid c1
      go_wp2_with fail
      have hp := H.out
      rw [parse_3 HQ.out h0 Z.out V.out (.inl (by have := C1.out; omega))] at hp
      cases hp
      go_returns
      exact ⟨by first | rfl | rw [C1.out], by repeat (first | exact Below.refl _ _ | apply pw_below_drewN | apply below_alloc | (refine Below.setCell ?_ (by first | exact Nat.le_refl _ | (simp; done) | omega) _))⟩
    have cl : E < s.size := by omega
    by_cases c2 : (s[E].toNat : Int) = 58
    case neg =>
      have B2 : Hid (bt s E ≠ 58) := Lib.hid (by rw [bt_nat s E cl]; exact c2)
      go_wp2_with fail
      all_goals try (exfalso; simp only [beq_iff_eq, bne_eq_false_iff_eq] at *; omega)
      have hp := H.out
      rw [parse_3 HQ.out h0 Z.out V.out (.inr B2.out)] at hp
      cases hp
      go_returns
      exact ⟨rfl, by repeat (first | exact Below.refl _ _ | apply pw_below_drewN | apply below_alloc | (refine Below.setCell ?_ (by first | exact Nat.le_refl _ | (simp; done) | omega) _))⟩
    have B2 : Hid (¬ (s.size ≤ E ∨ bt s E ≠ 58)) := Lib.hid (by rw [bt_nat s E cl]; rintro (h | h); omega; exact h c2)
    by_cases d1 : E + 1 < s.size
    case neg =>
      have MI : Hid (decide (E + 1 < s.size ∧ bt s (E + 1 : Nat) = 45) = false) := Lib.hid (by simp; omega)
      have FF : Hid ((if decide (E + 1 < s.size ∧ bt s (E + 1 : Nat) = 45) = true then E + 2 else E + 1) = E + 1) := Lib.hid (if_neg (by rw [MI.out]; simp))
      have hsp0 : span s (E + 1) = 0 := span_zero (by cases h : dig s (E + 1); rfl; exact absurd (dig_lt h) d1)
      have hro : preluderef02_row.f (s.size + 1) s ((E + 1 : Nat) : Int) = some (span s (E + 1) : Int) := PureRow.row_f s hs (E + 1) _ (by omega) (by omega)
      rw [hsp0] at hro
      have HRO := Lib.hid hro
      have HS := Lib.hid hsp0
      clear hro hsp0
      go_wp2_with fail
      refine (preluderef02_row.calls _ s ((E + 1 : Nat) : Int) _ _ HRO.out).mono ?_
      rintro e w' ⟨rfl, ⟨n3, rfl⟩⟩
      go_wp2_with fail
      have hp := H.out
      rw [parse_4 HQ.out h0 Z.out V.out B2.out (E + 1) FF.out (.inl HS.out), show ((E + 1 : Nat) : Int) = (E : Int) + 1 by omega] at hp
      cases hp
      go_returns
      exact ⟨rfl, by repeat (first | exact Below.refl _ _ | apply pw_below_drewN | apply below_alloc | (refine Below.setCell ?_ (by first | exact Nat.le_refl _ | (simp; done) | omega) _))⟩
    by_cases d2 : (s[E + 1].toNat : Int) = 45
    case pos =>
      have MI : Hid (decide (E + 1 < s.size ∧ bt s (E + 1 : Nat) = 45) = true) := Lib.hid (by rw [bt_nat s (E + 1) d1]; simp [d1, d2])
      have FF : Hid ((if decide (E + 1 < s.size ∧ bt s (E + 1 : Nat) = 45) = true then E + 2 else E + 1) = E + 2) := Lib.hid (if_pos MI.out)
      have hro : preluderef02_row.f (s.size + 1) s ((E + 2 : Nat) : Int) = some (span s (E + 2) : Int) := PureRow.row_f s hs (E + 2) _ (by omega) (by omega)
      obtain ⟨M, hM⟩ : ∃ M, M = span s (E + 2) := ⟨_, rfl⟩
      have hM2 : E + 2 + M ≤ s.size := by rw [hM]; exact span_size s _ (by omega)
      rw [← hM] at hro
      have HM := Lib.hid hM
      clear hM
      have HRO := Lib.hid hro
      clear hro
      go_wp2_with fail
      refine (preluderef02_row.calls _ s ((E + 2 : Nat) : Int) _ _ HRO.out).mono ?_
      rintro e w' ⟨rfl, ⟨n3, rfl⟩⟩
      by_cases m0 : M = 0
      case pos =>
        have M0 := Lib.hid m0
        subst m0
        go_wp2_with fail
        have hp := H.out
        rw [parse_4 HQ.out h0 Z.out V.out B2.out (E + 2) FF.out (.inl HM.out.symm), show ((E + 2 : Nat) : Int) = (E : Int) + 1 + 1 by omega] at hp
        cases hp
        go_returns
        exact ⟨rfl, by repeat (first | exact Below.refl _ _ | apply pw_below_drewN | apply below_alloc | (refine Below.setCell ?_ (by first | exact Nat.le_refl _ | (simp; done) | omega) _))⟩
      have dl : E + 2 < s.size := by omega
      have dl' : E + 1 + 1 < s.size := dl
      by_cases z2 : (s[E + 1 + 1].toNat : Int) = 48
      case pos =>
        have Z2 : Hid (bt s (E + 2 : Nat) = 48) := Lib.hid (by rw [bt_nat s (E + 2) dl]; exact z2)
        go_wp2_with fail
        have hp := H.out
        rw [parse_4 HQ.out h0 Z.out V.out B2.out (E + 2) FF.out (.inr ⟨MI.out, Z2.out⟩), show ((E + 2 : Nat) : Int) = (E : Int) + 1 + 1 by omega] at hp
        cases hp
        go_returns
        exact ⟨rfl, by repeat (first | exact Below.refl _ _ | apply pw_below_drewN | apply below_alloc | (refine Below.setCell ?_ (by first | exact Nat.le_refl _ | (simp; done) | omega) _))⟩
      have N4 : Hid (¬ (span s (E + 2) = 0 ∨ (decide (E + 1 < s.size ∧ bt s (E + 1 : Nat) = 45) = true ∧ bt s (E + 2 : Nat) = 48))) := Lib.hid (by rw [bt_nat s (E + 2) dl, ← HM.out]; rintro (h | h); exact m0 h; exact z2 h.2)
      have N5 : Hid (¬ (bt s (E + 2 : Nat) = 48 ∧ 1 < span s (E + 2))) := Lib.hid (by rw [bt_nat s (E + 2) dl]; intro h; exact z2 h.1)
      have dB : Digits (seg s (E + 2) (E + 2 + M)) := by have := seg_digits s (E + 2) (span s (E + 2)) (Nat.le_refl _); rw [← HM.out] at this; exact this
      have hval2 := PureRow.value_seg s hs (E + 2) (E + 2 + M) (s.size + 1) (by omega) hM2 dB (by omega)
      clear dB
      obtain ⟨D, hD⟩ : ∃ D, D = dval (seg s (E + 2) (E + 2 + M)) := ⟨_, rfl⟩
      rw [← hD] at hval2
      have HD := Lib.hid hD
      clear hD
      by_cases cv : 9223372036854775808 < D
      case pos =>
        have CV : Hid (9223372036854775808 < dval (seg s (E + 2) (E + 2 + span s (E + 2)))) := Lib.hid (by rw [← HM.out, ← HD.out]; exact cv)
        rw [if_neg (by omega)] at hval2
        have HV2 := Lib.hid hval2
        clear hval2
        go_wp2_with fail
        all_goals
          try (exfalso; simp only [beq_iff_eq, bne_eq_false_iff_eq] at *; omega)
        all_goals
          refine (preluderef02_value.calls _ (s.extract (E + 2) (E + 2 + M)) _ _ _ HV2.out).mono ?_
          rintro e w' ⟨rfl, ⟨n4, rfl⟩⟩
          go_wp2_with fail
          have hp := H.out
          rw [parse_6 HQ.out h0 Z.out V.out B2.out (E + 2) FF.out N4.out N5.out (.inl ⟨MI.out, CV.out⟩)] at hp
          cases hp
          go_returns
          exact ⟨rfl, by repeat (first | exact Below.refl _ _ | apply pw_below_drewN | apply below_alloc | (refine Below.setCell ?_ (by first | exact Nat.le_refl _ | (simp; done) | omega) _))⟩
      rw [if_pos (by omega)] at hval2
      have HV2 := Lib.hid hval2
      clear hval2
      have E1 : Hid (wrap64 (IntKind.u64.wrap (-(D : Int))) = -(D : Int)) := Lib.hid (by rw [PureRow.u64w]; unfold wrap64; omega)
      have N6 : Hid (¬ ((decide (E + 1 < s.size ∧ bt s (E + 1 : Nat) = 45) = true ∧ 9223372036854775808 < dval (seg s (E + 2) (E + 2 + span s (E + 2)))) ∨ (decide (E + 1 < s.size ∧ bt s (E + 1 : Nat) = 45) = false ∧ 9223372036854775808 ≤ dval (seg s (E + 2) (E + 2 + span s (E + 2)))))) := Lib.hid (by rw [MI.out, ← HM.out, ← HD.out]; simp; omega)
      by_cases la : E + 2 + M < s.size
      · go_wp2_with fail
        all_goals
          try (exfalso; simp only [beq_iff_eq, bne_eq_false_iff_eq] at *; omega)
        all_goals
          refine (preluderef02_value.calls _ (s.extract (E + 2) (E + 2 + M)) _ _ _ HV2.out).mono ?_
          rintro e w' ⟨rfl, ⟨n4, rfl⟩⟩
          go_wp2_with fail
          have hp := H.out
          rw [parse_7 HQ.out h0 Z.out V.out B2.out (E + 2) FF.out N4.out N5.out N6.out (by rw [← HM.out]; exact la), ← HM.out] at hp
          cases hp
          go_returns
          exact ⟨rfl, by repeat (first | exact Below.refl _ _ | apply pw_below_drewN | apply below_alloc | (refine Below.setCell ?_ (by first | exact Nat.le_refl _ | (simp; done) | omega) _))⟩
      · go_wp2_with fail
        all_goals
          try (exfalso; simp only [beq_iff_eq, bne_eq_false_iff_eq] at *; omega)
        all_goals
          refine (preluderef02_value.calls _ (s.extract (E + 2) (E + 2 + M)) _ _ _ HV2.out).mono ?_
          rintro e w' ⟨rfl, ⟨n4, rfl⟩⟩
          go_wp2_with fail
          have hp := H.out
          rw [parse_8 HQ.out h0 Z.out V.out B2.out (E + 2) FF.out N4.out N5.out N6.out (by rw [← HM.out]; exact la), ← HM.out, ← HD.out, ← HT.out, MI.out] at hp
          cases hp
          go_returns
          exact ⟨by rw [E1.out]; rfl, by repeat (first | exact Below.refl _ _ | apply pw_below_drewN | apply below_alloc | (refine Below.setCell ?_ (by first | exact Nat.le_refl _ | (simp; done) | omega) _))⟩
    have MI : Hid (decide (E + 1 < s.size ∧ bt s (E + 1 : Nat) = 45) = false) := Lib.hid (by rw [bt_nat s (E + 1) d1]; simp [d1, d2])
    have FF : Hid ((if decide (E + 1 < s.size ∧ bt s (E + 1 : Nat) = 45) = true then E + 2 else E + 1) = E + 1) := Lib.hid (if_neg (by rw [MI.out]; simp))
    have hro : preluderef02_row.f (s.size + 1) s ((E + 1 : Nat) : Int) = some (span s (E + 1) : Int) := PureRow.row_f s hs (E + 1) _ (by omega) (by omega)
    obtain ⟨M, hM⟩ : ∃ M, M = span s (E + 1) := ⟨_, rfl⟩
    have hM2 : E + 1 + M ≤ s.size := by rw [hM]; exact span_size s _ (by omega)
    rw [← hM] at hro
    have HM := Lib.hid hM
    clear hM
    have HRO := Lib.hid hro
    clear hro
    go_wp2_with fail
    refine (preluderef02_row.calls _ s ((E + 1 : Nat) : Int) _ _ HRO.out).mono ?_
    rintro e w' ⟨rfl, ⟨n3, rfl⟩⟩
    by_cases m0 : M = 0
    case pos =>
      have M0 := Lib.hid m0
      subst m0
      go_wp2_with fail
      have hp := H.out
      rw [parse_4 HQ.out h0 Z.out V.out B2.out (E + 1) FF.out (.inl HM.out.symm), show ((E + 1 : Nat) : Int) = (E : Int) + 1 by omega] at hp
      cases hp
      go_returns
      exact ⟨rfl, by repeat (first | exact Below.refl _ _ | apply pw_below_drewN | apply below_alloc | (refine Below.setCell ?_ (by first | exact Nat.le_refl _ | (simp; done) | omega) _))⟩
    have dl : E + 1 < s.size := by omega
    have N4 : Hid (¬ (span s (E + 1) = 0 ∨ (decide (E + 1 < s.size ∧ bt s (E + 1 : Nat) = 45) = true ∧ bt s (E + 1 : Nat) = 48))) := Lib.hid (by rw [MI.out, ← HM.out]; rintro (h | h); exact m0 h; cases h.1)
    by_cases z3 : (s[E + 1].toNat : Int) = 48 ∧ 1 < M
    case pos =>
      obtain ⟨z4, z5⟩ := z3
      have Z4 : Hid (bt s (E + 1 : Nat) = 48 ∧ 1 < span s (E + 1)) := Lib.hid ⟨by rw [bt_nat s (E + 1) dl]; exact z4, by rw [← HM.out]; exact z5⟩
      go_wp2_with fail
      have hp := H.out
      rw [parse_5 HQ.out h0 Z.out V.out B2.out (E + 1) FF.out N4.out Z4.out] at hp
      cases hp
      go_returns
      exact ⟨rfl, by repeat (first | exact Below.refl _ _ | apply pw_below_drewN | apply below_alloc | (refine Below.setCell ?_ (by first | exact Nat.le_refl _ | (simp; done) | omega) _))⟩
    have N5 : Hid (¬ (bt s (E + 1 : Nat) = 48 ∧ 1 < span s (E + 1))) := Lib.hid (by rw [bt_nat s (E + 1) dl, ← HM.out]; exact z3)
    have dB : Digits (seg s (E + 1) (E + 1 + M)) := by have := seg_digits s (E + 1) (span s (E + 1)) (Nat.le_refl _); rw [← HM.out] at this; exact this
    have hval2 := PureRow.value_seg s hs (E + 1) (E + 1 + M) (s.size + 1) (by omega) hM2 dB (by omega)
    clear dB
    obtain ⟨D, hD⟩ : ∃ D, D = dval (seg s (E + 1) (E + 1 + M)) := ⟨_, rfl⟩
    rw [← hD] at hval2
    have HD := Lib.hid hD
    clear hD
    by_cases cv : 9223372036854775808 ≤ D
    case pos =>
      have CV : Hid (9223372036854775808 ≤ dval (seg s (E + 1) (E + 1 + span s (E + 1)))) := Lib.hid (by rw [← HM.out, ← HD.out]; exact cv)
      by_cases cv2 : D ≤ 9223372036854775808
      · rw [if_pos cv2] at hval2
        have HV2 := Lib.hid hval2
        clear hval2
        go_wp2_with fail
        all_goals
          try (exfalso; simp only [beq_iff_eq, bne_eq_false_iff_eq] at *; omega)
        all_goals
          refine (preluderef02_value.calls _ (s.extract (E + 1) (E + 1 + M)) _ _ _ HV2.out).mono ?_
          rintro e w' ⟨rfl, ⟨n4, rfl⟩⟩
          go_wp2_with fail
          have hp := H.out
          rw [parse_6 HQ.out h0 Z.out V.out B2.out (E + 1) FF.out N4.out N5.out (.inr ⟨MI.out, CV.out⟩)] at hp
          cases hp
          go_returns
          exact ⟨rfl, by repeat (first | exact Below.refl _ _ | apply pw_below_drewN | apply below_alloc | (refine Below.setCell ?_ (by first | exact Nat.le_refl _ | (simp; done) | omega) _))⟩
      · rw [if_neg cv2] at hval2
        have HV2 := Lib.hid hval2
        clear hval2
        go_wp2_with fail
        all_goals
          try (exfalso; simp only [beq_iff_eq, bne_eq_false_iff_eq] at *; omega)
        all_goals
          refine (preluderef02_value.calls _ (s.extract (E + 1) (E + 1 + M)) _ _ _ HV2.out).mono ?_
          rintro e w' ⟨rfl, ⟨n4, rfl⟩⟩
          go_wp2_with fail
          have hp := H.out
          rw [parse_6 HQ.out h0 Z.out V.out B2.out (E + 1) FF.out N4.out N5.out (.inr ⟨MI.out, CV.out⟩)] at hp
          cases hp
          go_returns
          exact ⟨rfl, by repeat (first | exact Below.refl _ _ | apply pw_below_drewN | apply below_alloc | (refine Below.setCell ?_ (by first | exact Nat.le_refl _ | (simp; done) | omega) _))⟩
    rw [if_pos (by omega)] at hval2
    have HV2 := Lib.hid hval2
    clear hval2
    have N6 : Hid (¬ ((decide (E + 1 < s.size ∧ bt s (E + 1 : Nat) = 45) = true ∧ 9223372036854775808 < dval (seg s (E + 1) (E + 1 + span s (E + 1)))) ∨ (decide (E + 1 < s.size ∧ bt s (E + 1 : Nat) = 45) = false ∧ 9223372036854775808 ≤ dval (seg s (E + 1) (E + 1 + span s (E + 1)))))) := Lib.hid (by rw [MI.out, ← HM.out, ← HD.out]; simp; omega)
    by_cases la : E + 1 + M < s.size
    · go_wp2_with fail
      all_goals
        try (exfalso; simp only [beq_iff_eq, bne_eq_false_iff_eq] at *; omega)
      all_goals
        refine (preluderef02_value.calls _ (s.extract (E + 1) (E + 1 + M)) _ _ _ HV2.out).mono ?_
        rintro e w' ⟨rfl, ⟨n4, rfl⟩⟩
        go_wp2_with fail
        have hp := H.out
        rw [parse_7 HQ.out h0 Z.out V.out B2.out (E + 1) FF.out N4.out N5.out N6.out (by rw [← HM.out]; exact la), ← HM.out] at hp
        cases hp
        go_returns
        exact ⟨rfl, by repeat (first | exact Below.refl _ _ | apply pw_below_drewN | apply below_alloc | (refine Below.setCell ?_ (by first | exact Nat.le_refl _ | (simp; done) | omega) _))⟩
    · go_wp2_with fail
      all_goals
        try (exfalso; simp only [beq_iff_eq, bne_eq_false_iff_eq] at *; omega)
      all_goals
        refine (preluderef02_value.calls _ (s.extract (E + 1) (E + 1 + M)) _ _ _ HV2.out).mono ?_
        rintro e w' ⟨rfl, ⟨n4, rfl⟩⟩
        go_wp2_with fail
        have hp := H.out
        rw [parse_8 HQ.out h0 Z.out V.out B2.out (E + 1) FF.out N4.out N5.out N6.out (by rw [← HM.out]; exact la), ← HM.out, ← HD.out, ← HT.out, MI.out] at hp
        cases hp
        go_returns
        exact ⟨rfl, by repeat (first | exact Below.refl _ _ | apply pw_below_drewN | apply below_alloc | (refine Below.setCell ?_ (by first | exact Nat.le_refl _ | (simp; done) | omega) _))⟩
end Go.Proofs.YtbmfldoobkeieaaDoor.KForm
