/- The walk of keys.Parse: the texts that do not begin with a '0'. Printed by gen_parse.py (own work). -/
import Derived.Test.YtbmfldoobkeieaaDoorKParse
namespace Go.Proofs.YtbmfldoobkeieaaDoor.KForm
open Go.RowKit Go.Proofs.YtbmfldoobkeieaaDoor.KSpan Go.Proofs.YtbmfldoobkeieaaDoor.GRun Go.Proofs.YtbmfldoobkeieaaDoorW.PrintWords
set_option linter.unusedVariables false
set_option linter.unusedSimpArgs false

set_option maxHeartbeats 40000000 in
set_option maxRecDepth 100000 in
theorem parse_walkA (s : ByteArray) (t r p c : Int) (w : World) (hs : s.size ≤ 281474976710656) (h : parseF s = (t, r, p, c)) (hE : TabE w) (hq : ¬ bt s 0 = 48) :
    Calls Tryd.prog 23 #[.string s] w fun e w' => e = .returned (.tuple #[.agg #[.int .i64 t, .int .i64 r], .int .i64 p, .int .i64 c]) ∧ Below w.heap.size w w' := by
  have H := Lib.hid h
  clear h
  have hsp := span_size s 0 (by omega)
  rw [Nat.zero_add] at hsp
  have hrun := run_f s hs 0 (by omega)
  rw [Nat.zero_add] at hrun
  have HR := Lib.hid hrun
  clear hrun
  go_enter Tryd.func23, Tryd.ntmps23
  go_wp2_with fail
  refine (keys_run.calls _ s 0 _ _ HR.out).mono ?_
  rintro e w' ⟨rfl, ⟨n1, rfl⟩⟩
  obtain ⟨E, hEq⟩ : ∃ E, E = span s 0 := ⟨_, rfl⟩
  rw [← hEq] at hsp ⊢
  have HQ := Lib.hid hEq
  clear hEq
  obtain ⟨W0, hW0⟩ : ∃ W0, W0 = w.alloc (.cells #[.int .i64 0, .int .i64 0] 35) := ⟨_, rfl⟩
  have k0 : W0.cell? ⟨w.heap.size, 0, none⟩ = some (.int .i64 0) := by rw [hW0]; simp
  have k1 : W0.cell? ⟨w.heap.size, 1, none⟩ = some (.int .i64 0) := by rw [hW0]; simp
  have f0 : W0.frozen? ⟨w.heap.size, 0, none⟩ = false := by rw [hW0]; simp
  have f1 : W0.frozen? ⟨w.heap.size, 1, none⟩ = false := by rw [hW0]; simp
  have z0 : W0.heap.size = w.heap.size + 1 := by rw [hW0]; simp
  have b0 : Below w.heap.size w W0 := by rw [hW0]; exact (Below.refl _ _).alloc (Nat.le_refl _) _
  have e0 : TabE W0 := TabE.of b0 hE
  rw [← hW0]
  clear hW0 hE
  have Z0 := Lib.hid z0
  clear z0
  have hb1 : Below W0.heap.size W0 (W0.drewN n1) := ⟨rfl, rfl, rfl, Nat.le_refl _, fun _ _ => rfl⟩
  generalize W0.drewN n1 = W1 at hb1 ⊢
  by_cases h0 : E = 0
  · subst h0
    go_wp2_with fail
    refine (wrong_calls _ _ _).mono ?_
    rintro e wx ⟨rfl, hbx⟩
    have hb := hb1.trans (hbx.mono hb1.size)
    have q0 := (hb.cell (p := ⟨w.heap.size, 0, none⟩) (by have := Z0.out; simp; omega)).trans k0
    have q1 := (hb.cell (p := ⟨w.heap.size, 1, none⟩) (by have := Z0.out; simp; omega)).trans k1
    have g0 := (hb.frozen (p := ⟨w.heap.size, 0, none⟩) (by have := Z0.out; simp; omega)).trans f0
    have g1 := (hb.frozen (p := ⟨w.heap.size, 1, none⟩) (by have := Z0.out; simp; omega)).trans f1
    have hB := b0.trans (hb.mono (by have := Z0.out; omega))
    clear k0 k1 f0 f1
    go_wp2_with fail
    refine bodyPost_ret (v := .tuple #[.agg #[.int .i64 0, .int .i64 0], .int .i64 0, .int .i64 40]) (by simp [results, Tryd.results23, go_sem, q0, q1, g0, g1]) rfl ?_
    have hp := H.out
    rw [parse_0 HQ.out] at hp
    cases hp
    exact ⟨rfl, by go_grown⟩
  · have hlt : 0 < s.size := by omega
    rw [show bt s 0 = bt s (0 : Nat) from rfl, bt_nat s 0 hlt] at hq
    have Z : Hid (¬ (bt s 0 = 48 ∧ 1 < E)) := Lib.hid (by rw [show bt s 0 = bt s (0 : Nat) from rfl, bt_nat s 0 hlt]; exact fun h => hq h.1)
    go_wp2_with fail
    have sd : Digits (seg s 0 E) := by have := seg_digits s 0 (span s 0) (Nat.le_refl _); rw [Nat.zero_add, ← HQ.out] at this; exact this
    have sn : seg s 0 E ≠ [] := seg_ne s 0 E (by omega) hsp
    have ss : (s.extract 0 E).size ≤ 281474976710656 := by have := seg_length s 0 E (by omega) hsp; have e : (s.extract 0 E).size = (seg s 0 E).length := (by unfold seg; rw [Array.length_toList]; rfl); omega
    have SD := Lib.hid sd
    have SN := Lib.hid sn
    clear sd sn
    by_cases hv : 65535 < dval (seg s 0 E)
    · by_cases hv2 : 9223372036854775808 ≤ dval (seg s 0 E)
      · refine (atoi_great (s.extract 0 E) _ ss SN.out SD.out hv2 (TabE.of hb1 e0)).mono ?_
        rintro e w2 ⟨x, N, rfl, hb2'⟩
        have hb2 := hb1.trans (hb2'.mono hb1.size)
        have V := Lib.hid hv
        clear hv hv2 hb2'
        go_wp2_with fail
        refine (wrong_calls _ _ _).mono ?_
        rintro e wx ⟨rfl, hbx⟩
        have hb := hb2.trans (hbx.mono hb2.size)
        have q0 := (hb.cell (p := ⟨w.heap.size, 0, none⟩) (by have := Z0.out; simp; omega)).trans k0
        have q1 := (hb.cell (p := ⟨w.heap.size, 1, none⟩) (by have := Z0.out; simp; omega)).trans k1
        have g0 := (hb.frozen (p := ⟨w.heap.size, 0, none⟩) (by have := Z0.out; simp; omega)).trans f0
        have g1 := (hb.frozen (p := ⟨w.heap.size, 1, none⟩) (by have := Z0.out; simp; omega)).trans f1
        have hB := b0.trans (hb.mono (by have := Z0.out; omega))
        clear k0 k1 f0 f1
        go_wp2_with fail
        refine bodyPost_ret (v := .tuple #[.agg #[.int .i64 0, .int .i64 0], .int .i64 0, .int .i64 41]) (by simp [results, Tryd.results23, go_sem, q0, q1, g0, g1]) rfl ?_
        have hp := H.out
        rw [parse_2 HQ.out h0 Z.out V.out] at hp
        cases hp
        exact ⟨rfl, by go_grown⟩
      · refine (atoi_small (s.extract 0 E) _ ss SN.out SD.out (show dval (seg s 0 E) < 9223372036854775808 by omega)).mono ?_
        rintro e w2 ⟨rfl, hb2'⟩
        have hb2 := hb1.trans (hb2'.mono hb1.size)
        change 65535 < dval (s.extract 0 E).data.toList at hv
        have V : Hid (65535 < dval (seg s 0 E)) := Lib.hid hv
        generalize dval (s.extract 0 E).data.toList = T at hv ⊢
        clear hv2 hb2'
        go_wp2_with fail
        refine (wrong_calls _ _ _).mono ?_
        rintro e wx ⟨rfl, hbx⟩
        have hb := hb2.trans (hbx.mono hb2.size)
        have q0 := (hb.cell (p := ⟨w.heap.size, 0, none⟩) (by have := Z0.out; simp; omega)).trans k0
        have q1 := (hb.cell (p := ⟨w.heap.size, 1, none⟩) (by have := Z0.out; simp; omega)).trans k1
        have g0 := (hb.frozen (p := ⟨w.heap.size, 0, none⟩) (by have := Z0.out; simp; omega)).trans f0
        have g1 := (hb.frozen (p := ⟨w.heap.size, 1, none⟩) (by have := Z0.out; simp; omega)).trans f1
        have hB := b0.trans (hb.mono (by have := Z0.out; omega))
        clear k0 k1 f0 f1
        go_wp2_with fail
        refine bodyPost_ret (v := .tuple #[.agg #[.int .i64 0, .int .i64 0], .int .i64 0, .int .i64 41]) (by simp [results, Tryd.results23, go_sem, q0, q1, g0, g1]) rfl ?_
        have hp := H.out
        rw [parse_2 HQ.out h0 Z.out V.out] at hp
        cases hp
        exact ⟨rfl, by go_grown⟩
    · refine (atoi_small (s.extract 0 E) _ ss SN.out SD.out (show dval (seg s 0 E) < 9223372036854775808 by omega)).mono ?_
      rintro e w2 ⟨rfl, hb2'⟩
      have hb2 := hb1.trans (hb2'.mono hb1.size)
      have V := Lib.hid hv
      obtain ⟨T, hT⟩ : ∃ T, T = dval (seg s 0 E) := ⟨_, rfl⟩
      rw [← hT] at hv
      rw [show dval (s.extract 0 E).data.toList = T from hT.symm]
      have HT := Lib.hid hT
      clear hT hb2' hb1
      by_cases c1 : E = s.size
      · have c1' : ((E : Int) == (s.size : Int)) = true := by rw [beq_iff_eq]; omega
        have C1 := Lib.hid c1
        clear c1
        go_wp2_with fail
        refine (wrong_calls _ _ _).mono ?_
        rintro e wx ⟨rfl, hbx⟩
        have hb := hb2.trans (hbx.mono hb2.size)
        have q0 := (hb.cell (p := ⟨w.heap.size, 0, none⟩) (by have := Z0.out; simp; omega)).trans k0
        have q1 := (hb.cell (p := ⟨w.heap.size, 1, none⟩) (by have := Z0.out; simp; omega)).trans k1
        have g0 := (hb.frozen (p := ⟨w.heap.size, 0, none⟩) (by have := Z0.out; simp; omega)).trans f0
        have g1 := (hb.frozen (p := ⟨w.heap.size, 1, none⟩) (by have := Z0.out; simp; omega)).trans f1
        have hB := b0.trans (hb.mono (by have := Z0.out; omega))
        clear k0 k1 f0 f1
        go_wp2_with fail
        refine bodyPost_ret (v := .tuple #[.agg #[.int .i64 0, .int .i64 0], .int .i64 E, .int .i64 40]) (by simp [results, Tryd.results23, go_sem, q0, q1, g0, g1]) rfl ?_
        have hp := H.out
        rw [parse_3 HQ.out h0 Z.out V.out (.inl (by have := C1.out; omega))] at hp
        cases hp
        exact ⟨rfl, by go_grown⟩
      · have c1' : ((E : Int) == (s.size : Int)) = false := by rw [beq_eq_false_iff_ne]; omega
        have cl : E < s.size := by omega
        by_cases c2 : (s[E].toNat : Int) = 58
        case neg =>
          have B2 : Hid (bt s E ≠ 58) := Lib.hid (by rw [bt_nat s E cl]; exact c2)
          go_wp2_with fail
          refine (wrong_calls _ _ _).mono ?_
          rintro e wx ⟨rfl, hbx⟩
          have hb := hb2.trans (hbx.mono hb2.size)
          have q0 := (hb.cell (p := ⟨w.heap.size, 0, none⟩) (by have := Z0.out; simp; omega)).trans k0
          have q1 := (hb.cell (p := ⟨w.heap.size, 1, none⟩) (by have := Z0.out; simp; omega)).trans k1
          have g0 := (hb.frozen (p := ⟨w.heap.size, 0, none⟩) (by have := Z0.out; simp; omega)).trans f0
          have g1 := (hb.frozen (p := ⟨w.heap.size, 1, none⟩) (by have := Z0.out; simp; omega)).trans f1
          have hB := b0.trans (hb.mono (by have := Z0.out; omega))
          clear k0 k1 f0 f1
          go_wp2_with fail
          refine bodyPost_ret (v := .tuple #[.agg #[.int .i64 0, .int .i64 0], .int .i64 E, .int .i64 40]) (by simp [results, Tryd.results23, go_sem, q0, q1, g0, g1]) rfl ?_
          have hp := H.out
          rw [parse_3 HQ.out h0 Z.out V.out (.inr B2.out)] at hp
          cases hp
          exact ⟨rfl, by go_grown⟩
        have B2 : Hid (¬ (s.size ≤ E ∨ bt s E ≠ 58)) := Lib.hid (by rw [bt_nat s E cl]; rintro (h | h); omega; exact h c2)
        by_cases d1 : E + 1 < s.size
        case neg =>
          have dz : Hid (dig s (E + 1) = false) := Lib.hid (by cases h : dig s (E + 1); rfl; exact absurd (dig_lt h) d1)
          have dv : Hid (keys_digit.f s ((E + 1 : Nat) : Int) = some false) := Lib.hid (by rw [digit_val, dz.out])
          go_wp2_with fail
          refine (keys_digit.calls s ((E + 1 : Nat) : Int) false _ dv.out).mono ?_
          rintro e w' ⟨rfl, ⟨n3, rfl⟩⟩
          have hb3 : Below W0.heap.size W0 (w2.drewN n3) := hb2.trans ⟨rfl, rfl, rfl, Nat.le_refl _, fun _ _ => rfl⟩
          generalize w2.drewN n3 = w3 at hb3 ⊢
          go_wp2_with fail
          refine (wrong_calls _ _ _).mono ?_
          rintro e wx ⟨rfl, hbx⟩
          have hb := hb3.trans (hbx.mono hb3.size)
          have q0 := (hb.cell (p := ⟨w.heap.size, 0, none⟩) (by have := Z0.out; simp; omega)).trans k0
          have q1 := (hb.cell (p := ⟨w.heap.size, 1, none⟩) (by have := Z0.out; simp; omega)).trans k1
          have g0 := (hb.frozen (p := ⟨w.heap.size, 0, none⟩) (by have := Z0.out; simp; omega)).trans f0
          have g1 := (hb.frozen (p := ⟨w.heap.size, 1, none⟩) (by have := Z0.out; simp; omega)).trans f1
          have hB := b0.trans (hb.mono (by have := Z0.out; omega))
          clear k0 k1 f0 f1
          go_wp2_with fail
          refine bodyPost_ret (v := .tuple #[.agg #[.int .i64 0, .int .i64 0], .int .i64 (E + 1), .int .i64 40]) (by simp [results, Tryd.results23, go_sem, q0, q1, g0, g1]) rfl ?_
          have hp := H.out
          rw [parse_4 HQ.out h0 Z.out V.out B2.out (E + 1) (by rw [if_neg]; simp; omega) (.inl (span_zero dz.out))] at hp
          cases hp
          exact ⟨rfl, by go_grown⟩
        by_cases d2 : (s[E + 1].toNat : Int) = 45
        case pos =>
          have MI : Hid (decide (E + 1 < s.size ∧ bt s (E + 1 : Nat) = 45) = true) := Lib.hid (by rw [bt_nat s (E + 1) d1]; simp [d1, d2])
          have FF : Hid ((if decide (E + 1 < s.size ∧ bt s (E + 1 : Nat) = 45) = true then E + 2 else E + 1) = E + 2) := Lib.hid (if_pos MI.out)
          by_cases dg : dig s (E + 2) = true
          case neg =>
            have dz : Hid (dig s (E + 2) = false) := Lib.hid (by simpa using dg)
            clear dg
            have dv : Hid (keys_digit.f s ((E + 2 : Nat) : Int) = some false) := Lib.hid (by rw [digit_val, dz.out])
            go_wp2_with fail
            refine (keys_digit.calls s ((E + 2 : Nat) : Int) false _ dv.out).mono ?_
            rintro e w' ⟨rfl, ⟨n3, rfl⟩⟩
            have hb3 : Below W0.heap.size W0 (w2.drewN n3) := hb2.trans ⟨rfl, rfl, rfl, Nat.le_refl _, fun _ _ => rfl⟩
            generalize w2.drewN n3 = w3 at hb3 ⊢
            go_wp2_with fail
            refine (wrong_calls _ _ _).mono ?_
            rintro e wx ⟨rfl, hbx⟩
            have hb := hb3.trans (hbx.mono hb3.size)
            have q0 := (hb.cell (p := ⟨w.heap.size, 0, none⟩) (by have := Z0.out; simp; omega)).trans k0
            have q1 := (hb.cell (p := ⟨w.heap.size, 1, none⟩) (by have := Z0.out; simp; omega)).trans k1
            have g0 := (hb.frozen (p := ⟨w.heap.size, 0, none⟩) (by have := Z0.out; simp; omega)).trans f0
            have g1 := (hb.frozen (p := ⟨w.heap.size, 1, none⟩) (by have := Z0.out; simp; omega)).trans f1
            have hB := b0.trans (hb.mono (by have := Z0.out; omega))
            clear k0 k1 f0 f1
            go_wp2_with fail
            refine bodyPost_ret (v := .tuple #[.agg #[.int .i64 0, .int .i64 0], .int .i64 (E + 1 + 1), .int .i64 40]) (by simp [results, Tryd.results23, go_sem, q0, q1, g0, g1]) rfl ?_
            have hp := H.out
            rw [parse_4 HQ.out h0 Z.out V.out B2.out (E + 2) FF.out (.inl (span_zero dz.out)), show ((E + 2 : Nat) : Int) = (E : Int) + 1 + 1 by omega] at hp
            cases hp
            exact ⟨rfl, by go_grown⟩
          have dl : E + 2 < s.size := dig_lt dg
          have DG := Lib.hid dg
          clear dg
          have dv : Hid (keys_digit.f s ((E + 2 : Nat) : Int) = some true) := Lib.hid (by rw [digit_val, DG.out])
          by_cases z2 : (s[E + 2].toNat : Int) = 48
          case pos =>
            have Z2 : Hid (bt s (E + 2 : Nat) = 48) := Lib.hid (by rw [bt_nat s (E + 2) dl]; exact z2)
            go_wp2_with fail
            refine (keys_digit.calls s ((E + 2 : Nat) : Int) true _ dv.out).mono ?_
            rintro e w' ⟨rfl, ⟨n3, rfl⟩⟩
            have hb3 : Below W0.heap.size W0 (w2.drewN n3) := hb2.trans ⟨rfl, rfl, rfl, Nat.le_refl _, fun _ _ => rfl⟩
            generalize w2.drewN n3 = w3 at hb3 ⊢
            go_wp2_with fail
            refine (wrong_calls _ _ _).mono ?_
            rintro e wx ⟨rfl, hbx⟩
            have hb := hb3.trans (hbx.mono hb3.size)
            have q0 := (hb.cell (p := ⟨w.heap.size, 0, none⟩) (by have := Z0.out; simp; omega)).trans k0
            have q1 := (hb.cell (p := ⟨w.heap.size, 1, none⟩) (by have := Z0.out; simp; omega)).trans k1
            have g0 := (hb.frozen (p := ⟨w.heap.size, 0, none⟩) (by have := Z0.out; simp; omega)).trans f0
            have g1 := (hb.frozen (p := ⟨w.heap.size, 1, none⟩) (by have := Z0.out; simp; omega)).trans f1
            have hB := b0.trans (hb.mono (by have := Z0.out; omega))
            clear k0 k1 f0 f1
            go_wp2_with fail
            refine bodyPost_ret (v := .tuple #[.agg #[.int .i64 0, .int .i64 0], .int .i64 (E + 1 + 1), .int .i64 40]) (by simp [results, Tryd.results23, go_sem, q0, q1, g0, g1]) rfl ?_
            have hp := H.out
            rw [parse_4 HQ.out h0 Z.out V.out B2.out (E + 2) FF.out (.inr ⟨MI.out, Z2.out⟩), show ((E + 2 : Nat) : Int) = (E : Int) + 1 + 1 by omega] at hp
            cases hp
            exact ⟨rfl, by go_grown⟩
          have z2' : ¬ (s[E + 1 + 1].toNat : Int) = 48 := z2
          have N4 : Hid (¬ (span s (E + 2) = 0 ∨ (decide (E + 1 < s.size ∧ bt s (E + 1 : Nat) = 45) = true ∧ bt s (E + 2 : Nat) = 48))) := Lib.hid (by rw [bt_nat s (E + 2) dl]; rintro (h | h); rw [span_pos DG.out] at h; omega; exact z2 h.2)
          obtain ⟨M, hM⟩ : ∃ M, M = span s (E + 2) := ⟨_, rfl⟩
          have hM1 : 1 ≤ M := by rw [hM, span_pos DG.out]; omega
          have hM2 : E + 2 + M ≤ s.size := by rw [hM]; exact span_size s _ (by omega)
          have HM := Lib.hid hM
          clear hM
          have rv : Hid (keys_run.f (s.size + 2) s ((E + 2 : Nat) : Int) = some ((E + 2 + M : Nat) : Int)) := Lib.hid (by rw [run_f s hs (E + 2) (by omega), HM.out])
          go_wp2_with fail
          refine (keys_digit.calls s ((E + 2 : Nat) : Int) true _ dv.out).mono ?_
          rintro e w' ⟨rfl, ⟨n3, rfl⟩⟩
          have hb3 : Below W0.heap.size W0 (w2.drewN n3) := hb2.trans ⟨rfl, rfl, rfl, Nat.le_refl _, fun _ _ => rfl⟩
          generalize w2.drewN n3 = w3 at hb3 ⊢
          go_wp2_with fail
          refine (keys_run.calls _ s ((E + 2 : Nat) : Int) _ _ rv.out).mono ?_
          rintro e w' ⟨rfl, ⟨n4, rfl⟩⟩
          have hb4 : Below W0.heap.size W0 (w3.drewN n4) := hb3.trans ⟨rfl, rfl, rfl, Nat.le_refl _, fun _ _ => rfl⟩
          generalize w3.drewN n4 = w4 at hb4 ⊢
          have N5 : Hid (¬ (bt s (E + 2 : Nat) = 48 ∧ 1 < span s (E + 2))) := Lib.hid (by rw [bt_nat s (E + 2) dl]; intro h; exact z2 h.1)
          have hd2 : Digits (seg s (E + 2) (E + 2 + M)) := by have := seg_digits s (E + 2) (span s (E + 2)) (Nat.le_refl _); rw [← HM.out] at this; exact this
          have hn2 : seg s (E + 2) (E + 2 + M) ≠ [] := seg_ne s _ _ (by omega) hM2
          have ss2 : (s.extract (E + 1) (E + 2 + M)).size ≤ 281474976710656 := by have := seg_length s (E + 1) (E + 2 + M) (by omega) hM2; have e : (s.extract (E + 1) (E + 2 + M)).size = (seg s (E + 1) (E + 2 + M)).length := (by unfold seg; rw [Array.length_toList]; rfl); omega
          have HD2 := Lib.hid hd2
          have HN2 := Lib.hid hn2
          clear hd2 hn2
          have hat : Lib.atoiAll (s.extract (E + 1) (E + 2 + M)).data.toList = if dval (seg s (E + 2) (E + 2 + M)) ≤ 9223372036854775808 then .ok (-(dval (seg s (E + 2) (E + 2 + M)) : Int)) else .range := by
            have e : (s.extract (E + 1) (E + 2 + M)).data.toList = s[E + 1] :: seg s (E + 2) (E + 2 + M) := seg_cons s (E + 1) (E + 2 + M) d1 (by omega)
            rw [e, atoi_minus _ (by omega) _ HN2.out HD2.out]
          have HAT := Lib.hid hat
          clear hat
          obtain ⟨D, hD⟩ : ∃ D, D = dval (seg s (E + 2) (E + 2 + M)) := ⟨_, rfl⟩
          rw [← hD] at HAT
          have HD := Lib.hid hD
          clear hD
          by_cases cv : 9223372036854775808 < D
          case pos =>
            have CV : Hid (9223372036854775808 < dval (seg s (E + 2) (E + 2 + M))) := Lib.hid (by rw [← HD.out]; exact cv)
            have at1 : Hid (Lib.atoiAll (s.extract (E + 1) (E + 2 + M)).data.toList = .range) := Lib.hid (by rw [HAT.out, if_neg (by omega)])
            clear cv
            go_wp2_with fail
            all_goals
              refine (int_great (s.extract (E + 1) (E + 2 + M)) _ ss2 at1.out (TabE.of hb4 e0)).mono ?_
              rintro e w5 ⟨x, N, rfl, hb5'⟩
              have hb5 := hb4.trans (hb5'.mono hb4.size)
              clear hb5'
              go_wp2_with fail
              refine (wrong_calls _ _ _).mono ?_
              rintro e wx ⟨rfl, hbx⟩
              have hb := hb5.trans (hbx.mono hb5.size)
              have q0 := (hb.cell (p := ⟨w.heap.size, 0, none⟩) (by have := Z0.out; simp; omega)).trans k0
              have q1 := (hb.cell (p := ⟨w.heap.size, 1, none⟩) (by have := Z0.out; simp; omega)).trans k1
              have g0 := (hb.frozen (p := ⟨w.heap.size, 0, none⟩) (by have := Z0.out; simp; omega)).trans f0
              have g1 := (hb.frozen (p := ⟨w.heap.size, 1, none⟩) (by have := Z0.out; simp; omega)).trans f1
              have hB := b0.trans (hb.mono (by have := Z0.out; omega))
              clear k0 k1 f0 f1
              go_wp2_with fail
              refine bodyPost_ret (v := .tuple #[.agg #[.int .i64 0, .int .i64 0], .int .i64 (E + 1), .int .i64 41]) (by simp [results, Tryd.results23, go_sem, q0, q1, g0, g1]) rfl ?_
              have hp := H.out
              rw [parse_6 HQ.out h0 Z.out V.out B2.out (E + 2) FF.out N4.out N5.out (.inl ⟨MI.out, by rw [← HM.out]; exact CV.out⟩)] at hp
              cases hp
              exact ⟨rfl, by go_grown⟩
          have CV : Hid (¬ 9223372036854775808 < dval (seg s (E + 2) (E + 2 + M))) := Lib.hid (by rw [← HD.out]; exact cv)
          have at1 : Hid (Lib.atoiAll (s.extract (E + 1) (E + 2 + M)).data.toList = .ok (-(D : Int))) := Lib.hid (by rw [HAT.out, if_pos (by omega)])
          have N6 : Hid (¬ ((decide (E + 1 < s.size ∧ bt s (E + 1 : Nat) = 45) = true ∧ 9223372036854775808 < dval (seg s (E + 2) (E + 2 + span s (E + 2)))) ∨ (decide (E + 1 < s.size ∧ bt s (E + 1 : Nat) = 45) = false ∧ 9223372036854775808 ≤ dval (seg s (E + 2) (E + 2 + span s (E + 2)))))) := Lib.hid (by rw [← HM.out]; rintro (h | h); exact CV.out h.2; rw [MI.out] at h; cases h.1)
          by_cases la : E + 2 + M < s.size
          case pos =>
            go_wp2_with fail
            all_goals
              refine (int_small (s.extract (E + 1) (E + 2 + M)) _ _ ss2 at1.out).mono ?_
              rintro e w5 ⟨rfl, hb5'⟩
              have hb5 := hb4.trans (hb5'.mono hb4.size)
              clear hb5'
              go_wp2_with fail
              refine (wrong_calls _ _ _).mono ?_
              rintro e wx ⟨rfl, hbx⟩
              have hb := hb5.trans (hbx.mono hb5.size)
              have q0 := (hb.cell (p := ⟨w.heap.size, 0, none⟩) (by have := Z0.out; simp; omega)).trans k0
              have q1 := (hb.cell (p := ⟨w.heap.size, 1, none⟩) (by have := Z0.out; simp; omega)).trans k1
              have g0 := (hb.frozen (p := ⟨w.heap.size, 0, none⟩) (by have := Z0.out; simp; omega)).trans f0
              have g1 := (hb.frozen (p := ⟨w.heap.size, 1, none⟩) (by have := Z0.out; simp; omega)).trans f1
              have hB := b0.trans (hb.mono (by have := Z0.out; omega))
              clear k0 k1 f0 f1
              go_wp2_with fail
              refine bodyPost_ret (v := .tuple #[.agg #[.int .i64 0, .int .i64 0], .int .i64 (E + 2 + M : Nat), .int .i64 40]) (by simp [results, Tryd.results23, go_sem, q0, q1, g0, g1]) rfl ?_
              have hp := H.out
              rw [parse_7 HQ.out h0 Z.out V.out B2.out (E + 2) FF.out N4.out N5.out N6.out (by rw [← HM.out]; exact la), ← HM.out] at hp
              cases hp
              exact ⟨rfl, by go_grown⟩
          go_wp2_with fail
          all_goals
            refine (int_small (s.extract (E + 1) (E + 2 + M)) _ _ ss2 at1.out).mono ?_
            rintro e w5 ⟨rfl, hb5'⟩
            have hb5 := hb4.trans (hb5'.mono hb4.size)
            clear hb5'
            have q0 := (hb5.cell (p := ⟨w.heap.size, 0, none⟩) (by have := Z0.out; simp; omega)).trans k0
            have q1 := (hb5.cell (p := ⟨w.heap.size, 1, none⟩) (by have := Z0.out; simp; omega)).trans k1
            have g0 := (hb5.frozen (p := ⟨w.heap.size, 0, none⟩) (by have := Z0.out; simp; omega)).trans f0
            have g1 := (hb5.frozen (p := ⟨w.heap.size, 1, none⟩) (by have := Z0.out; simp; omega)).trans f1
            have hB := b0.trans (hb5.mono (by have := Z0.out; omega))
            clear k0 k1 f0 f1
            go_wp2_with fail
            refine bodyPost_ret (v := .tuple #[.agg #[.int .i64 T, .int .i64 (-(D : Int))], .int .i64 0, .int .i64 0]) (by simp [results, Tryd.results23, go_sem, q0, q1, g0, g1]) rfl ?_
            have hp := H.out
            rw [parse_8 HQ.out h0 Z.out V.out B2.out (E + 2) FF.out N4.out N5.out N6.out (by rw [← HM.out]; exact la), ← HM.out, ← HD.out, ← HT.out, MI.out] at hp
            cases hp
            exact ⟨rfl, by go_grown⟩
        have MI : Hid (decide (E + 1 < s.size ∧ bt s (E + 1 : Nat) = 45) = false) := Lib.hid (by rw [bt_nat s (E + 1) d1]; simp [d1, d2])
        have FF : Hid ((if decide (E + 1 < s.size ∧ bt s (E + 1 : Nat) = 45) = true then E + 2 else E + 1) = E + 1) := Lib.hid (if_neg (by rw [MI.out]; simp))
        by_cases dg : dig s (E + 1) = true
        case neg =>
          have dz : Hid (dig s (E + 1) = false) := Lib.hid (by simpa using dg)
          clear dg
          have dv : Hid (keys_digit.f s ((E + 1 : Nat) : Int) = some false) := Lib.hid (by rw [digit_val, dz.out])
          go_wp2_with fail
          refine (keys_digit.calls s ((E + 1 : Nat) : Int) false _ dv.out).mono ?_
          rintro e w' ⟨rfl, ⟨n3, rfl⟩⟩
          have hb3 : Below W0.heap.size W0 (w2.drewN n3) := hb2.trans ⟨rfl, rfl, rfl, Nat.le_refl _, fun _ _ => rfl⟩
          generalize w2.drewN n3 = w3 at hb3 ⊢
          go_wp2_with fail
          refine (wrong_calls _ _ _).mono ?_
          rintro e wx ⟨rfl, hbx⟩
          have hb := hb3.trans (hbx.mono hb3.size)
          have q0 := (hb.cell (p := ⟨w.heap.size, 0, none⟩) (by have := Z0.out; simp; omega)).trans k0
          have q1 := (hb.cell (p := ⟨w.heap.size, 1, none⟩) (by have := Z0.out; simp; omega)).trans k1
          have g0 := (hb.frozen (p := ⟨w.heap.size, 0, none⟩) (by have := Z0.out; simp; omega)).trans f0
          have g1 := (hb.frozen (p := ⟨w.heap.size, 1, none⟩) (by have := Z0.out; simp; omega)).trans f1
          have hB := b0.trans (hb.mono (by have := Z0.out; omega))
          clear k0 k1 f0 f1
          go_wp2_with fail
          refine bodyPost_ret (v := .tuple #[.agg #[.int .i64 0, .int .i64 0], .int .i64 (E + 1), .int .i64 40]) (by simp [results, Tryd.results23, go_sem, q0, q1, g0, g1]) rfl ?_
          have hp := H.out
          rw [parse_4 HQ.out h0 Z.out V.out B2.out (E + 1) FF.out (.inl (span_zero dz.out)), show ((E + 1 : Nat) : Int) = (E : Int) + 1 by omega] at hp
          cases hp
          exact ⟨rfl, by go_grown⟩
        have dl : E + 1 < s.size := dig_lt dg
        have DG := Lib.hid dg
        clear dg
        have dv : Hid (keys_digit.f s ((E + 1 : Nat) : Int) = some true) := Lib.hid (by rw [digit_val, DG.out])
        have N4 : Hid (¬ (span s (E + 1) = 0 ∨ (decide (E + 1 < s.size ∧ bt s (E + 1 : Nat) = 45) = true ∧ bt s (E + 1 : Nat) = 48))) := Lib.hid (by rw [MI.out]; rintro (h | h); rw [span_pos DG.out] at h; omega; cases h.1)
        obtain ⟨M, hM⟩ : ∃ M, M = span s (E + 1) := ⟨_, rfl⟩
        have hM1 : 1 ≤ M := by rw [hM, span_pos DG.out]; omega
        have hM2 : E + 1 + M ≤ s.size := by rw [hM]; exact span_size s _ (by omega)
        have HM := Lib.hid hM
        clear hM
        have rv : Hid (keys_run.f (s.size + 2) s ((E + 1 : Nat) : Int) = some ((E + 1 + M : Nat) : Int)) := Lib.hid (by rw [run_f s hs (E + 1) (by omega), HM.out])
        go_wp2_with fail
        refine (keys_digit.calls s ((E + 1 : Nat) : Int) true _ dv.out).mono ?_
        rintro e w' ⟨rfl, ⟨n3, rfl⟩⟩
        have hb3 : Below W0.heap.size W0 (w2.drewN n3) := hb2.trans ⟨rfl, rfl, rfl, Nat.le_refl _, fun _ _ => rfl⟩
        generalize w2.drewN n3 = w3 at hb3 ⊢
        go_wp2_with fail
        refine (keys_run.calls _ s ((E + 1 : Nat) : Int) _ _ rv.out).mono ?_
        rintro e w' ⟨rfl, ⟨n4, rfl⟩⟩
        have hb4 : Below W0.heap.size W0 (w3.drewN n4) := hb3.trans ⟨rfl, rfl, rfl, Nat.le_refl _, fun _ _ => rfl⟩
        generalize w3.drewN n4 = w4 at hb4 ⊢
        by_cases z3 : (s[E + 1].toNat : Int) = 48 ∧ 1 < M
        case pos =>
          obtain ⟨z4, z5⟩ := z3
          have Z4 : Hid (bt s (E + 1 : Nat) = 48 ∧ 1 < span s (E + 1)) := Lib.hid ⟨by rw [bt_nat s (E + 1) dl]; exact z4, by rw [← HM.out]; exact z5⟩
          go_wp2_with fail
          refine (wrong_calls _ _ _).mono ?_
          rintro e wx ⟨rfl, hbx⟩
          have hb := hb4.trans (hbx.mono hb4.size)
          have q0 := (hb.cell (p := ⟨w.heap.size, 0, none⟩) (by have := Z0.out; simp; omega)).trans k0
          have q1 := (hb.cell (p := ⟨w.heap.size, 1, none⟩) (by have := Z0.out; simp; omega)).trans k1
          have g0 := (hb.frozen (p := ⟨w.heap.size, 0, none⟩) (by have := Z0.out; simp; omega)).trans f0
          have g1 := (hb.frozen (p := ⟨w.heap.size, 1, none⟩) (by have := Z0.out; simp; omega)).trans f1
          have hB := b0.trans (hb.mono (by have := Z0.out; omega))
          clear k0 k1 f0 f1
          go_wp2_with fail
          refine bodyPost_ret (v := .tuple #[.agg #[.int .i64 0, .int .i64 0], .int .i64 (E + 1 + 1), .int .i64 40]) (by simp [results, Tryd.results23, go_sem, q0, q1, g0, g1]) rfl ?_
          have hp := H.out
          rw [parse_5 HQ.out h0 Z.out V.out B2.out (E + 1) FF.out N4.out Z4.out] at hp
          cases hp
          exact ⟨rfl, by go_grown⟩
        have N5 : Hid (¬ (bt s (E + 1 : Nat) = 48 ∧ 1 < span s (E + 1))) := Lib.hid (by rw [bt_nat s (E + 1) dl, ← HM.out]; exact z3)
        have hd2 : Digits (seg s (E + 1) (E + 1 + M)) := by have := seg_digits s (E + 1) (span s (E + 1)) (Nat.le_refl _); rw [← HM.out] at this; exact this
        have hn2 : seg s (E + 1) (E + 1 + M) ≠ [] := seg_ne s _ _ (by omega) hM2
        have ss2 : (s.extract (E + 1) (E + 1 + M)).size ≤ 281474976710656 := by have := seg_length s (E + 1) (E + 1 + M) (by omega) hM2; have e : (s.extract (E + 1) (E + 1 + M)).size = (seg s (E + 1) (E + 1 + M)).length := (by unfold seg; rw [Array.length_toList]; rfl); omega
        have HD2 := Lib.hid hd2
        have HN2 := Lib.hid hn2
        clear hd2 hn2
        have hat : Lib.atoiAll (s.extract (E + 1) (E + 1 + M)).data.toList = if dval (seg s (E + 1) (E + 1 + M)) < 9223372036854775808 then .ok (dval (seg s (E + 1) (E + 1 + M)) : Int) else .range :=
          atoi_digits _ HN2.out HD2.out
        have HAT := Lib.hid hat
        clear hat
        obtain ⟨D, hD⟩ : ∃ D, D = dval (seg s (E + 1) (E + 1 + M)) := ⟨_, rfl⟩
        rw [← hD] at HAT
        have HD := Lib.hid hD
        clear hD
        by_cases cv : 9223372036854775808 ≤ D
        case pos =>
          have CV : Hid (9223372036854775808 ≤ dval (seg s (E + 1) (E + 1 + M))) := Lib.hid (by rw [← HD.out]; exact cv)
          have at1 : Hid (Lib.atoiAll (s.extract (E + 1) (E + 1 + M)).data.toList = .range) := Lib.hid (by rw [HAT.out, if_neg (by omega)])
          clear cv
          go_wp2_with fail
          all_goals
            refine (int_great (s.extract (E + 1) (E + 1 + M)) _ ss2 at1.out (TabE.of hb4 e0)).mono ?_
            rintro e w5 ⟨x, N, rfl, hb5'⟩
            have hb5 := hb4.trans (hb5'.mono hb4.size)
            clear hb5'
            go_wp2_with fail
            refine (wrong_calls _ _ _).mono ?_
            rintro e wx ⟨rfl, hbx⟩
            have hb := hb5.trans (hbx.mono hb5.size)
            have q0 := (hb.cell (p := ⟨w.heap.size, 0, none⟩) (by have := Z0.out; simp; omega)).trans k0
            have q1 := (hb.cell (p := ⟨w.heap.size, 1, none⟩) (by have := Z0.out; simp; omega)).trans k1
            have g0 := (hb.frozen (p := ⟨w.heap.size, 0, none⟩) (by have := Z0.out; simp; omega)).trans f0
            have g1 := (hb.frozen (p := ⟨w.heap.size, 1, none⟩) (by have := Z0.out; simp; omega)).trans f1
            have hB := b0.trans (hb.mono (by have := Z0.out; omega))
            clear k0 k1 f0 f1
            go_wp2_with fail
            refine bodyPost_ret (v := .tuple #[.agg #[.int .i64 0, .int .i64 0], .int .i64 (E + 1), .int .i64 41]) (by simp [results, Tryd.results23, go_sem, q0, q1, g0, g1]) rfl ?_
            have hp := H.out
            rw [parse_6 HQ.out h0 Z.out V.out B2.out (E + 1) FF.out N4.out N5.out (.inr ⟨MI.out, by rw [← HM.out]; exact CV.out⟩)] at hp
            cases hp
            exact ⟨rfl, by go_grown⟩
        have CV : Hid (¬ 9223372036854775808 ≤ dval (seg s (E + 1) (E + 1 + M))) := Lib.hid (by rw [← HD.out]; exact cv)
        have at1 : Hid (Lib.atoiAll (s.extract (E + 1) (E + 1 + M)).data.toList = .ok (D : Int)) := Lib.hid (by rw [HAT.out, if_pos (by omega)])
        have N6 : Hid (¬ ((decide (E + 1 < s.size ∧ bt s (E + 1 : Nat) = 45) = true ∧ 9223372036854775808 < dval (seg s (E + 1) (E + 1 + span s (E + 1)))) ∨ (decide (E + 1 < s.size ∧ bt s (E + 1 : Nat) = 45) = false ∧ 9223372036854775808 ≤ dval (seg s (E + 1) (E + 1 + span s (E + 1)))))) := Lib.hid (by rw [← HM.out]; rintro (h | h); rw [MI.out] at h; cases h.1; exact CV.out h.2)
        by_cases la : E + 1 + M < s.size
        case pos =>
          go_wp2_with fail
          all_goals
            refine (int_small (s.extract (E + 1) (E + 1 + M)) _ _ ss2 at1.out).mono ?_
            rintro e w5 ⟨rfl, hb5'⟩
            have hb5 := hb4.trans (hb5'.mono hb4.size)
            clear hb5'
            go_wp2_with fail
            refine (wrong_calls _ _ _).mono ?_
            rintro e wx ⟨rfl, hbx⟩
            have hb := hb5.trans (hbx.mono hb5.size)
            have q0 := (hb.cell (p := ⟨w.heap.size, 0, none⟩) (by have := Z0.out; simp; omega)).trans k0
            have q1 := (hb.cell (p := ⟨w.heap.size, 1, none⟩) (by have := Z0.out; simp; omega)).trans k1
            have g0 := (hb.frozen (p := ⟨w.heap.size, 0, none⟩) (by have := Z0.out; simp; omega)).trans f0
            have g1 := (hb.frozen (p := ⟨w.heap.size, 1, none⟩) (by have := Z0.out; simp; omega)).trans f1
            have hB := b0.trans (hb.mono (by have := Z0.out; omega))
            clear k0 k1 f0 f1
            go_wp2_with fail
            refine bodyPost_ret (v := .tuple #[.agg #[.int .i64 0, .int .i64 0], .int .i64 (E + 1 + M : Nat), .int .i64 40]) (by simp [results, Tryd.results23, go_sem, q0, q1, g0, g1]) rfl ?_
            have hp := H.out
            rw [parse_7 HQ.out h0 Z.out V.out B2.out (E + 1) FF.out N4.out N5.out N6.out (by rw [← HM.out]; exact la), ← HM.out] at hp
            cases hp
            exact ⟨rfl, by go_grown⟩
        go_wp2_with fail
        all_goals
          refine (int_small (s.extract (E + 1) (E + 1 + M)) _ _ ss2 at1.out).mono ?_
          rintro e w5 ⟨rfl, hb5'⟩
          have hb5 := hb4.trans (hb5'.mono hb4.size)
          clear hb5'
          have q0 := (hb5.cell (p := ⟨w.heap.size, 0, none⟩) (by have := Z0.out; simp; omega)).trans k0
          have q1 := (hb5.cell (p := ⟨w.heap.size, 1, none⟩) (by have := Z0.out; simp; omega)).trans k1
          have g0 := (hb5.frozen (p := ⟨w.heap.size, 0, none⟩) (by have := Z0.out; simp; omega)).trans f0
          have g1 := (hb5.frozen (p := ⟨w.heap.size, 1, none⟩) (by have := Z0.out; simp; omega)).trans f1
          have hB := b0.trans (hb5.mono (by have := Z0.out; omega))
          clear k0 k1 f0 f1
          go_wp2_with fail
          refine bodyPost_ret (v := .tuple #[.agg #[.int .i64 T, .int .i64 (D : Int)], .int .i64 0, .int .i64 0]) (by simp [results, Tryd.results23, go_sem, q0, q1, g0, g1]) rfl ?_
          have hp := H.out
          rw [parse_8 HQ.out h0 Z.out V.out B2.out (E + 1) FF.out N4.out N5.out N6.out (by rw [← HM.out]; exact la), ← HM.out, ← HD.out, ← HT.out, MI.out] at hp
          cases hp
          exact ⟨rfl, by go_grown⟩
end Go.Proofs.YtbmfldoobkeieaaDoor.KForm
