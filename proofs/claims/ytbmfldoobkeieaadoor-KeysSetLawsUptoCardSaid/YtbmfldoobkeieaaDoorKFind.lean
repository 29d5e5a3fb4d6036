/- keys.Find at a set: how many members are below the key, and whether it stands there. -/
import Derived.Test.YtbmfldoobkeieaaDoorKList2
import Derived.StillTailTactics
import Derived.Deep.QuietTactic
import Derived.BigQuiet
import Derived.Deep.RegionHeld3
namespace Go.Proofs.YtbmfldoobkeieaaDoor.KForm
open Go.RowKit Go.Lib Go.Sort Go.Proofs.YtbmfldoobkeieaaDoor.Own Go.Proofs.YtbmfldoobkeieaaDoorW.PrintWords
set_option linter.unusedVariables false
set_option linter.unusedSimpArgs false

theorem below_grow' {w w' : World} (h : ∃ q os, w' = grow (w.drewN q) os) : RowKit.Below w.heap.size w w' := by
  obtain ⟨q, os, rfl⟩ := h
  exact ⟨rfl, rfl, rfl, by simp, fun k hk => by show (w.heap ++ os)[k]? = _; rw [Array.getElem?_append_left hk]⟩
/-- how many members are below the key -/
def findN (l : List (Int × Int)) (x : Int × Int) : Nat := (l.filter fun y => kLt y x).length
theorem findN_le (l : List (Int × Int)) (x : Int × Int) : findN l x ≤ l.length := List.length_filter_le _ _
/-- in a set the members below the key are its first ones -/
theorem findN_lt {l : List (Int × Int)} (hP : l.Pairwise (fun a b => kLt a b = true)) (x : Int × Int) : ∀ i (hi : i < l.length), (i < findN l x ↔ kLt l[i] x = true) := by
  induction l with
  | nil => intro i hi; simp at hi
  | cons a l ih =>
    obtain ⟨h1, h2⟩ := List.pairwise_cons.mp hP
    have ktr : ∀ u v z : Int × Int, kLt u v = true → kLt v z = true → kLt u z = true := by
      intro u v z; unfold kLt; simp only [decide_eq_true_eq]; omega
    intro i hi
    show i < ((a :: l).filter fun y => kLt y x).length ↔ kLt (a :: l)[i] x = true
    cases hax : kLt a x with
    | true =>
      rw [show (a :: l).filter (fun y => kLt y x) = a :: l.filter (fun y => kLt y x) from List.filter_cons_of_pos (p := fun y => kLt y x) hax, List.length_cons]
      cases i with
      | zero => simp [hax]
      | succ i =>
        have := ih h2 i (by simpa using hi)
        unfold findN at this
        simp only [List.getElem_cons_succ]
        rw [← this]
        omega
    | false =>
      have hnone : l.filter (fun y => kLt y x) = [] := by
        rw [List.filter_eq_nil_iff]
        intro y hy hyx
        rw [ktr a y x (h1 y hy) hyx] at hax
        cases hax
      rw [show (a :: l).filter (fun y => kLt y x) = l.filter (fun y => kLt y x) from List.filter_cons_of_neg (p := fun y => kLt y x) (by simp [hax]), hnone]
      cases i with
      | zero => simp [hax]
      | succ i =>
        simp only [List.length_nil, Nat.not_lt_zero, false_iff, List.getElem_cons_succ]
        intro hyx
        have hi' : i < l.length := by simpa using hi
        have := ktr a (l[i]'hi') x (h1 _ (List.getElem_mem hi')) hyx
        rw [this] at hax
        cases hax
theorem cmpF_zero (a b : Int × Int) : cmpF a b = 0 ↔ a = b := by
  constructor
  · intro h
    have h1 : ¬ cmpF a b < 0 := by omega
    rw [cmpF_neg] at h1
    have h2 : ¬ (b.1 < a.1 ∨ (b.1 = a.1 ∧ b.2 < a.2)) := by
      unfold cmpF orI cmpI at h
      split at h <;> split at h <;> (try split at h) <;> omega
    exact Prod.ext (by omega) (by omega)
  · rintro rfl
    unfold cmpF orI cmpI
    simp
theorem find_at {l : List (Int × Int)} (hP : l.Pairwise (fun a b => kLt a b = true)) (x : Int × Int) (hx : x ∈ l) : ∃ h : findN l x < l.length, l[findN l x] = x := by
  obtain ⟨q, hq, rfl⟩ := List.mem_iff_getElem.mp hx
  have h1 := findN_lt hP l[q] q hq
  have hirr : kLt l[q] l[q] = false := by unfold kLt; simp
  rw [hirr] at h1
  have h2 : findN l l[q] ≤ q := by
    rcases Nat.lt_or_ge q (findN l l[q]) with h | h
    · exact absurd (h1.mp h) (by simp)
    · exact h
  have h3 : findN l l[q] < l.length := by omega
  refine ⟨h3, ?_⟩
  rcases Nat.lt_or_ge (findN l l[q]) q with h | h
  · have hk := List.pairwise_iff_getElem.mp hP (findN l l[q]) q h3 hq h
    have := (findN_lt hP l[q] (findN l l[q]) h3).mpr hk
    omega
  · have e : findN l l[q] = q := by omega
    congr 1
theorem find_in {l : List (Int × Int)} (hP : l.Pairwise (fun a b => kLt a b = true)) (x : Int × Int) (i : Nat) (hi : i = findN l x) (hin : i < l.length) : decide (x ∈ l) = (cmpF l[i] x == 0) := by
  subst hi
  by_cases hx : x ∈ l
  · obtain ⟨h1, h2⟩ := find_at hP x hx
    rw [decide_eq_true hx, h2, (cmpF_zero x x).mpr rfl]
    rfl
  · rw [decide_eq_false hx]
    symm
    rw [beq_eq_false_iff_ne]
    intro h
    rw [cmpF_zero] at h
    exact hx (by rw [← h]; exact List.getElem_mem hin)
theorem find_out {l : List (Int × Int)} (hP : l.Pairwise (fun a b => kLt a b = true)) (x : Int × Int) (h : findN l x = l.length) : decide (x ∈ l) = false := by
  apply decide_eq_false
  intro hx
  obtain ⟨h1, _⟩ := find_at hP x hx
  omega
/-- the member and the key lie where they lay -/
def FBox (w : World) (b p : Nat) (y x : Int × Int) (W : World) : Prop := W.cell? ⟨b, p, none⟩ = some (.int .i64 y.1) ∧ W.cell? ⟨b, p + 1, none⟩ = some (.int .i64 y.2) ∧ W.cell? ⟨w.heap.size, 0, none⟩ = some (.int .i64 x.1) ∧ W.cell? ⟨w.heap.size, 1, none⟩ = some (.int .i64 x.2) ∧ RowKit.Below w.heap.size w W ∧ b < W.heap.size ∧ w.heap.size < W.heap.size
theorem FBox.drewN {w : World} {b p : Nat} {y x : Int × Int} {W : World} (h : FBox w b p y x W) {n : Nat} : FBox w b p y x (W.drewN n) :=
  ⟨h.1, h.2.1, h.2.2.1, h.2.2.2.1, pw_below_drewN h.2.2.2.2.1 n, by simpa using h.2.2.2.2.2.1, by simpa using h.2.2.2.2.2.2⟩
theorem compare_box {w : World} {b p : Nat} {y x : Int × Int} {W : World} (h : FBox w b p y x W) : Calls Tryd.prog 19 #[.agg #[.int .i64 y.1, .int .i64 y.2], .agg #[.int .i64 x.1, .int .i64 x.2]] W fun e w' => e = .returned (.int .i64 (cmpF y x)) ∧
    (w'.cell? ⟨b, p, none⟩ = some (.int .i64 y.1) ∧ w'.cell? ⟨b, p + 1, none⟩ = some (.int .i64 y.2) ∧ w'.cell? ⟨w.heap.size, 0, none⟩ = some (.int .i64 x.1) ∧ w'.cell? ⟨w.heap.size, 1, none⟩ = some (.int .i64 x.2)) ∧ FBox w b p y x w' := by
  refine (compare_calls y x W).mono ?_
  rintro e w' ⟨rfl, hg⟩
  obtain ⟨h1, h2, h3, h4, h5, h6, h7⟩ := h
  have hb := below_grow' hg
  have g1 : w'.cell? ⟨b, p, none⟩ = some (.int .i64 y.1) := (hb.cell (p := ⟨b, p, none⟩) h6).trans h1
  have g2 : w'.cell? ⟨b, p + 1, none⟩ = some (.int .i64 y.2) := (hb.cell (p := ⟨b, p + 1, none⟩) h6).trans h2
  have g3 : w'.cell? ⟨w.heap.size, 0, none⟩ = some (.int .i64 x.1) := (hb.cell (p := ⟨w.heap.size, 0, none⟩) h7).trans h3
  have g4 : w'.cell? ⟨w.heap.size, 1, none⟩ = some (.int .i64 x.2) := (hb.cell (p := ⟨w.heap.size, 1, none⟩) h7).trans h4
  exact ⟨rfl, ⟨g1, g2, g3, g4⟩, g1, g2, g3, g4, h5.trans (hb.mono h5.size), Nat.lt_of_lt_of_le h6 hb.size, Nat.lt_of_lt_of_le h7 hb.size⟩
set_option maxHeartbeats 8000000 in
set_option maxRecDepth 100000 in
theorem search_calls (A : Option Addr) (c : Nat) (l : List (Int × Int)) (x : Int × Int) (w : World) (h : ListAt w A l) (hl : l.length < 8796093022208) (hP : l.Pairwise (fun a b => kLt a b = true)) :
    Calls Tryd.prog 57 #[.slice A l.length c, .agg #[.int .i64 x.1, .int .i64 x.2], .func (.func 19) #[] #[]] w fun e w' =>
      e = .returned (.tuple #[.int .i64 (findN l x), .bool (decide (x ∈ l))]) ∧ RowKit.Below w.heap.size w w' := by
  have H := Lib.hid h
  have HP := Lib.hid (findN_lt hP x)
  have hfl := findN_le l x
  have HM : Hid (∀ i (hi : i = findN l x) (hin : i < l.length), decide (x ∈ l) = (cmpF l[i] x == 0)) := Lib.hid (fun i hi hin => find_in hP x i hi hin)
  have HM1 : Hid (findN l x = l.length → decide (x ∈ l) = false) := Lib.hid (fun h => find_out hP x h)
  clear h hP
  go_enter Tryd.func57, Tryd.ntmps57
  go_wp2
  go_loopg [9, 10] l.length (fun gg s9 s10 wr => ∃ i j : Nat, s9 = .int .i64 i ∧ s10 = .int .i64 j ∧ i ≤ j ∧ j ≤ l.length ∧ j - i ≤ gg ∧ i ≤ findN l x ∧ findN l x ≤ j ∧ Aside (RowKit.Below w.heap.size w wr) ∧ Aside (wr.cell? ⟨w.heap.size, 0, none⟩ = some (.int .i64 x.1) ∧ wr.cell? ⟨w.heap.size, 1, none⟩ = some (.int .i64 x.2) ∧ w.heap.size < wr.heap.size))
  case atStart => exact ⟨0, l.length, rfl, rfl, by omega, by omega, by omega, by omega, hfl, (RowKit.Below.refl _ _).alloc (Nat.le_refl _) _, by rw [World.cell?_alloc_at _ _ _ _ rfl]; rfl, by rw [World.cell?_alloc_at _ _ _ _ rfl]; rfl, by simp⟩
  case round =>
    obtain ⟨i, j, rfl, rfl, hij, hj, hg, hlo, hhi, BW, BX⟩ := hrel
    by_cases hlt : i < j
    · have hltz : (i : Int) < (j : Int) := by omega
      go_wp2
      obtain ⟨m, hm⟩ : ∃ m : Nat, ((i : Int) + (j : Int)) / 2 = m := ⟨(i + j) / 2, by omega⟩
      rw [hm]
      have m1 : i ≤ m := by omega
      have m2 : m < j := by omega
      clear hm
      rcases H.out with ⟨_, hn⟩ | ⟨b, o, hA, hcells⟩
      · rw [hn] at hj; simp at hj; omega
      subst hA
      have hml : m < l.length := by omega
      have hmz : (m : Int) < (l.length : Int) := by omega
      obtain ⟨k1, k2⟩ := hcells m hml
      have hK := HP.out m hml
      obtain ⟨y, hy⟩ : ∃ y, y = l[m] := ⟨_, rfl⟩
      rw [getElem!_pos l m hml, ← hy] at k1 k2
      rw [← hy] at hK
      clear hy
      have hb := World.block_lt_of_cell? w _ k1
      have d1 : wr.drew.cell? ⟨b, o + m * 2, none⟩ = some (.int .i64 y.1) := (BW.out.cell (p := ⟨b, o + m * 2, none⟩) hb).trans k1
      have d2 : wr.drew.cell? ⟨b, o + m * 2 + 1, none⟩ = some (.int .i64 y.2) := (BW.out.cell (p := ⟨b, o + m * 2 + 1, none⟩) hb).trans k2
      obtain ⟨b1, b2, b3⟩ := BX.out
      have d3 : wr.drew.cell? ⟨w.heap.size, 0, none⟩ = some (.int .i64 x.1) := b1
      have d4 : wr.drew.cell? ⟨w.heap.size, 1, none⟩ = some (.int .i64 x.2) := b2
      have BD : Hid (RowKit.Below w.heap.size w wr.drew) := Lib.hid BW.out.drew
      have b3' : w.heap.size < wr.drew.heap.size := b3
      clear k1 k2 b1 b2 b3 hcells
      refine wp_region_still_tail 6 (by kernel_rfl) (by kernel_rfl) ?_
      change wpStill _ _ (World.drew _) (fun a' => wpList _ _ _ _ a' (World.drew _)) _ _
      generalize wr.drew = w3 at d1 d2 d3 d4 BD b3' ⊢
      simp only [List.take_succ_cons, List.take_zero, List.drop_succ_cons, List.drop_zero]
      repeat still_step
      refine wpStill_nil ?_
      go_wp2_with fail
      refine (compare_calls y x w3).mono ?_
      rintro e w4 ⟨rfl, hgrow⟩
      have B4 : Hid (RowKit.Below w.heap.size w w4) := Lib.hid (BD.out.trans ((below_grow' hgrow).mono BD.out.size))
      have BX4 : Hid (w4.cell? ⟨w.heap.size, 0, none⟩ = some (.int .i64 x.1) ∧ w4.cell? ⟨w.heap.size, 1, none⟩ = some (.int .i64 x.2) ∧ w.heap.size < w4.heap.size) := Lib.hid ⟨by rw [(below_grow' hgrow).cell (p := ⟨w.heap.size, 0, none⟩) b3']; exact d3, by rw [(below_grow' hgrow).cell (p := ⟨w.heap.size, 1, none⟩) b3']; exact d4, Nat.lt_of_lt_of_le b3' (below_grow' hgrow).size⟩
      have hC := cmpF_neg y x
      unfold kLt at hK
      rw [decide_eq_true_eq, ← hC] at hK
      clear d1 d2 d3 d4 BD hgrow hC b3' BX BW
      by_cases hneg : cmpF y x < 0
      · go_wp2_with fail
        go_roundg (j - (m + 1))
        case measure => omega
        case rel => exact ⟨m + 1, j, by go_num, rfl, by omega, hj, by omega, hK.mpr hneg, hhi, B4.out, BX4.out⟩
      · have hle : findN l x ≤ m := by
          rcases Nat.lt_or_ge m (findN l x) with h | h
          · exact absurd (hK.mp h) hneg
          · exact h
        go_wp2_with fail
        go_roundg (m - i)
        case measure => omega
        case rel => exact ⟨i, m, rfl, rfl, m1, by omega, by omega, hlo, hle, B4.out, BX4.out⟩
    · have hltz : ¬ (i : Int) < (j : Int) := by omega
      have hi1 : i = findN l x := by omega
      by_cases hin : i < l.length
      · have hinz : (i : Int) < (l.length : Int) := by omega
        rcases H.out with ⟨_, hn⟩ | ⟨b, o, hA, hcells⟩
        · rw [hn] at hin; simp at hin
        subst hA
        obtain ⟨k1, k2⟩ := hcells i hin
        have HY : Hid (decide (x ∈ l) = (cmpF l[i] x == 0)) := Lib.hid (HM.out i hi1 hin)
        obtain ⟨y, hy⟩ : ∃ y, y = l[i] := ⟨_, rfl⟩
        rw [getElem!_pos l i hin, ← hy] at k1 k2
        rw [← hy] at HY
        clear hy
        have hb := World.block_lt_of_cell? w _ k1
        have d1 : wr.drew.cell? ⟨b, o + i * 2, none⟩ = some (.int .i64 y.1) := (BW.out.cell (p := ⟨b, o + i * 2, none⟩) hb).trans k1
        have d2 : wr.drew.cell? ⟨b, o + i * 2 + 1, none⟩ = some (.int .i64 y.2) := (BW.out.cell (p := ⟨b, o + i * 2 + 1, none⟩) hb).trans k2
        obtain ⟨b1, b2, b3⟩ := BX.out
        have d3 : wr.drew.cell? ⟨w.heap.size, 0, none⟩ = some (.int .i64 x.1) := b1
        have d4 : wr.drew.cell? ⟨w.heap.size, 1, none⟩ = some (.int .i64 x.2) := b2
        have BD : Hid (RowKit.Below w.heap.size w wr.drew) := Lib.hid BW.out.drew
        clear k1 k2 b1 b2 b3 hcells
        have b3' : w.heap.size < wr.drew.heap.size := BX.out.2.2
        have d5 : decide ((i : Int) < (l.length : Int)) = true := decide_eq_true hinz
        have HI := Lib.hid hi1
        clear BX hi1
        have d5' : decide (i < l.length) = true := decide_eq_true hin
        have e1 : wr.cell? ⟨b, o + i * 2, none⟩ = some (.int .i64 y.1) := d1
        have e2 : wr.cell? ⟨b, o + i * 2 + 1, none⟩ = some (.int .i64 y.2) := d2
        have e3 : wr.cell? ⟨w.heap.size, 0, none⟩ = some (.int .i64 x.1) := d3
        have e4 : wr.cell? ⟨w.heap.size, 1, none⟩ = some (.int .i64 x.2) := d4
        have hS : FBox w b (o + i * 2) y x wr := ⟨e1, e2, e3, e4, BW.out, Nat.lt_of_lt_of_le hb BW.out.size, b3'⟩
        clear d1 d2 d3 d4 BD b3'
        go_wp2_with fail
        go_region_held3 (fun W => W.cell? ⟨b, o + i * 2, none⟩ = some (.int .i64 y.1) ∧ W.cell? ⟨b, o + i * 2 + 1, none⟩ = some (.int .i64 y.2) ∧ W.cell? ⟨w.heap.size, 0, none⟩ = some (.int .i64 x.1) ∧ W.cell? ⟨w.heap.size, 1, none⟩ = some (.int .i64 x.2)) (go_keep) (first | (go_at_call 19; refine (compare_box (by assumption)).mono ?_; rintro e w' ⟨rfl, hC, hS'⟩; obtain ⟨hC0, hC1, hC2, hC3⟩ := hC) | (go_at_call 19; refine (compare_box (FBox.drewN (by assumption))).mono ?_; rintro e w' ⟨rfl, hC, hS'⟩; obtain ⟨hC0, hC1, hC2, hC3⟩ := hC))
        all_goals go_wp2_with fail
        all_goals go_ret2
        all_goals exact ⟨by rw [← HI.out, HY.out]; rfl, hS'.2.2.2.2.1⟩
      · have hinz : ¬ (i : Int) < (l.length : Int) := by omega
        have HM0 : Hid (decide (x ∈ l) = false) := Lib.hid (HM1.out (by omega))
        have d0 : decide ((i : Int) < (l.length : Int)) = false := decide_eq_false hinz
        have d1 : decide (i < l.length) = false := decide_eq_false hin
        have HI := Lib.hid hi1
        have BW' := Lib.hid BW.out
        clear BX hi1
        go_wp2_with fail
        go_quiet (fail)
        go_wp2_with fail
        go_ret2
        exact ⟨by rw [← HI.out, HM0.out]; rfl, pw_below_drewN BW'.out nq⟩
set_option maxHeartbeats 2000000 in
set_option maxRecDepth 100000 in
theorem find_calls (A : Option Addr) (c : Nat) (l : List (Int × Int)) (x : Int × Int) (w : World) (h : ListAt w A l) (hl : l.length < 8796093022208) (hc : l.length ≤ c) (hR : Rising l) :
    Calls Tryd.prog 32 #[.slice A l.length c, .agg #[.int .i64 x.1, .int .i64 x.2]] w fun e w' => e = .returned (.tuple #[.int .i64 (findN l x), .bool (decide (x ∈ l))]) ∧ RowKit.Below w.heap.size w w' := by
  have H := Lib.hid h
  have R := Lib.hid hR
  clear h hR
  go_enter Tryd.func32, Tryd.ntmps32
  go_wp2_with fail
  refine (rises_calls A c l _ (H.out.below ((RowKit.Below.refl _ _).alloc (Nat.le_refl _) _)).keys (by omega) hc R.out).mono ?_
  rintro e w1 ⟨rfl, hb1⟩
  have z1 := hb1.size
  rw [World.size_alloc] at z1
  have q0 : w1.cell? ⟨w.heap.size, 0, none⟩ = some (.int .i64 x.1) := by rw [hb1.cell (p := ⟨w.heap.size, 0, none⟩) (by simp), World.cell?_alloc_at _ _ _ _ rfl]; rfl
  have q1 : w1.cell? ⟨w.heap.size, 1, none⟩ = some (.int .i64 x.2) := by rw [hb1.cell (p := ⟨w.heap.size, 1, none⟩) (by simp), World.cell?_alloc_at _ _ _ _ rfl]; rfl
  have B1 : Hid (RowKit.Below w.heap.size w w1) := Lib.hid (((RowKit.Below.refl _ _).alloc (Nat.le_refl _) _).trans (hb1.mono (by simp)))
  clear hb1
  go_wp2_with fail
  refine (search_calls A c l x w1 (H.out.below B1.out) hl R.out.2).mono ?_
  rintro e w2 ⟨rfl, hb2⟩
  have B2 : Hid (RowKit.Below w.heap.size w w2) := Lib.hid (B1.out.trans (hb2.mono B1.out.size))
  clear hb2
  go_wp2_with fail
  go_ret2
  exact ⟨rfl, B2.out⟩
end Go.Proofs.YtbmfldoobkeieaaDoor.KForm
