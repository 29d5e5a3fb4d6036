/- slices.Compact at a list of keys held alone: of consecutive equal ones the first stays. -/
import Derived.Test.YtbmfldoobkeieaaKCmp
import Derived.Test.YtbmfldoobkeieaaKSound
import Derived.Test.YtbmfldoobkeieaaOwn
import Derived.Lib.SlicesCompact
import Derived.Lib.SliceRun
import Derived.Deep.QuietTactic
import Derived.BigQuiet
namespace Go.Proofs.Ytbmfldoobkeieaa.KForm
open Go.RowKit Go.Lib Go.Sort Go.Proofs.Ytbmfldoobkeieaa.Own Go.Proofs.YtbmfldoobkeieaaW.PrintWords
set_option linter.unusedVariables false
set_option linter.unusedSimpArgs false

/-- block b is a row of M cells that holds the keys dk at its head -/
def RowHas (w : World) (b M : Nat) (dk : Array (Int × Int)) : Prop := ∃ f, w.rowIs b 29 M f ∧ dk.size * 2 ≤ M ∧ ∀ j, j < dk.size → f (j * 2) = .int .i64 dk[j]!.1 ∧ f (j * 2 + 1) = .int .i64 dk[j]!.2
theorem RowHas.cell {w : World} {b M : Nat} {dk : Array (Int × Int)} (h : RowHas w b M dk) {j : Nat} (hj : j < dk.size) :
    w.cell? ⟨b, j * 2, none⟩ = some (.int .i64 dk[j]!.1) ∧ w.cell? ⟨b, j * 2 + 1, none⟩ = some (.int .i64 dk[j]!.2) ∧ w.frozen? ⟨b, j * 2, none⟩ = false ∧ w.frozen? ⟨b, j * 2 + 1, none⟩ = false := by
  obtain ⟨f, hr, hM, hf⟩ := h
  obtain ⟨h1, h2⟩ := hf j hj
  refine ⟨?_, ?_, hr.frozen _, hr.frozen _⟩
  · rw [hr.cell (by omega), h1]
  · rw [hr.cell (by omega), h2]
theorem RowHas.of_block {w w' : World} {b M : Nat} {dk : Array (Int × Int)} (h : RowHas w b M dk) (e : w'.heap[b]? = w.heap[b]?) : RowHas w' b M dk := by
  obtain ⟨f, hr, h⟩ := h
  exact ⟨f, hr.of_block e, h⟩
theorem RowHas.lt {w : World} {b M : Nat} {dk : Array (Int × Int)} (h : RowHas w b M dk) : b < w.heap.size := by
  obtain ⟨f, hr, h⟩ := h
  exact hr.lt
theorem RowHas.set {w : World} {b M : Nat} {dk : Array (Int × Int)} (h : RowHas w b M dk) {k : Nat} (hk : k < dk.size) (u : Int × Int) :
    RowHas ((w.setCell ⟨b, k * 2, none⟩ (.int .i64 u.1)).setCell ⟨b, k * 2 + 1, none⟩ (.int .i64 u.2)) b M (dk.setIfInBounds k u) := by
  obtain ⟨f, hr, hM, hf⟩ := h
  refine ⟨_, (hr.set _ _).set _ _, by simpa using hM, fun j hj => ?_⟩
  rw [Array.size_setIfInBounds] at hj
  obtain ⟨h1, h2⟩ := hf j hj
  by_cases e : j = k
  · subst e
    rw [getElem!_set_same dk j u hk]
    exact ⟨by simp, by simp⟩
  · have e2 : (dk.setIfInBounds k u)[j]! = dk[j]! := getElem!_set_other dk k j u e
    rw [e2]
    refine ⟨?_, ?_⟩
    · show (if j * 2 = k * 2 + 1 then _ else if j * 2 = k * 2 then _ else f (j * 2)) = _
      rw [if_neg (by omega), if_neg (by omega), h1]
    · show (if j * 2 + 1 = k * 2 + 1 then _ else if j * 2 + 1 = k * 2 then _ else f (j * 2 + 1)) = _
      rw [if_neg (by omega), if_neg (by omega), h2]
theorem zeroCells_mem (n : Nat) : ∀ v ∈ (Builtin.zeroCells #[.int .i64 0, .int .i64 0] n).toList, v.oneCell' = true := by
  intro v hv
  simp only [Builtin.zeroCells, Array.toList_map, List.mem_map] at hv
  obtain ⟨i, _, rfl⟩ := hv
  have h2 : i % 2 < 2 := Nat.mod_lt _ (by omega)
  show ((#[Value.int .i64 0, Value.int .i64 0] : Array Value)[i % 2]!).oneCell' = true
  generalize i % 2 = j at h2
  match j, h2 with
  | 0, _ => rfl
  | 1, _ => rfl
theorem run_clear_keys (w : World) (ty : TypeId) (b o n c : Nat) (hn : 0 < n) (hc : ∀ j, j < n * 2 → (w.cell? ⟨b, o + j, none⟩).isSome = true) (hf : ∀ j, j < n * 2 → w.frozen? ⟨b, o + j, none⟩ = false) :
    (Builtin.clear_ #[22] ty #[.slice (some ⟨b, o, none⟩) n c]).run Try.prog w = .ok (.tuple #[]) (w.setCells b o (Builtin.zeroCells #[.int .i64 0, .int .i64 0] n).toList) := by
  have hl : (Builtin.zeroCells #[.int .i64 0, .int .i64 0] n).toList.length = n * 2 := by simp [Builtin.zeroCells]
  have hst := run_storeCells_cells (P := Try.prog) b o (Builtin.zeroCells #[.int .i64 0, .int .i64 0] n).toList 0 w (by rw [hl]; simpa using hc) (by rw [hl]; simpa using hf) (zeroCells_mem n)
  simp only [Nat.add_zero] at hst
  obtain ⟨m, rfl⟩ : ∃ m, n = m + 1 := ⟨n - 1, by omega⟩
  have hv := fun w => Try.zeroValue29 w
  simp [Builtin.clear_, run_underlying Try.underlying22, hv, Value.cells, hst]
theorem below_setCells {base b : Nat} (hb : base ≤ b) : ∀ (vs : List Value) (o : Nat) (w : World), Below base w (w.setCells b o vs)
  | [], _, w => Below.refl _ _
  | v :: r, o, w => ((Below.refl _ w).setCell (p := ⟨b, o, none⟩) hb v).trans (below_setCells hb r (o + 1) _)
theorem RowHas.there {w : World} {b M k n : Nat} {dk : Array (Int × Int)} (h : RowHas w b M dk) (hn : dk.size = n) (hk : k ≤ n) : (∀ j, j < (n - k) * 2 → (w.cell? ⟨b, k * 2 + j, none⟩).isSome = true) ∧ (∀ j, j < (n - k) * 2 → w.frozen? ⟨b, k * 2 + j, none⟩ = false) := by
  obtain ⟨f, hr, hM, _⟩ := h
  exact ⟨fun j hj => by rw [hr.cell (by omega)]; rfl, fun j hj => hr.frozen _⟩
theorem RowHas.cut {w : World} {b M k : Nat} {d dk : Array (Int × Int)} {vs : List Value} (h : RowHas w b M dk) (hI : CompInv d d.size k dk) : RowHas (w.setCells b (k * 2) vs) b M (compactUpTo d d.size).toArray := by
  obtain ⟨f, hr, hM, hf⟩ := h
  have hs := hI.size
  have hlt := hI.lt
  refine ⟨_, rowIs_sets b _ M vs (k * 2) w f hr, by simp [hI.len]; omega, fun j hj => ?_⟩
  have hj' : j < k := by simpa [hI.len] using hj
  have e : (compactUpTo d d.size).toArray[j]! = dk[j]! := by
    have := hI.low j hj'
    rw [show (compactUpTo d d.size).toArray[j]! = (compactUpTo d d.size)[j]! by simp, List.getElem!_eq_getElem?_getD, this]
    rfl
  rw [e]
  obtain ⟨h1, h2⟩ := hf j (by omega)
  refine ⟨?_, ?_⟩
  · show (if k * 2 ≤ j * 2 ∧ _ then _ else f (j * 2)) = _
    rw [if_neg (by omega), h1]
  · show (if k * 2 ≤ j * 2 + 1 ∧ _ then _ else f (j * 2 + 1)) = _
    rw [if_neg (by omega), h2]
set_option maxHeartbeats 4000000 in
set_option maxRecDepth 100000 in
theorem compact_calls (b M c base : Nat) (d : Array (Int × Int)) (w : World) (hH : RowHas w b M d) (hM : d.size * 2 ≤ 9223372036854775807) (hc : d.size ≤ c) (hb : base ≤ b) :
    Calls Try.prog 46 #[.slice (some ⟨b, 0, none⟩) d.size c] w fun e w' =>
      e = .returned (.slice (some ⟨b, 0, none⟩) (compactUpTo d d.size).length c) ∧ Below base w w' ∧ RowHas w' b M (compactUpTo d d.size).toArray := by
  have hsz : d.size * 2 ≤ M := by obtain ⟨_, _, h, _⟩ := hH; exact h
  have same : ∀ w', Below base w w' → RowHas w' b M d → (∀ j, j < d.size → keeps d j = true) → (compactUpTo d d.size).length = d.size ∧ RowHas w' b M (compactUpTo d d.size).toArray := by
    intro w' hb hr hall
    have e : compactUpTo d d.size = d.toList := by rw [compactUpTo_all d _ hall, range_map_get]
    rw [e]
    exact ⟨by simp, by simpa using hr⟩
  have HS := Lib.hid same
  clear same
  by_cases h2 : d.size < 2
  · have HH := Lib.hid hH
    clear hH
    go_enter Try.func46, Try.ntmps46
    go_wp2
    go_ret
    obtain ⟨e1, e2⟩ := HS.out w (Below.refl _ _) HH.out (fun j hj => keeps_lt_one d j (by omega))
    exact ⟨by rw [e1]; rfl, Below.refl _ _, e2⟩
  · have HH := Lib.hid hH
    clear hH
    go_enter Try.func46, Try.ntmps46
    go_wp2
    go_loopg [3] d.size (fun g s3 wr => ∃ k : Nat, 1 ≤ k ∧ k ≤ d.size ∧ d.size - k ≤ g ∧ s3 = .int .i64 k ∧ Aside (Below base w wr) ∧ Aside (RowHas wr b M d) ∧ Aside (∀ j, j < k → keeps d j = true))
    case atStart => exact ⟨1, Nat.le_refl _, by omega, by omega, rfl, Below.refl _ _, HH.out, keeps_lt_one d⟩
    case round =>
      clear HH
      obtain ⟨k, hk1, hk, hg, rfl, BW, HH, A⟩ := hrel
      by_cases hlt : k < d.size
      · obtain ⟨c1, c2, _, _⟩ := HH.out.cell hlt
        obtain ⟨c3, c4, _, _⟩ := HH.out.cell (j := k - 1) (by omega)
        obtain ⟨x, hx⟩ : ∃ x, x = d[k]! := ⟨_, rfl⟩
        obtain ⟨y, hy⟩ : ∃ y, y = d[k - 1]! := ⟨_, rfl⟩
        rw [← hx] at c1 c2
        rw [← hy] at c3 c4
        have HX := Lib.hid hx
        have HY := Lib.hid hy
        clear hx hy
        by_cases hdup : x = y
        · subst hdup
          go_wp2_with fail
          go_quiet (fail)
          go_wp2_with fail
          have B1 : Hid (Below base w (wr.drewN nq)) := Lib.hid (pw_below_drewN BW.out nq)
          have H1 : Hid (RowHas (wr.drewN nq) b M d) := Lib.hid (HH.out.of_block (by simp))
          have I1 : Hid (CompInv d (k + 1) k d) := Lib.hid (CompInv.start A.out (keeps_neg (by omega) (by rw [← HX.out, ← HY.out])))
          clear c1 c2 c3 c4 BW HH A
          go_loopg [3, 5] d.size (fun g s3 s5 wq => ∃ (kk k2 : Nat) (dk : Array (Int × Int)), s3 = .int .i64 kk ∧ s5 = .int .i64 k2 ∧ 1 ≤ k2 ∧ k + k2 ≤ d.size ∧ d.size - (k + k2) ≤ g ∧ kk < k + k2 ∧ dk.size = d.size ∧ Aside (Below base w wq) ∧ Aside (RowHas wq b M dk) ∧ Aside (CompInv d (k + k2) kk dk))
          case atStart => exact ⟨k, 1, d, rfl, rfl, Nat.le_refl _, by omega, by omega, by omega, rfl, B1.out, H1.out, I1.out⟩
          case round =>
            clear B1 H1 I1 hg
            obtain ⟨kk, k2, dk, rfl, rfl, h1, hle, hg2, hkk, hds, BW, HH, II⟩ := hrel
            by_cases hlt2 : k + k2 < d.size
            · obtain ⟨m1, m2, _, _⟩ := HH.out.cell (j := k + k2) (by omega)
              obtain ⟨n1, n2, _, _⟩ := HH.out.cell (j := k + k2 - 1) (by omega)
              obtain ⟨p1, p2, f1, f2⟩ := HH.out.cell (j := kk) (by omega)
              rw [II.out.high (k + k2) (by omega), show (k + k2) * 2 = k * 2 + k2 * 2 by omega] at m1 m2
              rw [II.out.high (k + k2 - 1) (by omega), show (k + k2 - 1) * 2 = k * 2 + (k2 - 1) * 2 by omega] at n1 n2
              obtain ⟨u, hu⟩ : ∃ u, u = d[k + k2]! := ⟨_, rfl⟩
              obtain ⟨v, hv⟩ : ∃ v, v = d[k + k2 - 1]! := ⟨_, rfl⟩
              rw [← hu] at m1 m2
              rw [← hv] at n1 n2
              generalize dk[kk]! = old at p1 p2
              have HU := Lib.hid hu
              have HV := Lib.hid hv
              clear hu hv
              by_cases huv : u = v
              · subst huv
                go_wp2_with fail
                go_quiet (fail)
                go_wp2_with fail
                go_roundg (d.size - (k + (k2 + 1)))
                case measure => omega
                case rel => exact ⟨kk, k2 + 1, dk, rfl, by go_num, by omega, by omega, Nat.le_refl _, by omega, hds, pw_below_drewN BW.out nq, HH.out.of_block (by simp), II.out.skip (keeps_neg (by omega) (by rw [← HU.out, ← HV.out]))⟩
              · have HUV := Lib.hid huv
                have hparts : ¬ u.1 = v.1 ∨ (u.1 = v.1 ∧ ¬ u.2 = v.2) := by
                  by_cases e1 : u.1 = v.1
                  · exact .inr ⟨e1, fun e2 => huv (Prod.ext e1 e2)⟩
                  · exact .inl e1
                clear huv
                rcases hparts with e1 | ⟨e1, e2⟩
                all_goals
                  go_wp2_with fail
                  go_quiet (fail)
                  go_wp2_with fail
                  go_roundg (d.size - (k + (k2 + 1)))
                  case measure => omega
                  case rel =>
                    refine ⟨kk + 1, k2 + 1, dk.setIfInBounds kk u, by go_num, by go_num, by omega, by omega, Nat.le_refl _, by omega, by simpa using hds, (show Aside _ from ((pw_below_drewN BW.out nq).setCell hb _).setCell hb _), (show Aside _ from ?_), (show Aside _ from ?_)⟩
                    · have hs := (HH.out.of_block (w' := wr.drewN nq) (by simp)).set (k := kk) (by omega) u
                      first | exact hs | (rw [e1] at hs; exact hs)
                    have := II.out.keep hlt2 (keeps_pos (by rw [← HU.out, ← HV.out]; exact HUV.out))
                    rwa [← HU.out] at this
            · have hend : k + k2 = d.size := by omega
              have hcl := fun ty => run_clear_keys wr ty b (kk * 2) (d.size - kk) (c - kk) (by omega) (HH.out.there hds (by omega)).1 (HH.out.there hds (by omega)).2
              have HZ : Hid (RowHas (wr.setCells b (kk * 2) (Builtin.zeroCells #[.int .i64 0, .int .i64 0] (d.size - kk)).toList) b M (compactUpTo d d.size).toArray) := Lib.hid (by
                have hI := II.out
                rw [hend] at hI
                exact HH.out.cut hI)
              have BZ : Hid (Below base w (wr.setCells b (kk * 2) (Builtin.zeroCells #[.int .i64 0, .int .i64 0] (d.size - kk)).toList)) := Lib.hid (BW.out.trans (below_setCells hb _ _ _))
              have HL : Hid ((compactUpTo d d.size).length = kk) := Lib.hid (by have := II.out; rw [hend] at this; exact this.len)
              clear BW HH II
              go_wp2_with fail
              go_ret
              exact ⟨by rw [HL.out]; rfl, BZ.out, HZ.out⟩
        · have HD := Lib.hid hdup
          have hparts : ¬ x.1 = y.1 ∨ (x.1 = y.1 ∧ ¬ x.2 = y.2) := by
            by_cases e1 : x.1 = y.1
            · exact .inr ⟨e1, fun e2 => hdup (Prod.ext e1 e2)⟩
            · exact .inl e1
          clear hdup
          rcases hparts with e1 | ⟨e1, e2⟩
          all_goals
            go_wp2_with fail
            go_quiet (fail)
            go_wp2_with fail
            go_roundg (d.size - (k + 1))
            case measure => omega
            case rel =>
              refine ⟨k + 1, by omega, by omega, Nat.le_refl _, by go_num, (show Aside _ from pw_below_drewN BW.out nq), (show Aside _ from HH.out.of_block (by simp)), (show Aside _ from fun j hj => ?_)⟩
              by_cases e : j = k
              · subst e
                exact keeps_pos (by rw [← HX.out, ← HY.out]; exact HD.out)
              · exact A.out j (by omega)
      · have : k = d.size := by omega
        subst this
        go_wp2_with fail
        go_ret
        obtain ⟨e1, e2⟩ := HS.out wr BW.out HH.out A.out
        exact ⟨by rw [e1]; rfl, BW.out, e2⟩
end Go.Proofs.Ytbmfldoobkeieaa.KForm
