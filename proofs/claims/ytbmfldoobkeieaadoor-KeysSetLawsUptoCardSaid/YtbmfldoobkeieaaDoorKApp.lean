/- append of a list of keys onto a list that the caller holds alone: as a run, and as a step of a region that draws its order. -/
import Derived.Test.YtbmfldoobkeieaaDoorKList2
import Derived.Test.YtbmfldoobkeieaaDoorKList
import Derived.RegionTactic
namespace Go.Proofs.YtbmfldoobkeieaaDoor.KForm
open Go.RowKit Go.Lib Go.Sort Go.Proofs.YtbmfldoobkeieaaDoor.Own Go.Proofs.YtbmfldoobkeieaaDoorW.PrintWords
set_option linter.unusedVariables false
set_option linter.unusedSimpArgs false

theorem RowHas.keep {w w' : World} {b M : Nat} {d : Array (Int × Int)} (h : RowHas w b M d) {row : Option Nat} (hg : w.grownBy w' row) (hr : some b ≠ row) : RowHas w' b M d :=
  h.of_block (hg.block b h.lt hr)
theorem OwnKeys.keep {w w' : World} {base : Nat} {v : Value} {r : List (Int × Int)} (h : OwnKeys w base v r) {row : Option Nat} (hg : w.grownBy w' row) (hr : v.ownBlock = none ∨ v.ownBlock ≠ row) : OwnKeys w' base v r := by
  rcases h with h | ⟨g, c, M, rfl, h1, h2, h3, h4⟩
  · exact .inl h
  · refine .inr ⟨g, c, M, rfl, h1, h2, h3, h4.keep hg ?_⟩
    rcases hr with hr | hr
    · simp [Value.ownBlock] at hr
    · exact hr
theorem OwnKeys.block {w : World} {base : Nat} {v : Value} {r : List (Int × Int)} (h : OwnKeys w base v r) : ∀ k, v.ownBlock = some k → base ≤ k ∧ k < w.heap.size := by
  intro k hk
  rcases h with ⟨rfl, _⟩ | ⟨g, c, M, rfl, h1, h2, h3, h4⟩
  · simp [Value.ownBlock] at hk
  · have : g = k := by simpa [Value.ownBlock] using hk
    subst this
    exact ⟨h1, h4.lt⟩
theorem OwnKeys.alloc {w : World} {base : Nat} {v : Value} {r : List (Int × Int)} (h : OwnKeys w base v r) (o : Obj) : OwnKeys (w.alloc o) base v r := by
  refine h.keep (World.grownBy_alloc w o none) ?_
  cases v.ownBlock
  · exact .inl rfl
  · exact .inr (by simp)
theorem OwnKeys.drewN {w : World} {base : Nat} {v : Value} {r : List (Int × Int)} (h : OwnKeys w base v r) (n : Nat) : OwnKeys (w.drewN n) base v r := by
  rcases h with h | ⟨g, c, M, rfl, h1, h2, h3, h4⟩
  · exact .inl h
  · exact .inr ⟨g, c, M, rfl, h1, h2, h3, h4.of_block (by simp)⟩
theorem OwnKeys.lower {w : World} {base base' : Nat} {v : Value} {r : List (Int × Int)} (h : OwnKeys w base v r) (hb : base' ≤ base) : OwnKeys w base' v r := by
  rcases h with h | ⟨g, c, M, rfl, h1, h2, h3, h4⟩
  · exact .inl h
  · exact .inr ⟨g, c, M, rfl, Nat.le_trans hb h1, h2, h3, h4⟩
theorem OwnKeys.below {w w' : World} {base : Nat} {v : Value} {r : List (Int × Int)} (h : OwnKeys w base v r) (hb : RowKit.Below w.heap.size w w') : OwnKeys w' base v r := by
  rcases h with h | ⟨g, c, M, rfl, h1, h2, h3, h4⟩
  · exact .inl h
  · exact .inr ⟨g, c, M, rfl, h1, h2, h3, h4.of_block (hb.block g h4.lt)⟩
theorem flat_news (l : List (Int × Int)) (j : Nat) (hj : j < l.length) (i : Nat) (hi : i < 2) : flatV l (j * 2 + i) = if i = 0 then .int .i64 l.toArray[j]!.1 else .int .i64 l.toArray[j]!.2 := by
  unfold flatV
  have h1 : (j * 2 + i) % 2 = i := by omega
  have h2 : (j * 2 + i) / 2 = j := by omega
  rw [h1, h2]
  simp
set_option maxHeartbeats 2000000 in
theorem app_run {w : World} {base : Nat} {v : Value} {r l : List (Int × Int)} {A : Option Addr} {c2 : Nat} (h : OwnKeys w base v r) (hb : base ≤ w.heap.size) (hl : KR w A l) (hlen : r.length + l.length ≤ 8796093022208) :
    ∃ v' w', (Builtin.append_ #[22, 22] 22 #[v, .slice A l.length c2]).run Tryd.prog w = .ok v' w' ∧ OwnKeys w' base v' (r ++ l) ∧ w.grownBy w' v.ownBlock := by
  obtain ⟨i0, ih, iz0, iz1, iz2⟩ := info_parts infoKey
  have hout : ∀ {v' : Value} {w' : World} {olds : List Value}, (∀ j u, olds[j]? = some u → u = flatV r j) → olds.length = r.length * 2 → w'.ownsRow w.heap.size 35 2 v' (r.length + l.length) (olds ++ newsV l) → OwnKeys w' base v' (r ++ l) := by
    intro v' w' olds ho1 ho2 hown
    refine own_of_has ?_
    rw [List.length_append]
    refine ((Has.of_owns hown).imp (fun j hj u hu => ?_)).lower hb
    rw [flatV_append]
    by_cases e : j < r.length * 2
    · rw [if_pos e]
      rw [List.getElem?_append_left (by omega)] at hu
      exact ho1 j u hu
    · rw [if_neg e]
      rw [List.getElem?_append_right (by omega), ho2] at hu
      exact (newsV_get l _ _ hu).2
  have hnl : (newsV l).length = l.length * 2 := by simp [newsV]
  rcases h with ⟨rfl, rfl⟩ | ⟨g, c, M, rfl, hgb, hc, hM, hrow⟩
  · rcases Nat.eq_zero_or_pos l.length with h0 | h0
    · have hnil := List.eq_nil_of_length_eq_zero h0
      subst hnil
      exact ⟨_, _, run_append_nil0 (P := Tryd.prog) w _ _ 35 i0 Tryd.underlying22 ih A c2, .inl ⟨rfl, rfl⟩, World.grownBy.refl w _⟩
    · obtain ⟨ad, rfl, hk⟩ := hl h0
      obtain ⟨v', w', hrun, r1, r2, _⟩ := run_append_own (P := Tryd.prog) w w.heap.size 22 22 35 i0 (.agg #[.int .i64 0, .int .i64 0]) 2 16 Tryd.underlying22 ih iz0 iz1 iz2 rfl (by decide) (.slice none 0 0) 0 [] (World.ownsRow_nil w _ 35 2) ad l.length c2 (newsV l) hnl hk.news (newsV_one l) (by unfold maxLen; omega) (by simp at hlen; omega) (Nat.le_refl _)
      refine ⟨v', w', hrun, ?_, ?_⟩
      · have := hout (v' := v') (w' := w') (olds := []) (fun j u hu => by simp at hu) rfl (by simpa using r1)
        simpa using this
      · simpa [Value.ownBlock] using r2
  · rcases Nat.eq_zero_or_pos l.length with h0 | h0
    · have hnil := List.eq_nil_of_length_eq_zero h0
      subst hnil
      refine ⟨_, _, run_append_zero (P := Tryd.prog) w _ _ 35 i0 Tryd.underlying22 ih ⟨g, 0, none⟩ r.length c hc A c2, ?_, World.grownBy.refl w _⟩
      rw [List.append_nil]
      exact .inr ⟨g, c, M, rfl, hgb, hc, hM, hrow⟩
    · obtain ⟨ad, rfl, hk⟩ := hl h0
      have hcells : ∀ j, j < r.length * 2 → w.cell? ⟨g, j, none⟩ = some (flatV r j) := by
        intro j hj
        rcases Nat.mod_two_eq_zero_or_one j with hp | hp
        · obtain ⟨q, rfl⟩ : ∃ q, j = q * 2 := ⟨j / 2, by omega⟩
          obtain ⟨h1, h2, _, _⟩ := hrow.cell (j := q) (by simp; omega)
          have e := flat_news r q (by omega) 0 (by omega)
          rw [if_pos rfl, Nat.add_zero] at e
          rw [e]
          exact h1
        · obtain ⟨q, rfl⟩ : ∃ q, j = q * 2 + 1 := ⟨j / 2, by omega⟩
          obtain ⟨h1, h2, _, _⟩ := hrow.cell (j := q) (by simp; omega)
          have e := flat_news r q (by omega) 1 (by omega)
          rw [if_neg (show ¬ (1 : Nat) = 0 by omega)] at e
          rw [e]
          exact h2
      by_cases hr : r.length + l.length ≤ c
      · obtain ⟨f, hrow, hsz, hf⟩ := hrow
        have hrun := run_append_room_cells (P := Tryd.prog) w 22 22 35 i0 Tryd.underlying22 ih g 0 r.length c ad l.length c2 (newsV l) (by rw [iz1]; exact hnl) hk.news (newsV_one l) hr (fun j hj => by rw [iz1, hrow.cell (by omega)]; rfl) (fun j hj => hrow.frozen _)
        refine ⟨_, _, hrun, .inr ⟨g, c, M, by rw [List.length_append], hgb, by rw [List.length_append]; exact hr, hM, _, rowIs_sets g 35 M (newsV l) _ w f hrow, by simp; omega, fun j hj => ?_⟩, grownBy_setCells g _ _ w⟩
        rw [iz1, hnl]
        have hj' : j < (r ++ l).length := by simpa using hj
        have hcell : ∀ i, i < 2 → (if 0 + r.length * 2 ≤ j * 2 + i ∧ j * 2 + i < 0 + r.length * 2 + l.length * 2 then (newsV l)[j * 2 + i - (0 + r.length * 2)]! else f (j * 2 + i)) = flatV (r ++ l) (j * 2 + i) := by
          intro i hi
          rw [List.length_append] at hj'
          rw [flatV_append]
          by_cases e : j < r.length
          · rw [if_neg (by omega), if_pos (by omega), flat_news r j e i hi]
            obtain ⟨f1, f2⟩ := hf j (by simpa using e)
            match i, hi with
            | 0, _ => exact f1
            | 1, _ => exact f2
          · rw [if_pos (by omega), if_neg (by omega), List.getElem!_eq_getElem?_getD, newsV_of l _ (by omega), Nat.zero_add]
            rfl
        have c0 := hcell 0 (by omega)
        have c1 := hcell 1 (by omega)
        rw [flat_news _ j hj' 0 (by omega), if_pos rfl, Nat.add_zero] at c0
        rw [flat_news _ j hj' 1 (by omega), if_neg (show ¬ (1 : Nat) = 0 by omega)] at c1
        exact ⟨c0, c1⟩
      · obtain ⟨v', w', hrun, r1, r2⟩ := run_append_arg_grows (P := Tryd.prog) w 22 22 35 i0 (.agg #[.int .i64 0, .int .i64 0]) 2 16 Tryd.underlying22 ih iz0 iz1 iz2 rfl (by decide) ⟨g, 0, none⟩ r.length c (newsV r) (by simp [newsV]) (fun j u hj => by
          obtain ⟨hj1, rfl⟩ := newsV_get r j u hj
          rw [Addr.add_lit, Nat.zero_add]
          exact hcells j hj1) ad l.length c2 (newsV l) hnl hk.news (by omega) (by unfold maxLen; omega) (by omega)
        exact ⟨v', w', hrun, hout (fun j u hu => (newsV_get r j u hu).2) (by simp [newsV]) r1, ⟨r2.os, r2.tape, r2.output, r2.size, fun k hk _ => r2.block k hk (by simp)⟩⟩
theorem wp_app {o : Oper} {a : Act} {w : World} {K : Act → World → Prop} {Q : Exit → Act → World → Prop} (s x : Operand)
    (ho : o.op = .call { callee := .builtin .append, args := #[s, x], argTypes := #[22, 22] }) (hty : o.type = 22) {base : Nat} {v : Value} {r l : List (Int × Int)} {A : Option Addr} {n2 c2 : Nat}
    (hs : a.eval s = v) (hx : a.eval x = .slice A n2 c2) (hn : n2 = l.length) (h : OwnKeys w base v r) (hb : base ≤ w.heap.size) (hl : KR w A l) (hlen : r.length + l.length ≤ 8796093022208)
    (hK : ∀ v' w', OwnKeys w' base v' (r ++ l) → w.grownBy w' v.ownBlock → K (a.put o.dst v') w') : o.wp Tryd.prog a w K Q := by
  subst hn
  obtain ⟨v', w', hrun, h1, h2⟩ := app_run (c2 := c2) h hb hl hlen
  unfold Oper.wp execOp
  simp only [ho, hty, resolve, invoke, builtin, Sem.run_bind, Sem.run_pure, Result.andThen_ok, List.map_toArray, List.map_cons, List.map_nil, hs, hx, hrun]
  exact hK v' w' h1 h2
/-- at a step of a region that draws its order -/
theorem step_app {ops : Array Oper} {o : Oper} {a : Act} {w : World} {K : Act → World → Prop} {Q : Exit → Act → World → Prop} {E : Prop} (hgd : o.guard = none) (s x : Operand)
    (ho : o.op = .call { callee := .builtin .append, args := #[s, x], argTypes := #[22, 22] }) (hty : o.type = 22) {base : Nat} {v : Value} {r l : List (Int × Int)} {A : Option Addr} {n2 c2 : Nat}
    (hs : a.eval s = v) (hx : a.eval x = .slice A n2 c2) (hn : n2 = l.length) (h : OwnKeys w base v r) (hb : base ≤ w.heap.size) (hl : KR w A l) (hlen : r.length + l.length ≤ 8796093022208)
    (hK : ∀ v' w', OwnKeys w' base v' (r ++ l) → w.grownBy w' v.ownBlock → K (a.put o.dst v') w') : if Region.wanted o (yielded ops a.tmps) = true then Oper.wp Tryd.prog o a w K Q else E := by
  have hw : Region.wanted o (yielded ops a.tmps) = true := by simp [Region.wanted, hgd]
  rw [if_pos hw]
  exact wp_app s x ho hty hs hx hn h hb hl hlen hK
theorem wpList_app {ops : Array Oper} {rest : List Oper} {o : Oper} {a : Act} {w : World} {Q : Exit → Act → World → Prop} (hgd : o.guard = none) (s x : Operand)
    (ho : o.op = .call { callee := .builtin .append, args := #[s, x], argTypes := #[22, 22] }) (hty : o.type = 22) {base : Nat} {v : Value} {r l : List (Int × Int)} {A : Option Addr} {n2 c2 : Nat}
    (hs : a.eval s = v) (hx : a.eval x = .slice A n2 c2) (hn : n2 = l.length) (h : OwnKeys w base v r) (hb : base ≤ w.heap.size) (hl : KR w A l) (hlen : r.length + l.length ≤ 8796093022208)
    (hK : ∀ v' w', OwnKeys w' base v' (r ++ l) → w.grownBy w' v.ownBlock → wpList Tryd.prog ops Q rest (a.put o.dst v') w') : wpList Tryd.prog ops Q (o :: rest) a w :=
  wpList_plain hgd fun _ hk => wp_app s x ho hty hs hx hn h hb hl hlen fun v' w' h1 h2 => hk _ _ (hK v' w' h1 h2)
end Go.Proofs.YtbmfldoobkeieaaDoor.KForm
