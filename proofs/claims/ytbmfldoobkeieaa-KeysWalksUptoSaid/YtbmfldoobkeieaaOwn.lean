/- Slices that a caller holds alone: what append and stores do to them, and to the others. Plain machine words, no function of the program. -/
import Derived.Test.YtbmfldoobkeieaaProg
import Derived.WalkKit
import Derived.Below
import Derived.ArgAppend
import Derived.Deep.OwnRows
import Derived.Laws.AppendOwn
import Derived.Laws.OwnMore
import Derived.Maps.AppendAt
namespace Go.Proofs.Ytbmfldoobkeieaa.Own
open Go.RowKit
set_option linter.unusedVariables false
set_option linter.unusedSimpArgs false

/-- v is nil, or a slice of n elements at the head of a row of its own, from block base on; each cell of an element is good -/
def Has (w : World) (base : Nat) (e : TypeId) (size : Nat) (v : Value) (n : Nat) (good : Nat → Value → Prop) : Prop :=
  (v = .slice none 0 0 ∧ n = 0) ∨ ∃ b c f, v = .slice (some ⟨b, 0, none⟩) n c ∧ base ≤ b ∧ w.rowIs b e (c * size) f ∧ n ≤ c ∧ c ≤ maxLen ∧ ∀ j, j < n * size → good j (f j)

theorem Has.imp {w : World} {base : Nat} {e : TypeId} {size : Nat} {v : Value} {n : Nat} {good good' : Nat → Value → Prop} (h : Has w base e size v n good) (hg : ∀ j, j < n * size → ∀ x, good j x → good' j x) : Has w base e size v n good' := by
  rcases h with h | ⟨b, c, f, h1, h2, h3, h4, h5, h6⟩
  · exact .inl h
  · exact .inr ⟨b, c, f, h1, h2, h3, h4, h5, fun j hj => hg j hj _ (h6 j hj)⟩
theorem Has.lower {w : World} {base base' : Nat} {e : TypeId} {size : Nat} {v : Value} {n : Nat} {good : Nat → Value → Prop} (h : Has w base e size v n good) (hb : base' ≤ base) : Has w base' e size v n good := by
  rcases h with h | ⟨b, c, f, h1, h2, h3, h4, h5, h6⟩
  · exact .inl h
  · exact .inr ⟨b, c, f, h1, Nat.le_trans hb h2, h3, h4, h5, h6⟩
theorem Has.block {w : World} {base : Nat} {e : TypeId} {size : Nat} {v : Value} {n : Nat} {good : Nat → Value → Prop} (h : Has w base e size v n good) : ∀ k, v.ownBlock = some k → base ≤ k ∧ k < w.heap.size := by
  intro k hk
  rcases h with ⟨rfl, _⟩ | ⟨b, c, f, rfl, h2, h3, _⟩
  · simp [Value.ownBlock] at hk
  · have : b = k := by simpa [Value.ownBlock] using hk
    subst this
    exact ⟨h2, h3.lt⟩
theorem Has.keep {w w' : World} {base : Nat} {e : TypeId} {size : Nat} {v : Value} {n : Nat} {good : Nat → Value → Prop} (h : Has w base e size v n good) {row : Option Nat} (hg : w.grownBy w' row) (hr : v.ownBlock = none ∨ v.ownBlock ≠ row) : Has w' base e size v n good := by
  rcases h with h | ⟨b, c, f, rfl, h2, h3, h4⟩
  · exact .inl h
  · refine .inr ⟨b, c, f, rfl, h2, h3.of_block (hg.block b h3.lt ?_), h4⟩
    rcases hr with hr | hr
    · simp [Value.ownBlock] at hr
    · exact hr
theorem Has.alloc {w : World} {base : Nat} {e : TypeId} {size : Nat} {v : Value} {n : Nat} {good : Nat → Value → Prop} (h : Has w base e size v n good) (o : Obj) : Has (w.alloc o) base e size v n good := by
  refine h.keep (World.grownBy_alloc w o none) ?_
  cases h : v.ownBlock
  · exact .inl rfl
  · exact .inr (by simp)
theorem Has.of_owns {w : World} {base : Nat} {e : TypeId} {size : Nat} {v : Value} {n : Nat} {xs : List Value} (h : w.ownsRow base e size v n xs) : Has w base e size v n (fun j x => xs[j]? = some x) := by
  obtain ⟨hl, h⟩ := h
  rcases h with h | ⟨g, cap, cur, rfl, hb, hg, hn, hm, hs, ht⟩
  · exact .inl h
  · have hle : n * size ≤ cap * size := Nat.mul_le_mul_right _ hn
    refine .inr ⟨g, cap, fun j => cur.getD j default, rfl, hb, ⟨cur, hg, hs, fun j hj => ?_⟩, hn, hm, fun j hj => ?_⟩
    · show cur[j]? = some (cur.getD j default)
      rw [Array.getD_eq_getD_getElem?, Array.getElem?_eq_getElem (by omega)]
      rfl
    · show xs[j]? = some (cur.getD j default)
      rw [← ht, List.getElem?_take_of_lt hj, Array.getElem?_toList, Array.getD_eq_getD_getElem?, Array.getElem?_eq_getElem (by omega)]
      rfl
/-- a slice that lies in the same row as another one -/
theorem Has.share {w w' : World} {base base' : Nat} {e : TypeId} {size : Nat} {v g : Value} {n n' : Nat} {good good' good2 good2' : Nat → Value → Prop} (hv : Has w base e size v n good) (hg : Has w base' e size g n' good2) (hg' : Has w' base' e size g n' good2')
    (hb : v.ownBlock = g.ownBlock) (hsz : 0 < size) (hn : n ≤ n') (himp : ∀ j, j < n * size → ∀ x, good2' j x → good' j x) : Has w' base e size v n good' := by
  rcases hv with h | ⟨b, c, f, rfl, h2, h3, h4, h5, h6⟩
  · exact .inl h
  · rcases hg with ⟨rfl, _⟩ | ⟨b1, c1, f1, rfl, k2, k3, k4, k5, k6⟩
    · simp [Value.ownBlock] at hb
    · have hbb : b = b1 := by simpa [Value.ownBlock] using hb
      subst hbb
      obtain ⟨cs, a1, a2, _⟩ := h3
      obtain ⟨cs', d1, d2, _⟩ := k3
      have hcs : cs = cs' := by have := a1.symm.trans d1; simpa using this
      subst hcs
      have hcc : c = c1 := Nat.eq_of_mul_eq_mul_right hsz (a2.symm.trans d2)
      subst hcc
      rcases hg' with ⟨h0, _⟩ | ⟨b2, c2, f2, hv2, m2, m3, m4, m5, m6⟩
      · cases h0
      · injection hv2 with e1 e2 e3
        injection e1 with e1
        injection e1 with e1 _ _
        subst e1; subst e3
        have hle : n * size ≤ n' * size := Nat.mul_le_mul_right _ hn
        exact .inr ⟨_, _, f2, rfl, h2, m3, h4, h5, fun j hj => himp j hj _ (m6 j (by omega))⟩
theorem grownBy_setCells (b : Nat) : ∀ (vs : List Value) (o : Nat) (w : World), w.grownBy (w.setCells b o vs) (some b)
  | [], _, w => World.grownBy.refl w _
  | v :: r, o, w => (grownBy_setCell' w b v o).trans (grownBy_setCells b r (o + 1) _)
where
  grownBy_setCell' (w : World) (b : Nat) (v : Value) (o : Nat) : w.grownBy (w.setCell ⟨b, o, none⟩ v) (some b) :=
    ⟨rfl, rfl, rfl, by simp, fun k hk hne => Below.heap_setCell _ _ _ _ (fun h => hne (by rw [h]))⟩
theorem rowIs_sets (b : Nat) (e : TypeId) (m : Nat) : ∀ (vs : List Value) (o : Nat) (w : World) (f : Nat → Value), w.rowIs b e m f → (w.setCells b o vs).rowIs b e m (fun j => if o ≤ j ∧ j < o + vs.length then vs[j - o]! else f j)
  | [], o, w, f, h => h.congr (fun i _ => by rw [if_neg (by simp only [List.length_nil]; omega)])
  | v :: r, o, w, f, h => (rowIs_sets b e m r (o + 1) _ _ (h.set o v)).congr (fun i _ => by
      by_cases c0 : i = o
      · subst c0
        rw [if_neg (by omega), if_pos rfl, if_pos (by simp)]
        simp
      · by_cases c1 : o + 1 ≤ i ∧ i < o + 1 + r.length
        · rw [if_pos c1, if_pos (by simp; omega)]
          obtain ⟨k, hk⟩ : ∃ k, i = o + 1 + k := ⟨i - (o + 1), by omega⟩
          subst hk
          rw [show o + 1 + k - (o + 1) = k by omega, show o + 1 + k - o = k + 1 by omega]
          simp
        · rw [if_neg c1, if_neg c0, if_neg (by simp; omega)])
/-- append onto a slice held alone: the walk goes on in one way -/
theorem wpList_append_has {P : Program} (w : World) {ops : Array Oper} {rest : List Oper} {o : Oper} {a : Act} {Q : Exit → Act → World → Prop} (hgd : o.guard = none) (s x : Operand) (t : TypeId)
    (ho : o.op = .call { callee := .builtin .append, args := #[s, x], argTypes := #[t, t] })
    (base : Nat) (e : TypeId) (i : TypeInfo) (z : Value) (size bytes : Nat) (ht : P.underlying t = some (.slice e)) (hi : P.info? e = some i) (hz : i.zero = some z)
    (hsize : i.size = size) (hby : i.bytes = bytes) (hzs : z.cells.size = size) (hsz : 0 < size)
    (v : Value) (n : Nat) (good : Nat → Value → Prop) (hs : a.eval s = v) (hv : Has w base e size v n good)
    (ad : Addr) (m c : Nat) (news : List Value) (hx : a.eval x = .slice (some ad) m c) (hl : news.length = m * size) (hnews : ∀ j u, news[j]? = some u → w.cell? (ad.add j) = some u) (h1 : ∀ u ∈ news, u.oneCell' = true)
    (hm : 0 < m) (h63 : n + m ≤ maxLen) (hbytes : (n + m) * bytes ≤ 140737488355328) (hbase : base ≤ w.heap.size)
    (h : ∀ b' c' w', Has w' base e size (.slice (some ⟨b', 0, none⟩) (n + m) c') (n + m) (fun j x => (j < n * size → good j x) ∧ (n * size ≤ j → news[j - n * size]? = some x)) →
      v.ownBlock = some b' ∨ w.heap.size ≤ b' → Has w' base e size v n good → w.grownBy w' v.ownBlock → wpList P ops Q rest (a.put o.dst (.slice (some ⟨b', 0, none⟩) (n + m) c')) w') :
    wpList P ops Q (o :: rest) a w := by
  have fresh : ∀ (olds : List Value) (v' : Value) (w' : World), olds.length = n * size → (∀ j u, olds[j]? = some u → good j u) → w'.ownsRow w.heap.size e size v' (n + m) (olds ++ news) → w.grownBy w' none → wpList P ops Q rest (a.put o.dst v') w' := by
    intro olds v' w' ho1 ho2 hown hg
    have hh := Has.of_owns hown
    rcases hown.2 with ⟨_, h0⟩ | ⟨g, cap, cur, rfl, hb, _⟩
    · omega
    have hh2 : Has w' base e size (.slice (some ⟨g, 0, none⟩) (n + m) cap) (n + m) (fun j x => (j < n * size → good j x) ∧ (n * size ≤ j → news[j - n * size]? = some x)) := by
      refine (hh.imp (fun j hj u hu => ?_)).lower hbase
      refine ⟨fun h1 => ?_, fun h1 => ?_⟩
      · rw [List.getElem?_append_left (by omega)] at hu
        exact ho2 j u hu
      · rw [List.getElem?_append_right (by omega), ho1] at hu
        exact hu
    refine h g cap w' hh2 (.inr hb) (hv.keep hg ?_) ?_
    · rcases hv with ⟨rfl, _⟩ | ⟨b, c, f, rfl, _⟩
      · exact .inl rfl
      · exact .inr (by simp [Value.ownBlock])
    · exact ⟨hg.os, hg.tape, hg.output, hg.size, fun k hk _ => hg.block k hk (by simp)⟩
  have hvv := hv
  rcases hv with ⟨rfl, rfl⟩ | ⟨b, cap, f, rfl, hb, hrow, hn, hcm, hgood⟩
  · refine wpList_append_grows w hgd s x t ho e i z size bytes ht hi hz hsize hby hzs hsz none 0 0 [] hs (fun _ => ⟨rfl, rfl⟩) (by simp) (fun b hb => by cases hb) ad m c news hx hl hnews h1 (by omega) h63 hbytes ?_
    intro v' w' hown hg
    exact fresh [] v' w' (by simp) (fun j u hu => by simp at hu) hown hg
  · have hnc : n * size ≤ cap * size := Nat.mul_le_mul_right _ hn
    have holds : ∀ j u, ((List.range (n * size)).map f)[j]? = some u → j < n * size ∧ u = f j := by
      intro j u hu
      rw [List.getElem?_map] at hu
      rcases Nat.lt_or_ge j (n * size) with hj | hj
      · rw [List.getElem?_range hj] at hu
        exact ⟨hj, by simpa using hu.symm⟩
      · rw [List.getElem?_eq_none (by simpa using hj)] at hu
        cases hu
    refine wpList_append_arg w hgd s x t ho e i z size bytes ht hi hz hsize hby hzs hsz b 0 n cap ((List.range (n * size)).map f) hs (by simp) (fun j u hu => ?_) ad m c news hx hl hnews h1 (fun hr j hj => ?_) h63 hbytes (fun hr => ?_) (fun hr v' w' hown hg => ?_)
    · obtain ⟨hj, rfl⟩ := holds j u hu
      rw [Nat.zero_add]
      exact hrow.cell (by omega)
    · have : n * size + m * size ≤ cap * size := by rw [← Nat.add_mul]; exact Nat.mul_le_mul_right _ hr
      refine ⟨?_, hrow.frozen _⟩
      rw [hrow.cell (by omega)]
      rfl
    · have hx2 : n * size + m * size ≤ cap * size := by rw [← Nat.add_mul]; exact Nat.mul_le_mul_right _ hr
      have hrow2 := rowIs_sets b e (cap * size) news (0 + n * size) w f hrow
      refine h b cap _ (.inr ⟨b, cap, _, rfl, hb, hrow2, hr, hcm, fun j hj => ⟨fun h1 => ?_, fun h1 => ?_⟩⟩) (.inl rfl) (.inr ⟨b, cap, _, rfl, hb, hrow2, hn, hcm, fun j hj => ?_⟩) (grownBy_setCells b news _ w)
      · show good j (if 0 + n * size ≤ j ∧ j < 0 + n * size + news.length then _ else f j)
        rw [if_neg (by omega)]
        exact hgood j h1
      · rw [Nat.add_mul] at hj
        show news[j - n * size]? = some (if 0 + n * size ≤ j ∧ j < 0 + n * size + news.length then _ else f j)
        rw [if_pos (by omega), Nat.zero_add, List.getElem!_eq_getElem?_getD, List.getElem?_eq_getElem (by omega)]
        rfl
      · show good j (if 0 + n * size ≤ j ∧ j < 0 + n * size + news.length then _ else f j)
        rw [if_neg (by omega)]
        exact hgood j hj
    · exact fresh _ v' w' (by simp) (fun j u hu => by obtain ⟨hj, rfl⟩ := holds j u hu; exact hgood j hj) hown hg
/-- nothing is appended to a slice that is not nil -/
theorem run_append_zero {P : Program} (w : World) (t ty e : TypeId) (i : TypeInfo) (ht : P.underlying t = some (.slice e)) (hi : P.info? e = some i) (b : Addr) (n cap : Nat) (hn : n ≤ cap) (A : Option Addr) (c : Nat) :
    (Builtin.append_ #[t, t] ty #[.slice (some b) n cap, .slice A 0 c]).run P w = .ok (.slice (some b) n cap) w := by
  cases A with
  | none => simp [Builtin.append_, run_underlying ht, sizeOf, typeInfo, hi, Builtin.lenOf, hn, storeCells, Builtin.firstCells]
  | some ad =>
    have hfc := run_firstCells_some (P := P) w i.size 0 ad 0 c [] (by simp) (by simp)
    simp [Builtin.append_, run_underlying ht, sizeOf, typeInfo, hi, Builtin.lenOf, hn, hfc, storeCells]
/-- append onto a slice held alone that is not nil, of any slice -/
theorem wpList_append_any {P : Program} (w : World) {ops : Array Oper} {rest : List Oper} {o : Oper} {a : Act} {Q : Exit → Act → World → Prop} (hgd : o.guard = none) (s x : Operand) (t : TypeId)
    (ho : o.op = .call { callee := .builtin .append, args := #[s, x], argTypes := #[t, t] })
    (base : Nat) (e : TypeId) (i : TypeInfo) (z : Value) (size bytes : Nat) (ht : P.underlying t = some (.slice e)) (hi : P.info? e = some i) (hz : i.zero = some z)
    (hsize : i.size = size) (hby : i.bytes = bytes) (hzs : z.cells.size = size) (hsz : 0 < size)
    (b0 n c0 : Nat) (good : Nat → Value → Prop) (hs : a.eval s = .slice (some ⟨b0, 0, none⟩) n c0) (hv : Has w base e size (.slice (some ⟨b0, 0, none⟩) n c0) n good)
    (A : Option Addr) (m c : Nat) (news : List Value) (hx : a.eval x = .slice A m c) (hl : news.length = m * size) (hnews : 0 < m → ∃ ad, A = some ad ∧ ∀ j u, news[j]? = some u → w.cell? (ad.add j) = some u) (h1 : ∀ u ∈ news, u.oneCell' = true)
    (h63 : n + m ≤ maxLen) (hbytes : (n + m) * bytes ≤ 140737488355328) (hbase : base ≤ w.heap.size)
    (h : ∀ b' c' w', Has w' base e size (.slice (some ⟨b', 0, none⟩) (n + m) c') (n + m) (fun j x => (j < n * size → good j x) ∧ (n * size ≤ j → news[j - n * size]? = some x)) →
      some b0 = some b' ∨ w.heap.size ≤ b' → Has w' base e size (.slice (some ⟨b0, 0, none⟩) n c0) n good → w.grownBy w' (some b0) → wpList P ops Q rest (a.put o.dst (.slice (some ⟨b', 0, none⟩) (n + m) c')) w') :
    wpList P ops Q (o :: rest) a w := by
  rcases Nat.eq_zero_or_pos m with h0 | h0
  · subst h0
    have hn : n ≤ c0 := by
      rcases hv with ⟨h, _⟩ | ⟨b, cc, f, hvv, _, _, hn, _⟩
      · cases h
      · injection hvv with _ _ e3
        omega
    refine wpList_plain hgd fun K hK' => ?_
    have hrun := run_append_zero (P := P) w t o.type e i ht hi ⟨b0, 0, none⟩ n c0 hn A c
    unfold Oper.wp
    simp [execOp, ho, resolve, invoke, builtin, hs, hx, hrun, Result.andThen]
    exact hK' _ _ (h b0 c0 w (hv.imp (fun j hj x hx => ⟨fun _ => hx, fun h => by omega⟩)) (.inl rfl) hv (World.grownBy.refl w _))
  · obtain ⟨ad, rfl, hcells⟩ := hnews h0
    exact wpList_append_has w hgd s x t ho base e i z size bytes ht hi hz hsize hby hzs hsz _ n good hs hv ad m c news hx hl hcells h1 h0 h63 hbytes hbase h
/-- nothing is appended to nil -/
theorem run_append_nil0 {P : Program} (w : World) (t ty e : TypeId) (i : TypeInfo) (ht : P.underlying t = some (.slice e)) (hi : P.info? e = some i) (A : Option Addr) (c : Nat) :
    (Builtin.append_ #[t, t] ty #[.slice none 0 0, .slice A 0 c]).run P w = .ok (.slice none 0 0) w := by
  cases A with
  | none => simp [Builtin.append_, run_underlying ht, sizeOf, typeInfo, hi, Builtin.lenOf, storeCells, Builtin.firstCells]
  | some ad =>
    have hfc := run_firstCells_some (P := P) w i.size 0 ad 0 c [] (by simp) (by simp)
    simp [Builtin.append_, run_underlying ht, sizeOf, typeInfo, hi, Builtin.lenOf, hfc, storeCells]
theorem wpList_append_nil0 {P : Program} (w : World) {ops : Array Oper} {rest : List Oper} {o : Oper} {a : Act} {Q : Exit → Act → World → Prop} (hgd : o.guard = none) (s x : Operand) (t : TypeId)
    (ho : o.op = .call { callee := .builtin .append, args := #[s, x], argTypes := #[t, t] }) (e : TypeId) (i : TypeInfo) (ht : P.underlying t = some (.slice e)) (hi : P.info? e = some i)
    (hs : a.eval s = .slice none 0 0) (A : Option Addr) (c : Nat) (hx : a.eval x = .slice A 0 c) (h : wpList P ops Q rest (a.put o.dst (.slice none 0 0)) w) : wpList P ops Q (o :: rest) a w := by
  refine wpList_plain hgd fun K hK' => ?_
  have hrun := run_append_nil0 (P := P) w t o.type e i ht hi A c
  unfold Oper.wp
  simp [execOp, ho, resolve, invoke, builtin, hs, hx, hrun, Result.andThen]
  exact hK' _ _ h
end Go.Proofs.Ytbmfldoobkeieaa.Own
