/- lent: a list that is handed in lies in memory of its own, with keys of its holder's behind its end; back: it is as it was; then it is written over. -/
import Derived.Test.YtbmfldoobkeieaaKList
import Derived.Laws.CopyOwn
import Derived.Laws.IdiomCopy
import Derived.OwnWalk
namespace Go.Proofs.Ytbmfldoobkeieaa.KForm
open Go.RowKit Go.Lib Go.Sort Go.Proofs.Ytbmfldoobkeieaa.Own
set_option linter.unusedVariables false
set_option linter.unusedSimpArgs false

theorem below_grown {w w' : World} (h : RowKit.Below w.heap.size w w') : w.grownBy w' none := ⟨h.os, h.tape, h.output, h.size, fun k hk _ => h.block k hk⟩
theorem grown_weak {w w' : World} (h : w.grownBy w' none) (r : Option Nat) : w.grownBy w' r := ⟨h.os, h.tape, h.output, h.size, fun k hk _ => h.block k hk (by simp)⟩
theorem grown_drewN (w : World) (n : Nat) (r : Option Nat) : w.grownBy (w.drewN n) r := ⟨rfl, rfl, rfl, Nat.le_refl _, fun _ _ _ => rfl⟩
theorem run_nil_keys (w : World) (a : Option Addr) (l c : Nat) : (binOp .eql 22 (.slice a l c) (.slice none 0 0)).run Try.prog w = .ok (.bool a.isNone) w := by
  have h := run_equalIn_slice_nil (P := Try.prog) w 9999 22 29 a l c Try.underlying22
  simp only [binOp, Op.equal, show Op.maxDepth = 9999 + 1 from rfl, Sem.run_bind, h, Result.andThen_ok, Sem.run_pure]
/-- the cells of a list of keys, one behind the other -/
def cellsK (l : List (Int × Int)) : List Value := (flatK keyCells 2 l.toArray).toList
theorem cellsK_len (l : List (Int × Int)) : (cellsK l).length = l.length * 2 := by simp [cellsK]
theorem cellsK_get (l : List (Int × Int)) (t : Nat) (u : Value) (hu : (cellsK l)[t]? = some u) : t < l.length * 2 ∧ u = (if t % 2 = 0 then .int .i64 l[t / 2]!.1 else .int .i64 l[t / 2]!.2) := by
  unfold cellsK at hu
  rw [Array.getElem?_toList] at hu
  obtain ⟨h1, h2⟩ := Array.getElem?_eq_some_iff.mp hu
  have hlt : t < l.toArray.size * 2 := by simpa using h1
  refine ⟨by simpa using hlt, ?_⟩
  have := flat_get l.toArray t hlt
  rw [getElem!_pos (flatK keyCells 2 l.toArray) t h1, h2] at this
  simpa using this
theorem cellsK_at (l : List (Int × Int)) (t : Nat) (h : t < l.length * 2) : (cellsK l)[t]! = (if t % 2 = 0 then .int .i64 l[t / 2]!.1 else .int .i64 l[t / 2]!.2) := by
  have h1 : t < (cellsK l).length := by rw [cellsK_len]; exact h
  rw [List.getElem!_eq_getElem?_getD, List.getElem?_eq_getElem h1]
  exact (cellsK_get l t _ (List.getElem?_eq_getElem h1)).2
theorem cellsK_one (l : List (Int × Int)) : ∀ u ∈ cellsK l, u.oneCell' = true := by
  intro u hu
  obtain ⟨t, ht, rfl⟩ := List.mem_iff_getElem.mp hu
  have := (cellsK_get l t _ (List.getElem?_eq_getElem ht)).2
  rw [this]
  split <;> rfl
theorem KeysAt.cells {w : World} {ad : Addr} {l : List (Int × Int)} (h : KeysAt w ad l) : ∀ t u, (cellsK l)[t]? = some u → w.cell? (ad.add t) = some u := by
  intro t u hu
  obtain ⟨ht, rfl⟩ := cellsK_get l t u hu
  rcases Nat.mod_two_eq_zero_or_one t with e | e
  · rw [if_pos e]
    have := h.2 (t / 2) (by omega) 0 _ rfl
    rwa [show t / 2 * 2 + 0 = t by omega] at this
  · rw [if_neg (by omega)]
    have := h.2 (t / 2) (by omega) 1 _ rfl
    rwa [show t / 2 * 2 + 1 = t by omega] at this
/-- copy of a list of keys into a row -/
theorem run_copy_keys (w : World) (ty : TypeId) (b n dc : Nat) (A : Option Addr) (c : Nat) (l : List (Int × Int)) (h : KR w A l) (hn : l.length ≤ n)
    (hc : ∀ j, j < l.length * 2 → (w.cell? ⟨b, j, none⟩).isSome = true) (hf : ∀ j, j < l.length * 2 → w.frozen? ⟨b, j, none⟩ = false) :
    (Builtin.copy_ #[22, 22] ty #[.slice (some ⟨b, 0, none⟩) n dc, .slice A l.length c]).run Try.prog w = .ok (goInt l.length) (w.setCells b 0 (cellsK l)) := by
  obtain ⟨i0, ih, iz0, iz1, iz2⟩ := info_parts infoKey
  have hmin : Nat.min l.length n = l.length := Nat.min_eq_left hn
  have hst := run_storeCells_cells (P := Try.prog) b 0 (cellsK l) 0 w (by rw [cellsK_len]; simpa using hc) (by rw [cellsK_len]; simpa using hf) (cellsK_one l)
  simp only [Nat.add_zero] at hst
  cases A with
  | none =>
    have h0 : l = [] := by
      rcases Nat.eq_zero_or_pos l.length with h0 | h0
      · exact List.eq_nil_of_length_eq_zero h0
      · obtain ⟨ad, hA, _⟩ := h h0
        cases hA
    subst h0
    have e : cellsK [] = [] := List.eq_nil_of_length_eq_zero (by rw [cellsK_len]; rfl)
    rw [e] at hst ⊢
    have hmin0 : Nat.min 0 n = 0 := Nat.zero_min n
    simp [Builtin.copy_, run_underlying Try.underlying22, Builtin.lenOf, Builtin.firstCells, sizeOf, typeInfo, ih, storeCells, World.setCells, hmin0]
  | some ad =>
    have hcs : ∀ j v, (cellsK l)[j]? = some v → w.cell? (ad.add j) = some v := by
      intro j v hv
      have hlt := (cellsK_get l j v hv).1
      obtain ⟨ad', hA, hk⟩ := h (by omega)
      cases hA
      exact hk.cells j v hv
    have hl := run_loadCells_list (P := Try.prog) w ad (cellsK l) hcs
    rw [cellsK_len] at hl
    simp [Builtin.copy_, run_underlying Try.underlying22, Builtin.lenOf, Builtin.firstCells, sizeOf, typeInfo, ih, iz1, hmin, hl, hst]
theorem wpList_copy_keys {w : World} {ops : Array Oper} {rest : List Oper} {o : Oper} {a : Act} {Q : Exit → Act → World → Prop} (hgd : o.guard = none) (d s : Operand)
    (ho : o.op = .call { callee := .builtin .copy, args := #[d, s], argTypes := #[22, 22] }) (b n dc : Nat) (A : Option Addr) (c : Nat) (l : List (Int × Int)) (hd : a.eval d = .slice (some ⟨b, 0, none⟩) n dc) (hs : a.eval s = .slice A l.length c)
    (h : KR w A l) (hn : l.length ≤ n) (M : Nat) (f : Nat → Value) (hrow : w.rowIs b 29 M f) (hM : l.length * 2 ≤ M)
    (hK : ∀ w' f', w'.rowIs b 29 M f' → (∀ j, j < l.length → f' (j * 2) = .int .i64 l[j]!.1 ∧ f' (j * 2 + 1) = .int .i64 l[j]!.2) → w.grownBy w' (some b) → wpList Try.prog ops Q rest (a.put o.dst (goInt l.length)) w') : wpList Try.prog ops Q (o :: rest) a w := by
  refine wpList_plain hgd fun K hK' => ?_
  have hrun := run_copy_keys w o.type b n dc A c l h hn (fun j hj => by rw [hrow.cell (by omega)]; rfl) (fun j hj => hrow.frozen _)
  unfold Oper.wp
  simp [execOp, ho, resolve, invoke, builtin, hd, hs, hrun, Result.andThen]
  refine hK' _ _ (hK _ _ (rowIs_sets b 29 M (cellsK l) 0 w f hrow) (fun j hj => ⟨?_, ?_⟩) (grownBy_setCells b _ _ w))
  · rw [if_pos (by rw [cellsK_len]; omega), Nat.sub_zero, cellsK_at l _ (by omega), if_pos (by omega), show j * 2 / 2 = j by omega]
  · rw [if_pos (by rw [cellsK_len]; omega), Nat.sub_zero, cellsK_at l _ (by omega), if_neg (by omega), show (j * 2 + 1) / 2 = j by omega]
/-- a row that holds a list, and behind it so many keys of its holder's -/
def LentRow (w : World) (g : Nat) (l : List (Int × Int)) (k : Nat) : Prop := ∃ f, w.rowIs g 29 ((l.length + 5) * 2) f ∧ (∀ j, j < l.length → f (j * 2) = .int .i64 l[j]!.1 ∧ f (j * 2 + 1) = .int .i64 l[j]!.2) ∧ ∀ j, j < k → f ((l.length + j) * 2) = .int .i64 (-9) ∧ f ((l.length + j) * 2 + 1) = .int .i64 (j : Int)
/-- what lent hands back -/
def Lent (w : World) (base : Nat) (v : Value) (A : Option Addr) (l : List (Int × Int)) : Prop :=
  (A = none ∧ l = [] ∧ v = .slice none 0 0) ∨ ∃ g ad, A = some ad ∧ v = .slice (some ⟨g, 0, none⟩) l.length (l.length + 5) ∧ base ≤ g ∧ LentRow w g l 5
theorem LentRow.set {w : World} {g k : Nat} {l : List (Int × Int)} (h : LentRow w g l k) : LentRow ((w.setCell ⟨g, (l.length + k) * 2, none⟩ (.int .i64 (-9))).setCell ⟨g, (l.length + k) * 2 + 1, none⟩ (.int .i64 (k : Int))) g l (k + 1) := by
  obtain ⟨f, hr, h1, h2⟩ := h
  refine ⟨_, (hr.set _ _).set _ _, fun j hj => ⟨?_, ?_⟩, fun j hj => ?_⟩
  · show (if j * 2 = (l.length + k) * 2 + 1 then _ else if j * 2 = (l.length + k) * 2 then _ else f (j * 2)) = _
    rw [if_neg (by omega), if_neg (by omega), (h1 j hj).1]
  · show (if j * 2 + 1 = (l.length + k) * 2 + 1 then _ else if j * 2 + 1 = (l.length + k) * 2 then _ else f (j * 2 + 1)) = _
    rw [if_neg (by omega), if_neg (by omega), (h1 j hj).2]
  · by_cases e : j = k
    · subst e
      exact ⟨by show (if (l.length + j) * 2 = (l.length + j) * 2 + 1 then _ else if (l.length + j) * 2 = (l.length + j) * 2 then _ else _) = _; rw [if_neg (by omega), if_pos rfl], by show (if (l.length + j) * 2 + 1 = (l.length + j) * 2 + 1 then _ else _) = _; rw [if_pos rfl]⟩
    · obtain ⟨e1, e2⟩ := h2 j (by omega)
      refine ⟨?_, ?_⟩
      · show (if (l.length + j) * 2 = (l.length + k) * 2 + 1 then _ else if (l.length + j) * 2 = (l.length + k) * 2 then _ else f ((l.length + j) * 2)) = _
        rw [if_neg (by omega), if_neg (by omega), e1]
      · show (if (l.length + j) * 2 + 1 = (l.length + k) * 2 + 1 then _ else if (l.length + j) * 2 + 1 = (l.length + k) * 2 then _ else f ((l.length + j) * 2 + 1)) = _
        rw [if_neg (by omega), if_neg (by omega), e2]
theorem LentRow.at {w : World} {g k : Nat} {l : List (Int × Int)} (h : LentRow w g l k) (j : Nat) (hj : j < (l.length + 5) * 2) : (∃ u, w.cell? ⟨g, j, none⟩ = some u) ∧ w.frozen? ⟨g, j, none⟩ = false := by
  obtain ⟨f, hr, _⟩ := h
  exact ⟨⟨_, hr.cell hj⟩, hr.frozen _⟩
theorem LentRow.lt {w : World} {g k : Nat} {l : List (Int × Int)} (h : LentRow w g l k) : g < w.heap.size := by
  obtain ⟨f, hr, _⟩ := h
  exact hr.lt
set_option maxHeartbeats 4000000 in
set_option maxRecDepth 100000 in
theorem lent_calls (A : Option Addr) (c : Nat) (l : List (Int × Int)) (w : World) (h : KR w A l) (hA : A = none → l = []) (hl : l.length ≤ 4398046511104) :
    Calls Try.prog 12 #[.slice A l.length c] w fun e w' => ∃ v, e = .returned v ∧ Lent w' w.heap.size v A l ∧ RowKit.Below w.heap.size w w' := by
  obtain ⟨i0, ih, iz0, iz1, iz2⟩ := info_parts infoKey
  cases A with
  | none =>
    obtain rfl := hA rfl
    go_enter Try.func12, Try.ntmps12
    have hnil := run_nil_keys
    go_wp2
    go_ret
    exact ⟨_, rfl, .inl ⟨rfl, rfl, rfl⟩, RowKit.Below.refl _ _⟩
  | some ad =>
    have H := Lib.hid h
    clear h hA
    go_enter Try.func12, Try.ntmps12
    have hn : wrap64 ((l.length : Int) + 5) = ((l.length + 5 : Nat) : Int) := by unfold wrap64; omega
    have hnil := run_nil_keys
    go_wp2_with (at_make; refine wpList_make_full _ rfl _ _ 22 rfl w.heap.size 29 i0 (.agg #[.int .i64 0, .int .i64 0]) 2 Try.underlying22 ih iz0 iz1 .i64 .i64 _ _ (l.length + 5) rfl rfl (by omega) (by omega) ?b2 ?b3 ?b4 ?_)
    case b2 => rw [iz2]; omega
    case b3 => unfold maxLen; omega
    case b4 => exact Nat.le_refl _
    intro w1 hown hgr
    have B1 : Hid (RowKit.Below w.heap.size w w1) := Lib.hid ((RowKit.Below.refl _ _).grown hgr (Nat.le_refl _) (fun k hk => by cases hk))
    obtain ⟨f1, hrow1⟩ : ∃ f, w1.rowIs w.heap.size 29 ((l.length + 5) * 2) f := by
      rcases Has.of_owns hown with ⟨hv, _⟩ | ⟨b, cc, f, hv, _, hr, _⟩
      · cases hv
      · injection hv with e1 e2 e3
        injection e1 with e1
        injection e1 with e1 _ _
        subst e1; subst e3
        exact ⟨f, hr⟩
    have R1 := Lib.hid hrow1
    have K1 : Hid (KR w1 (some ad) l) := Lib.hid (H.out.below B1.out)
    clear hown hgr hrow1
    go_wp2_with (refine wpList_copy_keys rfl _ _ rfl w.heap.size (l.length + 5) (l.length + 5) (some ad) c l rfl rfl K1.out (by omega) ((l.length + 5) * 2) f1 R1.out (by omega) ?_)
    intro w2 f2 hr2 hf2 hg2
    have B2 : Hid (RowKit.Below w.heap.size w w2) := Lib.hid (B1.out.grown hg2 B1.out.size (fun k hk => by cases hk; exact Nat.le_refl _))
    have L2 : Hid (LentRow w2 w.heap.size l 0) := Lib.hid ⟨f2, hr2, fun j hj => by simpa using hf2 j hj, fun j hj => absurd hj (Nat.not_lt_zero _)⟩
    clear hr2 hf2 hg2
    go_wp2_with fail
    go_loopg [4] 5 (fun gg s4 wr => ∃ k : Nat, k ≤ 5 ∧ 5 - k ≤ gg ∧ s4 = .int .i64 k ∧ Aside (RowKit.Below w.heap.size w wr) ∧ Aside (LentRow wr w.heap.size l k))
    case atStart => exact ⟨0, Nat.zero_le _, by omega, rfl, B2.out, L2.out⟩
    case round =>
      obtain ⟨k, hk, hg, rfl, BW, LW⟩ := hrel
      by_cases hlt : k < 5
      · have hltz : (k : Int) < 5 := by omega
        have hi : wrap64 ((l.length : Int) + (k : Int)) = ((l.length + k : Nat) : Int) := by unfold wrap64; omega
        obtain ⟨⟨u0, hu0⟩, hf0⟩ := LW.out.at ((l.length + k) * 2) (by omega)
        obtain ⟨⟨u1, hu1⟩, hf1⟩ := LW.out.at ((l.length + k) * 2 + 1) (by omega)
        go_wp2
        go_roundg (5 - (k + 1))
        case measure => omega
        case rel =>
          have hgs : wr.grownBy ((wr.setCell ⟨w.heap.size, (l.length + k) * 2, none⟩ (.int .i64 (-9))).setCell ⟨w.heap.size, (l.length + k) * 2 + 1, none⟩ (.int .i64 (k : Int))) (some w.heap.size) := grownBy_setCells w.heap.size [_, _] _ wr
          exact ⟨k + 1, by omega, by omega, by go_num, (show Aside _ from BW.out.grown hgs BW.out.size (fun k hk => by cases hk; exact Nat.le_refl _)), (show Aside _ from LW.out.set)⟩
      · obtain rfl : k = 5 := by omega
        go_wp2
        go_ret
        exact ⟨_, rfl, .inr ⟨_, _, rfl, rfl, Nat.le_refl _, LW.out⟩, BW.out⟩
/-- a row that is written over -/
theorem below_of_grown {w w' : World} {g base : Nat} (h : w.grownBy w' (some g)) (hb : base ≤ g) (hs : base ≤ w.heap.size) : RowKit.Below base w w' := (RowKit.Below.refl _ _).grown h hs (fun k hk => by cases hk; exact hb)
set_option maxHeartbeats 4000000 in
set_option maxRecDepth 100000 in
theorem back_calls (base : Nat) (v : Value) (A A0 : Option Addr) (c n0 : Nat) (l : List (Int × Int)) (w : World) (hv : Lent w base v A0 l) (hn : A0 = none ↔ A = none) (h : KR w A l) (hl : l.length ≤ 4398046511104) (hc : l.length ≤ c) :
    Calls Try.prog 14 #[v, .slice A l.length c] w fun e w' => e = .returned (.bool true) ∧ w.grownBy w' v.ownBlock := by
  rcases hv with ⟨hA, rfl, rfl⟩ | ⟨g, ad, hA, rfl, hg, hrow⟩
  · obtain rfl := hn.mp hA
    have hnil := run_nil_keys
    go_enter Try.func14, Try.ntmps14
    go_wp2_with fail
    refine (same_calls none none 0 c [] _ (fun h => absurd h (by simp)) (fun h => absurd h (by simp)) (by simp) (by simp) (by simp)).mono ?_
    rintro e w1 ⟨rfl, hb1⟩
    go_wp2
    go_ret
    exact ⟨rfl, grown_weak (below_grown hb1) _⟩
  · obtain ⟨ad2, rfl⟩ : ∃ ad2, A = some ad2 := by
      cases A with
      | none => exact absurd (hn.mpr rfl) (by rw [hA]; simp)
      | some a => exact ⟨a, rfl⟩
    have hnil := run_nil_keys
    have R0 := Lib.hid hrow
    have H0 := Lib.hid h
    have hkr : KR w (some ⟨g, 0, none⟩) l := fun h0 => ⟨_, rfl, hrow.lt, fun j hj i v hv => by
      obtain ⟨f, hr, h1, h2⟩ := hrow
      obtain ⟨e1, e2⟩ := h1 j hj
      rw [Addr.add_lit, Nat.zero_add]
      match i, hv with
      | 0, hv => rw [← Option.some.inj hv, Nat.add_zero, hr.cell (by omega), e1]
      | 1, hv => rw [← Option.some.inj hv, hr.cell (by omega), e2]⟩
    have HK := Lib.hid hkr
    clear hrow h hkr
    go_enter Try.func14, Try.ntmps14
    go_wp2_with fail
    refine (same_calls (some ⟨g, 0, none⟩) (some ad2) (l.length + 5) c l _ HK.out H0.out (by omega) (by omega) hc).mono ?_
    rintro e w1 ⟨rfl, hb1⟩
    have G1 : Hid (w.grownBy w1 (some g)) := Lib.hid (grown_weak (below_grown hb1) _)
    have hlt : g < w.heap.size := R0.out.lt
    have R1 : Hid (LentRow w1 g l 5) := Lib.hid (by
      obtain ⟨f, hr, h1, h2⟩ := R0.out
      exact ⟨f, hr.of_block (hb1.block g hlt), h1, h2⟩)
    clear hb1
    have hn5 : wrap64 ((l.length : Int) + 5) = ((l.length + 5 : Nat) : Int) := by unfold wrap64; omega
    go_wp2
    go_loopg [7, 5] 5 (fun gg s7 s5 wr => ∃ k : Nat, k ≤ 5 ∧ 5 - k ≤ gg ∧ s7 = .int .i64 k ∧ s5 = .bool true ∧ wr = w1)
    case atStart => exact ⟨0, Nat.zero_le _, by omega, rfl, rfl, rfl⟩
    case round =>
      obtain ⟨k, hk, hg, rfl, rfl, rfl⟩ := hrel
      by_cases hlt5 : k < 5
      · have hltz : (k : Int) < 5 := by omega
        have hi : wrap64 ((l.length : Int) + (k : Int)) = ((l.length + k : Nat) : Int) := by unfold wrap64; omega
        obtain ⟨f, hr, h1, h2⟩ := R1.out
        obtain ⟨e1, e2⟩ := h2 k hlt5
        have c1 := hr.cell (i := (l.length + k) * 2) (by omega)
        have c2 := hr.cell (i := (l.length + k) * 2 + 1) (by omega)
        rw [e1] at c1
        rw [e2] at c2
        clear hr h1 h2 e1 e2
        go_wp2
        go_roundg (5 - (k + 1))
        case measure => omega
        case rel => exact ⟨k + 1, by omega, by omega, by go_num, rfl, rfl⟩
      · obtain rfl : k = 5 := by omega
        go_wp2
        go_loopg [8] (l.length + 5) (fun gg s8 wq => ∃ m : Nat, m ≤ l.length + 5 ∧ l.length + 5 - m ≤ gg ∧ s8 = .int .i64 m ∧ Aside (w.grownBy wq (some g)) ∧ Aside (∃ f, wq.rowIs g 29 ((l.length + 5) * 2) f))
        case atStart => exact ⟨0, Nat.zero_le _, by omega, rfl, G1.out, by obtain ⟨f, hr, _⟩ := R1.out; exact ⟨f, hr⟩⟩
        case round =>
          obtain ⟨m, hm, hg2, rfl, GW, RW⟩ := hrel
          by_cases hlm : m < l.length + 5
          · have hltm : (m : Int) < ((l.length + 5 : Nat) : Int) := by omega
            obtain ⟨f, hr⟩ := RW.out
            have c1 := hr.cell (i := m * 2) (by omega)
            have c2 := hr.cell (i := m * 2 + 1) (by omega)
            have f1 := hr.frozen (m * 2)
            have f2 := hr.frozen (m * 2 + 1)
            have RH := Lib.hid hr
            clear hr
            go_wp2
            go_roundg (l.length + 5 - (m + 1))
            case measure => omega
            case rel =>
              exact ⟨m + 1, by omega, by omega, by go_num, (show Aside _ from GW.out.trans (grownBy_setCells g [_, _] _ wr)), (show Aside _ from ⟨_, (RH.out.set _ _).set _ _⟩)⟩
          · obtain rfl : m = l.length + 5 := by omega
            go_wp2
            go_ret
            exact ⟨rfl, GW.out⟩
end Go.Proofs.Ytbmfldoobkeieaa.KForm
