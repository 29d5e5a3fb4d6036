/- Rises of a set; copied. -/
import Derived.Test.YtbmfldoobkeieaaDoorKList
import Derived.Test.YtbmfldoobkeieaaDoorGSetx2
import Derived.Test.YtbmfldoobkeieaaDoorGSetx3
namespace Go.Proofs.YtbmfldoobkeieaaDoor.KForm
open Go.RowKit Go.Lib Go.Sort Go.Proofs.YtbmfldoobkeieaaDoor.Own Go.Proofs.YtbmfldoobkeieaaDoor.GSet Go.Proofs.YtbmfldoobkeieaaDoorW.PrintWords
set_option linter.unusedVariables false
set_option linter.unusedSimpArgs false

theorem cmpi_f (x y : Int) : cmp_Compare_int.f x y = some (cmpI x y) := by
  unfold cmp_Compare_int.f cmp_isNaN_int.f cmpI
  simp only [Option.bind_some, bne_self_eq_false]
  rw [if_neg (by simp), if_neg (by simp)]
  by_cases a : x < y
  · rw [if_pos a, if_pos a]
  · rw [if_neg a, if_neg a]
    by_cases b : y < x
    · rw [if_pos b, if_pos b]
    · rw [if_neg b, if_neg b]
theorem cmpl_f (x y : Int) : cmp_Compare_int64.f x y = some (cmpI x y) := by
  unfold cmp_Compare_int64.f cmp_isNaN_int64.f cmpI
  simp only [Option.bind_some, bne_self_eq_false]
  rw [if_neg (by simp), if_neg (by simp)]
  by_cases a : x < y
  · rw [if_pos a, if_pos a]
  · rw [if_neg a, if_neg a]
    by_cases b : y < x
    · rw [if_pos b, if_pos b]
    · rw [if_neg b, if_neg b]
theorem or_f (k : Nat) (x y : Int) : cmp_Or_int.f (k + 3) [x, y] = some (orI x y) := by
  unfold cmp_Or_int.f orI
  rw [cmp_Or_int.l0, if_pos (by simp), if_pos (by omega), if_pos (by simp)]
  by_cases h : x = 0
  · rw [if_pos (show rd [x, y] 0 = 0 from h), show wrap64 (0 + 1) = 1 by unfold wrap64; omega, cmp_Or_int.l0, if_pos (by simp), if_pos (by omega), if_pos (by simp)]
    by_cases h2 : y = 0
    · rw [if_pos (show rd [x, y] 1 = 0 from h2), show wrap64 (1 + 1) = 2 by unfold wrap64; omega, cmp_Or_int.l0, if_neg (by simp), if_neg (by simp [h]), h2]
    · rw [if_neg (show ¬ rd [x, y] 1 = 0 from h2), if_neg (by simp [h])]
      rfl
  · rw [if_neg (show ¬ rd [x, y] 0 = 0 from h), if_pos h]
    rfl
theorem compare_f (k : Nat) (a b : Int × Int) : keys_Compare.f (k + 3) a.1 a.2 b.1 b.2 = some (cmpF a b) := by
  unfold keys_Compare.f
  rw [cmpi_f, cmpl_f]
  by_cases h : (a.1 == b.1 && a.2 == b.2) = true
  · rw [if_pos h]
    simp at h
    unfold cmpF orI cmpI
    simp [h.1, h.2]
  · rw [if_neg h]
    simp only [Option.bind_some, or_f]
    rfl
/-- a set: its members are keys, each above the one before it -/
def Rising (l : List (Int × Int)) : Prop := (∀ x ∈ l, keyB x = true) ∧ l.Pairwise (fun a b => kLt a b = true)
theorem rises_f (l : List (Int × Int)) (hl : l.length ≤ 9223372036854775807) (hR : Rising l) (d : Nat) : ∀ (i k : Nat), i ≤ l.length → l.length - i = d → d + 5 < k → keys_Rises.l0 k (l.map toS) (l.map toS) (l.length : Int) i = some true := by
  induction d with
  | zero =>
    intro i k h1 h2 h3
    obtain ⟨k, rfl⟩ : ∃ m, k = m + 1 := ⟨k - 1, by omega⟩
    rw [keys_Rises.l0, if_neg (by omega)]
  | succ d ih =>
    intro i k h1 h2 h3
    obtain ⟨k, rfl⟩ : ∃ m, k = m + 1 := ⟨k - 1, by omega⟩
    have hlt : i < l.length := by omega
    have hk := hR.1 l[i] (List.getElem_mem hlt)
    unfold keyB at hk
    have hk := of_decide_eq_true hk
    have hnext := ih (i + 1) k (by omega) (by omega) (by omega)
    have hck : keys_Check.f (toS l[i]).f0 (toS l[i]).f1 = some 0 := by
      unfold keys_Check.f
      show (if l[i].1 < 0 then some 20 else if l[i].1 > 65535 then some 20 else some 0) = some 0
      rw [if_neg (show ¬ l[i].1 < 0 by omega), if_neg (show ¬ l[i].1 > 65535 by omega)]
    rw [keys_Rises.l0, if_pos (by omega), if_pos (by omega), if_pos (by rw [List.length_map]; omega), rdT l i hlt, hck]
    simp only [Option.bind_some]
    rw [if_pos trivial, show wrap64 ((i : Int) + 1) = ((i + 1 : Nat) : Int) by unfold wrap64; omega, hnext]
    by_cases h0 : (i : Int) > 0
    · rw [if_pos h0, show wrap64 ((i : Int) - 1) = ((i - 1 : Nat) : Int) by unfold wrap64; omega, if_pos (by omega), if_pos (by rw [List.length_map]; omega), rdT l (i - 1) (by omega)]
      obtain ⟨k, rfl⟩ : ∃ m, k = m + 3 := ⟨k - 3, by omega⟩
      have hc := compare_f k l[i - 1] l[i]
      have hlt2 : kLt l[i - 1] l[i] = true := List.pairwise_iff_getElem.mp hR.2 (i - 1) i (by omega) hlt (by omega)
      have hneg : cmpF l[i - 1] l[i] < 0 := (cmpF_neg _ _).mpr (of_decide_eq_true hlt2)
      show (keys_Compare.f (k + 3) l[i - 1].1 l[i - 1].2 l[i].1 l[i].2).bind _ = _
      rw [hc]
      simp only [Option.bind_some]
      rw [if_neg (by omega)]
    · rw [if_neg h0]
theorem rises_calls (A : Option Addr) (c : Nat) (l : List (Int × Int)) (w : World) (h : KR w A l) (hl : l.length ≤ 9223372036854775807) (hc : l.length ≤ c) (hR : Rising l) :
    Calls Tryd.prog 26 #[.slice A l.length c] w fun e w' => e = .returned (.bool true) ∧ RowKit.Below w.heap.size w w' := by
  have := keys_Rises.calls (l.length + 7) A c (l.map toS) true w (h.C hl) (by rw [List.length_map]; exact hc) (by unfold keys_Rises.f; rw [List.length_map]; exact rises_f l hl hR l.length 0 (l.length + 7) (by omega) (by omega) (by omega))
  rw [List.length_map] at this
  exact this
/-- the cells of a list of keys -/
def flatV (l : List (Int × Int)) (t : Nat) : Value := if t % 2 = 0 then .int .i64 l[t / 2]!.1 else .int .i64 l[t / 2]!.2
theorem own_of_has {w : World} {base : Nat} {v : Value} {l : List (Int × Int)} (h : Has w base 35 2 v l.length (fun t x => x = flatV l t)) : OwnKeys w base v l := by
  rcases h with ⟨rfl, h0⟩ | ⟨b, c, f, rfl, hb, hrow, hn, hm, hg⟩
  · exact .inl ⟨rfl, List.eq_nil_of_length_eq_zero h0⟩
  · refine .inr ⟨b, c, c * 2, rfl, hb, hn, Nat.le_refl _, f, hrow, by simp; omega, fun j hj => ?_⟩
    have hj' : j < l.length := by simpa using hj
    have e1 : f (j * 2) = flatV l (j * 2) := hg (j * 2) (by omega)
    have e2 : f (j * 2 + 1) = flatV l (j * 2 + 1) := hg (j * 2 + 1) (by omega)
    unfold flatV at e1 e2
    rw [if_pos (by omega), show j * 2 / 2 = j by omega] at e1
    rw [if_neg (by omega), show (j * 2 + 1) / 2 = j by omega] at e2
    exact ⟨by rw [e1]; simp, by rw [e2]; simp⟩
/-- the cells of a list that is appended -/
def newsV (l : List (Int × Int)) : List Value := (List.range (l.length * 2)).map (flatV l)
theorem newsV_get (l : List (Int × Int)) (t : Nat) (u : Value) (h : (newsV l)[t]? = some u) : t < l.length * 2 ∧ u = flatV l t := by
  unfold newsV at h
  rw [List.getElem?_map] at h
  rcases Nat.lt_or_ge t (l.length * 2) with hj | hj
  · rw [List.getElem?_range hj] at h
    exact ⟨hj, by simpa using h.symm⟩
  · rw [List.getElem?_eq_none (by simpa using hj)] at h
    cases h
theorem newsV_of (l : List (Int × Int)) (t : Nat) (h : t < l.length * 2) : (newsV l)[t]? = some (flatV l t) := by
  unfold newsV
  rw [List.getElem?_map, List.getElem?_range h]
  rfl
theorem newsV_one (l : List (Int × Int)) : ∀ u ∈ newsV l, u.oneCell' = true := by
  intro u hu
  obtain ⟨t, ht, rfl⟩ := List.mem_map.mp hu
  unfold flatV
  split <;> rfl
theorem KeysAt.news {w : World} {ad : Addr} {l : List (Int × Int)} (h : KeysAt w ad l) : ∀ t u, (newsV l)[t]? = some u → w.cell? (ad.add t) = some u := by
  intro t u hu
  obtain ⟨ht, rfl⟩ := newsV_get l t u hu
  have hj : t / 2 < l.length := by omega
  unfold flatV
  rcases Nat.mod_two_eq_zero_or_one t with e | e
  · rw [if_pos e]
    have := h.2 (t / 2) hj 0 _ rfl
    rwa [show t / 2 * 2 + 0 = t by omega] at this
  · rw [if_neg (by omega)]
    have := h.2 (t / 2) hj 1 _ rfl
    rwa [show t / 2 * 2 + 1 = t by omega] at this
theorem flatV_append (l m : List (Int × Int)) (t : Nat) : flatV (l ++ m) t = if t < l.length * 2 then flatV l t else flatV m (t - l.length * 2) := by
  unfold flatV
  by_cases h : t < l.length * 2
  · rw [if_pos h]
    have e : (l ++ m)[t / 2]! = l[t / 2]! := by
      rw [List.getElem!_eq_getElem?_getD, List.getElem!_eq_getElem?_getD, List.getElem?_append_left (by omega)]
    rw [e]
  · rw [if_neg h]
    have e : (l ++ m)[t / 2]! = m[(t - l.length * 2) / 2]! := by
      rw [List.getElem!_eq_getElem?_getD, List.getElem!_eq_getElem?_getD, List.getElem?_append_right (by omega), show t / 2 - l.length = (t - l.length * 2) / 2 by omega]
    rw [e, show (t - l.length * 2) % 2 = t % 2 by omega]
/-- behind an append of l onto r -/
theorem has_append {w : World} {base : Nat} {v : Value} {r l : List (Int × Int)} {n : Nat} (hn : n = r.length + l.length) (h : Has w base 35 2 v n (fun j x => (j < r.length * 2 → x = flatV r j) ∧ (r.length * 2 ≤ j → (newsV l)[j - r.length * 2]? = some x))) :
    Has w base 35 2 v (r ++ l).length (fun t x => x = flatV (r ++ l) t) := by
  subst hn
  rw [List.length_append]
  refine h.imp (fun j hj x hx => ?_)
  rw [flatV_append]
  by_cases e : j < r.length * 2
  · rw [if_pos e]
    exact hx.1 e
  · rw [if_neg e]
    exact (newsV_get l _ _ (hx.2 (by omega))).2
set_option maxHeartbeats 2000000 in
set_option maxRecDepth 100000 in
theorem copied_calls (A : Option Addr) (c : Nat) (l : List (Int × Int)) (w : World) (h : KR w A l) (hl : l.length < 8796093022208) (hc : l.length ≤ c) :
    Calls Tryd.prog 11 #[.slice A l.length c] w fun e w' => ∃ v, e = .returned v ∧ OwnKeys w' w.heap.size v l ∧ RowKit.Below w.heap.size w w' := by
  obtain ⟨i0, ih, iz0, iz1, iz2⟩ := info_parts infoKey
  by_cases h0 : l.length = 0
  · have hnil := List.eq_nil_of_length_eq_zero h0
    subst hnil
    clear h0
    go_enter Tryd.func11, Tryd.ntmps11
    go_wp2_with (at_builtin; refine wpList_append_nil0 _ rfl _ _ 22 rfl 35 i0 Tryd.underlying22 ih rfl A c rfl ?_)
    go_wp2
    go_ret
    exact ⟨_, rfl, .inl ⟨rfl, rfl⟩, RowKit.Below.refl _ _⟩
  · obtain ⟨ad, rfl, hk⟩ := h (by omega)
    have HN := Lib.hid hk.news
    clear h hk
    go_enter Tryd.func11, Tryd.ntmps11
    go_wp2_with (at_builtin; refine wpList_append_has _ rfl _ _ 22 rfl w.heap.size 35 i0 (.agg #[.int .i64 0, .int .i64 0]) 2 16 Tryd.underlying22 ih iz0 iz1 iz2 rfl (by decide) _ 0 (fun t x => x = flatV [] t) rfl ?hv ad l.length c (newsV l) rfl ?c0 ?c1 ?c2 ?c3 ?c4 ?c5 ?c6 ?_)
    case hv => exact .inl ⟨rfl, rfl⟩
    case c0 => simp [newsV]
    case c1 => exact HN.out
    case c2 => exact newsV_one l
    case c3 => omega
    case c4 => unfold maxLen; omega
    case c5 => omega
    case c6 => exact Nat.le_refl _
    intro b' c' w' hnew hblk hold hgr
    have K : Hid (OwnKeys w' w.heap.size (.slice (some ⟨b', 0, none⟩) l.length c') l) := Lib.hid (own_of_has (hnew.imp (fun j hj x hx => (newsV_get l j x hx).2)))
    have G : Hid (RowKit.Below w.heap.size w w') := Lib.hid ((RowKit.Below.refl _ _).grown hgr (Nat.le_refl _) (fun k hk => by simp [Value.ownBlock] at hk))
    clear hnew hblk hold hgr
    go_wp2
    go_ret
    exact ⟨_, rfl, K.out, G.out⟩
end Go.Proofs.YtbmfldoobkeieaaDoor.KForm
