/- keys.Sort: of a list that is no list of keys nothing and an error; else its keys, sorted, each once, in new memory. -/
import Derived.Test.YtbmfldoobkeieaaKCompact
namespace Go.Proofs.Ytbmfldoobkeieaa.KForm
open Go.RowKit Go.Lib Go.Sort Go.Proofs.Ytbmfldoobkeieaa.Own Go.Proofs.YtbmfldoobkeieaaW.PrintWords
set_option linter.unusedVariables false
set_option linter.unusedSimpArgs false

theorem cmpF_neg (a b : Int × Int) : cmpF a b < 0 ↔ (a.1 < b.1 ∨ (a.1 = b.1 ∧ a.2 < b.2)) := by
  unfold cmpF orI cmpI
  split <;> split <;> (try split) <;> omega
/-- is the first key below the second? -/
def kLt (a b : Int × Int) : Bool := decide (a.1 < b.1 ∨ (a.1 = b.1 ∧ a.2 < b.2))
theorem ltOf_eq (a b : Int × Int) : ltOf cmpF a b = kLt a b := by
  unfold ltOf kLt
  exact decide_eq_decide.mpr (cmpF_neg a b)
theorem kLt_swo : SWO (ltOf cmpF) where
  irrefl := by intro x; rw [ltOf_eq]; unfold kLt; simp
  trans := by intro x y z; rw [ltOf_eq, ltOf_eq, ltOf_eq]; unfold kLt; simp only [decide_eq_true_eq]; omega
  ntrans := by intro x y z; simp only [ltOf_eq]; unfold kLt; simp only [decide_eq_false_iff_not]; omega
theorem kLt_total (x y : Int × Int) (h1 : ltOf cmpF x y = false) (h2 : ltOf cmpF y x = false) : x = y := by
  rw [ltOf_eq] at h1 h2
  unfold kLt at h1 h2
  simp only [decide_eq_false_iff_not] at h1 h2
  exact Prod.ext (by omega) (by omega)
theorem flat_get (d : Array (Int × Int)) (t : Nat) (h : t < d.size * 2) : (flatK keyCells 2 d)[t]! = (if t % 2 = 0 then .int .i64 d[t / 2]!.1 else .int .i64 d[t / 2]!.2) := by
  rw [get_flatK _ _ _ _ h]
  have h2 : t % 2 < 2 := Nat.mod_lt _ (by omega)
  generalize t % 2 = j at h2
  match j, h2 with
  | 0, _ => rfl
  | 1, _ => rfl
theorem cmpLays (b o n : Nat) (w : World) : CmpLays Try.prog 26 #[] keyCells 2 cmpF b o n w := fun m os dk _ x y => compare_calls x y _
theorem RowHas.holds {w : World} {b M : Nat} {d : Array (Int × Int)} (h : RowHas w b M d) : HoldsK keyCells 2 w b 0 d := by
  intro t ht
  rw [size_flatK] at ht
  rw [flat_get d t ht, Nat.zero_add]
  obtain ⟨c1, c2, f1, f2⟩ := h.cell (j := t / 2) (by omega)
  rcases Nat.mod_two_eq_zero_or_one t with e | e
  · have : t = t / 2 * 2 := by omega
    rw [if_pos e, this]
    simp only [Nat.mul_div_cancel _ (show 0 < 2 by omega)]
    exact ⟨c1, f1⟩
  · have : t = t / 2 * 2 + 1 := by omega
    rw [if_neg (by omega), this]
    rw [show (t / 2 * 2 + 1) / 2 = t / 2 by omega]
    exact ⟨c2, f2⟩
theorem heap_put (w : World) (b m k : Nat) (d : Array (Int × Int)) (os : Array Obj) (hk : k < w.heap.size) : (sortWorldK keyCells 2 w b 0 m d os).heap[k]? = if b = k then (w.heap[k]?).map (onCells (putCells id 0 (flatK keyCells 2 d))) else w.heap[k]? := by
  show ((w.heap.modify b (onCells (putCells id 0 (flatK keyCells 2 d)))) ++ os)[k]? = _
  rw [Array.getElem?_append_left (by simpa using hk), Array.getElem?_modify]
theorem RowHas.sorted {w : World} {b M m : Nat} {d d' : Array (Int × Int)} {os : Array Obj} (h : RowHas w b M d) (hs : d'.size = d.size) : RowHas (sortWorldK keyCells 2 w b 0 m d' os) b M d' := by
  have hlt := h.lt
  obtain ⟨f, ⟨c, hb, hc, hcf⟩, hM, hf⟩ := h
  refine ⟨fun t => if t < d'.size * 2 then (flatK keyCells 2 d')[t]! else f t, ⟨putCells id 0 (flatK keyCells 2 d') c, ?_, by simpa [putCells] using hc, fun t ht => ?_⟩, by omega, fun j hj => ?_⟩
  · rw [heap_put w b m b d' os hlt, if_pos rfl, hb]
    rfl
  · unfold putCells
    rw [Array.getElem?_mapIdx, hcf t ht]
    by_cases e : t < d'.size * 2
    · simp [e, size_flatK]
    · simp [e, size_flatK]
  · refine ⟨?_, ?_⟩
    · show (if j * 2 < d'.size * 2 then (flatK keyCells 2 d')[j * 2]! else f (j * 2)) = _
      rw [if_pos (by omega), flat_get d' _ (by omega), if_pos (by omega), show j * 2 / 2 = j by omega]
    · show (if j * 2 + 1 < d'.size * 2 then (flatK keyCells 2 d')[j * 2 + 1]! else f (j * 2 + 1)) = _
      rw [if_pos (by omega), flat_get d' _ (by omega), if_neg (by omega), show (j * 2 + 1) / 2 = j by omega]
theorem below_sorted {w : World} {b m base : Nat} {d' : Array (Int × Int)} {os : Array Obj} (hb : base ≤ b) (hbs : base ≤ w.heap.size) : RowKit.Below base w (sortWorldK keyCells 2 w b 0 m d' os) :=
  ⟨rfl, rfl, rfl, by show w.heap.size ≤ ((w.heap.modify b _) ++ os).size; simp, fun k hk => by rw [heap_put w b m k d' os (by omega), if_neg (by omega)]⟩
/-- the keys of a list, sorted -/
def sortedL (l : List (Int × Int)) : List (Int × Int) := l.mergeSort fun x y => !(ltOf cmpF) y x
/-- .. each once -/
def sortF (l : List (Int × Int)) : List (Int × Int) := compactUpTo (sortedL l).toArray (sortedL l).length
theorem sortedL_length (l : List (Int × Int)) : (sortedL l).length = l.length := by unfold sortedL; exact List.length_mergeSort _
theorem sortFunc_calls (b M c : Nat) (d : Array (Int × Int)) (w : World) (h : RowHas w b M d) (hsz : d.size < 4611686018427387904) :
    Calls Try.prog 44 #[.slice (some ⟨b, 0, none⟩) d.size c, .func (.func 26) #[] #[]] w fun e w' =>
      e = .returned (.tuple #[]) ∧ RowHas w' b M (sortedL d.toList).toArray ∧ ∀ base, base ≤ b → base ≤ w.heap.size → RowKit.Below base w w' := by
  have eg : ∀ args w, (callFunc 26 args).run Try.prog w = .ok (.enter 26 args) w := enters_of Try.func26 (by kernel_rfl) rfl
  have hcon := AnyQ.slices_SortFunc_total Try.sortKey 2 Try.isAgg29 Try.sizeOf29 keyCells (fun _ => rfl) (fun x v hv => by simp [keyCells] at hv; rcases hv with rfl | rfl <;> rfl) cmpF kLt_swo 26 #[] b 0 c d w eg (cmpLays b 0 d.size w) h.holds h.lt hsz kLt_total
  change Calls Try.prog 44 _ _ _ at hcon
  refine hcon.mono ?_
  rintro e w' ⟨rfl, n, os, rfl⟩
  exact ⟨rfl, h.sorted (by simp), fun base h1 h2 => below_sorted h1 h2⟩
theorem infoKey : (Try.prog.info? 29).map (fun i => (i.zero, i.size, i.bytes)) = some (some (.agg #[.int .i64 0, .int .i64 0]), 2, 16) := by kernel_rfl
/-- a list of keys that a call reads, its address written out -/
def ListAt (w : World) (A : Option Addr) (l : List (Int × Int)) : Prop :=
  (A = none ∧ l = []) ∨ ∃ b o, A = some ⟨b, o, none⟩ ∧ ∀ j, j < l.length → w.cell? ⟨b, o + j * 2, none⟩ = some (.int .i64 l[j]!.1) ∧ w.cell? ⟨b, o + j * 2 + 1, none⟩ = some (.int .i64 l[j]!.2)
theorem ListAt.below {w w' : World} {A : Option Addr} {l : List (Int × Int)} (h : ListAt w A l) (hb : RowKit.Below w.heap.size w w') : ListAt w' A l := by
  rcases h with h | ⟨b, o, rfl, h⟩
  · exact .inl h
  · refine .inr ⟨b, o, rfl, fun j hj => ?_⟩
    obtain ⟨h1, h2⟩ := h j hj
    have hlt := World.block_lt_of_cell? w _ h1
    exact ⟨(hb.cell (p := ⟨b, o + j * 2, none⟩) hlt).trans h1, (hb.cell (p := ⟨b, o + j * 2 + 1, none⟩) hlt).trans h2⟩
theorem clone_calls (b o c : Nat) (l : List (Int × Int)) (w : World) (hl : l.length < 8796093022208) (h : ∀ j, j < l.length → w.cell? ⟨b, o + j * 2, none⟩ = some (.int .i64 l[j]!.1) ∧ w.cell? ⟨b, o + j * 2 + 1, none⟩ = some (.int .i64 l[j]!.2)) :
    Calls Try.prog 34 #[.slice (some ⟨b, o, none⟩) l.length c] w fun e w' =>
      (∃ g cap, e = .returned (.slice (some ⟨g, 0, none⟩) l.length cap) ∧ w.heap.size ≤ g ∧ l.length ≤ cap ∧ RowHas w' g (cap * 2) l.toArray) ∧ RowKit.Below w.heap.size w w' := by
  obtain ⟨i0, ih, iz0, iz1, iz2⟩ := info_parts infoKey
  have hs : (flatK keyCells 2 l.toArray).size = l.length * 2 := by simp
  have hg : ∀ t u, (flatK keyCells 2 l.toArray).toList[t]? = some u → t < l.length * 2 ∧ u = (if t % 2 = 0 then .int .i64 l[t / 2]!.1 else .int .i64 l[t / 2]!.2) := by
    intro t u hu
    rw [Array.getElem?_toList] at hu
    obtain ⟨h1, h2⟩ := Array.getElem?_eq_some_iff.mp hu
    have hlt : t < l.toArray.size * 2 := by simpa using h1
    refine ⟨by simpa using hlt, ?_⟩
    have := flat_get l.toArray t hlt
    rw [getElem!_pos (flatK keyCells 2 l.toArray) t h1, h2] at this
    simpa using this
  have hcon := AnyE.slices_Clone Try.cloneKey i0 (.agg #[.int .i64 0, .int .i64 0]) 2 16 ih iz0 iz1 iz2 rfl (by decide) Try.sizeOf29 b o l.length c (flatK keyCells 2 l.toArray).toList w (by rw [Array.length_toList, hs]) (by unfold maxLen; omega) (by omega) (fun t u hu => ?_) (fun u hu => ?_)
  · change Calls Try.prog 34 _ _ _ at hcon
    refine hcon.mono ?_
    rintro e w' ⟨v, rfl, hown, hne, hbel⟩
    refine ⟨?_, hbel⟩
    rcases hown.2 with ⟨hv, _⟩ | ⟨g, cap, cur, rfl, hb, hh, hn, hm, hcs, ht⟩
    · exact absurd hv hne
    · refine ⟨g, cap, rfl, hb, hn, fun t => cur.getD t default, ⟨cur, hh, hcs, fun t ht => ?_⟩, by simp; omega, fun j hj => ?_⟩
      · show cur[t]? = some (cur.getD t default)
        rw [Array.getD_eq_getD_getElem?, Array.getElem?_eq_getElem (by omega)]
        rfl
      · have hj' : j < l.length := by simpa using hj
        have key : ∀ t, t < l.length * 2 → cur.getD t default = (if t % 2 = 0 then .int .i64 l[t / 2]!.1 else .int .i64 l[t / 2]!.2) := by
          intro t htt
          have e1 : (flatK keyCells 2 l.toArray).toList[t]? = some (cur.getD t default) := by
            rw [← ht, List.getElem?_take_of_lt htt, Array.getElem?_toList, Array.getD_eq_getD_getElem?, Array.getElem?_eq_getElem (by omega)]
            rfl
          exact (hg t _ e1).2
        refine ⟨?_, ?_⟩
        · show cur.getD (j * 2) default = _
          rw [key _ (by omega), if_pos (by omega), show j * 2 / 2 = j by omega]
          simp
        · show cur.getD (j * 2 + 1) default = _
          rw [key _ (by omega), if_neg (by omega), show (j * 2 + 1) / 2 = j by omega]
          simp
  · obtain ⟨h1, rfl⟩ := hg t u hu
    obtain ⟨c1, c2⟩ := h (t / 2) (by omega)
    rcases Nat.mod_two_eq_zero_or_one t with e | e
    · rw [if_pos e, show o + t = o + t / 2 * 2 by omega]
      exact c1
    · rw [if_neg (by omega), show o + t = o + t / 2 * 2 + 1 by omega]
      exact c2
  · obtain ⟨t, ht, rfl⟩ := List.mem_iff_getElem.mp hu
    have := (hg t _ (List.getElem?_eq_getElem ht)).2
    rw [this]
    split <;> rfl
theorem ListAt.keys {w : World} {A : Option Addr} {l : List (Int × Int)} (h : ListAt w A l) (h0 : 0 < l.length) : ∃ ad, A = some ad ∧ KeysAt w ad l := by
  rcases h with ⟨_, rfl⟩ | ⟨b, o, rfl, h⟩
  · simp at h0
  · refine ⟨_, rfl, ?_, fun j hj i v hv => ?_⟩
    · exact World.block_lt_of_cell? w _ (h 0 h0).1
    · obtain ⟨h1, h2⟩ := h j hj
      rw [Addr.add_lit]
      match i, hv with
      | 0, hv => rw [← Option.some.inj hv]; exact h1
      | 1, hv => rw [← Option.some.inj hv]; exact h2
/-- a list of keys in memory of its own -/
def OwnKeys (w : World) (base : Nat) (v : Value) (r : List (Int × Int)) : Prop :=
  (v = .slice none 0 0 ∧ r = []) ∨ ∃ g c M, v = .slice (some ⟨g, 0, none⟩) r.length c ∧ base ≤ g ∧ r.length ≤ c ∧ c * 2 ≤ M ∧ RowHas w g M r.toArray
theorem compact_short (A : Option Addr) (n c : Nat) (w : World) (h : n < 2) : Calls Try.prog 46 #[.slice A n c] w fun e w' => e = .returned (.slice A n c) ∧ w' = w := by
  have h2 : (n : Int) < 2 := by omega
  go_enter Try.func46, Try.ntmps46
  go_wp2
  go_ret
  exact ⟨rfl, rfl⟩
theorem clip_calls (A : Option Addr) (n c : Nat) (w : World) (h : n ≤ c) (hb : n ≤ 9223372036854775807) : Calls Try.prog 45 #[.slice A n c] w fun e w' => e = .returned (.slice A n n) ∧ w' = w := by
  go_enter Try.func45, Try.ntmps45
  go_wp2
  go_ret
  exact ⟨rfl, rfl⟩
theorem sortF_length (l : List (Int × Int)) : (sortF l).length ≤ l.length := by
  unfold sortF compactUpTo
  rw [List.length_map]
  have := List.length_filter_le (keeps (sortedL l).toArray) (List.range (sortedL l).length)
  rw [List.length_range, sortedL_length] at this
  rw [sortedL_length]
  exact this
set_option maxHeartbeats 4000000 in
set_option maxRecDepth 100000 in
theorem sort_calls (A : Option Addr) (c : Nat) (l : List (Int × Int)) (w : World) (hl : l.length < 8796093022208) (hc : l.length ≤ c) (h : ListAt w A l) :
    Calls Try.prog 30 #[.slice A l.length c] w fun e w' => ∃ v, e = .returned (.tuple #[v, .int .i64 (if soundF l = true then 0 else 20)]) ∧ OwnKeys w' w.heap.size v (if soundF l = true then sortF l else []) ∧ RowKit.Below w.heap.size w w' := by
  have H := Lib.hid h
  clear h
  cases hs : soundF l with
  | false =>
    go_enter Try.func30, Try.ntmps30
    go_wp2_with fail
    refine (sound_calls A l.length c l _ rfl (by omega) H.out.keys).mono ?_
    rintro e w1 ⟨rfl, hb1⟩
    rw [hs]
    go_wp2_with fail
    go_ret2
    exact ⟨_, rfl, .inl ⟨rfl, rfl⟩, hb1⟩
  | true =>
    go_enter Try.func30, Try.ntmps30
    go_wp2_with fail
    refine (sound_calls A l.length c l _ rfl (by omega) H.out.keys).mono ?_
    rintro e w1 ⟨rfl, hb1⟩
    rw [hs]
    have B1 := Lib.hid hb1
    have H1 := Lib.hid (H.out.below hb1)
    clear hb1
    have z1 := B1.out.size
    rcases H.out with ⟨hA, hnil⟩ | ⟨b, o, hA, _⟩
    · subst hA
      subst hnil
      have hcl := AnyE.slices_Clone_nil Try.cloneKey 0 c w1
      change Calls Try.prog 34 _ _ _ at hcl
      go_wp2_with fail
      refine hcl.mono ?_
      rintro e w2 ⟨rfl, rfl⟩
      have hsf := AnyF.slices_SortFunc_none Try.sortKey none 0 (.func (.func 26) #[] #[]) w2
      change Calls Try.prog 44 _ _ _ at hsf
      go_wp2_with fail
      refine hsf.mono ?_
      rintro e w3 ⟨rfl, rfl⟩
      go_wp2_with fail
      refine (compact_short none 0 0 w3 (by omega)).mono ?_
      rintro e w4 ⟨rfl, rfl⟩
      go_wp2_with fail
      refine (clip_calls none 0 0 w4 (by omega) (by omega)).mono ?_
      rintro e w5 ⟨rfl, rfl⟩
      go_wp2_with fail
      go_ret2
      exact ⟨_, rfl, .inl ⟨rfl, by simp [sortF, sortedL, compactUpTo]⟩, B1.out⟩
    · subst hA
      have hcells : Hid (∀ j, j < l.length → w1.cell? ⟨b, o + j * 2, none⟩ = some (.int .i64 l[j]!.1) ∧ w1.cell? ⟨b, o + j * 2 + 1, none⟩ = some (.int .i64 l[j]!.2)) := Lib.hid (by
        rcases H1.out with ⟨h, _⟩ | ⟨b', o', h, hh⟩
        · cases h
        · cases h; exact hh)
      go_wp2_with fail
      refine (clone_calls b o c l w1 hl hcells.out).mono ?_
      rintro e w2 ⟨⟨g, cap, rfl, hg, hcap, hrow⟩, hb2⟩
      have B2 : Hid (RowKit.Below w.heap.size w w2) := Lib.hid (B1.out.trans (hb2.mono z1))
      have z2 := B2.out.size
      have R2 := Lib.hid hrow
      clear hrow hb2
      go_wp2_with fail
      refine (sortFunc_calls g (cap * 2) cap l.toArray w2 R2.out (by simp; omega)).mono ?_
      rintro e w3 ⟨rfl, hrow, hb3⟩
      have B3 : Hid (RowKit.Below w.heap.size w w3) := Lib.hid (B2.out.trans (hb3 w.heap.size (by omega) z2))
      have R3 : Hid (RowHas w3 g (cap * 2) (sortedL l).toArray) := Lib.hid hrow
      have hsl := sortedL_length l
      clear hrow hb3
      go_wp2_with fail
      have hco := compact_calls g (cap * 2) cap w.heap.size (sortedL l).toArray w3 R3.out (by simp; omega) (by simp; omega) (by omega)
      rw [show (sortedL l).toArray.size = l.length by simp [hsl]] at hco
      refine hco.mono ?_
      rintro e w4 ⟨rfl, hb4, hrow⟩
      have hse : compactUpTo (sortedL l).toArray l.length = sortF l := by unfold sortF; rw [hsl]
      rw [hse] at hrow ⊢
      have B4 : Hid (RowKit.Below w.heap.size w w4) := Lib.hid (B3.out.trans hb4)
      have R4 := Lib.hid hrow
      have hle : (sortF l).length * 2 ≤ cap * 2 := by obtain ⟨_, _, h, _⟩ := hrow; simpa using h
      have hsf := sortF_length l
      clear hrow hb4 hco hse
      go_wp2_with fail
      refine (clip_calls (some ⟨g, 0, none⟩) (sortF l).length cap w4 (by omega) (by omega)).mono ?_
      rintro e w5 ⟨rfl, rfl⟩
      go_wp2_with fail
      go_ret2
      exact ⟨_, rfl, .inr ⟨g, _, cap * 2, rfl, by omega, Nat.le_refl _, hle, R4.out⟩, B4.out⟩
end Go.Proofs.Ytbmfldoobkeieaa.KForm
