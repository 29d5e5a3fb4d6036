/- The place that Parse names: the law KeysTextPlace. Plain. -/
import Derived.Test.YtbmfldoobkeieaaDoorPureTxt3
namespace Go.Proofs.YtbmfldoobkeieaaDoor.PureTxB
open Go.RowKit Go.Proofs.YtbmfldoobkeieaaDoor.KSpan Go.Proofs.YtbmfldoobkeieaaDoor.KForm Go.Proofs.YtbmfldoobkeieaaDoor.GTxB Go.Proofs.YtbmfldoobkeieaaDoorW.PrintWords Go.Proofs.YtbmfldoobkeieaaDoorW.PrintLast
set_option linter.unusedVariables false
set_option linter.unusedSimpArgs false

/-- two texts agree in their first n bytes -/
def Agree (n : Nat) (s u : ByteArray) : Prop := n ≤ s.size ∧ n ≤ u.size ∧ s.data.toList.take n = u.data.toList.take n
theorem Agree.get {n : Nat} {s u : ByteArray} (h : Agree n s u) {i : Nat} (hi : i < n) : s.data.toList[i]? = u.data.toList[i]? := by
  have := congrArg (fun l => l[i]?) h.2.2
  simp only [List.getElem?_take, hi, if_true] at this
  exact this
theorem Agree.bt {n : Nat} {s u : ByteArray} (h : Agree n s u) {i : Nat} (hi : i < n) : bt s i = bt u i := by
  have h1 : i < s.size := Nat.lt_of_lt_of_le hi h.1
  have h2 : i < u.size := Nat.lt_of_lt_of_le hi h.2.1
  have e1 : s.data.toList[i]? = some s[i] := by rw [Array.getElem?_toList]; exact Array.getElem?_eq_getElem h1
  have e2 := bt_list u i s[i] (by rw [← h.get hi]; exact e1)
  rw [e2.2, bt_nat s i h1]
theorem Agree.dig {n : Nat} {s u : ByteArray} (h : Agree n s u) {i : Nat} (hi : i < n) : dig s i = dig u i := by
  have h1 : i < s.size := Nat.lt_of_lt_of_le hi h.1
  have h2 : i < u.size := Nat.lt_of_lt_of_le hi h.2.1
  unfold KSpan.dig
  rw [h.bt hi]
  simp [h1, h2]
theorem Agree.seg {n : Nat} {s u : ByteArray} (h : Agree n s u) {i j : Nat} (hj : j ≤ n) : seg s i j = seg u i j := by
  rw [seg_eq, seg_eq]
  apply List.ext_getElem?
  intro k
  rw [List.getElem?_take, List.getElem?_take, List.getElem?_drop, List.getElem?_drop]
  by_cases c : k < j - i
  · rw [if_pos c, if_pos c, h.get (by omega)]
  · rw [if_neg c, if_neg c]
theorem Agree.span_in {n : Nat} {s u : ByteArray} (h : Agree n s u) (d : Nat) : ∀ i, n - i = d → i + span s i < n → span u i = span s i := by
  induction d with
  | zero => intro i h1 h2; omega
  | succ d ih =>
    intro i h1 h2
    cases hd : KSpan.dig s i
    · rw [span_zero hd, span_zero (by rw [← h.dig (by omega), hd])]
    · rw [span_pos hd] at h2 ⊢
      rw [span_pos (by rw [← h.dig (by omega), hd]), ih (i + 1) (by omega) (by omega)]
theorem Agree.span {n : Nat} {s u : ByteArray} (h : Agree n s u) (i : Nat) (hi : i + span s i < n) : KSpan.span u i = KSpan.span s i := h.span_in _ i rfl hi
theorem Agree.end_in {n : Nat} {s u : ByteArray} (h : Agree n s u) (hu : u.size = n) (d : Nat) : ∀ i, n - i = d → i ≤ n → n ≤ i + KSpan.span s i → KSpan.span u i = n - i := by
  induction d with
  | zero =>
    intro i h1 h2 h3
    rw [span_zero]
    · omega
    · cases hd : KSpan.dig u i
      · rfl
      · have := dig_lt hd; omega
  | succ d ih =>
    intro i h1 h2 h3
    cases hd : KSpan.dig s i
    · rw [span_zero hd] at h3; omega
    · rw [span_pos hd] at h3
      rw [span_pos (by rw [← h.dig (by omega), hd]), ih (i + 1) (by omega) (by omega) (by omega)]
      omega
theorem Agree.span_end {n : Nat} {s u : ByteArray} (h : Agree n s u) (hu : u.size = n) (i : Nat) (hi : i ≤ n) (hn : n ≤ i + KSpan.span s i) : KSpan.span u i = n - i := h.end_in hu _ i rfl hi hn

/-- what the law says of one text: where Parse names a place of a wrong byte -/
def Placed (s : ByteArray) (x : Int × Int × Int × Int) : Prop := x.2.2.2 = 40 → ∃ p : Nat, x.2.2.1 = p ∧ p ≤ s.size ∧
  (∀ u, Agree (p + 1) s u → (parseF u).2.2.2 = 40 ∧ (parseF u).2.2.1 = p) ∧ (∀ u, Agree p s u → u.size = p → (parseF u).2.2.2 = 0 ∨ ((parseF u).2.2.2 = 40 ∧ (parseF u).2.2.1 = p))
theorem minus_same {s u : ByteArray} {E n f : Nat} {mi : Bool} (h : Agree n s u) (hmi : mi = decide (E + 1 < s.size ∧ bt s (E + 1 : Nat) = 45)) (hn : E + 1 < n) : mi = decide (E + 1 < u.size ∧ bt u (E + 1 : Nat) = 45) := by
  have h1 : E + 1 < s.size := Nat.lt_of_lt_of_le hn h.1
  have h2 : E + 1 < u.size := Nat.lt_of_lt_of_le hn h.2.1
  rw [hmi, h.bt hn]
  simp [h1, h2]
theorem parse_placed (s : ByteArray) : Placed s (parseF s) := by
  have hsp := span_size s 0 (by omega)
  refine parse_elim s (Placed s) ?_ ?_ ?_ ?_ ?_ ?_ ?_ ?_ ?_
  · -- no digit
    intro h _
    refine ⟨0, rfl, by omega, fun u hu => ?_, fun u hu hz => ?_⟩
    · have : span u 0 = 0 := by rw [hu.span 0 (by omega), h]
      rw [parse_0 this.symm]; exact ⟨rfl, rfl⟩
    · have : span u 0 = 0 := by rw [hu.span_end hz 0 (by omega) (by omega)]
      rw [parse_0 this.symm]; exact .inr ⟨rfl, rfl⟩
  · -- a leading 0
    intro E hE h0 h1 _
    refine ⟨1, rfl, by omega, fun u hu => ?_, fun u hu hz => ?_⟩
    · have hb : bt u 0 = 48 := by rw [show bt u 0 = bt u (0 : Nat) from rfl, ← hu.bt (by omega)]; exact h1.1
      have d0 : dig u 0 = true := by rw [← hu.dig (by omega)]; have := span_dig (s := s) (i := 0) (j := 0) (by omega); rwa [Nat.add_zero] at this
      have d1 : dig u 1 = true := by rw [← hu.dig (by omega)]; have := span_dig (s := s) (i := 0) (j := 1) (by omega); rwa [Nat.zero_add] at this
      have e1 := span_pos d0
      have e2 := span_pos d1
      rw [parse_1 (E := span u 0) rfl (by omega) ⟨hb, by rw [Nat.zero_add] at e1; omega⟩]; exact ⟨rfl, rfl⟩
    · have e1 : span u 0 = 1 := by rw [hu.span_end hz 0 (by omega) (by omega)]
      have hb : bt u 0 = 48 := by rw [show bt u 0 = bt u (0 : Nat) from rfl, ← hu.bt (by omega)]; exact h1.1
      have hv : dval (seg u 0 1) = 0 := by
        rw [← hu.seg (by omega), seg_one s 0 (by omega)]
        have : bt s 0 = 48 := h1.1
        rw [show bt s 0 = bt s (0 : Nat) from rfl, bt_nat s 0 (by omega)] at this
        unfold dval
        rw [dvalFrom_cons, dvalFrom_nil]
        omega
      rw [parse_3 e1.symm (by omega) (by omega) (by rw [hv]; omega) (.inl (by omega))]
      exact .inr ⟨rfl, rfl⟩
  · intro E _ _ _ _ h; cases h
  · -- no colon
    intro E hE h0 h1 h2 h3 _
    refine ⟨E, rfl, by omega, fun u hu => ?_, fun u hu hz => ?_⟩
    · have e1 : span u 0 = E := by rw [hu.span 0 (by omega), hE]
      have hb : bt u 0 = bt s 0 := (hu.bt (i := 0) (by omega)).symm
      have hs : ¬ s.size ≤ E := by have := hu.1; omega
      rw [parse_3 e1.symm h0 (by rw [hb]; exact h1) (by rw [← hu.seg (by omega)]; exact h2) (.inr (by rw [← hu.bt (by omega)]; exact h3.resolve_left hs))]
      exact ⟨rfl, rfl⟩
    · have e1 : span u 0 = E := by rw [hu.span_end hz 0 (by omega) (by omega)]; rfl
      have hb : bt u 0 = bt s 0 := (hu.bt (i := 0) (by omega)).symm
      rw [parse_3 e1.symm h0 (by rw [hb]; exact h1) (by rw [← hu.seg (by omega)]; exact h2) (.inl (by omega))]
      exact .inr ⟨rfl, rfl⟩
  · -- no digit behind the colon, or 0 behind a minus
    intro E mi f hE h0 h1 h2 h3 hmi hf h4 _
    have hm : mi = true → f = E + 2 ∧ E + 1 < s.size := fun h => ⟨by rw [hf, if_pos h], by rw [hmi] at h; exact (of_decide_eq_true h).1⟩
    have hn : mi = false → f = E + 1 := fun h => by rw [hf, if_neg (by rw [h]; simp)]
    have hfE : E + 1 ≤ f := by cases h : mi; have := hn h; omega; have := hm h; omega
    have hfs : f ≤ s.size := by cases h : mi; have := hn h; omega; have := hm h; omega
    have front : ∀ u n, Agree n s u → E < n → (bt u 0 = bt s 0) ∧ span u 0 = E ∧ (¬ (u.size ≤ E ∨ bt u E ≠ 58)) := by
      intro u n hu hn2
      refine ⟨(hu.bt (i := 0) (by omega)).symm, by rw [hu.span 0 (by omega), hE], ?_⟩
      have := hu.2.1
      rw [← hu.bt (by omega)]
      rintro (h | h)
      · omega
      · exact h3 (.inr h)
    refine ⟨f, rfl, hfs, fun u hu => ?_, fun u hu hz => ?_⟩
    · obtain ⟨hb, e1, h3'⟩ := front u _ hu (by omega)
      have hmi' := minus_same (f := f) hu hmi (by omega)
      rw [parse_4 e1.symm h0 (by rw [hb]; exact h1) (by rw [← hu.seg (by omega)]; exact h2) h3' f (by rw [← hmi', hf]) (by
        rw [← hmi', ← hu.bt (by omega)]
        rcases h4 with h | h
        · exact .inl (by rw [hu.span f (by omega), h])
        · exact .inr h)]
      exact ⟨rfl, rfl⟩
    · obtain ⟨hb, e1, h3'⟩ := front u _ hu (by omega)
      have hmi' : mi = decide (E + 1 < u.size ∧ bt u (E + 1 : Nat) = 45) := by
        cases h : mi
        · have := hn h
          rw [decide_eq_false (by omega)]
        · have := hm h
          rw [← h]
          exact minus_same (f := f) hu hmi (by omega)
      rw [parse_4 e1.symm h0 (by rw [hb]; exact h1) (by rw [← hu.seg (by omega)]; exact h2) h3' f (by rw [← hmi', hf]) (.inl (by rw [hu.span_end hz f (by omega) (by omega)]; omega))]
      exact .inr ⟨rfl, rfl⟩
  · -- a leading 0 behind the colon
    intro E mi f hE h0 h1 h2 h3 hmi hf h4 h5 _
    have hmf : mi = false := by
      cases h : mi
      · rfl
      · exact absurd (.inr ⟨h, h5.1⟩) h4
    have hfE : f = E + 1 := by rw [hf, hmf]; simp
    have dg : dig s f = true := by have := span_dig (s := s) (i := f) (j := 0) (by omega); rwa [Nat.add_zero] at this
    have dg1 : dig s (f + 1) = true := span_dig (s := s) (i := f) (j := 1) (by omega)
    have hlt := dig_lt dg1
    have front : ∀ u n, Agree n s u → f < n → (bt u 0 = bt s 0) ∧ span u 0 = E ∧ (¬ (u.size ≤ E ∨ bt u E ≠ 58)) := by
      intro u n hu hn2
      refine ⟨(hu.bt (i := 0) (by omega)).symm, by rw [hu.span 0 (by omega), hE], ?_⟩
      have := hu.2.1
      rw [← hu.bt (by omega)]
      rintro (h | h)
      · omega
      · exact h3 (.inr h)
    refine ⟨f + 1, by simp, by omega, fun u hu => ?_, fun u hu hz => ?_⟩
    · obtain ⟨hb, e1, h3'⟩ := front u _ hu (by omega)
      have hmi' := minus_same (f := f) hu hmi (by omega)
      have d0 : dig u f = true := by rw [← hu.dig (by omega)]; exact dg
      have d1 : dig u (f + 1) = true := by rw [← hu.dig (by omega)]; exact dg1
      have x1 := span_pos d0
      have x2 := span_pos d1
      rw [parse_5 e1.symm h0 (by rw [hb]; exact h1) (by rw [← hu.seg (by omega)]; exact h2) h3' f (by rw [← hmi', hf]) (by
        rw [← hmi', hmf]
        rintro (h | h)
        · omega
        · cases h.1) ⟨by rw [← hu.bt (by omega)]; exact h5.1, by omega⟩]
      exact ⟨rfl, by simp⟩
    · obtain ⟨hb, e1, h3'⟩ := front u _ hu (by omega)
      have hmi' := minus_same (f := f) hu hmi (by omega)
      have sp : span u f = 1 := by rw [hu.span_end hz f (by omega) (by omega)]; omega
      have hv : dval (seg u f (f + span u f)) = 0 := by
        rw [sp, ← hu.seg (by omega), seg_one s f (by omega)]
        have : bt s f = 48 := h5.1
        rw [bt_nat s f (by omega)] at this
        unfold dval
        rw [dvalFrom_cons, dvalFrom_nil]
        omega
      rw [parse_8 e1.symm h0 (by rw [hb]; exact h1) (by rw [← hu.seg (by omega)]; exact h2) h3' f (by rw [← hmi', hf]) (by
        rw [← hmi', hmf]
        rintro (h | h)
        · omega
        · cases h.1) (by omega) (by rw [hv]; rintro (⟨_, h⟩ | ⟨_, h⟩) <;> omega) (by omega)]
      exact .inl rfl
  · intro E mi f _ _ _ _ _ _ _ _ _ h; cases h
  · -- more behind the number
    intro E mi f hE h0 h1 h2 h3 hmi hf h4 h5 h6 h7 _
    have hfE : E + 1 ≤ f := by rw [hf]; split <;> omega
    have hs0 : ¬ span s f = 0 := fun h => h4 (.inl h)
    have front : ∀ u n, Agree n s u → f < n → (bt u 0 = bt s 0) ∧ span u 0 = E ∧ (¬ (u.size ≤ E ∨ bt u E ≠ 58)) := by
      intro u n hu hn2
      refine ⟨(hu.bt (i := 0) (by omega)).symm, by rw [hu.span 0 (by omega), hE], ?_⟩
      have := hu.2.1
      rw [← hu.bt (by omega)]
      rintro (h | h)
      · omega
      · exact h3 (.inr h)
    refine ⟨f + span s f, rfl, by omega, fun u hu => ?_, fun u hu hz => ?_⟩
    · obtain ⟨hb, e1, h3'⟩ := front u _ hu (by omega)
      have hmi' := minus_same (f := f) hu hmi (by omega)
      have sp : span u f = span s f := hu.span f (by omega)
      rw [parse_7 e1.symm h0 (by rw [hb]; exact h1) (by rw [← hu.seg (by omega)]; exact h2) h3' f (by rw [← hmi', hf]) (by rw [← hmi', sp, ← hu.bt (by omega)]; exact h4) (by rw [sp, ← hu.bt (by omega)]; exact h5)
        (by rw [← hmi', sp, ← hu.seg (by omega)]; exact h6) (by have := hu.2.1; omega), sp]
      exact ⟨rfl, rfl⟩
    · obtain ⟨hb, e1, h3'⟩ := front u _ hu (by omega)
      have hmi' := minus_same (f := f) hu hmi (by omega)
      have sp : span u f = span s f := by rw [hu.span_end hz f (by omega) (by omega)]; omega
      rw [parse_8 e1.symm h0 (by rw [hb]; exact h1) (by rw [← hu.seg (by omega)]; exact h2) h3' f (by rw [← hmi', hf]) (by rw [← hmi', sp, ← hu.bt (by omega)]; exact h4) (by rw [sp, ← hu.bt (by omega)]; exact h5)
        (by rw [← hmi', sp, ← hu.seg (by omega)]; exact h6) (by omega)]
      exact .inl rfl
  · intro E mi f _ _ _ _ _ _ _ _ _ _ _ h; cases h

theorem agree_ext (s : ByteArray) (n : Nat) (h : n ≤ s.size) : Agree n s (s.extract 0 n) := by
  have e := ext_size s 0 n (by omega) h
  refine ⟨h, by omega, ?_⟩
  rw [ByteArray.data_extract, Array.toList_extract]
  simp [List.take_take]
theorem agree_join (s u : ByteArray) (n : Nat) (h : n ≤ s.size) : Agree n s (s.extract 0 n ++ u) := by
  have e := ext_size s 0 n (by omega) h
  refine ⟨h, by rw [ByteArray.size_append]; omega, ?_⟩
  rw [ByteArray.data_append, Array.toList_append, ByteArray.data_extract, Array.toList_extract]
  have : (s.data.toList.take n).length = n := by rw [List.length_take, Array.length_toList]; have : s.data.size = s.size := rfl; omega
  simp [List.take_append, this]
theorem keysTextPlace (s u : ByteArray) (hs : s.size ≤ 140737488351232) (hu : u.size ≤ 140737488351232) : ∃ k, preludelaw02_KeysTextPlace.f k s u = some true := by
  refine ⟨3, ?_⟩
  unfold preludelaw02_KeysTextPlace.f
  have hp : preludelaw02_plain.f = some true := rfl
  rw [hp, pf s (by omega)]
  simp only [Option.bind_some, if_true, num_f]
  rcases parse_cases s with ⟨a, b, e, _⟩ | ⟨p, c, e, p0, p1, hc⟩
  · rw [e]
    simp only
    rw [if_pos trivial]
  · rw [e]
    simp only
    rw [if_neg (by omega)]
    have hpl := parse_placed s
    rw [e] at hpl
    rcases hc with rfl | rfl
    · obtain ⟨q, hq, hqs, hA, hB⟩ := hpl rfl
      simp only at hq
      subst hq
      have en := ext_size s 0 q (by omega) hqs
      rw [if_pos rfl, if_neg (by omega), decide_eq_false (by omega), preludelaw02_KeysTextPlace.j0, if_neg (by simp)]
      simp only [num_f, Option.bind_some]
      rw [if_pos trivial]
      have tail : ((if (parseF (s.extract 0 q)).2.2.2 = 0 then some true else if (parseF (s.extract 0 q)).2.2.2 = 40 then some ((parseF (s.extract 0 q)).2.2.1 == (q : Int)) else some false) : Option Bool) = some true := by
        rcases hB _ (agree_ext s q hqs) (by omega) with h | ⟨h, h'⟩
        · rw [if_pos h]
        · rw [h, if_neg (by omega), if_pos rfl, h']
          simp
      by_cases c : (q : Int) < (s.size : Int)
      · have e1 := ext_size s 0 (q + 1) (by omega) (by omega)
        have hw : wrap64 ((q : Int) + 1) = ((q + 1 : Nat) : Int) := by unfold wrap64; omega
        have hz : ((s.extract 0 (q + 1)) ++ u).size ≤ 281474976710656 := by rw [ByteArray.size_append]; omega
        have hA' := hA _ (agree_join s u (q + 1) (by omega))
        rw [if_pos c, hw, if_pos (by omega), if_pos (by omega), Int.toNat_natCast, if_pos (by omega), pf _ hz]
        simp only [num_f, Option.bind_some]
        rw [if_pos hA'.1, hA'.2, show ((q : Int) != (q : Int)) = false by simp, preludelaw02_KeysTextPlace.j1, if_neg (by simp), if_pos (by omega), if_pos (by omega), Int.toNat_natCast, pf (s.extract 0 q) (by omega)]
        simp only [num_f, Option.bind_some]
        exact tail
      · rw [if_neg c, if_pos (by omega), if_pos (by omega), Int.toNat_natCast, pf (s.extract 0 q) (by omega)]
        simp only [num_f, Option.bind_some]
        exact tail
    · rw [if_neg (by omega), if_pos rfl, if_neg (by omega), decide_eq_false (by omega), preludelaw02_KeysTextPlace.j0, if_neg (by simp)]
      simp only [num_f, Option.bind_some]
      rw [if_neg (by omega)]
end Go.Proofs.YtbmfldoobkeieaaDoor.PureTxB
