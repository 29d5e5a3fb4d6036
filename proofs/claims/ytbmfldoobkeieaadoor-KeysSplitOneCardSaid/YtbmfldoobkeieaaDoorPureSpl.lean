/- The law KeysSplitOne. Plain. -/
import Derived.Test.YtbmfldoobkeieaaDoorGSplx2
namespace Go.Proofs.YtbmfldoobkeieaaDoor.PureSpl
open Go.RowKit Go.Proofs.YtbmfldoobkeieaaDoor.KForm Go.Proofs.YtbmfldoobkeieaaDoor.GSpl Go.Proofs.YtbmfldoobkeieaaDoorW.PrintWords Go.Proofs.YtbmfldoobkeieaaDoorW.PrintLast
set_option linter.unusedVariables false
set_option linter.unusedSimpArgs false

theorem hstep_bounds (h x : Int) : 0 ≤ hstep h x ∧ hstep h x < 18446744073709551616 := by
  unfold hstep
  rw [IntKind.wrap_u64]
  omega
theorem hashU_bounds (t u : Int) : 0 ≤ hashU t u ∧ hashU t u < 18446744073709551616 := by
  unfold hashU hash10
  exact hstep_bounds _ _
/-- a key's partition, of n -/
def part (n : Nat) (x : S35) : Nat := (hashU x.f0 (ux x.f1) % (n : Int)).toNat
theorem part_lt (n : Nat) (hn : 1 ≤ n) (x : S35) : part n x < n := by
  unfold part
  have := hashU_bounds x.f0 (ux x.f1)
  have h1 := Int.emod_nonneg (hashU x.f0 (ux x.f1)) (show (n : Int) ≠ 0 by omega)
  have h2 := Int.emod_lt_of_pos (hashU x.f0 (ux x.f1)) (show (0 : Int) < n by omega)
  omega
/-- the numbers of a key -/
def Wide (x : S35) : Prop := -9223372036854775808 ≤ x.f1 ∧ x.f1 ≤ 9223372036854775807
def isKey (x : S35) : Bool := decide (0 ≤ x.f0 ∧ x.f0 ≤ 65535)
theorem partition_f (n : Nat) (hn : 1 ≤ n) (hn2 : n ≤ 256) (x : S35) (hx : Wide x) (hk : isKey x = true) : keys_Partition.f x.f0 x.f1 n = some ((part n x : Int), 0) := by
  have hk' := of_decide_eq_true hk
  unfold keys_Partition.f keys_Check.f keys_few.f keys_Hash.f hashF
  have hb := hashU_bounds x.f0 (ux x.f1)
  have h1 := Int.emod_nonneg (hashU x.f0 (ux x.f1)) (show (n : Int) ≠ 0 by omega)
  have h2 := Int.emod_lt_of_pos (hashU x.f0 (ux x.f1)) (show (0 : Int) < n by omega)
  have hr : -9223372036854775808 ≤ x.f1 ∧ x.f1 ≤ 9223372036854775807 := hx
  have hw : IntKind.u64.wrap (n : Int) = n := by rw [IntKind.wrap_u64]; omega
  have a1 : ¬ x.f0 < 0 := by omega
  have a2 : ¬ x.f0 > 65535 := by omega
  have a3 : (n : Int) ≥ 1 := by omega
  have a4 : (n : Int) ≤ 256 := by omega
  have a5 : ¬ (n : Int) = 0 := by omega
  rw [if_neg a1, if_neg a2, if_pos a3, if_pos hr, if_pos hk', hw]
  simp only [Option.bind_some, if_true]
  rw [if_pos (decide_eq_true a4), if_neg a5, Int.tmod_eq_emod_of_nonneg hb.1]
  congr 2
  unfold part wrap64
  omega

/-- the lists of the partitions -/
def grp (n : Nat) (l : List S35) : List (List S35) := (List.range n).map fun p => l.filter fun x => part n x == p
theorem grp_length (n : Nat) (l : List S35) : (grp n l).length = n := by unfold grp; simp
theorem grp_get (n : Nat) (l : List S35) (p : Nat) (hp : p < n) : (grp n l)[p]? = some (l.filter fun x => part n x == p) := by
  unfold grp
  rw [List.getElem?_map, List.getElem?_range hp]
  rfl
theorem rd_grp (n : Nat) (l : List S35) (p : Nat) (hp : p < n) : rd_L2 (grp n l) (p : Int) = l.filter fun x => part n x == p := by
  unfold rd_L2
  rw [List.getD_eq_getElem?_getD, Int.toNat_natCast, grp_get n l p hp]
  rfl
theorem take_next (l : List S35) (i : Nat) (h : i < l.length) : l.take (i + 1) = l.take i ++ [l[i]] := by
  rw [List.take_add_one, List.getElem?_eq_getElem h]
  rfl
theorem filter_next (n : Nat) (l : List S35) (i p : Nat) (h : i < l.length) : (l.take (i + 1)).filter (fun x => part n x == p) = (l.take i).filter (fun x => part n x == p) ++ (if part n l[i] = p then [l[i]] else []) := by
  rw [take_next l i h, List.filter_append]
  congr 1
  by_cases c : part n l[i] = p
  · rw [if_pos c, List.filter_cons_of_pos (by simp [c])]
    rfl
  · rw [if_neg c, List.filter_cons_of_neg (by simp [c])]
    rfl
theorem grp_step (n : Nat) (hn : 1 ≤ n) (l : List S35) (i : Nat) (h : i < l.length) :
    (grp n (l.take i)).set (part n l[i]) (rd_L2 (grp n (l.take i)) (part n l[i] : Int) ++ [l[i]]) = grp n (l.take (i + 1)) := by
  have hp := part_lt n hn l[i]
  rw [rd_grp n _ _ hp]
  apply List.ext_getElem?
  intro j
  rw [List.getElem?_set, grp_length]
  by_cases c : part n l[i] = j
  · subst c
    rw [if_pos rfl, if_pos hp, grp_get n _ _ hp, filter_next n l i _ h, if_pos rfl]
  · rw [if_neg c]
    rcases Nat.lt_or_ge j n with hj | hj
    · rw [grp_get n _ j hj, grp_get n _ j hj, filter_next n l i j h, if_neg c, List.append_nil]
    · rw [List.getElem?_eq_none (by rw [grp_length]; exact hj), List.getElem?_eq_none (by rw [grp_length]; exact hj)]
theorem rd_get (l : List S35) (i : Nat) (h : i < l.length) : rd_T35 l (i : Int) = l[i] := by
  unfold rd_T35
  rw [List.getD_eq_getElem?_getD, Int.toNat_natCast, List.getElem?_eq_getElem h]
  rfl
theorem grp_nil (n : Nat) : grp n [] = List.replicate n [] := by
  unfold grp
  apply List.ext_getElem?
  intro j
  rw [List.getElem?_map, List.getElem?_replicate]
  rcases Nat.lt_or_ge j n with hj | hj
  · rw [List.getElem?_range hj, if_pos hj]; rfl
  · rw [List.getElem?_eq_none (by simp; omega), if_neg (by omega)]; rfl

section
variable (n : Nat) (hn : 1 ≤ n) (hn2 : n ≤ 256) (l : List S35) (hw : ∀ x ∈ l, Wide x) (hk : ∀ x ∈ l, isKey x = true) (hl : l.length < 8796093022208)
include hn hn2 hw hk hl
theorem split_val (d : Nat) : ∀ (i k : Nat), i ≤ l.length → l.length - i = d → d < k → keys_Split.l0 k n (grp n (l.take i)) l (l.length : Int) i = some (grp n l, 0) := by
  induction d with
  | zero =>
    intro i k h1 h2 h3
    obtain ⟨k, rfl⟩ : ∃ m, k = m + 1 := ⟨k - 1, by omega⟩
    rw [keys_Split.l0, if_neg (by omega), List.take_of_length_le (by omega)]
  | succ d ih =>
    intro i k h1 h2 h3
    obtain ⟨k, rfl⟩ : ∃ m, k = m + 1 := ⟨k - 1, by omega⟩
    have hlt : i < l.length := by omega
    have hm : l[i] ∈ l := List.getElem_mem hlt
    have hp := part_lt n hn l[i]
    have hz : (rd_L2 (grp n (l.take i)) (part n l[i] : Int)).length < 8796093022208 := by
      rw [rd_grp n _ _ hp]
      have a := List.length_filter_le (fun x => part n x == part n l[i]) (l.take i)
      have b := List.length_take_le i l
      omega
    obtain ⟨bt, hpf, hb1⟩ : ∃ bt, keys_Partition.f l[i].f0 l[i].f1 n = some bt ∧ bt.1 = (part n l[i] : Int) := ⟨_, partition_f n hn hn2 l[i] (hw _ hm) (hk _ hm), rfl⟩
    have hstep := grp_step n hn l i hlt
    generalize part n l[i] = p at hb1 hp hz hstep
    rw [keys_Split.l0, if_pos (by omega), if_pos (by omega), if_pos (by omega), rd_get l i hlt, hpf, Option.bind_some, hb1]
    rw [if_pos (by omega), if_pos (by rw [grp_length]; omega), if_pos hz, Int.toNat_natCast, show wrap64 ((i : Int) + 1) = ((i + 1 : Nat) : Int) by unfold wrap64; omega]
    rw [show (⟨l[i].f0, l[i].f1⟩ : S35) = l[i] from rfl, hstep]
    exact ih (i + 1) k (by omega) (by omega) (by omega)
/-- the counts of what has gone by -/
def cnt (n : Nat) (l : List S35) : List Int := (List.range n).map fun p => ((l.filter fun x => part n x == p).length : Int)
omit hn hn2 hw hk hl in
theorem cnt_length : (cnt n l).length = n := by unfold cnt; simp
omit hn hn2 hw hk hl in
theorem cnt_get (p : Nat) (hp : p < n) : (cnt n l)[p]? = some ((l.filter fun x => part n x == p).length : Int) := by
  unfold cnt
  rw [List.getElem?_map, List.getElem?_range hp]
  rfl
omit hn hn2 hw hk hl in
theorem rd_cnt (p : Nat) (hp : p < n) : rd (cnt n l) (p : Int) = ((l.filter fun x => part n x == p).length : Int) := by
  unfold rd
  rw [List.getD_eq_getElem?_getD, Int.toNat_natCast, cnt_get n l p hp]
  rfl
omit hn2 hw hk hl in
theorem cnt_step (i : Nat) (h : i < l.length) : (cnt n (l.take i)).set (part n l[i]) (rd (cnt n (l.take i)) (part n l[i] : Int) + 1) = cnt n (l.take (i + 1)) := by
  have hp := part_lt n hn l[i]
  rw [rd_cnt n _ _ hp]
  apply List.ext_getElem?
  intro j
  rw [List.getElem?_set, cnt_length]
  by_cases c : part n l[i] = j
  · subst c
    rw [if_pos rfl, if_pos hp, cnt_get n _ _ hp, filter_next n l i _ h, if_pos rfl, List.length_append]
    rfl
  · rw [if_neg c]
    rcases Nat.lt_or_ge j n with hj | hj
    · rw [cnt_get n _ j hj, cnt_get n _ j hj, filter_next n l i j h, if_neg c, List.append_nil]
    · rw [List.getElem?_eq_none (by rw [cnt_length]; exact hj), List.getElem?_eq_none (by rw [cnt_length]; exact hj)]
omit hn hn2 hw hk hl in
theorem nth_of (i : Nat) (h : i < l.length) : (l.filter fun x => part n x == part n l[i])[((l.take i).filter fun x => part n x == part n l[i]).length]? = some l[i] := by
  have e : l.filter (fun x => part n x == part n l[i]) = (l.take i).filter (fun x => part n x == part n l[i]) ++ (l[i] :: (l.drop (i + 1)).filter fun x => part n x == part n l[i]) := by
    generalize hp : part n l[i] = p
    have a : l.filter (fun x => part n x == p) = (l.take i ++ l.drop i).filter (fun x => part n x == p) := by rw [List.take_append_drop]
    rw [a, List.filter_append, List.drop_eq_getElem_cons h, List.filter_cons_of_pos (by rw [hp]; simp)]
  rw [e, List.getElem?_append_right (Nat.le_refl _), Nat.sub_self]
  rfl
omit hw hk hl hn hn2 in
end
theorem law_sound (l : List S35) (hl : l.length < 8796093022208) (d : Nat) : ∀ (i k : Nat), i ≤ l.length → l.length - i = d → d < k → preludelaw02_sound.l0 k l i = some ((l.drop i).all isKey) := by
  induction d with
  | zero =>
    intro i k h1 h2 h3
    obtain ⟨k, rfl⟩ : ∃ m, k = m + 1 := ⟨k - 1, by omega⟩
    rw [preludelaw02_sound.l0, if_neg (by omega), List.drop_eq_nil_of_le (by omega)]
    rfl
  | succ d ih =>
    intro i k h1 h2 h3
    obtain ⟨k, rfl⟩ : ∃ m, k = m + 1 := ⟨k - 1, by omega⟩
    have hlt : i < l.length := by omega
    rw [preludelaw02_sound.l0, if_pos (by omega), if_pos (by omega), rd_get l i hlt, List.drop_eq_getElem_cons hlt, List.all_cons]
    unfold isKey
    by_cases a : l[i].f0 < 0
    · rw [if_pos a, decide_eq_false (by omega)]; rfl
    · by_cases b : l[i].f0 > 65535
      · rw [if_neg a, if_pos b, decide_eq_false (by omega)]; rfl
      · rw [if_neg a, if_neg b, decide_eq_true (by omega), show wrap64 ((i : Int) + 1) = ((i + 1 : Nat) : Int) by unfold wrap64; omega, ih (i + 1) k (by omega) (by omega) (by omega)]
        rfl
theorem sound_eq (l : List S35) : keys_sound.f l = some (l.all isKey) := by
  unfold keys_sound.f soundF keyB isKey
  rw [List.all_map]
  rfl
theorem sound_f (l : List S35) (hl : l.length < 8796093022208) : preludelaw02_sound.f (l.length + 1) l = some (l.all isKey) := law_sound l hl l.length 0 _ (by omega) (by omega) (by omega)
theorem copied_f (l : List S35) (hl : l.length < 8796093022208) : preludelaw02_copied.f l = some l := by
  unfold preludelaw02_copied.f
  rw [if_pos (by simpa using hl)]
  rfl
/-- of what can be split its groups -/
theorem split_good (l : List S35) (m : Nat) (hm : 1 ≤ m) (hm2 : m ≤ 256) (hw : ∀ x ∈ l, Wide x) (hl : l.length < 8796093022208) (c3 : l.all isKey = true) : keys_Split.f (l.length + 1) l (m : Int) = some (grp m l, 0) := by
  have hk : ∀ x ∈ l, isKey x = true := List.all_eq_true.mp c3
  have h0 := split_val m hm hm2 l hw hk hl l.length 0 (l.length + 1) (by omega) (by omega) (by omega)
  rw [List.take_zero, grp_nil] at h0
  unfold keys_Split.f keys_few.f
  rw [sound_eq, if_pos (by omega)]
  simp only [Option.bind_some]
  rw [if_pos (decide_eq_true (by omega)), c3, if_pos rfl, if_pos (by omega), if_pos (by omega), Int.toNat_natCast]
  exact h0
/-- else no list, and an error -/
theorem split_bad (l : List S35) (n : Int) (h : ¬ (1 ≤ n ∧ n ≤ 256 ∧ l.all isKey = true)) : ∃ e : Int, e ≠ 0 ∧ keys_Split.f (l.length + 1) l n = some ([], e) := by
  unfold keys_Split.f keys_few.f
  rw [sound_eq]
  by_cases c1 : n ≥ 1
  · rw [if_pos c1]
    simp only [Option.bind_some]
    by_cases c2 : n ≤ 256
    · rw [if_pos (decide_eq_true c2)]
      cases c3 : l.all isKey
      · rw [if_neg (by simp)]
        exact ⟨_, by decide, rfl⟩
      · exact absurd ⟨c1, c2, c3⟩ h
    · rw [if_neg (by simp; omega)]
      exact ⟨_, by decide, rfl⟩
  · rw [if_neg c1]
    simp only [Option.bind_some]
    rw [if_neg (by simp)]
    exact ⟨_, by decide, rfl⟩
end Go.Proofs.YtbmfldoobkeieaaDoor.PureSpl
