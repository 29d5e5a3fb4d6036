/- All: what it hands back is a loop over the list's members, each with its place; it lives on what it has copied. -/
import Derived.Test.YtbmfldoobkeieaaKLent
import Derived.RangeFuncNested
import Derived.RangeFuncBound
import Derived.RangeFuncCalls
import Derived.RangeFuncLeaves
import Derived.Shelf.Abstract
import Derived.Shelf.RegionOpen
import Derived.OwnWalkIn
import Derived.TacticsInMore
import Derived.LoopNIn
import Derived.LoopIn
import Derived.Sort.QuietIn
namespace Go.Proofs.Ytbmfldoobkeieaa.KForm
open Go.RowKit Go.Lib Go.Sort Go.Proofs.Ytbmfldoobkeieaa.Own Go.Shelf
set_option linter.unusedVariables false
set_option linter.unusedSimpArgs false
attribute [local go_sem] Oper.semAt_some

/-- the slice value sv holds the list, in a block from lo on, ahead of hi -/
def SvHas (W : World) (lo hi : Nat) (sv : Value) (l : List (Int × Int)) : Prop :=
  (sv = .slice none 0 0 ∧ l = []) ∨ ∃ b cap, sv = .slice (some ⟨b, 0, none⟩) l.length cap ∧ lo ≤ b ∧ b < hi ∧ ∀ j, j < l.length → W.cell? ⟨b, j * 2, none⟩ = some (.int .i64 l[j]!.1) ∧ W.cell? ⟨b, j * 2 + 1, none⟩ = some (.int .i64 l[j]!.2)
theorem SvHas.kept {W W' : World} {lo hi : Nat} {sv : Value} {l : List (Int × Int)} (h : SvHas W lo hi sv l) (hk : ∀ b, lo ≤ b → b < hi → W'.heap[b]? = W.heap[b]?) : SvHas W' lo hi sv l := by
  rcases h with h | ⟨b, cap, e, h1, h2, h3⟩
  · exact .inl h
  · refine .inr ⟨b, cap, e, h1, h2, fun j hj => ?_⟩
    obtain ⟨e1, e2⟩ := h3 j hj
    exact ⟨by rw [World.cell?_of_block (w := W) (w' := W') (a := ⟨b, j * 2, none⟩) (hk b h1 h2)]; exact e1, by rw [World.cell?_of_block (w := W) (w' := W') (a := ⟨b, j * 2 + 1, none⟩) (hk b h1 h2)]; exact e2⟩
set_option maxHeartbeats 2000000 in
theorem clone_nil_calls (c : Nat) (w : World) : Calls Try.prog 34 #[.slice none 0 c] w fun e w' => e = .returned (.slice none 0 0) ∧ w' = w := by
  have hnil := run_nil_keys
  go_enter Try.func34, Try.ntmps34
  go_wp2
  go_ret
  exact ⟨rfl, rfl⟩
set_option maxHeartbeats 4000000 in
set_option maxRecDepth 100000 in
theorem all_calls (A : Option Addr) (c : Nat) (l : List (Int × Int)) (w : World) (h : ListAt w A l) (hl : l.length < 8796093022208) :
    Calls Try.prog 13 #[.slice A l.length c] w fun e w' => ∃ Bs sv, e = .returned (.func (.func 35) #[] #[.pointer (some ⟨Bs, 0, none⟩)]) ∧ w.heap.size ≤ Bs ∧ Boxed w' Bs 22 sv ∧ SvHas w' w.heap.size w'.heap.size sv l ∧ RowKit.Below w.heap.size w w' := by
  rcases h with ⟨rfl, rfl⟩ | ⟨b, o, rfl, hc⟩
  · go_enter Try.func13, Try.ntmps13
    go_wp2_with fail
    refine (clone_nil_calls _ _).mono ?_
    rintro e w1 ⟨rfl, rfl⟩
    go_wp2
    go_ret
    exact ⟨_, _, rfl, Nat.le_refl _, Boxed.new _ _ _, .inl ⟨rfl, rfl⟩, (RowKit.Below.refl _ _).alloc (Nat.le_refl _) _⟩
  · have HC := Lib.hid hc
    clear hc
    go_enter Try.func13, Try.ntmps13
    go_wp2_with fail
    refine (clone_calls b o c l _ hl HC.out).mono ?_
    rintro e w1 ⟨⟨g, cap, rfl, hg, hcap, hrow⟩, hb1⟩
    have RH := Lib.hid hrow
    have B1 := Lib.hid hb1
    clear hrow hb1
    go_wp2
    go_ret
    refine ⟨_, _, rfl, B1.out.size, Boxed.new _ _ _, .inr ⟨g, cap, rfl, hg, ?_, fun j hj => ?_⟩, B1.out.alloc B1.out.size _⟩
    · have := RH.out.lt
      simp
      omega
    · obtain ⟨e1, e2, _, _⟩ := RH.out.cell (j := j) (by simpa using hj)
      have hb := Below.heap_alloc w1 (.cells #[Value.slice (some ⟨g, 0, none⟩) l.length cap] 22) g RH.out.lt
      exact ⟨by rw [World.cell?_of_block (w := w1) (a := ⟨g, j * 2, none⟩) hb, e1]; simp, by rw [World.cell?_of_block (w := w1) (a := ⟨g, j * 2 + 1, none⟩) hb, e2]; simp⟩

/-- the pairs that come: each place with its member -/
def pairsOf (l : List (Int × Int)) (k : Nat) : List (Nat × (Int × Int)) := (List.range k).map fun j => (j, l[j]!)
theorem pairsOf_succ (l : List (Int × Int)) (k : Nat) : pairsOf l (k + 1) = pairsOf l k ++ [(k, l[k]!)] := by simp [pairsOf, List.range_succ]
theorem pairsOf_length (l : List (Int × Int)) (k : Nat) : (pairsOf l k).length = k := by simp [pairsOf]
def encP (x : Nat × (Int × Int)) : Array Value := #[.int .i64 (x.1 : Int), .agg #[.int .i64 x.2.1, .int .i64 x.2.2]]
set_option maxRecDepth 100000 in
set_option maxHeartbeats 4000000 in
theorem all1_in (F : Fence) (n : Nat) (h8 : F.fn 35) (hro : F.round = none) (hn : 1 ≤ n) (l Bs n₀ b cap B : Nat) (zs : List (Int × Int)) (hreach : zs.length < 8796093022208) (hb : b < n₀) (J Jx : List (Nat × (Int × Int)) → World → Prop) (hJ : AbidesFrom B J)
    (hY : ∀ pre x W, J pre W → pre.length < zs.length → YieldAt F (n - 1) Try.prog l (encP x) W fun e W' =>
      (e = .returned (.bool true) ∧ J (pre ++ [x]) W' ∧ Below n₀ W W') ∨ (e = .returned (.bool false) ∧ Jx (pre ++ [x]) W'))
    (W : World) (hn₀ : n₀ ≤ W.heap.size) (hBs : W.cell? ⟨Bs, 0, none⟩ = some (.slice (some ⟨b, 0, none⟩) zs.length cap))
    (hc : ∀ j, j < zs.length → W.cell? ⟨b, j * 2, none⟩ = some (.int .i64 zs[j]!.1) ∧ W.cell? ⟨b, j * 2 + 1, none⟩ = some (.int .i64 zs[j]!.2)) (h0 : J [] W) :
    CallsIn F n Try.prog 35 #[.func (.yield l) #[] #[], .pointer (some ⟨Bs, 0, none⟩)] W fun e W' => (∃ v, e = .returned v) ∧
      ((∃ ys, ys = pairsOf zs zs.length ∧ J ys W') ∨ (∃ pre, (∃ k, k ≤ zs.length ∧ pre = pairsOf zs k) ∧ Jx pre W')) := by
  have HC := Lib.hid hc
  clear hc
  refine callsIn_of_wp Try.func35 rfl h8 ?_ hro
  simp only [Try.ntmps35, List.size_toArray, List.length_cons, List.length_nil, Nat.reduceAdd, Nat.reduceSub, Array.replicate_succ, Array.replicate_zero, List.push_toArray, List.append_toArray, List.nil_append, List.cons_append]
  gi_wp2
  gi_loopw [7] (fun i wr => ∃ k : Nat, k ≤ zs.length ∧ i = .int .i64 k ∧ J (pairsOf zs k) wr ∧ Below n₀ W wr)
    (fun i _ => zs.length - (intOf i).toNat)
  case atStart => exact ⟨0, Nat.zero_le _, rfl, h0, Below.refl _ _⟩
  case round =>
    obtain ⟨k, hk, rfl, hJs, hnx⟩ := hrel
    by_cases hlt : k < zs.length
    · obtain ⟨hc1, hc2⟩ := HC.out k hlt
      have hcx1 := (hnx.cell (p := ⟨b, k * 2, none⟩) hb).trans hc1
      have hcx2 := (hnx.cell (p := ⟨b, k * 2 + 1, none⟩) hb).trans hc2
      clear hc1 hc2
      obtain ⟨q, hq⟩ : ∃ q, zs[k]! = q := ⟨_, rfl⟩
      have hlast : pairsOf zs k ++ [(k, q)] = pairsOf zs (k + 1) := by rw [pairsOf_succ, hq]
      rw [hq] at hcx1 hcx2
      obtain ⟨fn, tmps, assign, body, hy, hR⟩ := hY _ (k, q) (wr.alloc (.cells #[.int .i64 q.1, .int .i64 q.2] 29)) (hJ _ _ _ none hJs (World.grownBy_alloc wr _ none) (fun r e => by cases e)) (by rw [pairsOf_length]; exact hlt)
      simp only [encP] at hy
      clear hq
      gi_wp2
      refine hR.mono ?_
      rintro e W3 (⟨rfl, hJ3, hk3⟩ | ⟨rfl, hJx3⟩)
      · have hnx3 : Below n₀ W W3 := (hnx.alloc (Nat.le_trans hn₀ hnx.size) _).trans hk3
        gi_wp2
        go_roundw
        case rel => exact ⟨k + 1, by omega, by simp, by rw [← hlast]; exact hJ3, hnx3⟩
        case measure => simp [intOf]; omega
      · gi_wp2
        refine bodyPost_ret (results_none rfl _ _ _) rfl ?_
        exact ⟨⟨_, rfl⟩, .inr ⟨_, ⟨k + 1, by omega, hlast⟩, hJx3⟩⟩
    · obtain rfl : k = zs.length := by omega
      gi_wp2
      go_end0
      exact ⟨⟨_, rfl⟩, .inl ⟨_, rfl, hJs⟩⟩
set_option maxRecDepth 100000 in
set_option maxHeartbeats 1000000 in
/-- .. of nil: no round -/
theorem all1_nil_in (F : Fence) (n : Nat) (h8 : F.fn 35) (hro : F.round = none) (l Bs : Nat) (J : List (Nat × (Int × Int)) → World → Prop) (W : World) (hBs : W.cell? ⟨Bs, 0, none⟩ = some (.slice none 0 0)) (h0 : J [] W) :
    CallsIn F n Try.prog 35 #[.func (.yield l) #[] #[], .pointer (some ⟨Bs, 0, none⟩)] W fun e W' => (∃ v, e = .returned v) ∧ J [] W' := by
  refine callsIn_of_wp Try.func35 rfl h8 ?_ hro
  simp only [Try.ntmps35, List.size_toArray, List.length_cons, List.length_nil, Nat.reduceAdd, Nat.reduceSub, Array.replicate_succ, Array.replicate_zero, List.push_toArray, List.append_toArray, List.nil_append, List.cons_append]
  gi_wp2
  gi_loopw [7] (fun i wr => i = .int .i64 0 ∧ J [] wr) (fun _ _ => 0)
  case atStart => exact ⟨rfl, h0⟩
  case round =>
    obtain ⟨rfl, hJs⟩ := hrel
    gi_wp2
    go_end0
    exact ⟨⟨_, rfl⟩, hJs⟩
/-- what All hands back goes over all members in order, or over the first so many, where a round has said 'no more' -/
theorem all_stops (F : Fence) (n : Nat) (h8 : F.fn 35) (hro : F.round = none) (hn : 1 ≤ n) (Bs n₀ lo : Nat) (sv : Value) (zs : List (Int × Int)) (hreach : zs.length < 8796093022208) (w : World) (hBs : Bs < w.heap.size) (hn₀ : n₀ ≤ w.heap.size)
    (hc : w.cell? ⟨Bs, 0, none⟩ = some sv) (hI : SvHas w lo n₀ sv zs) :
    SeqStopsK F n Try.prog 35 #[.pointer (some ⟨Bs, 0, none⟩)] encP (Below n₀) (fun ys => ys = pairsOf zs zs.length)
      (fun pre => ∃ k, k ≤ zs.length ∧ pre = pairsOf zs k) zs.length w := fun l J Jx W hW hJ _ hY h0 => by
  have hc' := (hW.cell (p := ⟨Bs, 0, none⟩) hBs).trans hc
  have hI' : SvHas W lo n₀ sv zs := hI.kept (fun b _ hb => hW.block b (by omega))
  rcases hI' with ⟨rfl, rfl⟩ | ⟨b, cap, rfl, _, hb, hcs⟩
  · exact (all1_nil_in F n h8 hro l Bs J W hc' h0).mono fun e W' ⟨he, hj⟩ => ⟨he, .inl ⟨_, rfl, hj⟩⟩
  · exact all1_in F n h8 hro hn l Bs n₀ b cap W.heap.size zs hreach hb J Jx hJ hY W (Nat.le_trans hn₀ hW.size) hc' hcs h0
end Go.Proofs.Ytbmfldoobkeieaa.KForm
