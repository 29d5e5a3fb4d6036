/- keys.sound: slices.ContainsFunc at a list of keys, wherever the list lies. -/
import Derived.Test.YtbmfldoobkeieaaKForm
import Derived.Shelf.SlicesQ.IndexFunc
import Derived.Test.YtbmfldoobkeieaaWWords
namespace Go.Proofs.Ytbmfldoobkeieaa.KForm
open Go.RowKit Go.Lib
open Go.Proofs.YtbmfldoobkeieaaW.PrintWords (ReadsRow)
set_option linter.unusedVariables false
set_option linter.unusedSimpArgs false

/-- is it a key? -/
def keyB (x : Int × Int) : Bool := decide (0 ≤ x.1 ∧ x.1 ≤ 65535)
def keyCells (x : Int × Int) : List Value := [.int .i64 x.1, .int .i64 x.2]
theorem check_of (t r : Int) : checkF t r = some (if keyB (t, r) = true then 0 else 20) := by
  unfold checkF keyB
  by_cases h : t < 0
  · rw [if_pos h, if_neg (by simp; omega)]
  · by_cases h2 : t > 65535
    · rw [if_neg h, if_pos h2, if_neg (by simp; omega)]
    · rw [if_neg h, if_neg h2, if_pos (by simp; omega)]
theorem sound1_calls (x : Int × Int) (w : World) : Calls Try.prog 53 #[.agg (keyCells x).toArray] w fun e w' => e = .returned (.bool (!keyB x)) ∧ Below w.heap.size w w' := by
  obtain ⟨t, r⟩ := x
  show Calls Try.prog 53 #[.agg #[.int .i64 t, .int .i64 r]] w _
  cases hb : keyB (t, r)
  · have hk : checkF t r = some 20 := by rw [check_of, hb]; rfl
    go_enter Try.func53, Try.ntmps53
    go_wp2_with fail
    refine (check_calls t r 20 _ hk).mono ?_
    rintro e w1 ⟨rfl, hb1⟩
    go_wp2_with fail
    go_ret
    exact ⟨rfl, ((Below.refl _ _).alloc (Nat.le_refl _) _).trans (hb1.mono (by simp))⟩
  · have hk : checkF t r = some 0 := by rw [check_of, hb]; rfl
    go_enter Try.func53, Try.ntmps53
    go_wp2_with fail
    refine (check_calls t r 0 _ hk).mono ?_
    rintro e w1 ⟨rfl, hb1⟩
    go_wp2_with fail
    go_ret
    exact ⟨rfl, ((Below.refl _ _).alloc (Nat.le_refl _) _).trans (hb1.mono (by simp))⟩

/-- a list of keys, read: wherever it lies -/
def KeysAt (w : World) (ad : Addr) (zs : List (Int × Int)) : Prop := ad.block < w.heap.size ∧ ∀ j, j < zs.length → ∀ i v, (keyCells zs[j]!)[i]? = some v → w.cell? (ad.add (j * 2 + i)) = some v
theorem add_block (a : Addr) (n : Nat) : (a.add n).block = a.block := by unfold Addr.add; split <;> rfl
theorem KeysAt.below {w W : World} {ad : Addr} {zs : List (Int × Int)} (h : KeysAt w ad zs) (hW : Below w.heap.size w W) : KeysAt W ad zs :=
  ⟨Nat.lt_of_lt_of_le h.1 hW.size, fun j hj i v hi => by rw [hW.cell (p := ad.add (j * 2 + i)) (by rw [add_block]; exact h.1)]; exact h.2 j hj i v hi⟩
theorem KeysAt.two {w : World} {ad : Addr} {zs : List (Int × Int)} (h : KeysAt w ad zs) (j : Nat) (hj : j < zs.length) :
    w.cell? (ad.add (j * 2)) = some (.int .i64 zs[j]!.1) ∧ w.cell? ⟨(ad.add (j * 2)).block, (ad.add (j * 2)).off + 1, none⟩ = some (.int .i64 zs[j]!.2) := by
  refine ⟨h.2 j hj 0 _ rfl, ?_⟩
  have := h.2 j hj 1 _ rfl
  rw [← Addr.add_add, Addr.add_succ'] at this
  exact this

set_option maxHeartbeats 2000000 in
theorem index_calls (ad : Addr) (n c : Nat) (zs : List (Int × Int)) (w : World) (hn : zs.length = n) (hbig : n ≤ 9223372036854775807) (hc : KeysAt w ad zs) :
    Calls Try.prog 71 #[.slice (some ad) n c, .func (.func 53) #[] #[]] w fun e w' => e = .returned (.int .i64 (Lib.idxBy (fun _ y => !keyB y) (zs.take n) default)) ∧ Below w.heap.size w w' := by
  have hrow := fun (W : World) (hW : Below w.heap.size w W) j hj => (KeysAt.below hc hW).two j hj
  clear hc
  go_enter Try.func71, Try.ntmps71
  go_wp2
  go_loopg [5, 8] n (fun gg _ s8 wr => ∃ kk : Nat, kk ≤ n ∧ n - kk ≤ gg ∧ s8 = .int .i64 kk ∧ Aside (Below w.heap.size w wr) ∧ Aside (∀ j, j < kk → (!keyB zs[j]!) = false))
  case atStart => exact ⟨0, Nat.zero_le _, by omega, rfl, Below.refl _ w, fun j hj => absurd hj (Nat.not_lt_zero _)⟩
  case round =>
    obtain ⟨kk, hkk, hg, rfl, BW, A⟩ := hrel
    by_cases hlt : kk < n
    · have hltz : (kk : Int) < (n : Int) := by omega
      obtain ⟨l0, l1⟩ := hrow wr BW.out kk (by omega)
      have hcall : Calls Try.prog 53 #[.agg #[.int .i64 zs[kk]!.1, .int .i64 zs[kk]!.2]] wr fun e w' => e = .returned (.bool (!keyB zs[kk]!)) ∧ Below wr.heap.size wr w' := sound1_calls zs[kk]! wr
      clear hrow
      generalize hy : zs[kk]! = y at l0 l1 hcall
      have B : Aside (zs[kk]! = y) := hy
      clear hy
      cases hq : (!keyB y) with
      | true =>
        rw [hq] at hcall
        go_wp2_with fail
        refine hcall.mono ?_
        rintro e w' ⟨rfl, hb'⟩
        go_wp2_with fail
        go_ret
        refine ⟨?_, BW.out.trans (hb'.mono BW.out.size)⟩
        rw [Lib.idxBy_hit (fun _ y => !keyB y) zs n kk default hlt (by omega) (by show (!keyB zs[kk]!) = true; rw [B.out]; exact hq) A.out]
        rfl
      | false =>
        rw [hq] at hcall
        go_wp2_with fail
        refine hcall.mono ?_
        rintro e w' ⟨rfl, hb'⟩
        go_wp2_with fail
        go_roundg (n - (kk + 1))
        case measure => omega
        case rel =>
          refine ⟨kk + 1, by omega, by omega, by go_num, (show Aside _ from BW.out.trans (hb'.mono BW.out.size)), (show Aside _ from fun j hj => ?_)⟩
          by_cases e : j = kk
          · subst e
            rw [B.out]; exact hq
          · exact A.out j (by omega)
    · have hltz : ¬ (kk : Int) < (n : Int) := by omega
      have : kk = n := by omega
      subst this
      go_wp2
      go_ret
      refine ⟨?_, BW.out⟩
      rw [Lib.idxBy_miss (fun _ y => !keyB y) zs kk default A.out]
      rfl

theorem contains_calls (ad : Addr) (n c : Nat) (zs : List (Int × Int)) (w : World) (hn : zs.length = n) (hbig : n ≤ 9223372036854775807) (hc : KeysAt w ad zs) :
    Calls Try.prog 52 #[.slice (some ad) n c, .func (.func 53) #[] #[]] w fun e w' => e = .returned (.bool (zs.any (fun y => !keyB y))) ∧ Below w.heap.size w w' := by
  have ht : zs.take n = zs := List.take_of_length_le (by omega)
  have hcall := index_calls ad n c zs w hn hbig hc
  rw [ht] at hcall
  rw [show zs.any (fun y => !keyB y) = decide (0 ≤ Lib.idxBy (fun _ y => !keyB y) zs default) from (Lib.idxBy_nonneg_iff (fun _ y => !keyB y) zs default).symm]
  generalize Lib.idxBy (fun _ y => !keyB y) zs default = b at hcall ⊢
  go_enter Try.func52, Try.ntmps52
  go_wp2_with fail
  refine hcall.mono ?_
  rintro e w' ⟨rfl, hb'⟩
  go_wp2_with fail
  go_ret
  exact ⟨rfl, hb'⟩
theorem index_none (c : Nat) (a : Option Addr) (w : World) :
    Calls Try.prog 71 #[.slice a 0 c, .func (.func 53) #[] #[]] w fun e w' => e = .returned (.int .i64 (-1)) ∧ Below w.heap.size w w' := by
  go_enter Try.func71, Try.ntmps71
  go_wp2
  go_rounds 1
  go_ret
  exact ⟨rfl, Below.refl _ _⟩
theorem contains_none (c : Nat) (a : Option Addr) (w : World) :
    Calls Try.prog 52 #[.slice a 0 c, .func (.func 53) #[] #[]] w fun e w' => e = .returned (.bool false) ∧ Below w.heap.size w w' := by
  go_enter Try.func52, Try.ntmps52
  go_wp2_with fail
  refine (index_none c a _).mono ?_
  rintro e w' ⟨rfl, hb'⟩
  go_wp2_with fail
  go_ret
  exact ⟨rfl, hb'⟩
/-- what keys.sound tells of a list -/
def soundF (zs : List (Int × Int)) : Bool := zs.all keyB
theorem any_not (zs : List (Int × Int)) : (!zs.any (fun y => !keyB y)) = soundF zs := by
  unfold soundF
  rw [List.not_any_eq_all_not]
  simp
theorem sound_calls (a : Option Addr) (n c : Nat) (zs : List (Int × Int)) (w : World) (hn : zs.length = n) (hbig : n ≤ 9223372036854775807) (hc : 0 < n → ∃ ad, a = some ad ∧ KeysAt w ad zs) :
    Calls Try.prog 43 #[.slice a n c] w fun e w' => e = .returned (.bool (soundF zs)) ∧ Below w.heap.size w w' := by
  rw [← any_not]
  by_cases h0 : n = 0
  · subst h0
    have hz : zs = [] := List.eq_nil_of_length_eq_zero hn
    subst hz
    go_enter Try.func43, Try.ntmps43
    go_wp2_with fail
    refine (contains_none c a _).mono ?_
    rintro e w' ⟨rfl, hb'⟩
    go_wp2_with fail
    go_ret
    exact ⟨rfl, hb'⟩
  · obtain ⟨ad, rfl, hk⟩ := hc (by omega)
    have hcall := contains_calls ad n c zs w hn hbig hk
    generalize zs.any (fun y => !keyB y) = b at hcall ⊢
    go_enter Try.func43, Try.ntmps43
    go_wp2_with fail
    refine hcall.mono ?_
    rintro e w' ⟨rfl, hb'⟩
    go_wp2_with fail
    go_ret
    exact ⟨rfl, hb'⟩
end Go.Proofs.Ytbmfldoobkeieaa.KForm
