/- The walk of keys.Text, in a world that holds the library's table of powers of ten. -/
import Derived.Test.YtbmfldoobkeieaaDoorKStr
import Derived.Deep.RegionHeld3
import Derived.Lib.ItoaLen
namespace Go.Proofs.YtbmfldoobkeieaaDoor.KForm
open Go.RowKit
set_option linter.unusedVariables false
set_option linter.unusedSimpArgs false

/-- what is kept through the statement: the box's two cells, the table, what lay below -/
def Box (w0 : World) (B : Nat) (t r : Int) (W : World) : Prop := W.cell? ⟨B, 0, none⟩ = some (.int .i64 t) ∧ W.cell? ⟨B, 1, none⟩ = some (.int .i64 r) ∧ TabW W ∧ Below w0.heap.size w0 W ∧ B < W.heap.size
theorem Box.step {w0 W W' : World} {B : Nat} {t r : Int} (h : Box w0 B t r W) (hb : Below W.heap.size W W') (hB : w0.heap.size ≤ W.heap.size) : Box w0 B t r W' :=
  ⟨(hb.cell (p := ⟨B, 0, none⟩) h.2.2.2.2).trans h.1, (hb.cell (p := ⟨B, 1, none⟩) h.2.2.2.2).trans h.2.1, TabW.of hb h.2.2.1, h.2.2.2.1.trans (hb.mono hB), Nat.lt_of_lt_of_le h.2.2.2.2 hb.size⟩
theorem Box.drewN {w0 W : World} {B : Nat} {t r : Int} {n : Nat} (h : Box w0 B t r W) : Box w0 B t r (W.drewN n) := h.step ⟨rfl, rfl, rfl, Nat.le_refl _, fun _ _ => rfl⟩ h.2.2.2.1.size
theorem itoa_box {w0 W : World} {B : Nat} {t r : Int} (h : Box w0 B t r W) (n : Int) (s : ByteArray) (hs : itoaF n = some s) :
    Calls Tryd.prog 40 #[.int .i64 n] W fun e W' => e = .returned (.string s) ∧ (W'.cell? ⟨B, 0, none⟩ = some (.int .i64 t) ∧ W'.cell? ⟨B, 1, none⟩ = some (.int .i64 r)) ∧ Box w0 B t r W' :=
  (itoa_given n s W hs h.2.2.1).mono fun _ _ ⟨he, hb⟩ => ⟨he, ⟨(h.step hb h.2.2.2.1.size).1, (h.step hb h.2.2.2.1.size).2.1⟩, h.step hb h.2.2.2.1.size⟩
theorem format_box {w0 W : World} {B : Nat} {t r : Int} (h : Box w0 B t r W) (n : Int) (s : ByteArray) (hs : itoaF n = some s) :
    Calls Tryd.prog 41 #[.int .i64 n, .int .i64 10] W fun e W' => e = .returned (.string s) ∧ (W'.cell? ⟨B, 0, none⟩ = some (.int .i64 t) ∧ W'.cell? ⟨B, 1, none⟩ = some (.int .i64 r)) ∧ Box w0 B t r W' :=
  (format_given n 10 s W (by unfold formatF; rw [if_pos rfl]; exact hs) h.2.2.1).mono fun _ _ ⟨he, hb⟩ => ⟨he, ⟨(h.step hb h.2.2.2.1.size).1, (h.step hb h.2.2.2.1.size).2.1⟩, h.step hb h.2.2.2.1.size⟩

theorem itoa_len (n : Int) (h0 : -9223372036854775808 ≤ n) (h1 : n ≤ 9223372036854775807) : (⟨(Lib.itoa n).toArray⟩ : ByteArray).size ≤ 100 := by
  have := Lib.itoa_length_le n h0 h1
  show (Lib.itoa n).toArray.size ≤ 100
  simp
  omega
set_option maxHeartbeats 1600000 in
set_option maxRecDepth 100000 in
theorem text_walk (t r : Int) (s1 s2 : ByteArray) (w : World) (ht : 0 ≤ t) (ht2 : t ≤ 65535) (h1 : itoaF t = some s1) (h2 : itoaF r = some s2) (l1 : s1.size ≤ 100) (l2 : s2.size ≤ 100) (hT : TabW w) :
    Calls Tryd.prog 21 #[.agg #[.int .i64 t, .int .i64 r]] w fun e w' => e = .returned (.tuple #[.string (s1 ++ ⟨#[58]⟩ ++ s2), .int .i64 0]) ∧ Below w.heap.size w w' := by
  have H1 := Lib.hid h1
  have H2 := Lib.hid h2
  clear h1 h2
  have q1 : (9223372036854775807 < s1.size + 1) = False := by simp; omega
  have q2 : (9223372036854775807 < s1.size + 1 + s2.size) = False := by simp; omega
  go_enter Tryd.func21, Tryd.ntmps21
  go_wp2_with fail
  refine (check_calls t r 0 _ (by unfold checkF; rw [if_neg (by omega), if_neg (by omega)])).mono ?_
  rintro e w1 ⟨rfl, hb1⟩
  have hS : Box w w.heap.size t r w1 := ⟨(hb1.cell (p := ⟨w.heap.size, 0, none⟩) (by simp)).trans (by simp), (hb1.cell (p := ⟨w.heap.size, 1, none⟩) (by simp)).trans (by simp), TabW.of ((((Below.refl _ _).alloc (Nat.le_refl _) _).trans (hb1.mono (by simp)))) hT, (((Below.refl _ _).alloc (Nat.le_refl _) _).trans (hb1.mono (by simp))), by have := hb1.size; simp at this; omega⟩
  have c0 := hS.1
  have c1 := hS.2.1
  go_wp2_with fail
  go_region_held3 (fun W => W.cell? ⟨w.heap.size, 0, none⟩ = some (.int .i64 t) ∧ W.cell? ⟨w.heap.size, 1, none⟩ = some (.int .i64 r)) (go_keep) (first | (go_at_call 40; refine (itoa_box (by assumption) t s1 H1.out).mono ?_; rintro e w' ⟨rfl, hC, hS'⟩; obtain ⟨hC0, hC1⟩ := hC) | (go_at_call 40; refine (itoa_box (Box.drewN (by assumption)) t s1 H1.out).mono ?_; rintro e w' ⟨rfl, hC, hS'⟩; obtain ⟨hC0, hC1⟩ := hC) | (go_at_call 41; refine (format_box (by assumption) r s2 H2.out).mono ?_; rintro e w' ⟨rfl, hC, hS'⟩; obtain ⟨hC0, hC1⟩ := hC) | (go_at_call 41; refine (format_box (Box.drewN (by assumption)) r s2 H2.out).mono ?_; rintro e w' ⟨rfl, hC, hS'⟩; obtain ⟨hC0, hC1⟩ := hC))
  all_goals go_wp2
  all_goals go_ret2
  all_goals exact ⟨rfl, hS'.2.2.2.1⟩

/-- of what is no key: the empty string, 20 -/
theorem text_none (t r : Int) (w : World) (ht : t < 0 ∨ 65535 < t) :
    Calls Tryd.prog 21 #[.agg #[.int .i64 t, .int .i64 r]] w fun e w' => e = .returned (.tuple #[.string ⟨#[]⟩, .int .i64 20]) ∧ Below w.heap.size w w' := by
  have hk : checkF t r = some 20 := by
    unfold checkF
    by_cases h : t < 0
    · rw [if_pos h]
    · rw [if_neg h, if_pos (by omega)]
  go_enter Tryd.func21, Tryd.ntmps21
  go_wp2_with fail
  refine (check_calls t r 20 _ hk).mono ?_
  rintro e w1 ⟨rfl, hb1⟩
  go_wp2_with fail
  go_ret2
  exact ⟨rfl, ((Below.refl _ _).alloc (Nat.le_refl _) _).trans (hb1.mono (by simp))⟩

/-- a key's text -/
def textF (t r : Int) : Option (ByteArray × Int) :=
  if -9223372036854775808 ≤ r ∧ r ≤ 9223372036854775807 then some (if 0 ≤ t ∧ t ≤ 65535 then (⟨(Lib.itoa t ++ 58 :: Lib.itoa r).toArray⟩, 0) else (⟨#[]⟩, 20)) else none
theorem text_given (a0_0 a0_1 : Int) (r1 : ByteArray) (r2 : Int) (w : World) (h : textF a0_0 a0_1 = some (r1, r2)) (hT : TabW w) :
    Calls Tryd.prog 21 #[.agg #[.int .i64 a0_0, .int .i64 a0_1]] w fun e w' => e = .returned (.tuple #[.string r1, .int .i64 r2]) ∧ Below w.heap.size w w' := by
  unfold textF at h
  split at h
  · rename_i hr
    have h := Option.some.inj h
    by_cases ht : 0 ≤ a0_0 ∧ a0_0 ≤ 65535
    · rw [if_pos ht] at h
      obtain ⟨rfl, rfl⟩ := Prod.mk.inj h
      have e1 : itoaF a0_0 = some ⟨(Lib.itoa a0_0).toArray⟩ := by unfold itoaF; rw [if_pos (by omega)]
      have e2 : itoaF a0_1 = some ⟨(Lib.itoa a0_1).toArray⟩ := by unfold itoaF; rw [if_pos hr]
      have m1 := itoa_len a0_0 (by omega) (by omega)
      have m2 := itoa_len a0_1 hr.1 hr.2
      have := text_walk a0_0 a0_1 ⟨(Lib.itoa a0_0).toArray⟩ ⟨(Lib.itoa a0_1).toArray⟩ w ht.1 ht.2 e1 e2 m1 m2 hT
      rwa [show ((⟨(Lib.itoa a0_0).toArray⟩ : ByteArray) ++ ⟨#[58]⟩ ++ ⟨(Lib.itoa a0_1).toArray⟩) = ⟨(Lib.itoa a0_0 ++ 58 :: Lib.itoa a0_1).toArray⟩ from by
        rw [show (⟨#[58]⟩ : ByteArray) = ⟨([58] : List UInt8).toArray⟩ from rfl, ByteArray.mk_append_mk, ByteArray.mk_append_mk, List.append_assoc, List.singleton_append]] at this
    · rw [if_neg ht] at h
      obtain ⟨rfl, rfl⟩ := Prod.mk.inj h
      exact text_none a0_0 a0_1 w (by omega)
  · cases h
end Go.Proofs.YtbmfldoobkeieaaDoor.KForm
