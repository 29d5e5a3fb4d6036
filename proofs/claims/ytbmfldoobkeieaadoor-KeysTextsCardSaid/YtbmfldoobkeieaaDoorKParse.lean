/- The walk of keys.Parse, in a world that holds the library's error ErrRange. -/
import Derived.Test.YtbmfldoobkeieaaDoorKSpan
import Derived.Test.YtbmfldoobkeieaaDoorKStr
import Derived.Test.YtbmfldoobkeieaaDoorShelf2
namespace Go.Proofs.YtbmfldoobkeieaaDoor.KForm
open Go.RowKit Go.Proofs.YtbmfldoobkeieaaDoor.KSpan Go.Proofs.YtbmfldoobkeieaaDoor.GRun Go.Proofs.YtbmfldoobkeieaaDoorW.PrintWords
set_option linter.unusedVariables false
set_option linter.unusedSimpArgs false

/-- the library's table, and its error -/
def TabE (w : World) : Prop := TabW w ∧ ∃ tp p, w.var? Tryd.prog "strconv.ErrRange" = some #[.iface tp p]
theorem gErr : Tryd.prog.globalNamed "strconv.ErrRange" = some 2 := by kernel_rfl
theorem TabE.of {w W : World} (hb : Below w.heap.size w W) (h : TabE w) : TabE W := by
  obtain ⟨h1, tp, p, h2⟩ := h
  exact ⟨TabW.of hb h1, tp, p, Joins.var_stays gErr h2 hb (Nat.le_refl _)⟩

/-- strconv.Atoi at digits -/
theorem atoi_small (s : ByteArray) (w : World) (hs : s.size ≤ 281474976710656) (hn : s.data.toList ≠ []) (hd : Digits s.data.toList) (hv : dval s.data.toList < 9223372036854775808) :
    Calls Tryd.prog 47 #[.string s] w fun e w' => e = .returned (.tuple #[.int .i64 (dval s.data.toList : Nat), .nilIface]) ∧ Below w.heap.size w w' := by
  refine (Tryd.strconv_Atoi_ok s (by omega) _ (by rw [atoi_digits _ hn hd, if_pos hv]) w).mono ?_
  rintro e w' ⟨rfl, rfl | ⟨t, rfl⟩⟩
  · exact ⟨rfl, Below.refl _ _⟩
  · exact ⟨rfl, Joins.below_bytesWorld _ _ _ _ (Nat.le_refl _)⟩
/-- .. at digits that tell too much: some error -/
def SomeErr (w : World) (e : Ending) (w' : World) : Prop := ∃ x N, e = .returned (.tuple #[.int .i64 x, .iface 100 (.pointer (some ⟨N, 0, none⟩))]) ∧ Below w.heap.size w w'
theorem atoi_great (s : ByteArray) (w : World) (hs : s.size ≤ 281474976710656) (hn : s.data.toList ≠ []) (hd : Digits s.data.toList) (hv : 9223372036854775808 ≤ dval s.data.toList) (hE : TabE w) :
    Calls Tryd.prog 47 #[.string s] w (SomeErr w) := by
  obtain ⟨_, tp, p, hvar⟩ := hE
  refine (Tryd.strconv_Atoi_range_var s (by omega) (by rw [atoi_digits _ hn hd, if_neg (by omega)]) tp p w hvar).mono ?_
  rintro e w' ⟨N, rfl, _, _, hb⟩
  exact ⟨_, N, rfl, hb⟩
/-- strconv.ParseInt at digits, and at digits behind a minus -/
theorem int_small (s : ByteArray) (v : Int) (w : World) (hs : s.size ≤ 281474976710656) (hv : Lib.atoiAll s.data.toList = .ok v) :
    Calls Tryd.prog 49 #[.string s, .int .i64 10, .int .i64 64] w fun e w' => e = .returned (.tuple #[.int .i64 v, .nilIface]) ∧ Below w.heap.size w w' := by
  refine (Tryd.strconv_ParseInt_10_at64_ok s (by omega) _ (by rw [Lib.parseIntB_64]; exact hv) w).mono ?_
  rintro e w' ⟨rfl, rfl | ⟨t, rfl⟩⟩
  · exact ⟨rfl, Below.refl _ _⟩
  · exact ⟨rfl, Joins.below_bytesWorld _ _ _ _ (Nat.le_refl _)⟩
theorem int_great (s : ByteArray) (w : World) (hs : s.size ≤ 281474976710656) (hv : Lib.atoiAll s.data.toList = .range) (hE : TabE w) :
    Calls Tryd.prog 49 #[.string s, .int .i64 10, .int .i64 64] w (SomeErr w) := by
  obtain ⟨_, tp, p, hvar⟩ := hE
  refine (Tryd.strconv_ParseInt_10_at64_range_var s (by omega) (by rw [Lib.parseIntB_64]; exact hv) tp p w hvar).mono ?_
  rintro e w' ⟨N, rfl, _, _, hb⟩
  exact ⟨_, N, rfl, hb⟩
/-- the closure that tells what is wrong -/
theorem wrong_calls (at_ e : Int) (w : World) : Calls Tryd.prog 45 #[.int .i64 at_, .int .i64 e] w fun x w' => x = .returned (.tuple #[.agg #[.int .i64 0, .int .i64 0], .int .i64 at_, .int .i64 e]) ∧ Below w.heap.size w w' := by
  go_enter Tryd.func45, Tryd.ntmps45
  go_wp2
  go_returns
  exact ⟨rfl, by go_grown⟩

end Go.Proofs.YtbmfldoobkeieaaDoor.KForm
