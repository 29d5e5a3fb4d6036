/- The walks of keys.form and of the reference's ten: a key's ten bytes; of both Hash functions: one function of these bytes. Of a key (0 <= table <= 65535) whose row is an int64. -/
import Derived.Test.YtbmfldoobkeieaaProg
import Derived.WalkKit
import Derived.Handy
import Derived.Below
import Derived.OwnWalk
import Derived.Outline
import Derived.WalkLawsBesides
import Derived.WalkSpells
import Derived.RegionTactic
import Derived.ChangeAlike
import Derived.BigRegion
import Derived.Laws.Closers25b
import Derived.Lib.Hide
namespace Go.Proofs.Ytbmfldoobkeieaa.KForm
open Go.RowKit
set_option linter.unusedVariables false
set_option linter.unusedSimpArgs false

/-- the row's 64 bits, the highest one turned -/
def ux (r : Int) : Int := bits BinOp.xor IntKind.u64 (IntKind.u64.wrap r) 9223372036854775808
theorem ux_lo (r : Int) : 0 ≤ ux r := bits_lo_u64 _ _ _
theorem ux_hi (r : Int) : ux r ≤ 18446744073709551615 := bits_hi_u64 _ _ _
theorem ux_def (r : Int) : bits BinOp.xor IntKind.u64 (IntKind.u64.wrap r) 9223372036854775808 = ux r := rfl
theorem agg_eq {a b : Array Value} (h : a = b) : Ending.returned (.agg a) = .returned (.agg b) := by rw [h]
theorem ar_eq (a0 a1 a2 a3 a4 a5 a6 a7 a8 a9 b0 b1 b2 b3 b4 b5 b6 b7 b8 b9 : Int) (h0 : a0 = b0) (h1 : a1 = b1) (h2 : a2 = b2) (h3 : a3 = b3) (h4 : a4 = b4) (h5 : a5 = b5) (h6 : a6 = b6) (h7 : a7 = b7) (h8 : a8 = b8) (h9 : a9 = b9) :
    Ending.returned (.agg #[.int .u8 a0, .int .u8 a1, .int .u8 a2, .int .u8 a3, .int .u8 a4, .int .u8 a5, .int .u8 a6, .int .u8 a7, .int .u8 a8, .int .u8 a9])
    = Ending.returned (.agg #[.int .u8 b0, .int .u8 b1, .int .u8 b2, .int .u8 b3, .int .u8 b4, .int .u8 b5, .int .u8 b6, .int .u8 b7, .int .u8 b8, .int .u8 b9]) := by
  subst h0 h1 h2 h3 h4 h5 h6 h7 h8 h9; rfl
set_option maxHeartbeats 800000 in
set_option maxRecDepth 100000 in
theorem form_u (t r u : Int) (hx : ux r = u) (w : World) (hu1 : 0 ≤ u) (hu2 : u ≤ 18446744073709551615) (ht : 0 ≤ t) (ht2 : t ≤ 65535) (hr : -9223372036854775808 ≤ r) (hr2 : r ≤ 9223372036854775807) :
    Calls Try.prog 37 #[.agg #[.int .i64 t, .int .i64 r]] w fun e w' => e = .returned (.agg #[.int .u8 (t / 256), .int .u8 (t % 256), .int .u8 (u / 72057594037927936), .int .u8 (u / 281474976710656 % 256),
      .int .u8 (u / 1099511627776 % 256), .int .u8 (u / 4294967296 % 256), .int .u8 (u / 16777216 % 256), .int .u8 (u / 65536 % 256), .int .u8 (u / 256 % 256), .int .u8 (u % 256)]) ∧ Below w.heap.size w w' := by
  have HX := Lib.hid hx
  clear hx
  go_enter Try.func37, Try.ntmps37
  go_wp2
  go_region
  all_goals go_wp2
  rw [ux_def, HX.out]
  go_rounds 9
  go_returns
  exact ⟨rfl, by go_grown⟩
theorem bcell {W w1 : World} (hb : Below W.heap.size W w1) : (∀ b o, b < W.heap.size → w1.cell? ⟨b, o, none⟩ = W.cell? ⟨b, o, none⟩) ∧ (∀ b o, b < W.heap.size → w1.frozen? ⟨b, o, none⟩ = W.frozen? ⟨b, o, none⟩) :=
  ⟨fun b o h => hb.cell (p := ⟨b, o, none⟩) h, fun b o h => hb.frozen (p := ⟨b, o, none⟩) h⟩
/-- Check's number, of both -/
def checkF (t _r : Int) : Option Int := if t < 0 then some 20 else if t > 65535 then some 20 else some 0
theorem check_calls (t r e : Int) (w : World) (h : checkF t r = some e) :
    Calls Try.prog 27 #[.agg #[.int .i64 t, .int .i64 r]] w fun x w' => x = .returned (.int .i64 e) ∧ Below w.heap.size w w' := by
  unfold checkF at h
  by_cases h1 : t < 0
  · rw [if_pos h1] at h
    obtain rfl := Option.some.inj h
    go_enter Try.func27, Try.ntmps27
    go_wp2
    go_ret
    exact ⟨rfl, by go_grown⟩
  · rw [if_neg h1] at h
    by_cases h2 : t > 65535
    · rw [if_pos h2] at h
      obtain rfl := Option.some.inj h
      go_enter Try.func27, Try.ntmps27
      go_wp2
      go_ret
      exact ⟨rfl, by go_grown⟩
    · rw [if_neg h2] at h
      obtain rfl := Option.some.inj h
      go_enter Try.func27, Try.ntmps27
      go_wp2
      go_ret
      exact ⟨rfl, by go_grown⟩
end Go.Proofs.Ytbmfldoobkeieaa.KForm
