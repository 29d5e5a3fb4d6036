/- Union, Meet, Minus; append in a statement that draws its order. -/
import Derived.Test.YtbmfldoobkeieaaDoorPureSet
import Derived.Deep.RegionHeld3
import Derived.RegionTactic
namespace Go.Proofs.YtbmfldoobkeieaaDoor.KForm
open Go.RowKit Go.Lib Go.Sort Go.Proofs.YtbmfldoobkeieaaDoor.Own Go.Proofs.YtbmfldoobkeieaaDoorW.PrintWords
set_option linter.unusedVariables false
set_option linter.unusedSimpArgs false

theorem union_calls (A A2 : Option Addr) (c c2 : Nat) (x y : List (Int × Int)) (w : World) (hx : ListAt w A x) (hy : ListAt w A2 y) (hlx : x.length < 4398046511104) (hly : y.length < 4398046511104) (hc : x.length ≤ c) (hc2 : y.length ≤ c2) (hRx : Rising x) (hRy : Rising y) :
    Calls Tryd.prog 28 #[.slice A x.length c, .slice A2 y.length c2] w fun e w' => ∃ v, e = .returned (.tuple #[v, .int .i64 0]) ∧ OwnKeys w' w.heap.size v (chooseF true true true x y) ∧ RowKit.Below w.heap.size w w' := by
  have H := Lib.hid (choose_calls true true true A A2 c c2 x y w hx hy hlx hly hc hc2 hRx hRy)
  clear hx hy hRx hRy
  go_enter Tryd.func28, Tryd.ntmps28
  go_wp2_with fail
  refine H.out.mono ?_
  rintro e w' ⟨v, rfl, hv, hb⟩
  have HV := Lib.hid hv
  have HB := Lib.hid hb
  clear hv hb
  go_wp2_with fail
  go_ret2
  exact ⟨_, rfl, HV.out, HB.out⟩
theorem meet_calls (A A2 : Option Addr) (c c2 : Nat) (x y : List (Int × Int)) (w : World) (hx : ListAt w A x) (hy : ListAt w A2 y) (hlx : x.length < 4398046511104) (hly : y.length < 4398046511104) (hc : x.length ≤ c) (hc2 : y.length ≤ c2) (hRx : Rising x) (hRy : Rising y) :
    Calls Tryd.prog 29 #[.slice A x.length c, .slice A2 y.length c2] w fun e w' => ∃ v, e = .returned (.tuple #[v, .int .i64 0]) ∧ OwnKeys w' w.heap.size v (chooseF false true false x y) ∧ RowKit.Below w.heap.size w w' := by
  have H := Lib.hid (choose_calls false true false A A2 c c2 x y w hx hy hlx hly hc hc2 hRx hRy)
  clear hx hy hRx hRy
  go_enter Tryd.func29, Tryd.ntmps29
  go_wp2_with fail
  refine H.out.mono ?_
  rintro e w' ⟨v, rfl, hv, hb⟩
  have HV := Lib.hid hv
  have HB := Lib.hid hb
  clear hv hb
  go_wp2_with fail
  go_ret2
  exact ⟨_, rfl, HV.out, HB.out⟩
theorem minus_calls (A A2 : Option Addr) (c c2 : Nat) (x y : List (Int × Int)) (w : World) (hx : ListAt w A x) (hy : ListAt w A2 y) (hlx : x.length < 4398046511104) (hly : y.length < 4398046511104) (hc : x.length ≤ c) (hc2 : y.length ≤ c2) (hRx : Rising x) (hRy : Rising y) :
    Calls Tryd.prog 30 #[.slice A x.length c, .slice A2 y.length c2] w fun e w' => ∃ v, e = .returned (.tuple #[v, .int .i64 0]) ∧ OwnKeys w' w.heap.size v (chooseF true false false x y) ∧ RowKit.Below w.heap.size w w' := by
  have H := Lib.hid (choose_calls true false false A A2 c c2 x y w hx hy hlx hly hc hc2 hRx hRy)
  clear hx hy hRx hRy
  go_enter Tryd.func30, Tryd.ntmps30
  go_wp2_with fail
  refine H.out.mono ?_
  rintro e w' ⟨v, rfl, hv, hb⟩
  have HV := Lib.hid hv
  have HB := Lib.hid hb
  clear hv hb
  go_wp2_with fail
  go_ret2
  exact ⟨_, rfl, HV.out, HB.out⟩
end Go.Proofs.YtbmfldoobkeieaaDoor.KForm
