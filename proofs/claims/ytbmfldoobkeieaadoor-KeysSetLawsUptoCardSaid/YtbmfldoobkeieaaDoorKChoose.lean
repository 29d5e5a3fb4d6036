/- keys.choose: two sets gone through ta one. -/
import Derived.Test.YtbmfldoobkeieaaDoorKList2
import Derived.StillTailTactics
namespace Go.Proofs.YtbmfldoobkeieaaDoor.KForm
open Go.RowKit Go.Lib Go.Sort Go.Proofs.YtbmfldoobkeieaaDoor.Own Go.Proofs.YtbmfldoobkeieaaDoorW.PrintWords
set_option linter.unusedVariables false
set_option linter.unusedSimpArgs false

/-- what is chosen -/
def chooseF (L B R : Bool) : List (Int × Int) → List (Int × Int) → List (Int × Int)
  | [], [] => []
  | [], b :: tb => (if R = true then [b] else []) ++ chooseF L B R [] tb
  | a :: ta, [] => (if L = true then [a] else []) ++ chooseF L B R ta []
  | a :: ta, b :: tb => if cmpF a b < 0 then (if L = true then [a] else []) ++ chooseF L B R ta (b :: tb) else if cmpF a b = 0 then (if B = true then [a] else []) ++ chooseF L B R ta tb else (if R = true then [b] else []) ++ chooseF L B R (a :: ta) tb
termination_by x y => x.length + y.length
theorem below_grow {w w' : World} (h : ∃ q os, w' = grow (w.drewN q) os) : RowKit.Below w.heap.size w w' := by
  obtain ⟨q, os, rfl⟩ := h
  exact ⟨rfl, rfl, rfl, by simp, fun k hk => by show (w.heap ++ os)[k]? = _; rw [Array.getElem?_append_left hk]⟩
theorem has_below {w w' : World} {base : Nat} {e : TypeId} {size : Nat} {v : Value} {n : Nat} {good : Nat → Value → Prop} (h : Has w base e size v n good) (hb : RowKit.Below w.heap.size w w') : Has w' base e size v n good := by
  rcases h with h | ⟨b, c, f, rfl, h2, h3, h4⟩
  · exact .inl h
  · exact .inr ⟨b, c, f, rfl, h2, h3.of_block (hb.block b h3.lt), h4⟩
theorem newsV_single (a : Int × Int) : newsV [a] = [.int .i64 a.1, .int .i64 a.2] := by simp [newsV, flatV, List.range_succ]
theorem chooseF_ny (L B R : Bool) (b : Int × Int) (tb : List (Int × Int)) : chooseF L B R [] (b :: tb) = (if R = true then [b] else []) ++ chooseF L B R [] tb := by rw [chooseF]
theorem chooseF_xn (L B R : Bool) (a : Int × Int) (ta : List (Int × Int)) : chooseF L B R (a :: ta) [] = (if L = true then [a] else []) ++ chooseF L B R ta [] := by rw [chooseF]
theorem chooseF_lt (L B R : Bool) (a b : Int × Int) (ta tb : List (Int × Int)) (h : cmpF a b < 0) : chooseF L B R (a :: ta) (b :: tb) = (if L = true then [a] else []) ++ chooseF L B R ta (b :: tb) := by rw [chooseF, if_pos h]
theorem chooseF_eq (L B R : Bool) (a b : Int × Int) (ta tb : List (Int × Int)) (h : cmpF a b = 0) : chooseF L B R (a :: ta) (b :: tb) = (if B = true then [a] else []) ++ chooseF L B R ta tb := by rw [chooseF, if_neg (by omega), if_pos h]
theorem chooseF_gt (L B R : Bool) (a b : Int × Int) (ta tb : List (Int × Int)) (h : 0 < cmpF a b) : chooseF L B R (a :: ta) (b :: tb) = (if R = true then [b] else []) ++ chooseF L B R (a :: ta) tb := by rw [chooseF, if_neg (by omega), if_neg (by omega)]
theorem ListAt.head {w : World} {A : Option Addr} {a : Int × Int} {ta : List (Int × Int)} (h : ListAt w A (a :: ta)) : ∃ b o, A = some ⟨b, o, none⟩ ∧ w.cell? ⟨b, o, none⟩ = some (.int .i64 a.1) ∧ w.cell? ⟨b, o + 1, none⟩ = some (.int .i64 a.2) ∧ b < w.heap.size ∧ ∀ A', (ta ≠ [] → A' = some ⟨b, o + 2, none⟩) → (ta = [] → ∃ b o, A' = some ⟨b, o, none⟩) → ListAt w A' ta := by
  rcases h with ⟨_, h⟩ | ⟨b, o, rfl, h⟩
  · cases h
  · obtain ⟨h1, h2⟩ := h 0 (by simp)
    rw [Nat.zero_mul, Nat.add_zero] at h1 h2
    refine ⟨b, o, rfl, h1, h2, World.block_lt_of_cell? w _ h1, fun A' ha hb => ?_⟩
    cases ta with
    | nil =>
      obtain ⟨b', o', rfl⟩ := hb rfl
      exact .inr ⟨b', o', rfl, fun j hj => by simp at hj⟩
    | cons a2 ta =>
      rw [ha (by simp)]
      refine .inr ⟨b, o + 2, rfl, fun j hj => ?_⟩
      obtain ⟨h1, h2⟩ := h (j + 1) (by simpa using hj)
      rw [show o + (j + 1) * 2 = o + 2 + j * 2 by omega] at h1 h2
      exact ⟨by simpa using h1, by simpa using h2⟩
set_option maxHeartbeats 8000000 in
set_option maxRecDepth 100000 in
theorem choose_calls (L B R : Bool) (A A2 : Option Addr) (c c2 : Nat) (x y : List (Int × Int)) (w : World) (hx : ListAt w A x) (hy : ListAt w A2 y) (hlx : x.length < 4398046511104) (hly : y.length < 4398046511104) (hc : x.length ≤ c) (hc2 : y.length ≤ c2) (hRx : Rising x) (hRy : Rising y) :
    Calls Tryd.prog 56 #[.slice A x.length c, .slice A2 y.length c2, .bool L, .bool B, .bool R] w fun e w' => ∃ v, e = .returned (.tuple #[v, .int .i64 0]) ∧ OwnKeys w' w.heap.size v (chooseF L B R x y) ∧ RowKit.Below w.heap.size w w' := by
  obtain ⟨i0, ih, iz0, iz1, iz2⟩ := info_parts infoKey
  have HX := Lib.hid hx
  have HY := Lib.hid hy
  have RX := Lib.hid hRx
  have RY := Lib.hid hRy
  clear hx hy hRx hRy
  go_enter Tryd.func56, Tryd.ntmps56
  go_wp2_with fail
  refine (rises_calls A c x _ HX.out.keys (by omega) hc RX.out).mono ?_
  rintro e w1 ⟨rfl, hb1⟩
  have B1 := Lib.hid hb1
  clear hb1
  go_wp2_with fail
  refine (rises_calls A2 c2 y _ (HY.out.below B1.out).keys (by omega) hc2 RY.out).mono ?_
  rintro e w2 ⟨rfl, hb2⟩
  have B2 : Hid (RowKit.Below w.heap.size w w2) := Lib.hid (B1.out.trans (hb2.mono B1.out.size))
  clear hb2 B1
  go_wp2_with fail
  go_loopg [0, 1, 12] (x.length + y.length) (fun gg s0 s1 s12 wr => ∃ (xs ys acc : List (Int × Int)) (Ax Ay : Option Addr) (cx cy : Nat), s0 = .slice Ax xs.length cx ∧ s1 = .slice Ay ys.length cy ∧ xs.length ≤ cx ∧ ys.length ≤ cy ∧ xs.length + ys.length ≤ gg ∧ xs.length < 4398046511104 ∧ ys.length < 4398046511104 ∧ acc.length + xs.length + ys.length < 8796093022208 ∧
    Aside (acc ++ chooseF L B R xs ys = chooseF L B R x y) ∧ Aside (ListAt w Ax xs) ∧ Aside (ListAt w Ay ys) ∧ Aside (RowKit.Below w.heap.size w wr) ∧ Aside (Has wr w.heap.size 35 2 s12 acc.length (fun t u => u = flatV acc t)))
  case atStart => exact ⟨x, y, [], A, A2, c, c2, rfl, rfl, hc, hc2, by omega, hlx, hly, by simp; omega, (show Aside _ from by first | rfl | trivial), HX.out, HY.out, B2.out, .inl ⟨rfl, rfl⟩⟩
  case round =>
    clear HX HY RX RY B2 hc hc2 hlx hly
    obtain ⟨xs, ys, acc, Ax, Ay, cx, cy, rfl, rfl, hcx, hcy, hg, hlx, hly, hla, EQ, HX, HY, BW, HV⟩ := hrel
    cases xs with
    | nil =>
      cases ys with
      | nil =>
        go_wp2_with fail
        go_ret2
        exact ⟨_, rfl, own_of_has (by have := EQ.out; rw [chooseF, List.append_nil] at this; rw [← this]; exact HV.out), BW.out⟩
      | cons b tb =>
        obtain ⟨b2, o2, rfl, k1, k2, hb2, hnextY⟩ := HY.out.head
        have q1 : wr.cell? ⟨b2, o2, none⟩ = some (.int .i64 b.1) := by rw [BW.out.cell (p := ⟨b2, o2, none⟩) hb2]; exact k1
        have q2 : wr.cell? ⟨b2, o2 + 1, none⟩ = some (.int .i64 b.2) := by rw [BW.out.cell (p := ⟨b2, o2 + 1, none⟩) hb2]; exact k2
        have n1 : tb.length + 1 ≤ cy := by simpa using hcy
        have n2 : acc.length + tb.length + 1 < 8796093022208 := by simp at hla; omega
        have n3 : tb.length + 1 ≤ gk := by simp at hg; omega
        have n4 : tb.length + 1 < 4398046511104 := by simpa using hly
        clear k1 k2
        cases R
        · go_wp2_with fail
          all_goals
            go_roundg (tb.length)
            case measure => omega
            case rel =>
              refine ⟨[], tb, acc, _, _, _, _, rfl, rfl, by first | omega | (simp; done) | (simp; omega), by first | omega | (simp; done) | (simp; omega), by first | omega | (simp; done) | (simp; omega), by first | omega | (simp; done) | (simp; omega), by first | omega | (simp; done) | (simp; omega), by first | omega | (simp; done) | (simp; omega), (show Aside _ from ?_), (show Aside _ from ?_), (show Aside _ from ?_), (show Aside _ from BW.out), (show Aside _ from HV.out)⟩
              · show _ ++ _ = _
                rw [← EQ.out, chooseF_ny]; simp
              · exact HX.out
              · first | exact hnextY _ (fun _ => rfl) (fun _ => ⟨_, _, rfl⟩) | exact hnextY _ (fun hne => absurd (List.eq_nil_of_length_eq_zero (by omega)) hne) (fun _ => ⟨_, _, rfl⟩)
        · go_wp2_with (at_builtin; refine wpList_append_has _ rfl _ _ 22 rfl w.heap.size 35 i0 (.agg #[.int .i64 0, .int .i64 0]) 2 16 Tryd.underlying22 ih iz0 iz1 iz2 rfl (by decide) _ acc.length (fun t u => u = flatV acc t) rfl ?hv ⟨_, 0, none⟩ 1 1 [.int .i64 b.1, .int .i64 b.2] rfl rfl ?c1 ?c2 ?c3 ?c4 ?c5 ?c6 ?_)
          case hv => exact HV.out.alloc _
          case c1 =>
            intro t u ht
            rw [add_zero_off, World.cell?_alloc_at _ _ _ _ rfl]
            simpa using ht
          case c2 => first | (simp [Value.oneCell']; done) | exact ⟨rfl, rfl⟩
          case c3 => omega
          case c4 => unfold maxLen; omega
          case c5 => omega
          case c6 => have := BW.out.size; first | omega | (simp; omega)
          intro b' c' w' hnew hblk hold hgr
          rw [← newsV_single] at hnew
          have HV2 : Hid (Has w' w.heap.size 35 2 (.slice (some ⟨b', 0, none⟩) (acc.length + 1) c') (acc ++ [b]).length (fun t u => u = flatV (acc ++ [b]) t)) := Lib.hid (has_append (r := acc) (l := [b]) rfl hnew)
          have BW2 : Hid (RowKit.Below w.heap.size w w') := Lib.hid ((BW.out.alloc BW.out.size _).grown hgr (by simp; have := BW.out.size; omega) (fun k hk => (HV.out.block k hk).1))
          clear hnew hblk hold hgr HV
          go_wp2_with fail
          all_goals
            go_roundg (tb.length)
            case measure => omega
            case rel =>
              refine ⟨[], tb, acc ++ [b], _, _, _, _, rfl, rfl, by first | omega | (simp; done) | (simp; omega), by first | omega | (simp; done) | (simp; omega), by first | omega | (simp; done) | (simp; omega), by first | omega | (simp; done) | (simp; omega), by first | omega | (simp; done) | (simp; omega), by first | omega | (simp; done) | (simp; omega), (show Aside _ from ?_), (show Aside _ from ?_), (show Aside _ from ?_), (show Aside _ from BW2.out), (show Aside _ from HV2.out)⟩
              · show _ ++ _ = _
                rw [← EQ.out, chooseF_ny]; simp
              · exact HX.out
              · first | exact hnextY _ (fun _ => rfl) (fun _ => ⟨_, _, rfl⟩) | exact hnextY _ (fun hne => absurd (List.eq_nil_of_length_eq_zero (by omega)) hne) (fun _ => ⟨_, _, rfl⟩)
    | cons a ta =>
      obtain ⟨b1, o1, rfl, k1, k2, hb1, hnextX⟩ := HX.out.head
      have q1 : wr.cell? ⟨b1, o1, none⟩ = some (.int .i64 a.1) := by rw [BW.out.cell (p := ⟨b1, o1, none⟩) hb1]; exact k1
      have q2 : wr.cell? ⟨b1, o1 + 1, none⟩ = some (.int .i64 a.2) := by rw [BW.out.cell (p := ⟨b1, o1 + 1, none⟩) hb1]; exact k2
      have m1 : ta.length + 1 ≤ cx := by simpa using hcx
      have m4 : ta.length + 1 < 4398046511104 := by simpa using hlx
      clear k1 k2
      cases ys with
      | nil =>
        have n2 : acc.length + ta.length + 1 < 8796093022208 := by simp at hla; omega
        have n3 : ta.length + 1 ≤ gk := by simp at hg; omega
        cases L
        · go_wp2_with fail
          all_goals
            go_roundg (ta.length)
            case measure => omega
            case rel =>
              refine ⟨ta, [], acc, _, _, _, _, rfl, rfl, by first | omega | (simp; done) | (simp; omega), by first | omega | (simp; done) | (simp; omega), by first | omega | (simp; done) | (simp; omega), by first | omega | (simp; done) | (simp; omega), by first | omega | (simp; done) | (simp; omega), by first | omega | (simp; done) | (simp; omega), (show Aside _ from ?_), (show Aside _ from ?_), (show Aside _ from ?_), (show Aside _ from BW.out), (show Aside _ from HV.out)⟩
              · show _ ++ _ = _
                rw [← EQ.out, chooseF_xn]; simp
              · first | exact hnextX _ (fun _ => rfl) (fun _ => ⟨_, _, rfl⟩) | exact hnextX _ (fun hne => absurd (List.eq_nil_of_length_eq_zero (by omega)) hne) (fun _ => ⟨_, _, rfl⟩)
              · exact HY.out
        · go_wp2_with (at_builtin; refine wpList_append_has _ rfl _ _ 22 rfl w.heap.size 35 i0 (.agg #[.int .i64 0, .int .i64 0]) 2 16 Tryd.underlying22 ih iz0 iz1 iz2 rfl (by decide) _ acc.length (fun t u => u = flatV acc t) rfl ?hv ⟨_, 0, none⟩ 1 1 [.int .i64 a.1, .int .i64 a.2] rfl rfl ?c1 ?c2 ?c3 ?c4 ?c5 ?c6 ?_)
          case hv => exact HV.out.alloc _
          case c1 =>
            intro t u ht
            rw [add_zero_off, World.cell?_alloc_at _ _ _ _ rfl]
            simpa using ht
          case c2 => first | (simp [Value.oneCell']; done) | exact ⟨rfl, rfl⟩
          case c3 => omega
          case c4 => unfold maxLen; omega
          case c5 => omega
          case c6 => have := BW.out.size; first | omega | (simp; omega)
          intro b' c' w' hnew hblk hold hgr
          rw [← newsV_single] at hnew
          have HV2 : Hid (Has w' w.heap.size 35 2 (.slice (some ⟨b', 0, none⟩) (acc.length + 1) c') (acc ++ [a]).length (fun t u => u = flatV (acc ++ [a]) t)) := Lib.hid (has_append (r := acc) (l := [a]) rfl hnew)
          have BW2 : Hid (RowKit.Below w.heap.size w w') := Lib.hid ((BW.out.alloc BW.out.size _).grown hgr (by simp; have := BW.out.size; omega) (fun k hk => (HV.out.block k hk).1))
          clear hnew hblk hold hgr HV
          go_wp2_with fail
          all_goals
            go_roundg (ta.length)
            case measure => omega
            case rel =>
              refine ⟨ta, [], acc ++ [a], _, _, _, _, rfl, rfl, by first | omega | (simp; done) | (simp; omega), by first | omega | (simp; done) | (simp; omega), by first | omega | (simp; done) | (simp; omega), by first | omega | (simp; done) | (simp; omega), by first | omega | (simp; done) | (simp; omega), by first | omega | (simp; done) | (simp; omega), (show Aside _ from ?_), (show Aside _ from ?_), (show Aside _ from ?_), (show Aside _ from BW2.out), (show Aside _ from HV2.out)⟩
              · show _ ++ _ = _
                rw [← EQ.out, chooseF_xn]; simp
              · first | exact hnextX _ (fun _ => rfl) (fun _ => ⟨_, _, rfl⟩) | exact hnextX _ (fun hne => absurd (List.eq_nil_of_length_eq_zero (by omega)) hne) (fun _ => ⟨_, _, rfl⟩)
              · exact HY.out
      | cons b tb =>
        obtain ⟨b2, o2, rfl, j1, j2, hb2, hnextY⟩ := HY.out.head
        have r1 : wr.cell? ⟨b2, o2, none⟩ = some (.int .i64 b.1) := by rw [BW.out.cell (p := ⟨b2, o2, none⟩) hb2]; exact j1
        have r2 : wr.cell? ⟨b2, o2 + 1, none⟩ = some (.int .i64 b.2) := by rw [BW.out.cell (p := ⟨b2, o2 + 1, none⟩) hb2]; exact j2
        have n1 : tb.length + 1 ≤ cy := by simpa using hcy
        have n4 : tb.length + 1 < 4398046511104 := by simpa using hly
        have n2 : acc.length + ta.length + tb.length + 2 < 8796093022208 := by simp at hla; omega
        have n3 : ta.length + tb.length + 2 ≤ gk := by simp at hg; omega
        have RA : Hid (ListAt w (some ⟨b1, o1, none⟩) (a :: ta)) := Lib.hid HX.out
        have RB : Hid (ListAt w (some ⟨b2, o2, none⟩) (b :: tb)) := Lib.hid HY.out
        clear j1 j2
        go_wp2_with fail
        have d1 : wr.drew.cell? ⟨b1, o1, none⟩ = some (.int .i64 a.1) := q1
        have d2 : wr.drew.cell? ⟨b1, o1 + 1, none⟩ = some (.int .i64 a.2) := q2
        have d3 : wr.drew.cell? ⟨b2, o2, none⟩ = some (.int .i64 b.1) := r1
        have d4 : wr.drew.cell? ⟨b2, o2 + 1, none⟩ = some (.int .i64 b.2) := r2
        have BD : Hid (RowKit.Below w.heap.size w wr.drew) := Lib.hid BW.out.drew
        have HD : Hid (Has wr.drew w.heap.size 35 2 u12 acc.length (fun t u => u = flatV acc t)) := Lib.hid HV.out
        refine wp_region_still_tail 6 (by kernel_rfl) (by kernel_rfl) ?_
        change wpStill _ _ (World.drew _) (fun a' => wpList _ _ _ _ a' (World.drew _)) _ _
        generalize wr.drew = w3 at d1 d2 d3 d4 BD HD ⊢
        simp only [List.take_succ_cons, List.take_zero, List.drop_succ_cons, List.drop_zero]
        repeat still_step
        refine wpStill_nil ?_
        go_wp2_with fail
        refine (compare_calls a b w3).mono ?_
        rintro e w4 ⟨rfl, hgrow⟩
        have B4 : Hid (RowKit.Below w.heap.size w w4) := Lib.hid (BD.out.trans ((below_grow hgrow).mono BD.out.size))
        have HV4 : Hid (Has w4 w.heap.size 35 2 u12 acc.length (fun t u => u = flatV acc t)) := Lib.hid (has_below HD.out (below_grow hgrow))
        have q1 : w4.cell? ⟨b1, o1, none⟩ = some (.int .i64 a.1) := by rw [B4.out.cell (p := ⟨b1, o1, none⟩) hb1, ← BD.out.cell (p := ⟨b1, o1, none⟩) hb1]; exact d1
        have q2 : w4.cell? ⟨b1, o1 + 1, none⟩ = some (.int .i64 a.2) := by rw [B4.out.cell (p := ⟨b1, o1 + 1, none⟩) hb1, ← BD.out.cell (p := ⟨b1, o1 + 1, none⟩) hb1]; exact d2
        have r1 : w4.cell? ⟨b2, o2, none⟩ = some (.int .i64 b.1) := by rw [B4.out.cell (p := ⟨b2, o2, none⟩) hb2, ← BD.out.cell (p := ⟨b2, o2, none⟩) hb2]; exact d3
        have r2 : w4.cell? ⟨b2, o2 + 1, none⟩ = some (.int .i64 b.2) := by rw [B4.out.cell (p := ⟨b2, o2 + 1, none⟩) hb2, ← BD.out.cell (p := ⟨b2, o2 + 1, none⟩) hb2]; exact d4
        clear d1 d2 d3 d4 BD HD hgrow BW HV hcx hcy hg hla hlx hly
        have BW := B4
        have HV := HV4
        clear B4 HV4
        obtain ⟨z, hz⟩ : ∃ z, z = cmpF a b := ⟨_, rfl⟩
        rw [← hz]
        have HZ := Lib.hid hz
        clear hz
        rcases Int.lt_trichotomy z 0 with hneg | hzero | hpos
        · have e1 : ¬ z = 0 := by omega
          have e2 : ¬ 0 < z := by omega
          have e4 : z ≤ 0 := by omega
          have e5 : ¬ 0 ≤ z := by omega
          have hc : Hid (cmpF a b < 0) := Lib.hid (by rw [← HZ.out]; exact hneg)
          cases L
          · go_wp2_with fail
            all_goals
              go_roundg (ta.length + tb.length + 1)
              case measure => omega
              case rel =>
                refine ⟨ta, (b :: tb), acc, _, _, _, _, rfl, rfl, by first | omega | (simp; done) | (simp; omega), by first | omega | (simp; done) | (simp; omega), by first | omega | (simp; done) | (simp; omega), by first | omega | (simp; done) | (simp; omega), by first | omega | (simp; done) | (simp; omega), by first | omega | (simp; done) | (simp; omega), (show Aside _ from ?_), (show Aside _ from ?_), (show Aside _ from ?_), (show Aside _ from BW.out), (show Aside _ from HV.out)⟩
                · show _ ++ _ = _
                  rw [← EQ.out, chooseF_lt _ _ _ _ _ _ _ hc.out]; simp
                · first | exact hnextX _ (fun _ => rfl) (fun _ => ⟨_, _, rfl⟩) | exact hnextX _ (fun hne => absurd (List.eq_nil_of_length_eq_zero (by omega)) hne) (fun _ => ⟨_, _, rfl⟩)
                · exact HY.out
          · go_wp2_with (at_builtin; refine wpList_append_has _ rfl _ _ 22 rfl w.heap.size 35 i0 (.agg #[.int .i64 0, .int .i64 0]) 2 16 Tryd.underlying22 ih iz0 iz1 iz2 rfl (by decide) _ acc.length (fun t u => u = flatV acc t) rfl ?hv ⟨_, 0, none⟩ 1 1 [.int .i64 a.1, .int .i64 a.2] rfl rfl ?c1 ?c2 ?c3 ?c4 ?c5 ?c6 ?_)
            case hv => exact HV.out.alloc _
            case c1 =>
              intro t u ht
              rw [add_zero_off, World.cell?_alloc_at _ _ _ _ rfl]
              simpa using ht
            case c2 => first | (simp [Value.oneCell']; done) | exact ⟨rfl, rfl⟩
            case c3 => omega
            case c4 => unfold maxLen; omega
            case c5 => omega
            case c6 => have := BW.out.size; first | omega | (simp; omega)
            intro b' c' w' hnew hblk hold hgr
            rw [← newsV_single] at hnew
            have HV2 : Hid (Has w' w.heap.size 35 2 (.slice (some ⟨b', 0, none⟩) (acc.length + 1) c') (acc ++ [a]).length (fun t u => u = flatV (acc ++ [a]) t)) := Lib.hid (has_append (r := acc) (l := [a]) rfl hnew)
            have BW2 : Hid (RowKit.Below w.heap.size w w') := Lib.hid ((BW.out.alloc BW.out.size _).grown hgr (by simp; have := BW.out.size; omega) (fun k hk => (HV.out.block k hk).1))
            clear hnew hblk hold hgr HV
            go_wp2_with fail
            all_goals
              go_roundg (ta.length + tb.length + 1)
              case measure => omega
              case rel =>
                refine ⟨ta, (b :: tb), acc ++ [a], _, _, _, _, rfl, rfl, by first | omega | (simp; done) | (simp; omega), by first | omega | (simp; done) | (simp; omega), by first | omega | (simp; done) | (simp; omega), by first | omega | (simp; done) | (simp; omega), by first | omega | (simp; done) | (simp; omega), by first | omega | (simp; done) | (simp; omega), (show Aside _ from ?_), (show Aside _ from ?_), (show Aside _ from ?_), (show Aside _ from BW2.out), (show Aside _ from HV2.out)⟩
                · show _ ++ _ = _
                  rw [← EQ.out, chooseF_lt _ _ _ _ _ _ _ hc.out]; simp
                · first | exact hnextX _ (fun _ => rfl) (fun _ => ⟨_, _, rfl⟩) | exact hnextX _ (fun hne => absurd (List.eq_nil_of_length_eq_zero (by omega)) hne) (fun _ => ⟨_, _, rfl⟩)
                · exact HY.out
        · have hc : Hid (cmpF a b = 0) := Lib.hid (by rw [← HZ.out]; exact hzero)
          subst hzero
          cases B
          · go_wp2_with fail
            all_goals
              go_roundg (ta.length + tb.length)
              case measure => omega
              case rel =>
                refine ⟨ta, tb, acc, _, _, _, _, rfl, rfl, by first | omega | (simp; done) | (simp; omega), by first | omega | (simp; done) | (simp; omega), by first | omega | (simp; done) | (simp; omega), by first | omega | (simp; done) | (simp; omega), by first | omega | (simp; done) | (simp; omega), by first | omega | (simp; done) | (simp; omega), (show Aside _ from ?_), (show Aside _ from ?_), (show Aside _ from ?_), (show Aside _ from BW.out), (show Aside _ from HV.out)⟩
                · show _ ++ _ = _
                  rw [← EQ.out, chooseF_eq _ _ _ _ _ _ _ hc.out]; simp
                · first | exact hnextX _ (fun _ => rfl) (fun _ => ⟨_, _, rfl⟩) | exact hnextX _ (fun hne => absurd (List.eq_nil_of_length_eq_zero (by omega)) hne) (fun _ => ⟨_, _, rfl⟩)
                · first | exact hnextY _ (fun _ => rfl) (fun _ => ⟨_, _, rfl⟩) | exact hnextY _ (fun hne => absurd (List.eq_nil_of_length_eq_zero (by omega)) hne) (fun _ => ⟨_, _, rfl⟩)
          · go_wp2_with (at_builtin; refine wpList_append_has _ rfl _ _ 22 rfl w.heap.size 35 i0 (.agg #[.int .i64 0, .int .i64 0]) 2 16 Tryd.underlying22 ih iz0 iz1 iz2 rfl (by decide) _ acc.length (fun t u => u = flatV acc t) rfl ?hv ⟨_, 0, none⟩ 1 1 [.int .i64 a.1, .int .i64 a.2] rfl rfl ?c1 ?c2 ?c3 ?c4 ?c5 ?c6 ?_)
            case hv => exact HV.out.alloc _
            case c1 =>
              intro t u ht
              rw [add_zero_off, World.cell?_alloc_at _ _ _ _ rfl]
              simpa using ht
            case c2 => first | (simp [Value.oneCell']; done) | exact ⟨rfl, rfl⟩
            case c3 => omega
            case c4 => unfold maxLen; omega
            case c5 => omega
            case c6 => have := BW.out.size; first | omega | (simp; omega)
            intro b' c' w' hnew hblk hold hgr
            rw [← newsV_single] at hnew
            have HV2 : Hid (Has w' w.heap.size 35 2 (.slice (some ⟨b', 0, none⟩) (acc.length + 1) c') (acc ++ [a]).length (fun t u => u = flatV (acc ++ [a]) t)) := Lib.hid (has_append (r := acc) (l := [a]) rfl hnew)
            have BW2 : Hid (RowKit.Below w.heap.size w w') := Lib.hid ((BW.out.alloc BW.out.size _).grown hgr (by simp; have := BW.out.size; omega) (fun k hk => (HV.out.block k hk).1))
            clear hnew hblk hold hgr HV
            go_wp2_with fail
            all_goals
              go_roundg (ta.length + tb.length)
              case measure => omega
              case rel =>
                refine ⟨ta, tb, acc ++ [a], _, _, _, _, rfl, rfl, by first | omega | (simp; done) | (simp; omega), by first | omega | (simp; done) | (simp; omega), by first | omega | (simp; done) | (simp; omega), by first | omega | (simp; done) | (simp; omega), by first | omega | (simp; done) | (simp; omega), by first | omega | (simp; done) | (simp; omega), (show Aside _ from ?_), (show Aside _ from ?_), (show Aside _ from ?_), (show Aside _ from BW2.out), (show Aside _ from HV2.out)⟩
                · show _ ++ _ = _
                  rw [← EQ.out, chooseF_eq _ _ _ _ _ _ _ hc.out]; simp
                · first | exact hnextX _ (fun _ => rfl) (fun _ => ⟨_, _, rfl⟩) | exact hnextX _ (fun hne => absurd (List.eq_nil_of_length_eq_zero (by omega)) hne) (fun _ => ⟨_, _, rfl⟩)
                · first | exact hnextY _ (fun _ => rfl) (fun _ => ⟨_, _, rfl⟩) | exact hnextY _ (fun hne => absurd (List.eq_nil_of_length_eq_zero (by omega)) hne) (fun _ => ⟨_, _, rfl⟩)
        · have e1 : ¬ z = 0 := by omega
          have e2 : ¬ z < 0 := by omega
          have e4 : ¬ z ≤ 0 := by omega
          have e5 : 0 ≤ z := by omega
          have hc : Hid (0 < cmpF a b) := Lib.hid (by rw [← HZ.out]; exact hpos)
          cases R
          · go_wp2_with fail
            all_goals
              go_roundg (ta.length + tb.length + 1)
              case measure => omega
              case rel =>
                refine ⟨(a :: ta), tb, acc, _, _, _, _, rfl, rfl, by first | omega | (simp; done) | (simp; omega), by first | omega | (simp; done) | (simp; omega), by first | omega | (simp; done) | (simp; omega), by first | omega | (simp; done) | (simp; omega), by first | omega | (simp; done) | (simp; omega), by first | omega | (simp; done) | (simp; omega), (show Aside _ from ?_), (show Aside _ from ?_), (show Aside _ from ?_), (show Aside _ from BW.out), (show Aside _ from HV.out)⟩
                · show _ ++ _ = _
                  rw [← EQ.out, chooseF_gt _ _ _ _ _ _ _ hc.out]; simp
                · exact HX.out
                · first | exact hnextY _ (fun _ => rfl) (fun _ => ⟨_, _, rfl⟩) | exact hnextY _ (fun hne => absurd (List.eq_nil_of_length_eq_zero (by omega)) hne) (fun _ => ⟨_, _, rfl⟩)
          · go_wp2_with (at_builtin; refine wpList_append_has _ rfl _ _ 22 rfl w.heap.size 35 i0 (.agg #[.int .i64 0, .int .i64 0]) 2 16 Tryd.underlying22 ih iz0 iz1 iz2 rfl (by decide) _ acc.length (fun t u => u = flatV acc t) rfl ?hv ⟨_, 0, none⟩ 1 1 [.int .i64 b.1, .int .i64 b.2] rfl rfl ?c1 ?c2 ?c3 ?c4 ?c5 ?c6 ?_)
            case hv => exact HV.out.alloc _
            case c2 => first | (simp [Value.oneCell']; done) | exact ⟨rfl, rfl⟩
            case c4 => unfold maxLen; omega
            case c5 => omega
            case c6 => have := BW.out.size; first | omega | (simp; omega)
            intro b' c' w' hnew hblk hold hgr
            rw [← newsV_single] at hnew
            have HV2 : Hid (Has w' w.heap.size 35 2 (.slice (some ⟨b', 0, none⟩) (acc.length + 1) c') (acc ++ [b]).length (fun t u => u = flatV (acc ++ [b]) t)) := Lib.hid (has_append (r := acc) (l := [b]) rfl hnew)
            have BW2 : Hid (RowKit.Below w.heap.size w w') := Lib.hid ((BW.out.alloc BW.out.size _).grown hgr (by simp; have := BW.out.size; omega) (fun k hk => (HV.out.block k hk).1))
            clear hnew hblk hold hgr HV
            go_wp2_with fail
            all_goals
              go_roundg (ta.length + tb.length + 1)
              case measure => omega
              case rel =>
                refine ⟨(a :: ta), tb, acc ++ [b], _, _, _, _, rfl, rfl, by first | omega | (simp; done) | (simp; omega), by first | omega | (simp; done) | (simp; omega), by first | omega | (simp; done) | (simp; omega), by first | omega | (simp; done) | (simp; omega), by first | omega | (simp; done) | (simp; omega), by first | omega | (simp; done) | (simp; omega), (show Aside _ from ?_), (show Aside _ from ?_), (show Aside _ from ?_), (show Aside _ from BW2.out), (show Aside _ from HV2.out)⟩
                · show _ ++ _ = _
                  rw [← EQ.out, chooseF_gt _ _ _ _ _ _ _ hc.out]; simp
                · exact HX.out
                · first | exact hnextY _ (fun _ => rfl) (fun _ => ⟨_, _, rfl⟩) | exact hnextY _ (fun hne => absurd (List.eq_nil_of_length_eq_zero (by omega)) hne) (fun _ => ⟨_, _, rfl⟩)
end Go.Proofs.YtbmfldoobkeieaaDoor.KForm
