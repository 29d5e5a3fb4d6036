/- Lemmas of this claim's proof, out of several texts merged by wip/tools/prune.py of this session, what the claim does not use left out: PlKept, PlPlay, PlLaw0, PlLaws, KOps, PlRow. -/
import Derived.Test.YtbmfldoobkeieaaM7
import Derived.Deep.RegionLaw
import Derived.Deep.QuietTactic
import Derived.Deep.RegionHeld3
import Derived.ProofKit
import Derived.OpenShut
import Derived.SizedLaws
import Derived.Deep.SlicePairs
namespace Go.Proofs.Ytbmfldoobkeieaa.PlShelf
open Go.RowKit Go.Lib Go.Sort Go.Proofs.Ytbmfldoobkeieaa.Own Go.Proofs.Ytbmfldoobkeieaa.KForm Go.Proofs.Ytbmfldoobkeieaa.PlMem Go.Proofs.Ytbmfldoobkeieaa.PlPure Go.Proofs.Ytbmfldoobkeieaa.PlCalls
set_option linter.unusedVariables false
set_option linter.unusedSimpArgs false
/-- what is read, beside the row that is written -/
structure FK (sB : Nat) (x : Value) (bo i : Nat) (y : Value) (b k : Nat) (z : Value) (W : World) : Prop where
  c0 : W.cell? ⟨sB, 2, none⟩ = some x
  l0 : sB < W.heap.size
  c1 : W.cell? ⟨bo, i, none⟩ = some y
  l1 : bo < W.heap.size
  c2 : W.cell? ⟨b, k, none⟩ = some z
  f2 : W.frozen? ⟨b, k, none⟩ = false
  l2 : b < W.heap.size
theorem FK.bb {sB : Nat} {x : Value} {bo i : Nat} {y : Value} {b k : Nat} {z : Value} {W W' : World} (h : FK sB x bo i y b k z W) (hb : BB W W') : FK sB x bo i y b k z W' := by
  have cc : ∀ a j, a < W.heap.size → W'.cell? ⟨a, j, none⟩ = W.cell? ⟨a, j, none⟩ := fun a j ha => World.cell?_of_block (w := W) (w' := W') (a := ⟨a, j, none⟩) (hb.block a ha)
  exact ⟨by rw [cc _ _ h.l0, h.c0], Nat.lt_of_lt_of_le h.l0 hb.size, by rw [cc _ _ h.l1, h.c1], Nat.lt_of_lt_of_le h.l1 hb.size, by rw [cc _ _ h.l2, h.c2], by rw [World.frozen?_of_block (w := W) (w' := W') (a := ⟨b, k, none⟩) (hb.block b h.l2)]; exact h.f2, Nat.lt_of_lt_of_le h.l2 hb.size⟩
theorem mark_at {W0 W : World} {sB : Nat} {x : Value} {bo i : Nat} {y : Value} {b k : Nat} {z : Value} (hF : Hid (FK sB x bo i y b k z W0)) (hb : BB W0 W) (hi : i ≤ 4611686018427387903) :
    Calls Try.prog 69 #[.int .i64 (i : Int)] W fun e w' => e = .returned (.agg #[.int .i64 (-20 - (i : Int)), .int .i64 (i : Int)]) ∧ Hid (BB W0 w') ∧ w'.cell? ⟨sB, 2, none⟩ = some x ∧ sB < w'.heap.size ∧ w'.cell? ⟨bo, i, none⟩ = some y ∧ bo < w'.heap.size ∧ w'.cell? ⟨b, k, none⟩ = some z ∧ w'.frozen? ⟨b, k, none⟩ = false ∧ b < w'.heap.size := by
  refine (mark_calls i hi W).mono ?_
  rintro e w' ⟨rfl, h⟩
  have k2 := RowKit.Below.trans (BB.out hb) (RowKit.Below.mono h (BB.out hb).size)
  have f := hF.out.bb k2
  exact ⟨rfl, Lib.hid k2, f.c0, f.l0, f.c1, f.l1, f.c2, f.f2, f.l2⟩
theorem KI.at {w1 : World} {N : Nat} {V : Nat → Value} {L : Nat → Nat} {i k : Nat} {W : World} (h : KI w1 N V L i k W) {j : Nat} (hj : j < N) {b n c : Nat} (hV : V j = .slice (some ⟨b, 0, none⟩) n c) {m : Nat} (hm : m < L j) :
    ∃ z, W.cell? ⟨b, m, none⟩ = some z ∧ W.frozen? ⟨b, m, none⟩ = false ∧ b < W.heap.size ∧ ((j < i ∨ (j = i ∧ m < k)) → MK W (Yo N V) j z) := by
  rcases h.rows j hj with ⟨_, h1⟩ | ⟨b', c', M, f, e, hY, hrow, hn, hc, hmk⟩
  · omega
  · rw [hV] at e
    injection e with e1 e2 e3
    injection e1 with e1
    injection e1 with e1 _ _
    subst e1
    exact ⟨f m, hrow.cell (by omega), hrow.frozen _, hrow.lt, fun h => hmk m hm h⟩
theorem KI.put2 {w1 : World} {N : Nat} {V : Nat → Value} {L : Nat → Nat} {i k : Nat} {W W3 : World} (h : KI w1 N V L i k W) (hb : BB W W3) (hi : i < N) {b n c : Nat} (hV : V i = .slice (some ⟨b, 0, none⟩) n c) (hap : ∀ j, j < N → j ≠ i → (V j).ownBlock ≠ some b) (hY : ∀ b, Yo N V b → b < W.heap.size) :
    KI w1 N V L i (k + 1) ((W3.setCell ⟨b, k, none⟩ (.slice (some ⟨W3.heap.size, 0, none⟩) 1 1)).alloc (.cells #[.int .i64 (-20 - (i : Int)), .int .i64 (i : Int)] 29)) := by
  have hYb : Yo N V b := ⟨i, hi, by rw [hV]; rfl⟩
  rw [← World.setCell_alloc_past _ _ _ _ (Nat.lt_of_lt_of_le (hY b hYb) hb.size)]
  refine KI.put (h.fresh (BB.alloc hb)) hi hV hap (by simp) (fun hg => ?_) ?_ ?_
  · have := hY _ hg
    have := hb.size
    omega
  · rw [World.cell?_alloc_at _ _ _ _ rfl]; rfl
  · rw [World.cell?_alloc_at _ _ _ _ rfl]; rfl
/-- what is read in the last round of all -/
structure GK (w0 : World) (sB : Nat) (x : Value) (bo i : Nat) (y : Value) (b k g : Nat) (W : World) : Prop where
  bb : BB w0 W
  fk : FK sB x bo i y b k (.slice (some ⟨g, 0, none⟩) 1 1) W
  g0 : W.cell? ⟨g, 0, none⟩ = some (.int .i64 (-20 - (i : Int)))
  g1 : W.cell? ⟨g, 1, none⟩ = some (.int .i64 (i : Int))
  gl : g < W.heap.size
section
variable {w0 : World} {sB : Nat} {x : Value} {bo i : Nat} {y : Value} {b k g : Nat} {W W' : World}
theorem GK.go (h : GK w0 sB x bo i y b k g W) (hb : BB W W') : GK w0 sB x bo i y b k g W' := by
  refine ⟨RowKit.Below.trans h.bb (RowKit.Below.mono (BB.out hb) (BB.out h.bb).size), h.fk.bb hb, ?_, ?_, Nat.lt_of_lt_of_le h.gl hb.size⟩
  · exact ((BB.out hb).cell (p := ⟨g, 0, none⟩) h.gl).trans h.g0
  · exact ((BB.out hb).cell (p := ⟨g, 1, none⟩) h.gl).trans h.g1
theorem GK.drew (h : GK w0 sB x bo i y b k g W) : GK w0 sB x bo i y b k g W.drew := h.go (BB.drew (BB.refl W))
theorem GK.cells (h : GK w0 sB x bo i y b k g W) : W.cell? ⟨sB, 2, none⟩ = some x ∧ W.cell? ⟨bo, i, none⟩ = some y ∧ W.cell? ⟨b, k, none⟩ = some (.slice (some ⟨g, 0, none⟩) 1 1) ∧ W.cell? ⟨g, 0, none⟩ = some (.int .i64 (-20 - (i : Int))) ∧ W.cell? ⟨g, 1, none⟩ = some (.int .i64 (i : Int)) := ⟨h.fk.c0, h.fk.c1, h.fk.c2, h.g0, h.g1⟩
theorem mark_gk (h : GK w0 sB x bo i y b k g W) (hi : i ≤ 4611686018427387903) : Calls Try.prog 69 #[.int .i64 (i : Int)] W fun e w' => e = .returned (.agg #[.int .i64 (-20 - (i : Int)), .int .i64 (i : Int)]) ∧ GK w0 sB x bo i y b k g w' := by
  refine (mark_calls i hi W).mono ?_
  rintro e w' ⟨rfl, h2⟩
  exact ⟨rfl, h.go h2⟩
end
set_option maxHeartbeats 8000000 in
set_option maxRecDepth 100000 in
theorem kept_calls {base sB : Nat} {Z : Nat → Prop} {w0 : World} {vl vw vo vs : Value} {LV WV OV SV : List Value} {RL : List (List (Int × Int))} {QO : List (List (List (Int × Int)))} {mx : Nat} {w : World} (h : PS base sB Z w0 vl vw vo vs LV WV OV SV RL RL QO QO mx w) (hmx : mx ≤ 1073741824) (hN : LV.length ≤ 1073741824) (hNO : OV.length ≤ 1073741824) :
    Calls Try.prog 48 #[.pointer (some ⟨sB, 0, none⟩)] w fun e w' => e = .returned (.bool true) ∧ RowKit.Below base w0 w' := by
  obtain ⟨Ao, bo, co, rfl, hco, hcelo⟩ := h.ro.sl
  obtain ⟨As, bs, cs, rfl, hcs, hcels⟩ := h.rs.sl
  have hSO : SV.length = OV.length := by rw [h.was.1, h.outer.1]
  have hLR : LV.length = RL.length := h.lists.1
  obtain ⟨V, hV⟩ : ∃ V : Nat → Value, V = fun j => OV[j]! := ⟨_, rfl⟩
  obtain ⟨S, hS⟩ : ∃ V : Nat → Value, V = fun j => SV[j]! := ⟨_, rfl⟩
  obtain ⟨L, hL⟩ : ∃ L : Nat → Nat, L = fun j => QO[j]!.length := ⟨_, rfl⟩
  have HVe := Lib.hid hV
  have HLe := Lib.hid hL
  have HLq : Hid (∀ n, Calls Try.prog 68 #[vl, vw] (w.drewN n) fun e w' => e = .returned (.bool true) ∧ ∃ m, w' = (w.drewN n).drewN m) := Lib.hid (fun n => by
    have h' := h.fresh (BB.out (BB.drewN (BB.refl w) (n := n)))
    refine (lists_same (LQ.of_row h'.rl (h'.lists.imp (fun u r hp => by obtain ⟨A, c, e1, e2, e3⟩ := hp.2.kx; exact ⟨A, c, e1, e2, e3.kr⟩))) (LQ.of_row h'.rw (h'.want.imp (fun u r ⟨A, c, e1, e2, e3⟩ => ⟨A, c, e1, e2, e3.kr⟩))) (by omega) mx (by omega) (fun q hq => ?_)).mono (fun e w' h => ⟨h.1, h.2.out⟩)
    obtain ⟨i, hi, rfl⟩ := List.mem_iff_getElem.mp hq
    exact (h.lists.2 i _ _ (List.getElem?_eq_getElem (show i < LV.length by omega)) (List.getElem?_eq_getElem hi)).1)
  have HO : Hid (∀ i, i < OV.length → ∀ W, BB w W → Calls Try.prog 68 #[V i, S i] W fun e w' => e = .returned (.bool true) ∧ ∃ m, w' = W.drewN m) := Lib.hid (fun i hi W hb => by
    have h' := h.fresh hb
    rw [hV, hS]
    refine (lists_same (LQ.of_OX (h'.outerAt i hi).2) (LQ.of_OX (h'.wasAt i (by omega))) (by have := (h'.outerAt i hi).1.1; omega) mx (by omega) (h'.outerAt i hi).1.2).mono (fun e w' h => ⟨h.1, h.2.out⟩))
  have CE : Hid (∀ i, i < OV.length → ∀ W, BB w W → Ao = some ⟨bo, 0, none⟩ ∧ As = some ⟨bs, 0, none⟩ ∧ W.cell? ⟨bo, i, none⟩ = some (V i) ∧ bo < W.heap.size ∧ W.cell? ⟨bs, i, none⟩ = some (S i) ∧ bs < W.heap.size) := Lib.hid (fun i hi W hb => by
    obtain ⟨h1, h2, _, h3⟩ := hcelo (by omega)
    obtain ⟨k1, k2, _, k3⟩ := hcels (by omega)
    rw [hV, hS]
    exact ⟨h1, k1, by rw [World.cell?_of_block (w := w) (w' := W) (a := ⟨bo, i, none⟩) (hb.block bo h2)]; exact h3 i hi, Nat.lt_of_lt_of_le h2 hb.size, by rw [World.cell?_of_block (w := w) (w' := W) (a := ⟨bs, i, none⟩) (hb.block bs k2)]; exact k3 i (by omega), Nat.lt_of_lt_of_le k2 hb.size⟩)
  have HS := Lib.hid h
  obtain ⟨cB0, cB1, cB2, cB3, hsB⟩ := h.cellsB
  clear h hcelo hcels hV hS hL
  go_enter Try.func48, Try.ntmps48
  go_wp2_with fail
  go_quiet (exact Calls.quiet_of (HLq.out _))
  clear HLq
  go_wp2_with fail
  have E0 : Hid (BB w (w.drewN nq)) := Lib.hid (BB.drewN (BB.refl w))
  go_loopg [3, 4] OV.length (fun gg s3 s4 wr => ∃ i : Nat, i ≤ OV.length ∧ OV.length - i ≤ gg ∧ s3 = .bool true ∧ s4 = .int .i64 i ∧ Aside (BB w wr))
  case atStart => exact ⟨0, Nat.zero_le _, by omega, rfl, rfl, E0.out⟩
  case round =>
    obtain ⟨i, hi, hg, rfl, rfl, EW⟩ := hrel
    obtain ⟨dB0, dB1, dB2, dB3, hsBr⟩ := (HS.out.fresh EW.out).cellsB
    by_cases hlt : i < OV.length
    · have hltz : (i : Int) < (OV.length : Int) := by omega
      have hltz2 : (i : Int) < (SV.length : Int) := by omega
      obtain ⟨rfl, rfl, e1, e2, e3, e4⟩ := CE.out i hlt wr EW.out
      have HLi : Hid (∀ n, Calls Try.prog 68 #[V i, S i] (wr.drewN n) fun e w' => e = .returned (.bool true) ∧ ∃ m, w' = (wr.drewN n).drewN m) := Lib.hid (fun n => HO.out i hlt _ (BB.drewN EW.out))
      go_wp2_with fail
      go_quiet (exact Calls.quiet_of (HLi.out _))
      go_wp2_with fail
      go_roundg (OV.length - (i + 1))
      case measure => omega
      case rel => exact ⟨i + 1, by omega, by omega, rfl, by go_num, (show Aside _ from BB.drewN EW.out)⟩
    · have hltz : ¬ (i : Int) < (OV.length : Int) := by omega
      obtain rfl : i = OV.length := by omega
      obtain ⟨wA, hwA⟩ : ∃ x, x = wr := ⟨_, rfl⟩
      subst hwA
      have HP := Lib.hid (HS.out.fresh EW.out)
      have K0 : Hid (KI wA OV.length V L 0 0 wA) := Lib.hid (by rw [HVe.out, HLe.out]; exact HP.out.ki)
      have F4 : Hid (∀ b, Yo OV.length V b → base ≤ b ∧ b < wA.heap.size ∧ ¬ XZ Z sB vl vw (.slice Ao OV.length co) (.slice As SV.length cs) b) := Lib.hid (by rw [HVe.out]; exact fun b hb => ⟨(HP.out.yo b hb).1, (HP.out.yo b hb).2.1, (HP.out.yo b hb).2.2.1⟩)
      have F1 : Hid (∀ W, Step (Yo OV.length V) wA (Yo OV.length V) W → W.cell? ⟨sB, 2, none⟩ = some (.slice Ao OV.length co) ∧ sB < W.heap.size ∧ W.cell? ⟨sB, 0, none⟩ = some vl ∧ ∀ i, i < OV.length → Ao = some ⟨bo, 0, none⟩ ∧ W.cell? ⟨bo, i, none⟩ = some (V i) ∧ bo < W.heap.size) := Lib.hid (fun W s => by
        have hk : ∀ b j, XZ Z sB vl vw (.slice Ao OV.length co) (.slice As SV.length cs) b → b < wA.heap.size → W.cell? ⟨b, j, none⟩ = wA.cell? ⟨b, j, none⟩ := fun b j hx hlt => World.cell?_of_block (w := wA) (w' := W) (a := ⟨b, j, none⟩) (s.keep b hlt (fun hY => (F4.out b hY).2.2 hx))
        refine ⟨by rw [hk _ _ (.inl (.inl rfl)) hsBr, dB2], Nat.lt_of_lt_of_le hsBr s.size, by rw [hk _ _ (.inl (.inl rfl)) hsBr, dB0], fun i hi => ?_⟩
        obtain ⟨h1, _, h3, h4, _, _⟩ := CE.out i hi wA EW.out
        exact ⟨h1, by rw [hk _ _ (.inl (.inr (.inr (.inr (.inl (by rw [h1]; rfl)))))) h4, h3], Nat.lt_of_lt_of_le h4 s.size⟩)
      have F2 : Hid (∀ i, i < OV.length → ∃ A b c, V i = .slice A (L i) c ∧ L i ≤ c ∧ (0 < L i → A = some ⟨b, 0, none⟩) ∧ L i ≤ 256) := Lib.hid (fun i hi => by
        rw [HVe.out, HLe.out]
        obtain ⟨A, b, c, h1, h2, h3⟩ := (HP.out.outerAt i hi).2.sl
        exact ⟨A, b, c, h1, h2, h3, (HP.out.outerAt i hi).1.1⟩)
      have F3 : Hid (∀ i j, i < OV.length → j < OV.length → j ≠ i → ∀ b, (V i).ownBlock = some b → (V j).ownBlock ≠ some b) := Lib.hid (fun i j hi hj hne b hb => by
        rw [HVe.out] at hb ⊢
        exact HP.out.oap2 i j hi hj hne hb)
      clear CE HO cB0 cB1 cB2 cB3
      go_wp2_with fail
      clear dB0 dB1 dB2 dB3
      go_loopg [5] OV.length (fun gg s5 wr => ∃ i : Nat, i ≤ OV.length ∧ OV.length - i ≤ gg ∧ s5 = .int .i64 i ∧ Aside (KI wA OV.length V L i 0 wr))
      case atStart => exact ⟨0, Nat.zero_le _, by omega, rfl, K0.out⟩
      case round =>
        obtain ⟨i, hi, hg, rfl, KW⟩ := hrel
        obtain ⟨fB2, hsB2, _, hrow⟩ := F1.out _ KW.out.st
        by_cases hlt : i < OV.length
        · have hltz : (i : Int) < (OV.length : Int) := by omega
          obtain ⟨hAo, _, _⟩ := hrow i hlt
          subst hAo
          clear hrow
          obtain ⟨Ai, bi, ci, hVi, hci, hAi, hLi⟩ := F2.out i hlt
          go_wp2_with fail
          go_loopg [6] (L i) (fun gg s6 wr => ∃ k : Nat, k ≤ L i ∧ L i - k ≤ gg ∧ s6 = .int .i64 k ∧ Aside (KI wA OV.length V L i k wr))
          case atStart => exact ⟨0, Nat.zero_le _, by omega, rfl, KW.out⟩
          case round =>
            obtain ⟨k, hk, hgk, rfl, KK⟩ := hrel
            clear KW fB2 hsB2
            obtain ⟨fB2, hsB2, _, hrow⟩ := F1.out _ KK.out.st
            obtain ⟨_, e1, e2⟩ := hrow i hlt
            rw [hVi] at e1
            clear hrow
            by_cases hkl : k < L i
            · have hklz : (k : Int) < (L i : Int) := by omega
              obtain rfl := hAi (by omega)
              obtain ⟨z, hz0, hz1, hz2, _⟩ := KK.out.at hlt hVi hkl
              have FX := Lib.hid (FK.mk fB2 hsB2 e1 e2 hz0 hz1 hz2)
              go_upto_region 16 with fail
              go_region_law (first
                | (go_simp; go_at_call 69; (refine (mark_at FX (by repeat (first | with_reducible exact BB.refl _ | with_reducible apply BB.drewN | with_reducible apply BB.drew | with_reducible apply BB.alloc)) (by omega)).mono ?_); rintro e w3 ⟨rfl, hb3, hm0, hm1, hm2, hm3, hm4, hm5, hm6⟩; go_wp2_with fail)
                | fail)
              all_goals
                go_wp2_with fail
                go_roundg (L i - (k + 1))
                case measure => omega
                case rel => exact ⟨k + 1, by omega, by omega, by go_num, (show Aside _ from KI.put2 KK.out hb3.out hlt hVi (fun j hj hne => F3.out i j hlt hj hne bi (by rw [hVi]; rfl)) (fun b hb => Nat.lt_of_lt_of_le (F4.out b hb).2.1 KK.out.st.size))⟩
            · have hklz : ¬ (k : Int) < (L i : Int) := by omega
              go_wp2_with fail
              go_roundg (OV.length - (i + 1))
              case measure => omega
              case rel => exact ⟨i + 1, by omega, by omega, by go_num, (show Aside _ from KI.next KK.out (by omega))⟩
        · have hltz : ¬ (i : Int) < (OV.length : Int) := by omega
          obtain rfl : i = OV.length := by omega
          obtain ⟨wB, hwB⟩ : ∃ x, x = wr := ⟨_, rfl⟩
          subst hwB
          go_wp2_with fail
          clear fB2 hsB2 hrow
          go_loopg [3, 7] OV.length (fun gg s3 s7 wr => ∃ i : Nat, i ≤ OV.length ∧ OV.length - i ≤ gg ∧ s3 = .bool true ∧ s7 = .int .i64 i ∧ Aside (KI wA OV.length V L OV.length 0 wr))
          case atStart => exact ⟨0, Nat.zero_le _, by omega, rfl, rfl, KW.out⟩
          case round =>
            clear KW
            obtain ⟨i, hi, hg, rfl, rfl, KW⟩ := hrel
            obtain ⟨fB2, hsB2, fB0, hrow⟩ := F1.out _ KW.out.st
            by_cases hlt : i < OV.length
            · have hltz : (i : Int) < (OV.length : Int) := by omega
              obtain ⟨hAo, _, _⟩ := hrow i hlt
              subst hAo
              clear hrow
              obtain ⟨Ai, bi, ci, hVi, hci, hAi, hLi⟩ := F2.out i hlt
              go_wp2_with fail
              go_loopg [3, 8] (L i) (fun gg s3 s8 wr => ∃ k : Nat, k ≤ L i ∧ L i - k ≤ gg ∧ s3 = .bool true ∧ s8 = .int .i64 k ∧ Aside (KI wA OV.length V L OV.length 0 wr))
              case atStart => exact ⟨0, Nat.zero_le _, by omega, rfl, rfl, KW.out⟩
              case round =>
                obtain ⟨k, hk, hgk, rfl, rfl, KK⟩ := hrel
                clear KW fB2 hsB2 fB0
                obtain ⟨fB2, hsB2, _, hrow⟩ := F1.out _ KK.out.st
                obtain ⟨_, e1, e2⟩ := hrow i hlt
                rw [hVi] at e1
                clear hrow
                by_cases hkl : k < L i
                · have hklz : (k : Int) < (L i : Int) := by omega
                  obtain rfl := hAi (by omega)
                  obtain ⟨z, hz0, hz1, hz2, hzm⟩ := KK.out.at hlt hVi hkl
                  obtain ⟨g, rfl, _, hgl, hg0, hg1⟩ := hzm (.inl hlt)
                  clear hzm
                  have hS0 : GK wr sB (.slice (some ⟨bo, 0, none⟩) OV.length co) bo i (.slice (some ⟨bi, 0, none⟩) (L i) ci) bi k g wr := ⟨BB.refl wr, FK.mk fB2 hsB2 e1 e2 hz0 hz1 hz2, hg0, hg1, hgl⟩
                  go_upto_region 23 with fail
                  clear hz0 hz1 hz2 hg0 hg1 hgl e1 e2 fB2 hsB2
                  go_region_held3 (fun W' => W'.cell? ⟨sB, 2, none⟩ = some (.slice (some ⟨bo, 0, none⟩) OV.length co) ∧ W'.cell? ⟨bo, i, none⟩ = some (.slice (some ⟨bi, 0, none⟩) (L i) ci) ∧ W'.cell? ⟨bi, k, none⟩ = some (.slice (some ⟨g, 0, none⟩) 1 1) ∧ W'.cell? ⟨g, 0, none⟩ = some (.int .i64 (-20 - (i : Int))) ∧ W'.cell? ⟨g, 1, none⟩ = some (.int .i64 (i : Int)))
                    (exact (show GK wr sB (.slice (some ⟨bo, 0, none⟩) OV.length co) bo i (.slice (some ⟨bi, 0, none⟩) (L i) ci) bi k g _ by repeat (first | with_reducible assumption | with_reducible apply GK.drewN | with_reducible apply GK.drew)).cells)
                    (first
                    | (go_at_call 69; refine (mark_gk (w0 := wr) (sB := sB) (x := .slice (some ⟨bo, 0, none⟩) OV.length co) (bo := bo) (y := .slice (some ⟨bi, 0, none⟩) (L i) ci) (b := bi) (k := k) (g := g) (by repeat (first | with_reducible assumption | with_reducible apply GK.drewN | with_reducible apply GK.drew)) (by omega)).mono ?_; rintro e w3 ⟨rfl, hS3⟩)
                    | fail)
                  all_goals
                    go_wp2_with fail
                    go_roundg (L i - (k + 1))
                    case measure => omega
                    case rel => exact ⟨k + 1, by omega, by omega, rfl, by go_num, (show Aside _ from KK.out.fresh hS3.bb)⟩
                · have hklz : ¬ (k : Int) < (L i : Int) := by omega
                  go_wp2_with fail
                  go_roundg (OV.length - (i + 1))
                  case measure => omega
                  case rel => exact ⟨i + 1, by omega, by omega, rfl, by go_num, KK.out⟩
            · have hltz : ¬ (i : Int) < (OV.length : Int) := by omega
              obtain rfl : i = OV.length := by omega
              go_wp2_with fail
              refine (apart_kept HP.out hmx hN (by rw [← HVe.out]; exact KW.out.st)).mono ?_
              rintro e w9 ⟨rfl, hb9⟩
              go_wp2_with fail
              go_ret
              exact ⟨rfl, (HP.out.below.trans (KW.out.st.below HP.out.lo (fun b hb => (F4.out b hb).1))).trans hb9⟩
end Go.Proofs.Ytbmfldoobkeieaa.PlShelf

namespace Go.Proofs.Ytbmfldoobkeieaa.PlShelf
open Go.RowKit Go.Lib Go.Sort Go.Proofs.Ytbmfldoobkeieaa.Own Go.Proofs.Ytbmfldoobkeieaa.KForm Go.Proofs.Ytbmfldoobkeieaa.PlMem Go.Proofs.Ytbmfldoobkeieaa.PlPure Go.Proofs.Ytbmfldoobkeieaa.PlCalls
set_option linter.unusedVariables false
set_option linter.unusedSimpArgs false
/-- a question, as it lies in memory -/
structure OpD where
  kd : Int
  A : Option Addr
  c : Nat
  la : List (Int × Int)
  B : Option Addr
  c2 : Nat
  lb : List (Int × Int)
  k1 : Int
  k2 : Int
  n : Int
def OpD.cells (o : OpD) : List Value := [.int .i64 o.kd, .slice o.A o.la.length o.c, .slice o.B o.lb.length o.c2, .int .i64 o.k1, .int .i64 o.k2, .int .i64 o.n]
structure OpD.ok (w : World) (mx : Nat) (o : OpD) : Prop where
  a : KR w o.A o.la
  b : KR w o.B o.lb
  na : o.A = none → o.la = []
  nb : o.B = none → o.lb = []
  ca : o.la.length ≤ o.c
  cb : o.lb.length ≤ o.c2
  sum : o.la.length + o.lb.length ≤ mx
  wide : ∀ x ∈ o.la, -9223372036854775808 ≤ x.2 ∧ x.2 ≤ 9223372036854775807
/-- a script that is read -/
def ScriptAt (w : World) (A : Option Addr) (os : List OpD) (mx : Nat) : Prop :=
  (∀ o ∈ os, o.ok w mx) ∧ (0 < os.length → ∃ ad, A = some ad ∧ ad.block < w.heap.size ∧ ∀ j, (hj : j < os.length) → ∀ t u, os[j].cells[t]? = some u → w.cell? (ad.add (j * 6 + t)) = some u)
theorem PS.new (w : World) (mx : Nat) : PS w.heap.size w.heap.size (fun _ => False) w (.slice none 0 0) (.slice none 0 0) (.slice none 0 0) (.slice none 0 0) [] [] [] [] [] [] [] [] mx (w.alloc (.cells #[.slice none 0 0, .slice none 0 0, .slice none 0 0, .slice none 0 0] 73)) := by
  have hx : ∀ b, Xb w.heap.size (.slice none 0 0) (.slice none 0 0) (.slice none 0 0) (.slice none 0 0) b → b = w.heap.size := by
    rintro b (h | h | h | h | h)
    · exact h
    all_goals simp [Value.ownBlock] at h
  have hn : ∀ x, Ne2 (Value.slice none 0 0).ownBlock x := fun x k e => by simp [Value.ownBlock] at e
  exact
    { below := (RowKit.Below.refl _ _).alloc (Nat.le_refl _) _
      lo := by simp
      box := World.rowIs_alloc w #[.slice none 0 0, .slice none 0 0, .slice none 0 0, .slice none 0 0] _ _ (fun i hi => by
        match i, hi with
        | 0, _ => rfl
        | 1, _ => rfl
        | 2, _ => rfl
        | 3, _ => rfl)
      xge := fun b hb => by rw [hx b hb]; simp
      zge := fun b h => h.elim
      nz := fun b _ h => h
      nl := hn _
      nw := ⟨hn _, hn _⟩
      no := ⟨hn _, hn _, hn _⟩
      ns := ⟨hn _, hn _, hn _, hn _⟩
      rl := .inl ⟨rfl, rfl⟩
      rw := .inl ⟨rfl, rfl⟩
      ro := .inl ⟨rfl, rfl⟩
      rs := .inl ⟨rfl, rfl⟩
      lists := ⟨rfl, fun i u r h => by simp at h⟩
      lap := List.Pairwise.nil
      want := ⟨rfl, fun i u r h => by simp at h⟩
      outer := ⟨rfl, fun i u r h => by simp at h⟩
      oap := List.Pairwise.nil
      was := ⟨rfl, fun i u r h => by simp at h⟩ }
/-- the shelf behind so many questions -/
def PI (w : World) (sB mx i : Nat) (W : World) : Prop := ∃ vl vw vo vs LV WV OV SV RL QO, PS w.heap.size sB (fun _ => False) w vl vw vo vs LV WV OV SV RL RL QO QO mx W ∧ RL.length ≤ 257 * i ∧ QO.length ≤ i
theorem PI.next {w : World} {sB mx i : Nat} {W : World} (h : PI w sB mx i W) : PI w sB mx (i + 1) W := by
  obtain ⟨vl, vw, vo, vs, LV, WV, OV, SV, RL, QO, h1, h2, h3⟩ := h
  exact ⟨vl, vw, vo, vs, LV, WV, OV, SV, RL, QO, h1, by omega, by omega⟩
theorem PI.below {w : World} {sB mx i : Nat} {W : World} (h : PI w sB mx i W) : RowKit.Below w.heap.size w W := by
  obtain ⟨vl, vw, vo, vs, LV, WV, OV, SV, RL, QO, h1, _⟩ := h
  exact h1.below
theorem ask_PI {w : World} {sB mx i : Nat} {W : World} (h : PI w sB mx i W) (hi : i < 1048576) (hmx : mx ≤ 1073741824) (o : OpD) (ho : o.ok w mx) :
    Calls Try.prog 47 #[.pointer (some ⟨sB, 0, none⟩), .agg #[.int .i64 o.kd, .slice o.A o.la.length o.c, .slice o.B o.lb.length o.c2, .int .i64 o.k1, .int .i64 o.k2, .int .i64 o.n]] W fun e w' => e = .returned (.bool true) ∧ PI w sB mx (i + 1) w' := by
  obtain ⟨vl, vw, vo, vs, LV, WV, OV, SV, RL, QO, h1, h2, h3⟩ := h
  refine (ask_calls h1 o.A o.B o.c o.c2 o.la o.lb o.kd o.k1 o.k2 o.n ho.a ho.b ho.na ho.nb ho.ca ho.cb ho.sum hmx ho.wide (by omega) (by omega)).mono ?_
  rintro e w' ⟨he, a1, a2, a3, a4, a5, a6, a7, a8, a9, a10, hp, hR, hQ⟩
  exact ⟨he, a1, a2, a3, a4, a5, a6, a7, a8, a9, a10, hp, by omega, by omega⟩
theorem kept_PI {w : World} {sB mx i : Nat} {W : World} (h : PI w sB mx i W) (hi : i ≤ 1048576) (hmx : mx ≤ 1073741824) :
    Calls Try.prog 48 #[.pointer (some ⟨sB, 0, none⟩)] W fun e w' => e = .returned (.bool true) ∧ RowKit.Below w.heap.size w w' := by
  obtain ⟨vl, vw, vo, vs, LV, WV, OV, SV, RL, QO, h1, h2, h3⟩ := h
  exact kept_calls h1 hmx (by rw [h1.lists.1]; omega) (by rw [h1.outer.1]; omega)
set_option maxHeartbeats 8000000 in
set_option maxRecDepth 100000 in
theorem play_calls (A : Option Addr) (c : Nat) (os : List OpD) (lo hi : Int) (mx : Nat) (w : World) (h : ScriptAt w A os mx) (hmx : mx ≤ 1073741824) (hlen : os.length ≤ 1048576) (hc : os.length ≤ c) :
    Calls Try.prog 31 #[.slice A os.length c, .int .i64 lo, .int .i64 hi] w fun e w' => e = .returned (.bool true) ∧ RowKit.Below w.heap.size w w' := by
  have H := Lib.hid h
  clear h
  have P0 : Hid (PI w w.heap.size mx 0 (w.alloc (.cells #[.slice none 0 0, .slice none 0 0, .slice none 0 0, .slice none 0 0] 73))) := Lib.hid ⟨_, _, _, _, _, _, _, _, _, _, PS.new w mx, by simp, by simp⟩
  go_enter Try.func31, Try.ntmps31
  go_wp2_with fail
  go_loopg [8] os.length (fun gg s8 wr => ∃ i : Nat, i ≤ os.length ∧ os.length - i ≤ gg ∧ s8 = .int .i64 i ∧ Aside (PI w w.heap.size mx i wr))
  case atStart => exact ⟨0, Nat.zero_le _, by omega, rfl, P0.out⟩
  case round =>
    clear P0
    obtain ⟨i, hi2, hg, rfl, EW⟩ := hrel
    by_cases hlt : i < os.length
    · have hltz : (i : Int) < (os.length : Int) := by omega
      obtain ⟨ad, rfl, hadl, hcell⟩ := H.out.2 (by omega)
      have hok := Lib.hid (H.out.1 _ (List.getElem_mem hlt))
      have hB := EW.out.below
      obtain ⟨o, ho⟩ : ∃ o, o = os[i] := ⟨_, rfl⟩
      have hcl : ∀ t u, o.cells[t]? = some u → wr.cell? (ad.add (i * 6 + t)) = some u := fun t u hu => by
        rw [hB.cell (p := ad.add (i * 6 + t)) (by rw [KForm.add_block]; exact hadl)]
        exact hcell i hlt t u (by rw [← ho]; exact hu)
      have d0 : wr.cell? (ad.add (i * 6)) = some (.int .i64 o.kd) := hcl 0 _ rfl
      have d1 : wr.cell? ⟨(ad.add (i * 6)).block, (ad.add (i * 6)).off + 1, none⟩ = some (.slice o.A o.la.length o.c) := by have := hcl 1 _ rfl; rw [← Addr.add_add] at this; exact this
      have d2 : wr.cell? ⟨(ad.add (i * 6)).block, (ad.add (i * 6)).off + 2, none⟩ = some (.slice o.B o.lb.length o.c2) := by have := hcl 2 _ rfl; rw [← Addr.add_add] at this; exact this
      have d3 : wr.cell? ⟨(ad.add (i * 6)).block, (ad.add (i * 6)).off + 3, none⟩ = some (.int .i64 o.k1) := by have := hcl 3 _ rfl; rw [← Addr.add_add] at this; exact this
      have d4 : wr.cell? ⟨(ad.add (i * 6)).block, (ad.add (i * 6)).off + 4, none⟩ = some (.int .i64 o.k2) := by have := hcl 4 _ rfl; rw [← Addr.add_add] at this; exact this
      have d5 : wr.cell? ⟨(ad.add (i * 6)).block, (ad.add (i * 6)).off + 5, none⟩ = some (.int .i64 o.n) := by have := hcl 5 _ rfl; rw [← Addr.add_add] at this; exact this
      rw [← ho] at hok
      clear hcl hcell hB ho
      by_cases hl : o.kd < lo
      · go_wp2_with fail
        go_roundg (os.length - (i + 1))
        case measure => omega
        case rel => exact ⟨i + 1, by omega, by omega, by go_num, (show Aside _ from EW.out.next)⟩
      · by_cases hh : o.kd > hi
        · go_wp2_with fail
          go_roundg (os.length - (i + 1))
          case measure => omega
          case rel => exact ⟨i + 1, by omega, by omega, by go_num, (show Aside _ from EW.out.next)⟩
        · go_wp2_with fail
          refine (ask_PI EW.out (by omega) hmx o hok.out).mono ?_
          rintro e w5 ⟨rfl, hp5⟩
          go_wp2_with fail
          go_roundg (os.length - (i + 1))
          case measure => omega
          case rel => exact ⟨i + 1, by omega, by omega, by go_num, (show Aside _ from hp5)⟩
    · have hltz : ¬ (i : Int) < (os.length : Int) := by omega
      obtain rfl : i = os.length := by omega
      go_wp2_with fail
      refine (kept_PI EW.out hlen hmx).mono ?_
      rintro e w9 ⟨rfl, hb9⟩
      go_wp2_with fail
      go_ret
      exact ⟨rfl, hb9⟩
end Go.Proofs.Ytbmfldoobkeieaa.PlShelf

namespace Go.Proofs.Ytbmfldoobkeieaa.PlShelf
open Go.RowKit Go.Lib Go.Sort Go.Proofs.Ytbmfldoobkeieaa.Own Go.Proofs.Ytbmfldoobkeieaa.KForm Go.Proofs.Ytbmfldoobkeieaa.PlMem Go.Proofs.Ytbmfldoobkeieaa.PlPure Go.Proofs.Ytbmfldoobkeieaa.PlCalls
set_option linter.unusedVariables false
set_option linter.unusedSimpArgs false
theorem cmp21 : cmpF (2, 0) (1, 0) = 1 := by decide
theorem sorted21 : sortedL [(2, 0), (1, 0)] = [(1, 0), (2, 0)] := by
  have h1 : (!(ltOf cmpF) (1, 0) (2, 0)) = false := by decide
  unfold sortedL
  simp [List.mergeSort, List.MergeSort.Internal.splitInTwo, List.merge, h1]
theorem sort21 : sortR [(2, 0), (1, 0)] = [(1, 0), (2, 0)] := by
  unfold sortR
  rw [if_pos (by decide)]
  unfold sortF
  rw [sorted21]
  decide +kernel
theorem sortE21 : sortE [(2, 0), (1, 0)] = 0 := by decide
theorem rises1 (k : Int) (h : keyB (k, 0) = true) : risesB [(k, 0)] = true := (risesB_iff _).mpr ⟨fun x hx => by rw [List.mem_singleton.mp hx]; exact h, List.pairwise_singleton _ _⟩
theorem rises21 : (risesB [(2, 0)] && risesB [(1, 0)]) = true := by rw [rises1 2 (by decide), rises1 1 (by decide)]; rfl
theorem union21 : setR true true true [(2, 0)] [(1, 0)] = [(1, 0), (2, 0)] := by
  unfold setR
  rw [if_pos rises21]
  simp [chooseF, cmp21]
theorem unionE21 : setE [(2, 0)] [(1, 0)] = 0 := by
  unfold setE
  rw [if_pos rises21]
theorem split21 : GRf.keys_Split.f 5 ([(2, 0)].map tS) 1 = some ([[(2, 0)]].map (·.map tS), 0) := by kernel_rfl
end Go.Proofs.Ytbmfldoobkeieaa.PlShelf

namespace Go.Proofs.Ytbmfldoobkeieaa.PlShelf
open Go.RowKit Go.Lib Go.Sort Go.Proofs.Ytbmfldoobkeieaa.Own Go.Proofs.Ytbmfldoobkeieaa.KForm Go.Proofs.Ytbmfldoobkeieaa.PlMem Go.Proofs.Ytbmfldoobkeieaa.PlPure Go.Proofs.Ytbmfldoobkeieaa.PlCalls
set_option linter.unusedVariables false
set_option linter.unusedSimpArgs false
theorem ScriptAt.below {w w' : World} {A : Option Addr} {os : List OpD} {mx : Nat} (h : ScriptAt w A os mx) (hb : BB w w') : ScriptAt w' A os mx := by
  refine ⟨fun o ho => ?_, fun h0 => ?_⟩
  · have k := h.1 o ho
    exact ⟨k.a.below hb, k.b.below hb, k.na, k.nb, k.ca, k.cb, k.sum, k.wide⟩
  · obtain ⟨ad, e, hl, hc⟩ := h.2 h0
    exact ⟨ad, e, Nat.lt_of_lt_of_le hl hb.size, fun j hj t u hu => by rw [(BB.out hb).cell (p := ad.add (j * 6 + t)) (by rw [KForm.add_block]; exact hl)]; exact hc j hj t u hu⟩
theorem own_two {w : World} {base : Nat} {v : Value} (h : OwnKeys w base v [(1, 0), (2, 0)]) : ∃ g c, v = .slice (some ⟨g, 0, none⟩) 2 c ∧ w.cell? ⟨g, 0, none⟩ = some (.int .i64 1) ∧ g < w.heap.size := by
  rcases h with ⟨_, h⟩ | ⟨g, c, M, e, hg, hc, hM, hrow⟩
  · cases h
  · exact ⟨g, c, e, (hrow.cell (j := 0) (by decide)).1, hrow.lt⟩
theorem list_lit (w : World) (ks : List (Int × Int)) (b : Nat) (hc : ∀ j, j < ks.length → w.cell? ⟨b, j * 2, none⟩ = some (.int .i64 ks[j]!.1) ∧ w.cell? ⟨b, j * 2 + 1, none⟩ = some (.int .i64 ks[j]!.2)) : ListAt w (some ⟨b, 0, none⟩) ks :=
  .inr ⟨b, 0, rfl, fun j hj => by rw [Nat.zero_add]; exact hc j hj⟩
theorem lit2 (w : World) (a b : Int × Int) (T : TypeId) : ListAt (w.alloc (.cells #[.int .i64 a.1, .int .i64 a.2, .int .i64 b.1, .int .i64 b.2] T)) (some ⟨w.heap.size, 0, none⟩) [a, b] :=
  list_lit _ _ _ (fun j hj => by
    match j, hj with
    | 0, _ => exact ⟨by rw [World.cell?_alloc_at _ _ _ _ rfl]; rfl, by rw [World.cell?_alloc_at _ _ _ _ rfl]; rfl⟩
    | 1, _ => exact ⟨by rw [World.cell?_alloc_at _ _ _ _ rfl]; rfl, by rw [World.cell?_alloc_at _ _ _ _ rfl]; rfl⟩)
theorem lit1 (w : World) (a : Int × Int) (T : TypeId) : ListAt (w.alloc (.cells #[.int .i64 a.1, .int .i64 a.2] T)) (some ⟨w.heap.size, 0, none⟩) [a] :=
  list_lit _ _ _ (fun j hj => by
    match j, hj with
    | 0, _ => exact ⟨by rw [World.cell?_alloc_at _ _ _ _ rfl]; rfl, by rw [World.cell?_alloc_at _ _ _ _ rfl]; rfl⟩)
theorem parts_one {w : World} {base : Nat} {v : Value} {a : Int × Int} (h : Parts w base v [[a]]) : ∃ b c g cg, v = .slice (some ⟨b, 0, none⟩) 1 c ∧ w.cell? ⟨b, 0, none⟩ = some (.slice (some ⟨g, 0, none⟩) 1 cg) ∧ b < w.heap.size := by
  rcases h with ⟨_, h⟩ | ⟨b, c, f, e, hb, hrow, hn, hm, hq, _⟩
  · cases h
  · rcases (hq 0 _ rfl).1 with ⟨_, h⟩ | ⟨g, cg, M, e2, _⟩
    · cases h
    · simp only [List.length_cons, List.length_nil] at e hn
      exact ⟨b, c, g, cg, e, by rw [hrow.cell (by omega), e2]; rfl, hrow.lt⟩
set_option maxHeartbeats 4000000 in
set_option maxRecDepth 100000 in
theorem KeysSets_calls (A : Option Addr) (c : Nat) (os : List OpD) (mx : Nat) (w : World) (h : ScriptAt w A os mx) (hmx : mx ≤ 1073741824) (hlen : os.length ≤ 1048576) (hc : os.length ≤ c) :
    Calls Try.prog 8 #[.slice A os.length c] w fun e w' => e = .returned (.bool true) ∧ RowKit.Below w.heap.size w w' := by
  have H := Lib.hid h
  clear h
  go_enter Try.func8, Try.ntmps8
  go_wp2_with fail
  refine (psort_calls (some ⟨w.heap.size, 0, none⟩) 2 [(2, 0), (1, 0)] _ (by decide) (by decide) (lit2 w (2, 0) (1, 0) 29)).mono ?_
  rintro e w1 ⟨v1, rfl, ho1, hb1⟩
  rw [sort21] at ho1
  rw [sortE21]
  obtain ⟨g, cg, rfl, hg0, hgl⟩ := own_two ho1
  have B1 : Hid (BB w w1) := Lib.hid (BB.trans (BB.alloc (BB.refl w)) hb1)
  clear hb1
  go_wp2_with fail
  refine (num_calls 0 _).mono ?_
  rintro e w2 ⟨rfl, hb2⟩
  have B2 : Hid (BB w w2) := Lib.hid (BB.trans B1.out hb2)
  have hg2 := ((show RowKit.Below w1.heap.size w1 w2 from hb2).cell (p := ⟨g, 0, none⟩) hgl).trans hg0
  have hgl2 := Nat.lt_of_lt_of_le hgl hb2.size
  clear hb2
  go_wp2_with fail
  refine (play_calls A c os 0 2 mx _ (H.out.below B2.out) hmx hlen hc).mono ?_
  rintro e w3 ⟨rfl, hb3⟩
  have B3 : Hid (BB w w3) := Lib.hid (BB.trans B2.out hb3)
  clear hb3
  go_wp2_with fail
  go_ret
  exact ⟨rfl, B3.out⟩
set_option maxHeartbeats 4000000 in
set_option maxRecDepth 100000 in
theorem KeysAlgebra_calls (A : Option Addr) (c : Nat) (os : List OpD) (mx : Nat) (w : World) (h : ScriptAt w A os mx) (hmx : mx ≤ 1073741824) (hlen : os.length ≤ 1048576) (hc : os.length ≤ c) :
    Calls Try.prog 9 #[.slice A os.length c] w fun e w' => e = .returned (.bool true) ∧ RowKit.Below w.heap.size w w' := by
  have H := Lib.hid h
  clear h
  go_enter Try.func9, Try.ntmps9
  go_wp2_with fail
  refine (punion_calls (some ⟨w.heap.size, 0, none⟩) (some ⟨w.heap.size + 1, 0, none⟩) 1 1 [(2, 0)] [(1, 0)] _ ((lit1 w (2, 0) 29).below (BB.out (BB.alloc (BB.refl _)))) (by simpa using lit1 (w.alloc (.cells #[.int .i64 2, .int .i64 0] 29)) (1, 0) 29) (by decide) (by decide) (by decide) (by decide)).mono ?_
  rintro e w1 ⟨v1, rfl, ho1, hb1⟩
  rw [union21] at ho1
  rw [unionE21]
  obtain ⟨g, cg, rfl, hg0, hgl⟩ := own_two ho1
  have B1 : Hid (BB w w1) := Lib.hid (BB.trans (BB.alloc (BB.alloc (BB.refl w))) hb1)
  clear hb1
  go_wp2_with fail
  refine (num_calls 0 _).mono ?_
  rintro e w2 ⟨rfl, hb2⟩
  have B2 : Hid (BB w w2) := Lib.hid (BB.trans B1.out hb2)
  have hg2 := ((show RowKit.Below w1.heap.size w1 w2 from hb2).cell (p := ⟨g, 0, none⟩) hgl).trans hg0
  have hgl2 := Nat.lt_of_lt_of_le hgl hb2.size
  clear hb2
  go_wp2_with fail
  refine (play_calls A c os 3 5 mx _ (H.out.below B2.out) hmx hlen hc).mono ?_
  rintro e w3 ⟨rfl, hb3⟩
  have B3 : Hid (BB w w3) := Lib.hid (BB.trans B2.out hb3)
  clear hb3
  go_wp2_with fail
  go_ret
  exact ⟨rfl, B3.out⟩
set_option maxHeartbeats 4000000 in
set_option maxRecDepth 100000 in
theorem KeysSplits_calls (A : Option Addr) (c : Nat) (os : List OpD) (mx : Nat) (w : World) (h : ScriptAt w A os mx) (hmx : mx ≤ 1073741824) (hlen : os.length ≤ 1048576) (hc : os.length ≤ c) :
    Calls Try.prog 10 #[.slice A os.length c] w fun e w' => e = .returned (.bool true) ∧ RowKit.Below w.heap.size w w' := by
  have H := Lib.hid h
  clear h
  go_enter Try.func10, Try.ntmps10
  go_wp2_with fail
  refine ((GRf.keys_Split.calls 5 (some ⟨w.heap.size, 0, none⟩) 1 ([(2, 0)].map tS) 1 _ _ _ (KR.CR (fun h0 => ListAt.keys (lit1 w (2, 0) 29) h0) (by decide)) (by decide) split21)).mono ?_
  rintro e w1 ⟨v1, rfl, hS, hb1⟩
  have hP := parts_of_S hS
  obtain ⟨b, cb, g, cg, rfl, hb0, hbl⟩ := parts_one hP
  have B1 : Hid (BB w w1) := Lib.hid (BB.trans (BB.alloc (BB.refl w)) hb1)
  clear hb1
  go_wp2_with fail
  refine (num_calls 0 _).mono ?_
  rintro e w2 ⟨rfl, hb2⟩
  have B2 : Hid (BB w w2) := Lib.hid (BB.trans B1.out hb2)
  have hg2 := ((show RowKit.Below w1.heap.size w1 w2 from hb2).cell (p := ⟨b, 0, none⟩) hbl).trans hb0
  have hgl2 := Nat.lt_of_lt_of_le hbl hb2.size
  clear hb2
  go_wp2_with fail
  refine (play_calls A c os 6 6 mx _ (H.out.below B2.out) hmx hlen hc).mono ?_
  rintro e w3 ⟨rfl, hb3⟩
  have B3 : Hid (BB w w3) := Lib.hid (BB.trans B2.out hb3)
  clear hb3
  go_wp2_with fail
  go_ret
  exact ⟨rfl, B3.out⟩
set_option maxHeartbeats 4000000 in
set_option maxRecDepth 100000 in
theorem KeysExact_calls (A : Option Addr) (c : Nat) (os : List OpD) (mx : Nat) (w : World) (h : ScriptAt w A os mx) (hmx : mx ≤ 1073741824) (hlen : os.length ≤ 1048576) (hc : os.length ≤ c) :
    Calls Try.prog 11 #[.slice A os.length c] w fun e w' => e = .returned (.bool true) ∧ RowKit.Below w.heap.size w w' := by
  have H := Lib.hid h
  clear h
  go_enter Try.func11, Try.ntmps11
  go_wp2_with fail
  refine (psort_calls (some ⟨w.heap.size, 0, none⟩) 2 [(2, 0), (1, 0)] _ (by decide) (by decide) (lit2 w (2, 0) (1, 0) 29)).mono ?_
  rintro e w1 ⟨v1, rfl, ho1, hb1⟩
  rw [sort21] at ho1
  rw [sortE21]
  obtain ⟨g, cg, rfl, hg0, hgl⟩ := own_two ho1
  have B1 : Hid (BB w w1) := Lib.hid (BB.trans (BB.alloc (BB.refl w)) hb1)
  clear hb1
  go_wp2_with fail
  refine (num_calls 0 _).mono ?_
  rintro e w2 ⟨rfl, hb2⟩
  have B2 : Hid (BB w w2) := Lib.hid (BB.trans B1.out hb2)
  have hg2 := ((show RowKit.Below w1.heap.size w1 w2 from hb2).cell (p := ⟨g, 0, none⟩) hgl).trans hg0
  have hgl2 := Nat.lt_of_lt_of_le hgl hb2.size
  clear hb2
  go_wp2_with fail
  refine (play_calls A c os 0 6 mx _ (H.out.below B2.out) hmx hlen hc).mono ?_
  rintro e w3 ⟨rfl, hb3⟩
  have B3 : Hid (BB w w3) := Lib.hid (BB.trans B2.out hb3)
  clear hb3
  go_wp2_with fail
  go_ret
  exact ⟨rfl, B3.out⟩
end Go.Proofs.Ytbmfldoobkeieaa.PlShelf

namespace Go.Proofs.Ytbmfldoobkeieaa.KOps
open Go.ChangeShapes Go.WideShapes Go.ChangeAt Go.RowKit Go.Proofs.YtbmfldoobkeieaaW.PrintWords Go.Proofs.Ytbmfldoobkeieaa.KForm Go.Proofs.Ytbmfldoobkeieaa.PlShelf
set_option linter.unusedVariables false
set_option linter.unusedSimpArgs false
theorem cells75 : Try.prog.cellsOf 75 = 6 := by kernel_rfl
theorem cells29 : Try.prog.cellsOf 29 = 2 := by kernel_rfl
theorem cells22 : Try.prog.cellsOf 22 = 1 := by kernel_rfl
theorem cells3 : Try.prog.cellsOf 3 = 1 := by kernel_rfl
theorem cells2 : Try.prog.cellsOf 2 = 1 := by kernel_rfl
theorem wf64 {y : Int} (h : (Lit.int .i64 y).wf = true) : -9223372036854775808 ≤ y ∧ y ≤ 9223372036854775807 := by
  simpa [Lit.wf, IntKind.min, IntKind.max, IntKind.signed, IntKind.bits] using h
theorem choose_op {n : Nat} {p : Nat → OpD → Prop} (h : ∀ i, i < n → ∃ o, p i o) : ∃ q : Nat → OpD, ∀ i, i < n → p i (q i) := by
  classical
  exact ⟨fun i => if hi : i < n then Classical.choose (h i hi) else ⟨0, none, 0, [], none, 0, [], 0, 0, 0⟩, fun i hi => by
    show p i (if hi : i < n then _ else _)
    rw [dif_pos hi]
    exact Classical.choose_spec (h i hi)⟩
section
variable {H : Type} {enc : TypeId × Value → H} {W : World} {base : Nat} {held : Bool}
theorem bulk_slice {t e : TypeId} {a : Option Addr} {n cap : Nat} {d : DataW H} {ps : List MemPlace} {sp : Nat → Bool} (hu : Try.prog.underlying t = some (.slice e)) (h : DataW.Trod enc Try.prog W base sp held t (.slice a n cap) d ps) : n ≤ Rows.uptoBulk d := by
  obtain ⟨fuel, hf⟩ := h
  rcases DataW.trod_slice hu hf with ⟨hcs, _⟩ | ⟨x, n', c, elems, rest, m, _, hcs, hx, _, _, _, hlen, _⟩
  · simp [Value.cells] at hcs
    obtain ⟨rfl, rfl, rfl⟩ := hcs
    exact Nat.zero_le _
  · simp [Value.cells] at hcs
    obtain ⟨rfl, rfl, rfl⟩ := hcs
    obtain ⟨hx1, _⟩ := Prod.mk.inj hx
    subst hx1
    have := KBulk.many (elems.map (·.1))
    simp only [Rows.uptoBulk]
    simp only [List.length_map] at this
    omega
/-- one list of keys, as a cell holds it -/
theorem open_list {v : Value} {n : Nat} {y : DataW H × List MemPlace} (h : DataW.trod enc Try.prog W base (fun _ => true) held n 22 [v] = some y) :
    ∃ (A : Option Addr) (c : Nat) (l : List (Int × Int)), v = .slice A l.length c ∧ l.length ≤ c ∧ KR W A l ∧ (A = none → l = []) ∧ l.length ≤ Rows.uptoBulk y.1 ∧ ∀ x ∈ l, -9223372036854775808 ≤ x.2 ∧ x.2 ≤ 9223372036854775807 := by
  have hu := Try.underlying22
  rcases Go.Deep.open_slice_pairs hu Try.underlying29 cells29 rfl rfl (by kernel_rfl) (by kernel_rfl) h with ⟨hcs, hy⟩ | ⟨x, len, c, m, n', V0, V1, D0, D1, P0, P1, hcs, _, hl, hm, hmm, hx, hcell⟩
  · injection hcs with hv _
    exact ⟨none, 0, [], hv, Nat.le_refl _, fun h => absurd h (by simp), fun _ => rfl, Nat.zero_le _, fun x hx => (by simp at hx)⟩
  · injection hcs with hv _
    subst hv
    simp only [if_true] at hmm
    subst hmm
    have each : ∀ i, i < len → ∃ q : Int × Int, W.cell? (x.add (i * 2)) = some (.int .i64 q.1) ∧ W.cell? (x.add (i * 2 + 1)) = some (.int .i64 q.2) ∧ (-9223372036854775808 ≤ q.2 ∧ q.2 ≤ 9223372036854775807) := by
      intro i hi
      obtain ⟨g0, g1, g2, g3⟩ := hcell i (by omega)
      obtain ⟨y0, e0, _, w0⟩ := DataW.trod_int (k := .i64) (by kernel_rfl) g2
      obtain ⟨y1, e1, _, w1⟩ := DataW.trod_int (k := .i64) (by kernel_rfl) g3
      exact ⟨(y0, y1), by rw [g0, (List.cons.inj e0).1], by rw [g1, (List.cons.inj e1).1], wf64 w1⟩
    obtain ⟨q, hq⟩ := Go.Deep.choose_lt each
    have hlen : ((List.range len).map q).length = len := by simp
    have hkr : KR W (some x) ((List.range len).map q) := fun h0 => by
      rw [hlen] at h0
      refine ⟨x, rfl, ?_, fun j hj i v hv => ?_⟩
      · have := World.block_lt_of_cell? W _ (hq 0 h0).1
        rwa [KForm.add_block] at this
      · rw [hlen] at hj
        rw [getElem!_pos _ j (by rw [hlen]; exact hj)] at hv
        simp only [List.getElem_map, List.getElem_range] at hv
        match i, hv with
        | 0, hv => rw [← Option.some.inj hv]; exact (hq j hj).1
        | 1, hv => rw [← Option.some.inj hv]; exact (hq j hj).2.1
    refine ⟨some x, m, (List.range len).map q, by rw [hlen], by rw [hlen]; exact hl, hkr, (fun h => by cases h), ?_, fun y hy => ?_⟩
    · rw [hlen]
      exact bulk_slice (a := some x) (cap := m) (d := y.1) (ps := y.2) (sp := fun _ => true) hu ⟨n, h⟩
    · obtain ⟨i, hi, rfl⟩ := List.mem_map.mp hy
      exact (hq i (List.mem_range.mp hi)).2.2
set_option maxRecDepth 100000 in
/-- one question -/
theorem open_op {a : Addr} {i n : Nat} {cs : List Value} {y : DataW H × List MemPlace} (h1 : W.cells? base (a.add (i * 6)) 6 = some cs) (h : DataW.trod enc Try.prog W base (fun _ => true) held n 75 cs = some y) :
    ∃ o : OpD, (∀ mx, Rows.uptoBulk y.1 ≤ mx → o.ok W mx) ∧ ∀ t u, o.cells[t]? = some u → W.cell? (a.add (i * 6 + t)) = some u := by
  obtain ⟨_, hlen, hcell⟩ := World.cells?_some h1
  obtain ⟨xs, k, hk, hxy, _, hxl, hf⟩ := DataW.trod_struct Try.underlying75 h
  match xs, hxl, cs, hlen with
  | [y0, y1, y2, y3, y4], _, [v0, v1, v2, v3, v4, v5], _ =>
    have g0 := hf 0 _ rfl
    have g1 := hf 1 _ rfl
    have g2 := hf 2 _ rfl
    have g3 := hf 3 _ rfl
    have g4 := hf 4 _ rfl
    simp [cells3, cells22, cells29] at g0 g1 g2 g3 g4
    obtain ⟨z0, e0, _, w0⟩ := DataW.trod_int (k := .i64) (by kernel_rfl) g0
    obtain ⟨A1, c1, l1, e1, b1, r1, n1, u1, s1⟩ := open_list g1
    obtain ⟨A2, c2, l2, e2, b2, r2, n2, u2, s2⟩ := open_list g2
    obtain ⟨xs3, k3, _, _, _, hxl3, hf3⟩ := DataW.trod_struct Try.underlying29 g3
    obtain ⟨z4, e4, _, w4⟩ := DataW.trod_int (k := .i64) (by kernel_rfl) g4
    match xs3, hxl3 with
    | [p0, p1], _ =>
      have q0 := hf3 0 _ rfl
      have q1 := hf3 1 _ rfl
      simp [cells3, cells2] at q0 q1
      obtain ⟨z2, e2', _, _⟩ := DataW.trod_int (k := .i64) (by kernel_rfl) q0
      obtain ⟨z3, e3', _, _⟩ := DataW.trod_int (k := .i64) (by kernel_rfl) q1
      injection e0 with e0 _
      injection e2' with e2' _
      injection e3' with e3' _
      injection e4 with e4 _
      subst e0 e1 e2 e2' e3' e4
      refine ⟨⟨z0, A1, c1, l1, A2, c2, l2, z2, z3, z4⟩, fun mx hmx => ⟨r1, r2, n1, n2, b1, b2, ?_, s1⟩, fun t u hu => ?_⟩
      · rw [(Prod.ext_iff.mp hxy).1] at hmx
        simp only [Rows.uptoBulk, Rows.uptoBulkAll, List.map_cons, List.map_nil] at hmx
        show l1.length + l2.length ≤ mx
        omega
      · have ht : t < 6 := by
          rcases Nat.lt_or_ge t 6 with h | h
          · exact h
          · rw [List.getElem?_eq_none (by simpa [OpD.cells] using h)] at hu
            cases hu
        have := hcell t ht
        rw [Addr.add_add] at this
        rw [this]
        match t, ht with
        | 0, _ => exact hu
        | 1, _ => exact hu
        | 2, _ => exact hu
        | 3, _ => exact hu
        | 4, _ => exact hu
        | 5, _ => exact hu
/-- the script -/
theorem open_ops {a : Option Addr} {len cap : Nat} {d : DataW H} {ps : List MemPlace} {l : List (DataW H)} (hk : Rows.uptoSmall H l = true) (hd : d ∈ l) (h : DataW.Trod enc Try.prog W base (fun _ => true) held 51 (.slice a len cap) d ps) :
    ∃ os : List OpD, os.length = len ∧ os.length ≤ cap ∧ os.length ≤ 1048576 ∧ ScriptAt W a os 1048576 := by
  have hu := Try.underlying51
  have hz := KBulk.len hu hk hd h
  have hbd := Nat.le_trans (KBulk.one_of hd) (KBulk.bound hk)
  obtain ⟨fuel, hf⟩ := h
  rcases Go.Deep.open_slice hu hf with ⟨hcs, _⟩ | ⟨x, len', c, m, n, D, Pl, hcs, _, hl, hm, hmm, hx, hcell⟩
  · simp [Value.cells] at hcs
    obtain ⟨rfl, rfl, rfl⟩ := hcs
    exact ⟨[], rfl, Nat.zero_le _, Nat.zero_le _, fun o ho => (by simp at ho), fun h => absurd h (by simp)⟩
  · simp [Value.cells] at hcs
    obtain ⟨rfl, rfl, rfl⟩ := hcs
    simp only [if_true] at hmm
    subst hmm
    have hD : d = .slice ((List.range len).map D) ((List.range (m - len)).map fun j => D (len + j)) := (Prod.ext_iff.mp hx).1
    have each : ∀ i, i < len → ∃ o : OpD, o.ok W 1048576 ∧ ∀ t u, o.cells[t]? = some u → W.cell? (x.add (i * 6 + t)) = some u := by
      intro i hi
      obtain ⟨cs', h1, h2⟩ := hcell i (by omega)
      rw [cells75] at h1
      obtain ⟨o, ho, hc⟩ := open_op h1 h2
      refine ⟨o, ho _ ?_, hc⟩
      have h3 : Rows.uptoBulk (D i) ≤ Rows.uptoBulkAll ((List.range len).map D) := KBulk.one_of (List.mem_map.mpr ⟨i, List.mem_range.mpr hi, rfl⟩)
      rw [hD] at hbd
      simp only [Rows.uptoBulk] at hbd
      show Rows.uptoBulk (D i) ≤ _
      omega
    obtain ⟨q, hq⟩ := choose_op each
    have hlen : ((List.range len).map q).length = len := by simp
    refine ⟨(List.range len).map q, hlen, by rw [hlen]; exact hl, by rw [hlen]; omega, fun o ho => ?_, fun h0 => ?_⟩
    · obtain ⟨i, hi, rfl⟩ := List.mem_map.mp ho
      exact (hq i (List.mem_range.mp hi)).1
    · rw [hlen] at h0
      refine ⟨x, rfl, ?_, fun j hj t u hu => ?_⟩
      · have := World.block_lt_of_cell? W _ ((hq 0 h0).2 0 _ rfl)
        rwa [KForm.add_block] at this
      · rw [hlen] at hj
        simp only [List.getElem_map, List.getElem_range] at hu
        exact (hq j hj).2 t u hu
end
end Go.Proofs.Ytbmfldoobkeieaa.KOps

namespace Go.Proofs.Ytbmfldoobkeieaa.KOps
open Go.ChangeShapes Go.WideShapes Go.ChangeAt Go.RowKit Go.Proofs.YtbmfldoobkeieaaW.PrintWords Go.Proofs.Ytbmfldoobkeieaa.KForm Go.Proofs.Ytbmfldoobkeieaa.PlShelf
set_option linter.unusedVariables false
set_option linter.unusedSimpArgs false
set_option maxRecDepth 100000 in
theorem KeysSets_row {H : Type} {enc : TypeId × Value → H} {base : Nat} (W : World) (v : Value) (d : DataW H) (p : List MemPlace) (hval : Value.okWide Try.prog W .any base 51 v) (k : DataW.Trod enc Try.prog W 0 (fun _ => true) true 51 v d p) (hk : Rows.uptoSmall H ([d] ++ []) = true) :
    Calls Try.prog 8 #[v] W fun e W' => e = .returned (.bool true) ∧ RowKit.Below W.heap.size W W' := by
  obtain ⟨a, len, cap, rfl⟩ := okWide_slice Try.underlying51 hval
  obtain ⟨os, rfl, h2, h3, h4⟩ := open_ops hk (by simp) k
  exact KeysSets_calls a cap os 1048576 W h4 (by omega) h3 h2
set_option maxRecDepth 100000 in
theorem KeysAlgebra_row {H : Type} {enc : TypeId × Value → H} {base : Nat} (W : World) (v : Value) (d : DataW H) (p : List MemPlace) (hval : Value.okWide Try.prog W .any base 51 v) (k : DataW.Trod enc Try.prog W 0 (fun _ => true) true 51 v d p) (hk : Rows.uptoSmall H ([d] ++ []) = true) :
    Calls Try.prog 9 #[v] W fun e W' => e = .returned (.bool true) ∧ RowKit.Below W.heap.size W W' := by
  obtain ⟨a, len, cap, rfl⟩ := okWide_slice Try.underlying51 hval
  obtain ⟨os, rfl, h2, h3, h4⟩ := open_ops hk (by simp) k
  exact KeysAlgebra_calls a cap os 1048576 W h4 (by omega) h3 h2
set_option maxRecDepth 100000 in
theorem KeysSplits_row {H : Type} {enc : TypeId × Value → H} {base : Nat} (W : World) (v : Value) (d : DataW H) (p : List MemPlace) (hval : Value.okWide Try.prog W .any base 51 v) (k : DataW.Trod enc Try.prog W 0 (fun _ => true) true 51 v d p) (hk : Rows.uptoSmall H ([d] ++ []) = true) :
    Calls Try.prog 10 #[v] W fun e W' => e = .returned (.bool true) ∧ RowKit.Below W.heap.size W W' := by
  obtain ⟨a, len, cap, rfl⟩ := okWide_slice Try.underlying51 hval
  obtain ⟨os, rfl, h2, h3, h4⟩ := open_ops hk (by simp) k
  exact KeysSplits_calls a cap os 1048576 W h4 (by omega) h3 h2
set_option maxRecDepth 100000 in
theorem KeysExact_row {H : Type} {enc : TypeId × Value → H} {base : Nat} (W : World) (v : Value) (d : DataW H) (p : List MemPlace) (hval : Value.okWide Try.prog W .any base 51 v) (k : DataW.Trod enc Try.prog W 0 (fun _ => true) true 51 v d p) (hk : Rows.uptoSmall H ([d] ++ []) = true) :
    Calls Try.prog 11 #[v] W fun e W' => e = .returned (.bool true) ∧ RowKit.Below W.heap.size W W' := by
  obtain ⟨a, len, cap, rfl⟩ := okWide_slice Try.underlying51 hval
  obtain ⟨os, rfl, h2, h3, h4⟩ := open_ops hk (by simp) k
  exact KeysExact_calls a cap os 1048576 W h4 (by omega) h3 h2
end Go.Proofs.Ytbmfldoobkeieaa.KOps
