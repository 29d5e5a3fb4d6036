/- The walk of KeysWalks. -/
import Derived.Test.YtbmfldoobkeieaaKAll
import Derived.Test.YtbmfldoobkeieaaKRead
import Derived.Test.YtbmfldoobkeieaaQuietR
import Derived.Sort.CutIn
namespace Go.Proofs.Ytbmfldoobkeieaa.WalkAll
open Go.RowKit Go.Lib Go.Sort Go.Proofs.Ytbmfldoobkeieaa.Own Go.Proofs.Ytbmfldoobkeieaa.KForm Go.Shelf
set_option linter.unusedVariables false
set_option linter.unusedSimpArgs false
attribute [local go_sem] Oper.semAt_some

theorem _root_.Go.Proofs.Ytbmfldoobkeieaa.KForm.SvHas.upto {W : World} {lo hi hi' : Nat} {sv : Value} {l : List (Int × Int)} (h : SvHas W lo hi sv l) (hh : hi ≤ hi') : SvHas W lo hi' sv l := by
  rcases h with h | ⟨b, cap, e, h1, h2, h3⟩
  · exact .inl h
  · exact .inr ⟨b, cap, e, h1, Nat.lt_of_lt_of_le h2 hh, h3⟩
/-- what lies below block N behind the calls of lent, All and back: the boxes of the law function, and what the loops live on -/
structure Env (W : World) (A : Option Addr) (c : Nat) (l : List (Int × Int)) (stop : Int) (Bs B6 lo hi N : Nat) (sv : Value) (wq : World) : Prop where
  hiN : hi ≤ N
  ltF : Bs < N
  ltQ : B6 < N
  lt3 : W.heap.size + 1 + 1 < N
  size : N ≤ wq.heap.size
  below : RowKit.Below W.heap.size W wq
  bL : Boxed wq W.heap.size 22 (.slice A l.length c)
  bS : Boxed wq (W.heap.size + 1) 3 (.int .i64 stop)
  bR : Boxed wq (W.heap.size + 1 + 1) 4 (.bool false)
  bF : Boxed wq Bs 22 sv
  bQ : Boxed wq B6 25 (.func (.func 35) #[] #[.pointer (some ⟨Bs, 0, none⟩)])
  has : SvHas wq lo hi sv l
theorem Env.step {W : World} {A : Option Addr} {c : Nat} {l : List (Int × Int)} {stop : Int} {Bs B6 lo hi N : Nat} {sv : Value} {wq w' : World} (h : Env W A c l stop Bs B6 lo hi N sv wq) (hb : RowKit.Below N wq w') : Env W A c l stop Bs B6 lo hi N sv w' := by
  have h3 := h.lt3
  exact ⟨h.hiN, h.ltF, h.ltQ, h.lt3, Nat.le_trans h.size hb.size, h.below.trans (hb.mono (by omega)), (hb.block _ (by omega)).trans h.bL, (hb.block _ (by omega)).trans h.bS, (hb.block _ (by omega)).trans h.bR, (hb.block _ h.ltF).trans h.bF, (hb.block _ h.ltQ).trans h.bQ,
    h.has.kept (fun b _ hlt => hb.block b (Nat.lt_of_lt_of_le hlt h.hiN))⟩
theorem lent_at {w : World} {base : Nat} {v : Value} {A : Option Addr} {l : List (Int × Int)} (h : Lent w base v A l) : ∃ A' c', v = .slice A' l.length c' ∧ ListAt w A' l ∧ ∀ k, v.ownBlock = some k → base ≤ k ∧ k < w.heap.size := by
  rcases h with ⟨_, rfl, rfl⟩ | ⟨g, ad, _, rfl, hg, hrow⟩
  · exact ⟨none, 0, rfl, .inl ⟨rfl, rfl⟩, fun k hk => by simp [Value.ownBlock] at hk⟩
  · refine ⟨_, _, rfl, .inr ⟨g, 0, rfl, fun j hj => ?_⟩, fun k hk => ?_⟩
    · obtain ⟨f, hr, h1, h2⟩ := hrow
      obtain ⟨e1, e2⟩ := h1 j hj
      rw [Nat.zero_add]
      exact ⟨by rw [hr.cell (by omega), e1], by rw [hr.cell (by omega), e2]⟩
    · have : g = k := by simpa [Value.ownBlock] using hk
      subst this
      exact ⟨hg, hrow.lt⟩
theorem lent_below {w w' : World} {base : Nat} {v : Value} {A : Option Addr} {l : List (Int × Int)} (h : Lent w base v A l) (hb : RowKit.Below w.heap.size w w') : Lent w' base v A l := by
  rcases h with h | ⟨g, ad, e1, e2, e3, hrow⟩
  · exact .inl h
  · have hlt := hrow.lt
    obtain ⟨f, hr, h12⟩ := hrow
    exact .inr ⟨g, ad, e1, e2, e3, f, hr.of_block (hb.block g hlt), h12⟩
theorem pairs_step {l : List (Int × Int)} {pre : List (Nat × (Int × Int))} {x : Nat × (Int × Int)} (hp : pre = pairsOf l pre.length) : pre ++ [x] = pairsOf l (pre ++ [x]).length ↔ x = (pre.length, l[pre.length]!) := by
  rw [List.length_append, List.length_singleton, pairsOf_succ, ← hp]
  simp
theorem keeps_drewN (B : Nat) (W : World) (n : Nat) : KeepsFrom B W (W.drewN n) := (⟨Nat.le_refl _, fun _ _ h _ => h⟩ : KeepsOthers W (W.drewN n)).from B
theorem below_drewN (B : Nat) (W : World) (n : Nat) : RowKit.Below B W (W.drewN n) := ⟨rfl, rfl, rfl, Nat.le_refl _, fun _ _ => rfl⟩
theorem boxed_drewN {W : World} {B n : Nat} {t : TypeId} {v : Value} (h : Boxed W B t v) : Boxed (W.drewN n) B t v := h
theorem named {P : Program} {c : Code} {Q : Exit → Act → World → Prop} {a : Act} {w : World} (h : ∀ (T : Array Value) (Q' : Exit → Act → World → Prop), T = a.tmps → Q' = Q → c.wp P Q' { tmps := T, defers := a.defers } w) : c.wp P Q a w := h _ _ rfl rfl
theorem named_in {F : Fence} {n : Nat} {P : Program} {c : Code} {Q : Exit → Act → World → Prop} {a : Act} {w : World} (h : ∀ (T : Array Value) (Q' : Exit → Act → World → Prop), T = a.tmps → Q' = Q → c.wpIn F n P Q' { tmps := T, defers := a.defers } w) : c.wpIn F n P Q a w := h _ _ rfl rfl
theorem at_from {lo D : Nat} {X Y : World} {row : Option Nat} {o : Obj} (hs : X.heap[D]? = some o) (hD : D < lo) (hg : X.grownBy Y row) (hrow : ∀ r, row = some r → lo ≤ r ∧ ∃ o : Obj, X.heap[r]? = some o ∧ o.isCells = false) : Y.heap[D]? = some o :=
  (hg.block D (Array.getElem?_eq_some_iff.1 hs).1 (fun e => by have := (hrow D e.symm).1; omega)).trans hs
theorem at_set {W : World} {D B : Nat} {o : Obj} {v : Value} (h : W.heap[D]? = some o) (hne : D ≠ B) : (W.setCell ⟨B, 0, none⟩ v).heap[D]? = some o := (Below.heap_setCell _ _ _ _ (fun e => hne e)).trans h
/-- a box of a key -/
def Box2 (W : World) (B : Nat) (x : Int × Int) : Prop := W.heap[B]? = some (.cells #[.int .i64 x.1, .int .i64 x.2] 29 (0, 0))
theorem Box2.lt {W : World} {B : Nat} {x : Int × Int} (h : Box2 W B x) : B < W.heap.size := (Array.getElem?_eq_some_iff.1 h).1
theorem Box2.cell {W : World} {B : Nat} {x : Int × Int} (h : Box2 W B x) : W.cell? ⟨B, 0, none⟩ = some (.int .i64 x.1) ∧ W.cell? ⟨B, 1, none⟩ = some (.int .i64 x.2) := by
  constructor <;> simp [World.cell?, show W.heap[B]? = _ from h]
theorem Box2.new (W : World) (x : Int × Int) : Box2 (W.alloc (.cells #[.int .i64 x.1, .int .i64 x.2] 29)) W.heap.size x := World.alloc_heap_new W _
theorem Box2.kept {W W' : World} {row : Option Nat} {B : Nat} {x : Int × Int} (h : Box2 W B x) (hg : W.grownBy W' row) (hne : some B ≠ row) : Box2 W' B x := (hg.block B h.lt hne).trans h
theorem box2_from {lo B : Nat} {x : Int × Int} : OwnFrom lo (fun (_ : Unit) W => Box2 W B x) := fun s X Y row hs hg hrow =>
  hs.kept hg (fun e' => by obtain ⟨_, o, ho, hc⟩ := hrow B e'.symm; rw [show X.heap[B]? = _ from hs] at ho; cases ho; cases hc)
theorem box_from {lo B : Nat} {t : TypeId} {v : Value} {X Y : World} {row : Option Nat} (hs : Boxed X B t v) (hg : X.grownBy Y row) (hrow : ∀ r, row = some r → lo ≤ r ∧ ∃ o : Obj, X.heap[r]? = some o ∧ o.isCells = false) : Boxed Y B t v :=
  boxed_own B t (fun (_ : Unit) => v) () X Y row hs hg (fun r e => (hrow r e).2)
theorem below_from {lo N : Nat} {w X Y : World} {row : Option Nat} (hs : RowKit.Below N w X) (hN : N ≤ lo) (hw : N ≤ w.heap.size) (hg : X.grownBy Y row) (hrow : ∀ r, row = some r → lo ≤ r ∧ ∃ o : Obj, X.heap[r]? = some o ∧ o.isCells = false) : RowKit.Below N w Y :=
  hs.grown hg (Nat.le_trans hw hs.size) (fun k hk => Nat.le_trans hN (hrow k hk).1)
theorem seq_equal (w : World) (d : Nat) (f : Fn) (a b : Array Value) : (Op.equalIn (d + 1) 25 (.func f a b) .nilFunc).run Try.prog w = .ok false w := by
  simp [Op.equalIn, run_underlying Try.underlying25]
theorem seq_not_nil (w : World) (f : Fn) (a b : Array Value) : (binOp .eql 25 (.func f a b) .nilFunc).run Try.prog w = .ok (.bool false) w := by
  have h : (Op.equal 25 (.func f a b) .nilFunc).run Try.prog w = .ok false w := seq_equal w 9999 f a b
  simp [binOp, h]
theorem store_seq (w : World) (Bs : Nat) : (store ⟨w.heap.size, 0, none⟩ (.func (.func 35) #[] #[.pointer (some ⟨Bs, 0, none⟩)])).run Try.prog (w.alloc (.cells #[Value.nilFunc] 25)) =
    .ok () (w.alloc (.cells #[.func (.func 35) #[] #[.pointer (some ⟨Bs, 0, none⟩)]] 25)) := by
  rw [run_store _ _ _ _ _ rfl, World.cell?_alloc_at _ _ _ _ rfl]
  have hf : (w.alloc (.cells #[Value.nilFunc] 25)).frozen? ⟨w.heap.size, 0, none⟩ = false := (Boxed.new w _ _).frozen
  simp only [List.getElem?_toArray, List.getElem?_cons_zero, hf, Bool.false_eq_true, if_false, World.setCell_alloc_at _ _ _ _ _ rfl]
  rfl
set_option maxHeartbeats 8000000 in
set_option maxRecDepth 100000 in
theorem walk (W : World) (A : Option Addr) (c : Nat) (l : List (Int × Int)) (stop : Int) (hc : l.length ≤ c) (h : KR W A l) (hl : l.length < 1048576) :
    Calls Try.prog 3 #[.slice A l.length c, .int .i64 stop] W fun e W' => e = .returned (.bool true) ∧ RowKit.Below W.heap.size W W' := by
  have H := Lib.hid h
  clear h
  refine (callsIn_wide (n := 20)).1 ?_
  refine callsIn_of_wp_marks Try.func3 rfl trivial ?_
  refine wpIn_wide.2 ?_
  simp only [Try.ntmps3, List.size_toArray, List.length_cons, List.length_nil, Nat.reduceAdd, Nat.reduceSub, Array.replicate_succ, Array.replicate_zero, List.push_toArray, List.append_toArray, List.nil_append, List.cons_append]
  go_wp2_with fail
  have HA := H.out.nil
  have hlb : l.length < 8796093022208 := by omega
  have B0 : Hid (RowKit.Below W.heap.size W (((W.alloc (.cells #[.slice A l.length c] 22)).alloc (.cells #[.int .i64 stop] 3)).alloc (.cells #[.bool false] 4))) := Lib.hid ((((Below.refl _ W).alloc (Nat.le_refl _) _).alloc (by simp) _).alloc (by simp; omega) _)
  have bL := ((Boxed.new W 22 (.slice A l.length c)).alloc (.cells #[.int .i64 stop] 3)).alloc (.cells #[.bool false] 4)
  have bS := (Boxed.new (W.alloc (.cells #[.slice A l.length c] 22)) 3 (.int .i64 stop)).alloc (.cells #[.bool false] 4)
  have bR := Boxed.new ((W.alloc (.cells #[.slice A l.length c] 22)).alloc (.cells #[.int .i64 stop] 3)) 4 (.bool false)
  simp only [World.size_alloc] at bS bR
  obtain ⟨W1, hW1⟩ : ∃ W1, ((W.alloc (.cells #[.slice A l.length c] 22)).alloc (.cells #[.int .i64 stop] 3)).alloc (.cells #[.bool false] 4) = W1 := ⟨_, rfl⟩
  have hs1 : W1.heap.size = W.heap.size + 3 := by rw [← hW1]; simp
  rw [hW1] at bL bS bR B0 ⊢
  clear hW1
  refine (lent_calls A c l _ (H.out.below B0.out) HA (by omega)).mono ?_
  rintro e w2 ⟨v, rfl, hlent, hb2⟩
  obtain ⟨A', c', hv, hat, hblk⟩ := lent_at hlent
  have HL := Lib.hid hlent
  have HB := Lib.hid hblk
  have HT := Lib.hid hat
  have bL2 : Boxed w2 W.heap.size 22 (.slice A l.length c) := (hb2.block _ (by omega)).trans bL
  have bS2 : Boxed w2 (W.heap.size + 1) 3 (.int .i64 stop) := (hb2.block _ (by omega)).trans bS
  have bR2 : Boxed w2 (W.heap.size + 1 + 1) 4 (.bool false) := (hb2.block _ (by omega)).trans bR
  have B2 : Hid (RowKit.Below W.heap.size W w2) := Lib.hid (B0.out.trans (hb2.mono (by omega)))
  have hs2 := hb2.size
  clear hlent hblk hat bL bS bR hb2
  subst hv
  go_wp2_with fail
  refine (all_calls A' c' l _ HT.out hlb).mono ?_
  rintro e w3 ⟨Bs, sv, rfl, hBs, bF, hsv, hb3⟩
  have bL3 : Boxed w3 W.heap.size 22 (.slice A l.length c) := (hb3.block _ (by omega)).trans bL2
  have bS3 : Boxed w3 (W.heap.size + 1) 3 (.int .i64 stop) := (hb3.block _ (by omega)).trans bS2
  have bR3 : Boxed w3 (W.heap.size + 1 + 1) 4 (.bool false) := (hb3.block _ (by omega)).trans bR2
  have B3 : Hid (RowKit.Below W.heap.size W w3) := Lib.hid (B2.out.trans (hb3.mono (by omega)))
  have HL3 := Lib.hid (lent_below HL.out hb3)
  have hs3 := hb3.size
  have HSV := Lib.hid hsv
  have hltF := bF.lt
  clear hb3 hsv bL2 bS2 bR2
  have cL3 := bL3.cell
  have hst := store_seq w3 Bs
  have cL4 := (bL3.alloc (.cells #[.func (.func 35) #[] #[.pointer (some ⟨Bs, 0, none⟩)]] 25)).cell
  go_wp2_with fail
  have hb4 : RowKit.Below w3.heap.size w3 (w3.alloc (.cells #[.func (.func 35) #[] #[.pointer (some ⟨Bs, 0, none⟩)]] 25)) := (Below.refl _ _).alloc (Nat.le_refl _) _
  have bQ4 := Boxed.new w3 25 (.func (.func 35) #[] #[.pointer (some ⟨Bs, 0, none⟩)])
  have hs4 : (w3.alloc (.cells #[.func (.func 35) #[] #[.pointer (some ⟨Bs, 0, none⟩)]] 25)).heap.size = w3.heap.size + 1 := by simp
  refine (back_calls _ _ A A c l.length l _ (lent_below HL3.out hb4) Iff.rfl (H.out.below (B3.out.trans (hb4.mono B3.out.size))) (by omega) hc).mono ?_
  rintro e w5 ⟨rfl, hg5⟩
  obtain ⟨w4, hw4⟩ : ∃ w4, w3.alloc (.cells #[.func (.func 35) #[] #[.pointer (some ⟨Bs, 0, none⟩)]] 25) = w4 := ⟨_, rfl⟩
  rw [hw4] at hb4 bQ4 hs4 hg5
  have hkeep : ∀ k, k < w4.heap.size → (k < W1.heap.size ∨ w2.heap.size ≤ k) → w5.heap[k]? = w4.heap[k]? := fun k hk hor => hg5.block k hk (fun e => by
    have := HB.out k e.symm
    omega)
  have hs5 := hg5.size
  have HE : Hid (Env W A c l stop Bs w3.heap.size w2.heap.size w3.heap.size w5.heap.size sv w5) := Lib.hid
    ⟨by omega, by omega, by omega, by omega, Nat.le_refl _, (B3.out.trans (hb4.mono (by omega))).trans ((Below.refl _ _).grown hg5 (by omega) (fun k hk => by have := HB.out k hk; omega)),
      (hkeep _ (by omega) (by omega)).trans ((hb4.block _ (by omega)).trans bL3), (hkeep _ (by omega) (by omega)).trans ((hb4.block _ (by omega)).trans bS3), (hkeep _ (by omega) (by omega)).trans ((hb4.block _ (by omega)).trans bR3),
      (hkeep _ (by omega) (by omega)).trans ((hb4.block _ (by omega)).trans bF), (hkeep _ (by omega) (by omega)).trans bQ4,
      (HSV.out.kept (fun b h1 h2 => hb4.block b (by omega))).kept (fun b h1 h2 => hkeep b (by omega) (by omega))⟩
  obtain ⟨B6, hB6⟩ : ∃ B6, w3.heap.size = B6 := ⟨_, rfl⟩
  obtain ⟨lo, hlo⟩ : ∃ lo, w2.heap.size = lo := ⟨_, rfl⟩
  rw [hB6, hlo] at HE
  rw [hB6]
  clear hkeep hb4 bQ4 hg5 hw4 hs4 hs5 cL3 cL4 hst hltF HSV hs3 HL3 B3 bR3 bS3 bL3 bF hs2 B2 HT HB HL hBs
  have cQ := HE.out.bQ.cell
  have cQ8 := (HE.out.bQ.alloc (.cells #[.int .i64 0] 3)).cell
  have hnn := seq_not_nil
  go_wp2_with fail
  have b8 := Boxed.new w5 3 (.int .i64 0)
  have hb6 : RowKit.Below w5.heap.size w5 (w5.alloc (.cells #[.int .i64 0] 3)) := (Below.refl _ _).alloc (Nat.le_refl _) _
  have hs6 : (w5.alloc (.cells #[.int .i64 0] 3)).heap.size = w5.heap.size + 1 := by simp
  obtain ⟨w6, hw6⟩ : ∃ w6, w5.alloc (.cells #[.int .i64 0] 3) = w6 := ⟨_, rfl⟩
  have HE6 : Hid (Env W A c l stop Bs B6 lo B6 w5.heap.size sv w6) := Lib.hid (HE.out.step (by rw [← hw6]; exact hb6))
  rw [hw6] at b8 hs6 ⊢
  obtain ⟨N, hN⟩ : ∃ N, w5.heap.size = N := ⟨_, rfl⟩
  rw [hN] at b8 hs6 HE6 ⊢
  clear hb6 cQ cQ8 hnn HE hw6 hN hB6 hlo hs1
  refine named ?_
  intro T Q hT hQ
  dsimp only at hT ⊢
  have hev : ({ tmps := T, defers := [] } : Act).eval (.tmp 29) = .func (.func 35) #[] #[.pointer (some ⟨Bs, 0, none⟩)] := by rw [hT]; rfl
  have key : ∀ (D : Nat) (W' : World) (m : Nat), ((m : Int) = stop ∨ m = l.length) → m ≤ l.length → Boxed W' N 3 (.int .i64 (m : Int)) → RowKit.Below N w6 W' → N + 1 ≤ D → W'.heap[D]? = some (.deferred (some [])) → Q .normal { tmps := T, defers := [{ target := .collected D, args := #[] }] } W' := by
    intro D W' m hm hml b8' hB' hD hK
    have HM := Lib.hid hm
    have HB8 := Lib.hid b8'
    have HBW := Lib.hid hB'
    have HE7 := Lib.hid (HE6.out.step hB')
    have HKD := Lib.hid hK
    clear hm b8' hB' hK hev
    subst hQ
    go_upto_region 14 with fail
    rename_i K2 hK2 K3 hK3
    have key2 : ∀ (u54 u55 u56 u57 u58 u59 u60 u61 u62 : Value) (a : Act), a = { tmps := (((((((((T.setIfInBounds 54 u54).setIfInBounds 55 u55).setIfInBounds 56 u56).setIfInBounds 57 u57).setIfInBounds 58 u58).setIfInBounds 59 u59).setIfInBounds 60 u60).setIfInBounds 61 u61).setIfInBounds 62 u62), defers := [{ target := .collected D, args := #[] }] } → K2 a W' := by
      intro u54 u55 u56 u57 u58 u59 u60 u61 u62 a ha
      subst ha
      refine hK2 _ _ ?_
      clear hK2 hK3 HM
      subst hT
      simp only [List.setIfInBounds_toArray, List.set_cons_succ, List.set_cons_zero]
      have cN := HB8.out.cell
      have fN := HB8.out.frozen
      have cQ := ((HE7.out.step ((Below.refl N W').setCell (p := ⟨N, 0, none⟩) (Nat.le_refl _) (.int .i64 0))).bQ).cell
      go_wp2_with fail
      have hsN := HE7.out.size
      have hDl : D < W'.heap.size := (Array.getElem?_eq_some_iff.1 HKD.out).1
      have b7 : Boxed (W'.setCell ⟨N, 0, none⟩ (.int .i64 0)) N 3 (.int .i64 0) := Boxed.set _ HB8.out
      have hD7 : (W'.setCell ⟨N, 0, none⟩ (.int .i64 0)).heap[D]? = some (.deferred (some [])) := at_set HKD.out (by omega)
      have hs7 : (W'.setCell ⟨N, 0, none⟩ (.int .i64 0)).heap.size = W'.heap.size := by simp
      have hE7 := HE7.out.step ((Below.refl N W').setCell (p := ⟨N, 0, none⟩) (Nat.le_refl _) (.int .i64 0))
      have hBW7 := hE7.below
      obtain ⟨W7, hW7⟩ : ∃ W7, W'.setCell ⟨N, 0, none⟩ (.int .i64 0) = W7 := ⟨_, rfl⟩
      rw [hW7] at b7 hD7 hs7 hE7 hBW7 ⊢
      have HF := Lib.hid hE7
      have hNl := b7.lt
      clear hW7 hE7 cN fN cQ HE7 HKD HBW HB8 hsN
      refine named ?_
      intro T2 Q2 hT2 hQ2
      dsimp only at hT2 ⊢
      have hev2 : ({ tmps := T2, defers := [{ target := .collected D, args := #[] }] } : Act).eval (.tmp 63) = .func (.func 35) #[] #[.pointer (some ⟨Bs, 0, none⟩)] := by rw [hT2]; rfl
      have hiN := HF.out.hiN
      have hltF := HF.out.ltF
      refine (wpIn_wide (n := 20)).1 ?_
      refine wpIn_rangeFunc_ownH rfl (by decide) (gf := 35) (lb := #[.pointer (some ⟨Bs, 0, none⟩)]) hev2 trivial (enters_of Try.func35 (by kernel_rfl) rfl)
        (all_stops Fence.wide (20 - 1) trivial rfl (by decide) Bs N lo sv l hlb W7 (by omega) (by omega) HF.out.bF.cell (HF.out.has.upto hiN)) belowK_t (belowK_b (by omega)) (Below.refl _ _) (fun _ => rfl)
        (fun pre W' => pre = pairsOf l pre.length ∧ Boxed W' N 3 (.int .i64 (pre.length : Int)) ∧ RowKit.Below N W7 W' ∧ W'.heap[D]? = some (.deferred (some [])))
        (fun cd pre W' => cd = .ret ∧ pre ≠ pairsOf l pre.length)
        (fun s X Y row hs hg hr => ⟨hs.1, box_from hs.2.1 hg hr, below_from hs.2.2.1 (by omega) (by omega) hg hr, at_from hs.2.2.2 (by omega) hg hr⟩)
        (fun cd s X Y row hs hg hr => hs)
        ⟨rfl, b7, Below.refl _ _, hD7⟩
        (fun x a' W' => ∃ Bx, N < Bx ∧ Box2 W' Bx x.2 ∧ a' = { tmps := (((T2.setIfInBounds 64 (.int .i64 (x.1 : Int))).setIfInBounds 65 (.agg #[.int .i64 x.2.1, .int .i64 x.2.2])).setIfInBounds 11 (.int .i64 (x.1 : Int))).setIfInBounds 12 (.pointer (some ⟨Bx, 0, none⟩)), defers := [] })
        (fun x a' _ X Y row hs hg hr => by obtain ⟨Bx, h1, h2, h3⟩ := hs; exact ⟨Bx, h1, box2_from () X Y row h2 hg hr, h3⟩)
        ?assign ?body ?done ?stop
      case assign =>
        rintro lp pre x W' K ⟨hp, b8', hB', hDD⟩ hK
        have hlt' := b8'.lt
        subst hT2
        simp only [encP]
        gi_wp2
        have hsz' := hB'.size
        exact hK _ _ ((KeepsOthers.alloc _ _).from _) ((Below.refl _ W').alloc (by omega) _) ⟨hp, b8'.alloc _, hB'.alloc (by omega) _, (Below.heap_alloc W' _ D (Array.getElem?_eq_some_iff.1 hDD).1).trans hDD⟩ ⟨W'.heap.size, hlt', Box2.new _ _, rfl⟩
      case body =>
        rintro lp pre x a' W' hlp ⟨rec, hrec⟩ ⟨hp, b8', hB', hDD⟩ ⟨Bx, hBx, bX, rfl⟩ hlt
        subst hT2
        have E := HF.out.step hB'
        obtain ⟨ad, hA, hk⟩ := (H.out.below E.below) (by omega)
        subst hA
        obtain ⟨c1, c2⟩ := hk.two pre.length hlt
        obtain ⟨q, hq⟩ : ∃ q, l[pre.length]! = q := ⟨_, rfl⟩
        rw [hq] at c1 c2
        have cN := b8'.cell
        have fN := b8'.frozen
        have cL := E.bL.cell
        obtain ⟨x1, x2⟩ := bX.cell
        have hsz' := hB'.size
        have HK := Lib.hid hk
        have HN := Lib.hid b8'
        have HB' := Lib.hid hB'
        have HE' := Lib.hid E
        have HP := Lib.hid hp
        have HQ := Lib.hid hq
        have HDD := Lib.hid hDD
        have HREC := Lib.hid hrec
        clear hk bX b8' hB' E hev2 hp hq hDD hrec
        have g1 : decide ((l.length : Int) ≤ (pre.length : Int)) = false := decide_eq_false (by omega)
        have g2 : decide (l.length ≤ pre.length) = false := decide_eq_false (by omega)
        have g3 : ¬ l.length ≤ pre.length := by omega
        simp only [List.setIfInBounds_toArray, List.set_cons_succ, List.set_cons_zero]
        by_cases hx1 : x.1 = pre.length
        · by_cases hx2 : x.2 = q
          · obtain ⟨i, y⟩ := x
            obtain rfl : i = pre.length := hx1
            obtain rfl : y = q := hx2
            dsimp only at x1 x2 ⊢
            gi_upto_region 20 with fail
            refine QuietR.region (by kernel_rfl) (by kernel_rfl) (by kernel_rfl) ?_
            repeat (gi_big_quiet_step (fail))
            refine wpQuietIn_nil ?_
            rintro _ ⟨nq, rfl⟩
            have hWB := below_drewN N W' nq
            have hWK : ∀ B, KeepsFrom B W' (W'.drewN nq) := fun B => keeps_drewN B W' nq
            have hWN : Boxed (W'.drewN nq) N 3 (.int .i64 (pre.length : Int)) := boxed_drewN HN.out
            have hWD : (W'.drewN nq).heap[D]? = some (.deferred (some [])) := HDD.out
            have hWR : (W'.drewN nq).heap[lp]? = some (.loop rec) := HREC.out
            have hWS : (W'.drewN nq).heap.size = W'.heap.size := rfl
            have hWE := HE'.out.step hWB
            obtain ⟨Wq, hWq⟩ : ∃ Wq, W'.drewN nq = Wq := ⟨_, rfl⟩
            rw [hWq] at hWB hWK hWN hWD hWR hWS hWE ⊢
            have HWB := Lib.hid hWB
            have HWK := Lib.hid hWK
            have HWN := Lib.hid hWN
            have HWD := Lib.hid hWD
            have HWR := Lib.hid hWR
            have HWE := Lib.hid hWE
            have cQ9 := (hWE.bQ.alloc (.cells #[.int .i64 0] 3)).cell
            clear hWB hWK hWN hWD hWR hWE hWq cN fN cL
            gi_wp2_with fail
            have b13 := Boxed.new Wq 3 (.int .i64 0)
            have bN9 := HWN.out.alloc (.cells #[.int .i64 0] 3)
            have hNlq := HWN.out.lt
            have hB9 : RowKit.Below N W' (Wq.alloc (.cells #[.int .i64 0] 3)) := HWB.out.alloc (by omega) _
            have hK9 : KeepsFrom W7.heap.size W' (Wq.alloc (.cells #[.int .i64 0] 3)) := (HWK.out _).trans ((KeepsOthers.alloc _ _).from _)
            have hD9 : (Wq.alloc (.cells #[.int .i64 0] 3)).heap[D]? = some (.deferred (some [])) := (Below.heap_alloc Wq _ D (Array.getElem?_eq_some_iff.1 HWD.out).1).trans HWD.out
            have hR9 : (Wq.alloc (.cells #[.int .i64 0] 3)).heap[lp]? = some (.loop rec) := (Below.heap_alloc Wq _ lp (Array.getElem?_eq_some_iff.1 HWR.out).1).trans HWR.out
            have hs9 : (Wq.alloc (.cells #[.int .i64 0] 3)).heap.size = Wq.heap.size + 1 := by simp
            obtain ⟨W9, hW9⟩ : ∃ W9, Wq.alloc (.cells #[.int .i64 0] 3) = W9 := ⟨_, rfl⟩
            rw [hW9] at b13 bN9 hB9 hK9 hD9 hR9 hs9 ⊢
            obtain ⟨M, hM⟩ : ∃ M, W'.heap.size = M := ⟨_, rfl⟩
            rw [hWS] at b13 hs9 hNlq
            rw [hM] at b13 hs9 hNlq ⊢
            have HE9 := Lib.hid (HE'.out.step hB9)
            clear hW9 cQ9 HWB HWK HWN HWD HWR HWE hWS
            refine named_in ?_
            intro T3 Q3 hT3 hQ3
            dsimp only at hT3 ⊢
            have hev3 : ({ tmps := T3, defers := [] } : Act).eval (.tmp 83) = .func (.func 35) #[] #[.pointer (some ⟨Bs, 0, none⟩)] := by rw [hT3]; rfl
            refine wpIn_rangeFunc_ownN (l₀ := lp) (r₀ := rec) rfl hR9 (by decide) (gf := 35) (lb := #[.pointer (some ⟨Bs, 0, none⟩)]) hev3 trivial (enters_of Try.func35 (by kernel_rfl) rfl)
              ((all_stops Fence.wide (18 - 1) trivial rfl (by decide) Bs N lo sv l hlb W9 (by omega) (by omega) HE9.out.bF.cell (HE9.out.has.upto hiN)).inRound lp) belowK_t (belowK_b (by omega)) (Below.refl _ _) (fun _ => rfl)
              (fun pre' V => (pre' = pairsOf l pre'.length ∧ pre'.length ≤ pre.length) ∧ Boxed V M 3 (.int .i64 (pre'.length : Int)) ∧ Boxed V N 3 (.int .i64 (pre.length : Int)) ∧ RowKit.Below N W' V ∧ KeepsFrom W7.heap.size W' V ∧ V.heap[D]? = some (.deferred (some [])))
              (fun cd pre' V => (cd = .ret ∧ pre' ≠ pairsOf l pre'.length) ∨ (cd = .exit 4 ∧ pre' = pairsOf l pre'.length ∧ Boxed V M 3 (.int .i64 ((pre.length : Int) + 1)) ∧ Boxed V N 3 (.int .i64 (pre.length : Int)) ∧ RowKit.Below N W' V ∧ KeepsFrom W7.heap.size W' V ∧ V.heap[D]? = some (.deferred (some []))))
              (fun s X Y row hs hg hr => ⟨hs.1, box_from hs.2.1 hg hr, box_from hs.2.2.1 hg hr, below_from hs.2.2.2.1 (by omega) (by omega) hg hr, ownFrom_keepsFrom (β := Unit) (by omega) () X Y row hs.2.2.2.2.1 hg hr, at_from hs.2.2.2.2.2 (by omega) hg hr⟩)
              (fun cd s X Y row hs hg hr => hs.imp id fun ⟨h1, h2, h3, h4, h5, h6, h7⟩ => ⟨h1, h2, box_from h3 hg hr, box_from h4 hg hr, below_from h5 (by omega) (by omega) hg hr, ownFrom_keepsFrom (β := Unit) (by omega) () X Y row h6 hg hr, at_from h7 (by omega) hg hr⟩)
              ⟨⟨rfl, Nat.zero_le _⟩, b13, bN9, hB9, hK9, hD9⟩
              (fun y a'' V => ∃ By, N < By ∧ Box2 V By y.2 ∧ a'' = { tmps := (((T3.setIfInBounds 84 (.int .i64 (y.1 : Int))).setIfInBounds 85 (.agg #[.int .i64 y.2.1, .int .i64 y.2.2])).setIfInBounds 14 (.int .i64 (y.1 : Int))).setIfInBounds 15 (.pointer (some ⟨By, 0, none⟩)), defers := [] })
              (fun y a'' _ X Y row hs hg hr => by obtain ⟨By, h1, h2, h3⟩ := hs; exact ⟨By, h1, box2_from () X Y row h2 hg hr, h3⟩)
              ?assign3 ?body3 ?done3 ?stop3
            case assign3 =>
              rintro lp3 pre' y V K ⟨hp', bM, bN', hBV, hKV, hDV⟩ hK
              have hlt3 := bN'.lt
              subst hT3
              simp only [encP]
              gi_wp2
              have hszV := hBV.size
              exact hK _ _ ((KeepsOthers.alloc _ _).from _) ((Below.refl _ V).alloc (by omega) _) ⟨hp', bM.alloc _, bN'.alloc _, hBV.alloc (by omega) _, hKV.trans ((KeepsOthers.alloc _ _).from _), (Below.heap_alloc V _ D (Array.getElem?_eq_some_iff.1 hDV).1).trans hDV⟩ ⟨V.heap.size, hlt3, Box2.new _ _, rfl⟩
            case body3 =>
              rintro lp3 pre' y' a'' V hlp3 hrec3 ⟨⟨hp', hle'⟩, bM, bN', hBV, hKV, hDV⟩ ⟨By, hBy, bY, rfl⟩ hlt'
              subst hT3
              have E3 := HE'.out.step hBV
              obtain ⟨ad3, hA3, hk3⟩ := (H.out.below E3.below) (by omega)
              obtain rfl := Option.some.inj hA3
              obtain ⟨c3, c4⟩ := hk3.two pre'.length hlt'
              obtain ⟨q', hq'⟩ : ∃ q', l[pre'.length]! = q' := ⟨_, rfl⟩
              rw [hq'] at c3 c4
              have cM := bM.cell
              have fM := bM.frozen
              have cN' := bN'.cell
              have cL' := E3.bL.cell
              obtain ⟨z1, z2⟩ := bY.cell
              have hszV := hBV.size
              have HM3 := Lib.hid bM
              have HN3 := Lib.hid bN'
              have HBV := Lib.hid hBV
              have HKV := Lib.hid hKV
              have HDV := Lib.hid hDV
              have HE3 := Lib.hid E3
              have HP3 := Lib.hid hp'
              have HQ3 := Lib.hid hq'
              clear hk3 bY bM bN' hBV hKV hDV E3 hev3 hp' hq' hrec3 c1 c2 x1 x2 g1 g2 hQ3
              have g1 : decide ((l.length : Int) ≤ (pre'.length : Int)) = false := decide_eq_false (by omega)
              have g2 : decide (l.length ≤ pre'.length) = false := decide_eq_false (by omega)
              have g4 : ¬ l.length ≤ pre'.length := by omega
              simp only [List.setIfInBounds_toArray, List.set_cons_succ, List.set_cons_zero]
              by_cases hx1 : y'.1 = pre'.length
              · by_cases hx2 : y'.2 = q'
                · obtain ⟨i, z⟩ := y'
                  obtain rfl : i = pre'.length := hx1
                  obtain rfl : z = q' := hx2
                  dsimp only at z1 z2 ⊢
                  gi_upto_region 26 with fail
                  refine QuietR.region (by kernel_rfl) (by kernel_rfl) (by kernel_rfl) ?_
                  repeat (gi_big_quiet_step (fail))
                  refine wpQuietIn_nil ?_
                  rintro _ ⟨nq3, rfl⟩
                  have bMn : Hid (Boxed ((V.drewN nq3).setCell ⟨M, 0, none⟩ (.int .i64 ((pre'.length : Int) + 1))) M 3 (.int .i64 ((pre'.length : Int) + 1))) := Lib.hid (Boxed.set _ (boxed_drewN HM3.out))
                  have bNn : Hid (Boxed ((V.drewN nq3).setCell ⟨M, 0, none⟩ (.int .i64 ((pre'.length : Int) + 1))) N 3 (.int .i64 (pre.length : Int))) := Lib.hid (Boxed.other (boxed_drewN HN3.out) (by omega) _)
                  have hKF : Hid (∀ B, KeepsFrom B V ((V.drewN nq3).setCell ⟨M, 0, none⟩ (.int .i64 ((pre'.length : Int) + 1)))) := Lib.hid (fun B => (keeps_drewN _ _ _).trans ((KeepsOthers.setCell _ _ _).from _))
                  have hBB : Hid (RowKit.Below N V ((V.drewN nq3).setCell ⟨M, 0, none⟩ (.int .i64 ((pre'.length : Int) + 1)))) := Lib.hid ((below_drewN N V nq3).setCell (p := ⟨M, 0, none⟩) (by simp; omega) _)
                  have hDn : Hid (((V.drewN nq3).setCell ⟨M, 0, none⟩ (.int .i64 ((pre'.length : Int) + 1))).heap[D]? = some (.deferred (some []))) := Lib.hid (at_set (show (V.drewN nq3).heap[D]? = _ from HDV.out) (by omega))
                  have cM2 := bMn.out.cell
                  have cN2 := bNn.out.cell
                  have HPR3 := Lib.hid ((pairs_step (x := (pre'.length, z)) HP3.out).mpr (by rw [HQ3.out]))
                  have HLN3 : Hid ((pre' ++ [(pre'.length, z)]).length = pre'.length + 1) := Lib.hid (by simp)
                  by_cases hgt : pre'.length = pre.length
                  · have hG := Lib.hid hgt
                    have hg1 : (pre.length : Int) < (pre'.length : Int) + 1 := by omega
                    have hg2 : decide ((pre.length : Int) < (pre'.length : Int) + 1) = true := decide_eq_true hg1
                    clear hgt
                    gi_wp2_with fail
                    refine ⟨hKF.out _, .inr ⟨rfl, HPR3.out, ?_, bNn.out, HBV.out.trans hBB.out, (by rw [← hs7]; exact HKV.out.trans (hKF.out _)), hDn.out⟩⟩
                    have := bMn.out
                    rw [← hG.out]
                    exact this
                  · have hg0 : pre'.length + 1 ≤ pre.length := by omega
                    have hg1 : ¬ (pre.length : Int) < (pre'.length : Int) + 1 := by omega
                    have hg2 : decide ((pre.length : Int) < (pre'.length : Int) + 1) = false := decide_eq_false hg1
                    clear hgt
                    gi_wp2_with fail
                    refine ⟨hKF.out _, hBB.out, ⟨HPR3.out, by rw [HLN3.out]; exact hg0⟩, ?_, bNn.out, HBV.out.trans hBB.out, (by rw [← hs7]; exact HKV.out.trans (hKF.out _)), hDn.out⟩
                    rw [HLN3.out, Int.natCast_add]
                    exact bMn.out
                · have hbad : ¬ y' = (pre'.length, l[pre'.length]!) := fun e => hx2 (by rw [e]; exact HQ3.out)
                  have HBD := Lib.hid hbad
                  clear hbad
                  obtain ⟨i, y0, y1⟩ := y'
                  obtain ⟨q0, q1⟩ := q'
                  obtain rfl : i = pre'.length := hx1
                  dsimp only at z1 z2 c3 c4 hx2 ⊢
                  have hparts : ¬ y0 = q0 ∨ (y0 = q0 ∧ ¬ y1 = q1) := by
                    by_cases e1 : y0 = q0
                    · exact .inr ⟨e1, fun e2 => hx2 (Prod.ext e1 e2)⟩
                    · exact .inl e1
                  clear hx2
                  rcases hparts with e1 | ⟨rfl, e2⟩
                  all_goals
                    gi_upto_region 26 with fail
                    refine QuietR.region (by kernel_rfl) (by kernel_rfl) (by kernel_rfl) ?_
                    repeat (gi_big_quiet_step (fail))
                    refine wpQuietIn_nil ?_
                    rintro _ ⟨nq3, rfl⟩
                    have cR := HE3.out.bR.cell
                    have fR := HE3.out.bR.frozen
                    gi_wp2_with fail
                    exact ⟨((keeps_drewN _ _ _).trans ((KeepsOthers.setCell _ _ _).from _)), .inl ⟨rfl, fun e => HBD.out ((pairs_step HP3.out).mp e)⟩⟩
              · have hbad : ¬ y' = (pre'.length, l[pre'.length]!) := fun e => hx1 (by rw [e])
                have HBD := Lib.hid hbad
                have hx1' : ¬ (y'.1 : Int) = (pre'.length : Int) := by omega
                have hx2' : ((y'.1 : Int) != (pre'.length : Int)) = true := bne_iff_ne.mpr hx1'
                clear hx1 hx1' hbad
                gi_upto_region 26 with fail
                refine QuietR.region (by kernel_rfl) (by kernel_rfl) (by kernel_rfl) ?_
                repeat (gi_big_quiet_step (fail))
                refine wpQuietIn_nil ?_
                rintro _ ⟨nq3, rfl⟩
                have cR := HE3.out.bR.cell
                have fR := HE3.out.bR.frozen
                gi_wp2_with fail
                exact ⟨((keeps_drewN _ _ _).trans ((KeepsOthers.setCell _ _ _).from _)), .inl ⟨rfl, fun e => HBD.out ((pairs_step HP3.out).mp e)⟩⟩
            case done3 =>
              rintro ys V rfl ⟨⟨_, hle⟩, _⟩
              rw [pairsOf_length] at hle
              exact absurd hlt (by omega)
            case stop3 =>
              rintro cd pre' V ⟨k, hk, hpre⟩ (⟨rfl, hne⟩ | ⟨rfl, hp', bM, bN', hBV, hKV, hDV⟩)
              · exact absurd (by rw [hpre, pairsOf_length]) hne
              · refine wpIn_exit ?_
                have cM := bM.cell
                have cN' := bN'.cell
                have fN' := bN'.frozen
                have BNH := Lib.hid bN'
                have BVH := Lib.hid hBV
                have KVH := Lib.hid hKV
                have DVH := Lib.hid hDV
                have hpre2 := (pairs_step (x := (pre.length, y)) HP.out).mpr (by rw [HQ.out])
                have HPR := Lib.hid hpre2
                have HLN : Hid ((pre ++ [(pre.length, y)]).length = pre.length + 1) := Lib.hid (by simp)
                clear hpre2 hp' bM bN' hBV hKV hDV hpre
                subst hQ3
                subst hT3
                gi_wp2_with fail
                refine ⟨KVH.out.trans ((KeepsOthers.setCell _ _ _).from _), BVH.out.setCell (p := ⟨N, 0, none⟩) (Nat.le_refl _) _, HPR.out, ?_, HB'.out.trans (BVH.out.setCell (p := ⟨N, 0, none⟩) (Nat.le_refl _) _), at_set DVH.out (by omega)⟩
                rw [HLN.out, Int.natCast_add]
                exact Boxed.set _ BNH.out
          · have hbad : ¬ x = (pre.length, l[pre.length]!) := fun e => hx2 (by rw [e]; exact HQ.out)
            have HBD := Lib.hid hbad
            clear hbad
            obtain ⟨i, y0, y1⟩ := x
            obtain ⟨q0, q1⟩ := q
            obtain rfl : i = pre.length := hx1
            dsimp only at x1 x2 c1 c2 hx2 ⊢
            have hparts : ¬ y0 = q0 ∨ (y0 = q0 ∧ ¬ y1 = q1) := by
              by_cases e1 : y0 = q0
              · exact .inr ⟨e1, fun e2 => hx2 (Prod.ext e1 e2)⟩
              · exact .inl e1
            clear hx2
            rcases hparts with e1 | ⟨rfl, e2⟩
            all_goals
              gi_upto_region 20 with fail
              refine QuietR.region (by kernel_rfl) (by kernel_rfl) (by kernel_rfl) ?_
              repeat (gi_big_quiet_step (fail))
              refine wpQuietIn_nil ?_
              rintro _ ⟨nq, rfl⟩
              have cR := HE'.out.bR.cell
              have fR := HE'.out.bR.frozen
              gi_wp2_with fail
              exact ⟨((keeps_drewN _ _ _).trans ((KeepsOthers.setCell _ _ _).from _)), rfl, fun e => HBD.out ((pairs_step HP.out).mp e)⟩
        · have hbad : ¬ x = (pre.length, l[pre.length]!) := fun e => hx1 (by rw [e])
          have HBD := Lib.hid hbad
          have hx1' : ¬ (x.1 : Int) = (pre.length : Int) := by omega
          have hx2' : ((x.1 : Int) != (pre.length : Int)) = true := bne_iff_ne.mpr hx1'
          clear hx1 hx1'
          clear hbad
          gi_upto_region 20 with fail
          refine QuietR.region (by kernel_rfl) (by kernel_rfl) (by kernel_rfl) ?_
          repeat (gi_big_quiet_step (fail))
          refine wpQuietIn_nil ?_
          rintro _ ⟨nq, rfl⟩
          have cR := HE'.out.bR.cell
          have fR := HE'.out.bR.frozen
          gi_wp2_with fail
          exact ⟨((keeps_drewN _ _ _).trans ((KeepsOthers.setCell _ _ _).from _)), rfl, fun e => HBD.out ((pairs_step HP.out).mp e)⟩
      case done =>
        rintro D2 ys W'' hD2 rfl ⟨hp, b8', hB', hDD⟩ hK2
        have E := HF.out.step hB'
        have cN := b8'.cell
        have cL := E.bL.cell
        have cR := E.bR.cell
        have fR := E.bR.frozen
        rw [pairsOf_length] at cN
        subst hQ2
        subst hT2
        dsimp only
        go_wp2_with fail
        have h3 := E.lt3
        have hKa : (W''.setCell ⟨W.heap.size + 1 + 1, 0, none⟩ (.bool true)).heap[D2]? = some (.deferred (some [])) := at_set hK2 (by omega)
        have hKb : ((W''.setCell ⟨W.heap.size + 1 + 1, 0, none⟩ (.bool true)).putObj D2 (.deferred none)).heap[D]? = some (.deferred (some [])) := (World.putObj_heap_other (by omega)).trans (at_set hDD (by omega))
        have hRb : Boxed (((W''.setCell ⟨W.heap.size + 1 + 1, 0, none⟩ (.bool true)).putObj D2 (.deferred none)).putObj D (.deferred none)) (W.heap.size + 1 + 1) 4 (.bool true) :=
          (World.putObj_heap_other (by omega)).trans ((World.putObj_heap_other (by omega)).trans (Boxed.set _ E.bR))
        have hBf : RowKit.Below W.heap.size W (((W''.setCell ⟨W.heap.size + 1 + 1, 0, none⟩ (.bool true)).putObj D2 (.deferred none)).putObj D (.deferred none)) :=
          ((E.below.setCell (p := ⟨W.heap.size + 1 + 1, 0, none⟩) (by simp; omega) _).trans (belowK_b (w := W) (Nat.le_refl _) _ D2 _ _ (by omega) hKa rfl rfl)).trans (belowK_b (w := W) (Nat.le_refl _) _ D _ _ (by omega) hKb rfl rfl)
        have hcR := hRb.cell
        refine ⟨by simp, .inl ⟨_, _, rfl, run_takeDeferred hKa, ⟨by simp, .inl ⟨_, _, rfl, run_takeDeferred hKb, ?_⟩⟩⟩⟩
        refine ⟨.bool true, ?_, rfl, hBf⟩
        simp [results, Try.f3, go_sem, hcR]
      case stop =>
        rintro D2 cd pre W'' hD2 ⟨k, hk, hpre⟩ ⟨rfl, hne⟩ hK2
        exact absurd (by rw [hpre, pairsOf_length]) hne
    clear hK2
    subst hT
    have cN := HB8.out.cell
    have cL := HE7.out.bL.cell
    have cS := HE7.out.bS.cell
    by_cases hmL : m = l.length
    · subst hmL
      have g1 : (((l.length : Nat) : Int) != ((l.length : Nat) : Int)) = false := by simp
      go_wp2_with fail
      apply key2
      simp only [List.setIfInBounds_toArray, List.set_cons_succ, List.set_cons_zero]
      rfl
    · have hmS : (m : Int) = stop := HM.out.resolve_right hmL
      subst hmS
      have g1 : (((m : Nat) : Int) != ((l.length : Nat) : Int)) = true := bne_iff_ne.mpr (by omega)
      go_wp2_with fail
      apply key2
      simp only [List.setIfInBounds_toArray, List.set_cons_succ, List.set_cons_zero]
      rfl
  have hiN := HE6.out.hiN
  refine (wpIn_wide (n := 20)).1 ?_
  refine wpIn_rangeFunc_ownH rfl (by decide) (gf := 35) (lb := #[.pointer (some ⟨Bs, 0, none⟩)]) hev trivial (enters_of Try.func35 (by kernel_rfl) rfl)
    (all_stops Fence.wide (20 - 1) trivial rfl (by decide) Bs N lo sv l hlb w6 (by have := HE6.out.ltF; omega) (by omega) HE6.out.bF.cell (HE6.out.has.upto hiN)) belowK_t (belowK_b (by omega)) (Below.refl _ _) (fun _ => rfl)
    (fun pre W' => (pre = pairsOf l pre.length ∧ (pre ≠ [] → (pre.length : Int) ≠ stop)) ∧ Boxed W' N 3 (.int .i64 (pre.length : Int)) ∧ RowKit.Below N w6 W')
    (fun cd pre W' => (cd = .ret ∧ pre ≠ pairsOf l pre.length) ∨ (cd = .exit 0 ∧ pre = pairsOf l pre.length ∧ (pre.length : Int) = stop ∧ Boxed W' N 3 (.int .i64 (pre.length : Int)) ∧ RowKit.Below N w6 W'))
    (fun s X Y row hs hg hr => ⟨hs.1, box_from hs.2.1 hg hr, below_from hs.2.2 (by omega) (by omega) hg hr⟩)
    (fun cd s X Y row hs hg hr => hs.imp id fun ⟨h1, h2, h3, h4, h5⟩ => ⟨h1, h2, h3, box_from h4 hg hr, below_from h5 (by omega) (by omega) hg hr⟩)
    ⟨⟨rfl, fun h => absurd rfl h⟩, b8, Below.refl _ _⟩
    (fun x a' W' => ∃ Bx, N < Bx ∧ Box2 W' Bx x.2 ∧ a' = { tmps := (((T.setIfInBounds 30 (.int .i64 (x.1 : Int))).setIfInBounds 31 (.agg #[.int .i64 x.2.1, .int .i64 x.2.2])).setIfInBounds 9 (.int .i64 (x.1 : Int))).setIfInBounds 10 (.pointer (some ⟨Bx, 0, none⟩)), defers := [] })
    (fun x a' _ X Y row hs hg hr => by obtain ⟨Bx, h1, h2, h3⟩ := hs; exact ⟨Bx, h1, box2_from () X Y row h2 hg hr, h3⟩)
    ?assign ?body ?done ?stop
  case assign =>
    rintro lp pre x W' K ⟨hp, b8', hB'⟩ hK
    subst hT
    simp only [encP]
    gi_wp2
    have hsz' := hB'.size
    exact hK _ _ ((KeepsOthers.alloc _ _).from _) ((Below.refl _ W').alloc (by omega) _) ⟨hp, b8'.alloc _, hB'.alloc (by omega) _⟩ ⟨W'.heap.size, b8'.lt, Box2.new _ _, rfl⟩
  case body =>
    rintro lp pre x a' W' hlp hrec ⟨⟨hp, hns⟩, b8', hB'⟩ ⟨Bx, hBx, bX, rfl⟩ hlt
    subst hT
    have E := HE6.out.step hB'
    obtain ⟨ad, hA, hk⟩ := (H.out.below E.below) (by omega)
    subst hA
    obtain ⟨c1, c2⟩ := hk.two pre.length hlt
    obtain ⟨q, hq⟩ : ∃ q, l[pre.length]! = q := ⟨_, rfl⟩
    rw [hq] at c1 c2
    have cN := b8'.cell
    have fN := b8'.frozen
    have cL := E.bL.cell
    have cS := E.bS.cell
    obtain ⟨x1, x2⟩ := bX.cell
    have hsz' := hB'.size
    have HK := Lib.hid hk
    have HX := Lib.hid bX
    have HN := Lib.hid b8'
    have HB' := Lib.hid hB'
    have HE' := Lib.hid E
    have HP := Lib.hid hp
    have HS := Lib.hid hns
    have HQ := Lib.hid hq
    clear hk bX b8' hB' E hev key hp hns hq
    have g1 : decide ((l.length : Int) ≤ (pre.length : Int)) = false := decide_eq_false (by omega)
    have g2 : decide (l.length ≤ pre.length) = false := decide_eq_false (by omega)
    have g3 : ¬ l.length ≤ pre.length := by omega
    simp only [List.setIfInBounds_toArray, List.set_cons_succ, List.set_cons_zero]
    by_cases hx1 : x.1 = pre.length
    · by_cases hx2 : x.2 = q
      · obtain ⟨i, y⟩ := x
        obtain rfl : i = pre.length := hx1
        obtain rfl : y = q := hx2
        dsimp only at x1 x2 ⊢
        gi_upto_region 10 with fail
        refine QuietR.region (by kernel_rfl) (by kernel_rfl) (by kernel_rfl) ?_
        repeat (gi_big_quiet_step (fail))
        refine wpQuietIn_nil ?_
        rintro _ ⟨nq, rfl⟩
        have b8n : Hid (Boxed ((W'.drewN nq).setCell ⟨N, 0, none⟩ (.int .i64 ((pre.length : Int) + 1))) N 3 (.int .i64 ((pre.length : Int) + 1))) := Lib.hid (Boxed.set _ (boxed_drewN HN.out))
        have hKF : Hid (∀ B, KeepsFrom B W' ((W'.drewN nq).setCell ⟨N, 0, none⟩ (.int .i64 ((pre.length : Int) + 1)))) := Lib.hid (fun B => (keeps_drewN _ _ _).trans ((KeepsOthers.setCell _ _ _).from _))
        have hBB : Hid (RowKit.Below N W' ((W'.drewN nq).setCell ⟨N, 0, none⟩ (.int .i64 ((pre.length : Int) + 1)))) := Lib.hid ((below_drewN N W' nq).setCell (p := ⟨N, 0, none⟩) (Nat.le_refl _) _)
        have cS2 := (HE'.out.step hBB.out).bS.cell
        have cN2 := b8n.out.cell
        have hpre := (pairs_step (x := (pre.length, y)) HP.out).mpr (by rw [HQ.out])
        have hlen : (pre ++ [(pre.length, y)]).length = pre.length + 1 := by simp
        have HPR := Lib.hid hpre
        have HLN := Lib.hid hlen
        clear hpre hlen
        by_cases hst : (pre.length : Int) + 1 = stop
        · subst hst
          gi_wp2_with fail
          refine ⟨hKF.out _, .inr ⟨rfl, HPR.out, ?_, ?_, HB'.out.trans hBB.out⟩⟩
          · rw [HLN.out, Int.natCast_add]; rfl
          · rw [HLN.out, Int.natCast_add]; exact b8n.out
        · have hst2 : ((pre.length : Int) + 1 == stop) = false := by rw [beq_eq_false_iff_ne]; exact hst
          gi_wp2_with fail
          refine ⟨hKF.out _, hBB.out, ⟨HPR.out, fun _ => ?_⟩, ?_, HB'.out.trans hBB.out⟩
          · rw [HLN.out, Int.natCast_add]; exact hst
          · rw [HLN.out, Int.natCast_add]; exact b8n.out
      · have hbad : ¬ x = (pre.length, l[pre.length]!) := fun e => hx2 (by rw [e]; exact HQ.out)
        have HBD := Lib.hid hbad
        clear hbad
        obtain ⟨i, y0, y1⟩ := x
        obtain ⟨q0, q1⟩ := q
        obtain rfl : i = pre.length := hx1
        dsimp only at x1 x2 c1 c2 hx2 ⊢
        have hparts : ¬ y0 = q0 ∨ (y0 = q0 ∧ ¬ y1 = q1) := by
          by_cases e1 : y0 = q0
          · exact .inr ⟨e1, fun e2 => hx2 (Prod.ext e1 e2)⟩
          · exact .inl e1
        clear hx2
        rcases hparts with e1 | ⟨rfl, e2⟩
        all_goals
          gi_upto_region 10 with fail
          refine QuietR.region (by kernel_rfl) (by kernel_rfl) (by kernel_rfl) ?_
          repeat (gi_big_quiet_step (fail))
          refine wpQuietIn_nil ?_
          rintro _ ⟨nq, rfl⟩
          have cR := HE'.out.bR.cell
          have fR := HE'.out.bR.frozen
          gi_wp2_with fail
          exact ⟨((keeps_drewN _ _ _).trans ((KeepsOthers.setCell _ _ _).from _)), .inl ⟨rfl, fun e => HBD.out ((pairs_step HP.out).mp e)⟩⟩
    · have hbad : ¬ x = (pre.length, l[pre.length]!) := fun e => hx1 (by rw [e])
      have HBD := Lib.hid hbad
      have hx1' : ¬ (x.1 : Int) = (pre.length : Int) := by omega
      have hx2' : ((x.1 : Int) != (pre.length : Int)) = true := bne_iff_ne.mpr hx1'
      clear hx1 hx1'
      clear hbad
      gi_upto_region 10 with fail
      refine QuietR.region (by kernel_rfl) (by kernel_rfl) (by kernel_rfl) ?_
      repeat (gi_big_quiet_step (fail))
      refine wpQuietIn_nil ?_
      rintro _ ⟨nq, rfl⟩
      have cR := HE'.out.bR.cell
      have fR := HE'.out.bR.frozen
      gi_wp2_with fail
      exact ⟨((keeps_drewN _ _ _).trans ((KeepsOthers.setCell _ _ _).from _)), .inl ⟨rfl, fun e => HBD.out ((pairs_step HP.out).mp e)⟩⟩
  case done =>
    rintro D ys W' hD rfl ⟨⟨hp, _⟩, b8', hB'⟩ hK
    refine key D W' (pairsOf l l.length).length (.inr (pairsOf_length _ _)) (by rw [pairsOf_length]; exact Nat.le_refl _) b8' hB' (by omega) hK
  case stop =>
    rintro D cd pre W' hD ⟨k, hk, hpre⟩ (⟨rfl, hne⟩ | ⟨rfl, hp, hst, b8', hB'⟩) hK
    · exact absurd (by rw [hpre, pairsOf_length]) hne
    · have hlen : pre.length ≤ l.length := by rw [hpre, pairsOf_length]; exact hk
      have hkey := key D W' pre.length (.inl hst) hlen b8' hB' (by omega) hK
      refine wpIn_exit ?_
      subst hQ
      exact hkey
end Go.Proofs.Ytbmfldoobkeieaa.WalkAll
