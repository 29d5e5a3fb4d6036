/- The law KeysSetLaws: the walk of the law function. -/
import Derived.Test.YtbmfldoobkeieaaDoorKLaws
import Derived.Test.YtbmfldoobkeieaaDoorKRow
import Derived.Test.YtbmfldoobkeieaaDoorKApp
import Derived.Deep.DeepCutAuto
import Derived.StillTailTactics
import Derived.Deep.QuietTactic
import Derived.BigQuiet
import Derived.Deep.RegionHeld3
namespace Go.Proofs.YtbmfldoobkeieaaDoor.WalkSet
open Go.RowKit Go.Lib Go.Sort Go.Proofs.YtbmfldoobkeieaaDoor.Own Go.Proofs.YtbmfldoobkeieaaDoor.KForm Go.Proofs.YtbmfldoobkeieaaDoor.GSet Go.Proofs.YtbmfldoobkeieaaDoorW.PrintWords
set_option linter.unusedVariables false
set_option linter.unusedSimpArgs false

/-- what stands at a moment of the walk: the arguments, the key's box, the lists that calls have handed out -/
structure Env (W : World) (A A2 : Option Addr) (la lb : List (Int × Int)) (k : Int × Int) (ls : List (Option Addr × List (Int × Int))) (w : World) : Prop where
  below : RowKit.Below W.heap.size W w
  lt : W.heap.size < w.heap.size
  ka : KR w A la
  kb : KR w A2 lb
  box0 : w.cell? ⟨W.heap.size, 0, none⟩ = some (.int .i64 k.1)
  box1 : w.cell? ⟨W.heap.size, 1, none⟩ = some (.int .i64 k.2)
  own : ∀ p ∈ ls, ListAt w p.1 p.2
theorem Env.step {W : World} {A A2 : Option Addr} {la lb : List (Int × Int)} {k : Int × Int} {ls : List (Option Addr × List (Int × Int))} {w w' : World} (h : Env W A A2 la lb k ls w) (hb : RowKit.Below w.heap.size w w') : Env W A A2 la lb k ls w' :=
  ⟨h.below.trans (hb.mono (Nat.le_of_lt h.lt)), Nat.lt_of_lt_of_le h.lt hb.size, h.ka.below hb, h.kb.below hb, (hb.cell (p := ⟨W.heap.size, 0, none⟩) h.lt).trans h.box0, (hb.cell (p := ⟨W.heap.size, 1, none⟩) h.lt).trans h.box1, fun p hp => (h.own p hp).below hb⟩
theorem Env.push {W : World} {A A2 : Option Addr} {la lb : List (Int × Int)} {k : Int × Int} {ls : List (Option Addr × List (Int × Int))} {w : World} (h : Env W A A2 la lb k ls w) {B : Option Addr} {r : List (Int × Int)} (hr : ListAt w B r) : Env W A A2 la lb k ((B, r) :: ls) w :=
  ⟨h.below, h.lt, h.ka, h.kb, h.box0, h.box1, fun p hp => by
    rcases List.mem_cons.mp hp with rfl | hp
    · exact hr
    · exact h.own p hp⟩
theorem Env.pop {W : World} {A A2 : Option Addr} {la lb : List (Int × Int)} {k : Int × Int} {p : Option Addr × List (Int × Int)} {ls : List (Option Addr × List (Int × Int))} {w : World} (h : Env W A A2 la lb k (p :: ls) w) : Env W A A2 la lb k ls w :=
  ⟨h.below, h.lt, h.ka, h.kb, h.box0, h.box1, fun q hq => h.own q (List.mem_cons_of_mem _ hq)⟩
theorem Env.drewN {W : World} {A A2 : Option Addr} {la lb : List (Int × Int)} {k : Int × Int} {ls : List (Option Addr × List (Int × Int))} {w : World} (h : Env W A A2 la lb k ls w) (n : Nat) : Env W A A2 la lb k ls (w.drewN n) := h.step (pw_below_drewN (RowKit.Below.refl _ _) n)
theorem Env.top {W : World} {A A2 : Option Addr} {la lb : List (Int × Int)} {k : Int × Int} {B : Option Addr} {r : List (Int × Int)} {ls : List (Option Addr × List (Int × Int))} {w : World} (h : Env W A A2 la lb k ((B, r) :: ls) w) : ListAt w B r := h.own (B, r) (by simp)
theorem Env.top1 {W : World} {A A2 : Option Addr} {la lb : List (Int × Int)} {k : Int × Int} {p : Option Addr × List (Int × Int)} {B : Option Addr} {r : List (Int × Int)} {ls : List (Option Addr × List (Int × Int))} {w : World} (h : Env W A A2 la lb k (p :: (B, r) :: ls) w) : ListAt w B r := h.pop.top
theorem Env.top2 {W : World} {A A2 : Option Addr} {la lb : List (Int × Int)} {k : Int × Int} {p0 p1 : Option Addr × List (Int × Int)} {B : Option Addr} {r : List (Int × Int)} {ls : List (Option Addr × List (Int × Int))} {w : World} (h : Env W A A2 la lb k (p0 :: p1 :: (B, r) :: ls) w) : ListAt w B r := h.pop.top1
theorem Env.top3 {W : World} {A A2 : Option Addr} {la lb : List (Int × Int)} {k : Int × Int} {p0 p1 p2 : Option Addr × List (Int × Int)} {B : Option Addr} {r : List (Int × Int)} {ls : List (Option Addr × List (Int × Int))} {w : World} (h : Env W A A2 la lb k (p0 :: p1 :: p2 :: (B, r) :: ls) w) : ListAt w B r := h.pop.top2
theorem Env.top4 {W : World} {A A2 : Option Addr} {la lb : List (Int × Int)} {k : Int × Int} {p0 p1 p2 p3 : Option Addr × List (Int × Int)} {B : Option Addr} {r : List (Int × Int)} {ls : List (Option Addr × List (Int × Int))} {w : World} (h : Env W A A2 la lb k (p0 :: p1 :: p2 :: p3 :: (B, r) :: ls) w) : ListAt w B r := h.pop.top3
theorem Env.top5 {W : World} {A A2 : Option Addr} {la lb : List (Int × Int)} {k : Int × Int} {p0 p1 p2 p3 p4 : Option Addr × List (Int × Int)} {B : Option Addr} {r : List (Int × Int)} {ls : List (Option Addr × List (Int × Int))} {w : World} (h : Env W A A2 la lb k (p0 :: p1 :: p2 :: p3 :: p4 :: (B, r) :: ls) w) : ListAt w B r := h.pop.top4
theorem Env.top6 {W : World} {A A2 : Option Addr} {la lb : List (Int × Int)} {k : Int × Int} {p0 p1 p2 p3 p4 p5 : Option Addr × List (Int × Int)} {B : Option Addr} {r : List (Int × Int)} {ls : List (Option Addr × List (Int × Int))} {w : World} (h : Env W A A2 la lb k (p0 :: p1 :: p2 :: p3 :: p4 :: p5 :: (B, r) :: ls) w) : ListAt w B r := h.pop.top5
theorem Env.top7 {W : World} {A A2 : Option Addr} {la lb : List (Int × Int)} {k : Int × Int} {p0 p1 p2 p3 p4 p5 p6 : Option Addr × List (Int × Int)} {B : Option Addr} {r : List (Int × Int)} {ls : List (Option Addr × List (Int × Int))} {w : World} (h : Env W A A2 la lb k (p0 :: p1 :: p2 :: p3 :: p4 :: p5 :: p6 :: (B, r) :: ls) w) : ListAt w B r := h.pop.top6
theorem env0 {W : World} {A A2 : Option Addr} {la lb : List (Int × Int)} {k : Int × Int} (ha : KR W A la) (hb : KR W A2 lb) : Env W A A2 la lb k [] (W.alloc (Obj.cells #[.int .i64 k.1, .int .i64 k.2] 35)) := ⟨(RowKit.Below.refl _ _).alloc (Nat.le_refl _) _, by simp, ha.below ((RowKit.Below.refl _ _).alloc (Nat.le_refl _) _), hb.below ((RowKit.Below.refl _ _).alloc (Nat.le_refl _) _), by rw [World.cell?_alloc_at _ _ _ _ rfl]; rfl, by rw [World.cell?_alloc_at _ _ _ _ rfl]; rfl, fun p hp => by simp at hp⟩

/-- a list in memory of its own, as a call hands it out -/
def OutAt (e : Ending) (w w' : World) (l : List (Int × Int)) : Prop := ∃ B d, e = .returned (.slice B l.length d) ∧ l.length ≤ d ∧ ListAt w' B l ∧ RowKit.Below w.heap.size w w'
def Out2At (e : Ending) (w w' : World) (l : List (Int × Int)) (t : Int) : Prop := ∃ B d, e = .returned (.tuple #[.slice B l.length d, .int .i64 t]) ∧ l.length ≤ d ∧ ListAt w' B l ∧ RowKit.Below w.heap.size w w'
theorem copied_s {A : Option Addr} {c : Nat} {l : List (Int × Int)} {w : World} (h : KR w A l) (hl : l.length < 8796093022208) (hc : l.length ≤ c) :
    Calls Tryd.prog 11 #[.slice A l.length c] w fun e w' => OutAt e w w' l :=
  (copied_calls A c l w h hl hc).mono fun e w' ⟨v, he, ho, hb⟩ => by
    obtain ⟨B, d, rfl, hd, _, hL⟩ := ho.KR
    exact ⟨B, d, he, hd, hL, hb⟩
theorem sort_s {A : Option Addr} {c : Nat} {l : List (Int × Int)} {w : World} (h : ListAt w A l) (hl : l.length < 8796093022208) (hc : l.length ≤ c) (hs : soundF l = true) :
    Calls Tryd.prog 25 #[.slice A l.length c] w fun e w' => Out2At e w w' (sortF l) 0 :=
  (sort_calls A c l w hl hc h).mono fun e w' ⟨v, he, ho, hb⟩ => by
    rw [if_pos hs] at he ho
    obtain ⟨B, d, rfl, hd, _, hL⟩ := ho.KR
    exact ⟨B, d, he, hd, hL, hb⟩
theorem sort_bad {A : Option Addr} {c : Nat} {l : List (Int × Int)} {w : World} (h : ListAt w A l) (hl : l.length < 8796093022208) (hc : l.length ≤ c) (hs : soundF l = false) :
    Calls Tryd.prog 25 #[.slice A l.length c] w fun e w' => ∃ B d, e = .returned (.tuple #[.slice B 0 d, .int .i64 20]) ∧ RowKit.Below w.heap.size w w' :=
  (sort_calls A c l w hl hc h).mono fun e w' ⟨v, he, ho, hb⟩ => by
    rw [if_neg (by rw [hs]; simp)] at he ho
    obtain ⟨B, d, rfl, hd, _, hL⟩ := ho.KR
    exact ⟨B, d, he, hb⟩
theorem union_s {A A2 : Option Addr} {c c2 : Nat} {x y : List (Int × Int)} {w : World} (hx : ListAt w A x) (hy : ListAt w A2 y) (hlx : x.length < 4398046511104) (hly : y.length < 4398046511104) (hc : x.length ≤ c) (hc2 : y.length ≤ c2) (hRx : Rising x) (hRy : Rising y) :
    Calls Tryd.prog 28 #[.slice A x.length c, .slice A2 y.length c2] w fun e w' => Out2At e w w' (chooseF true true true x y) 0 :=
  (union_calls A A2 c c2 x y w hx hy hlx hly hc hc2 hRx hRy).mono fun e w' ⟨v, he, ho, hb⟩ => by
    obtain ⟨B, d, rfl, hd, _, hL⟩ := ho.KR
    exact ⟨B, d, he, hd, hL, hb⟩
theorem meet_s {A A2 : Option Addr} {c c2 : Nat} {x y : List (Int × Int)} {w : World} (hx : ListAt w A x) (hy : ListAt w A2 y) (hlx : x.length < 4398046511104) (hly : y.length < 4398046511104) (hc : x.length ≤ c) (hc2 : y.length ≤ c2) (hRx : Rising x) (hRy : Rising y) :
    Calls Tryd.prog 29 #[.slice A x.length c, .slice A2 y.length c2] w fun e w' => Out2At e w w' (chooseF false true false x y) 0 :=
  (meet_calls A A2 c c2 x y w hx hy hlx hly hc hc2 hRx hRy).mono fun e w' ⟨v, he, ho, hb⟩ => by
    obtain ⟨B, d, rfl, hd, _, hL⟩ := ho.KR
    exact ⟨B, d, he, hd, hL, hb⟩
theorem minus_s {A A2 : Option Addr} {c c2 : Nat} {x y : List (Int × Int)} {w : World} (hx : ListAt w A x) (hy : ListAt w A2 y) (hlx : x.length < 4398046511104) (hly : y.length < 4398046511104) (hc : x.length ≤ c) (hc2 : y.length ≤ c2) (hRx : Rising x) (hRy : Rising y) :
    Calls Tryd.prog 30 #[.slice A x.length c, .slice A2 y.length c2] w fun e w' => Out2At e w w' (chooseF true false false x y) 0 :=
  (minus_calls A A2 c c2 x y w hx hy hlx hly hc hc2 hRx hRy).mono fun e w' ⟨v, he, ho, hb⟩ => by
    obtain ⟨B, d, rfl, hd, _, hL⟩ := ho.KR
    exact ⟨B, d, he, hd, hL, hb⟩
theorem num_s (a : Int) (w : World) : Calls Tryd.prog 13 #[.int .i64 a] w fun e w' => e = .returned (.int .i64 a) ∧ RowKit.Below w.heap.size w w' :=
  (preludelaw02_num.calls a a w rfl).mono fun e w' h => ⟨h.1, h.2.below⟩
theorem rises_s {A : Option Addr} {c : Nat} {l : List (Int × Int)} {w : World} (h : ListAt w A l) (hl : l.length ≤ 9223372036854775807) (hc : l.length ≤ c) (hR : Rising l) : Calls Tryd.prog 26 #[.slice A l.length c] w fun e w' => e = .returned (.bool true) ∧ RowKit.Below w.heap.size w w' := rises_calls A c l w h.keys hl hc hR

/-- what region 19 keeps: the key's box, and all that was there -/
def AS (w0 : World) (b : Nat) (k : Int × Int) (W' : World) : Prop := W'.cell? ⟨b, 0, none⟩ = some (.int .i64 k.1) ∧ W'.cell? ⟨b, 1, none⟩ = some (.int .i64 k.2) ∧ RowKit.Below w0.heap.size w0 W' ∧ b < w0.heap.size
theorem AS.step {w0 : World} {b : Nat} {k : Int × Int} {w w' : World} (h : AS w0 b k w) (hb : RowKit.Below w.heap.size w w') : AS w0 b k w' :=
  have hlt : b < w.heap.size := Nat.lt_of_lt_of_le h.2.2.2 h.2.2.1.size
  ⟨(hb.cell (p := ⟨b, 0, none⟩) hlt).trans h.1, (hb.cell (p := ⟨b, 1, none⟩) hlt).trans h.2.1, h.2.2.1.trans (hb.mono h.2.2.1.size), h.2.2.2⟩
theorem AS.drewN {w0 : World} {b : Nat} {k : Int × Int} {w : World} (h : AS w0 b k w) {n : Nat} : AS w0 b k (w.drewN n) := h.step (pw_below_drewN (RowKit.Below.refl _ _) n)
theorem AS.drew {w0 : World} {b : Nat} {k : Int × Int} {w : World} (h : AS w0 b k w) : AS w0 b k w.drew := h.step (RowKit.Below.refl _ _).drew
theorem AS.alloc {w0 : World} {b : Nat} {k : Int × Int} {w : World} (h : AS w0 b k w) {o : Obj} : AS w0 b k (w.alloc o) := h.step ((RowKit.Below.refl _ _).alloc (Nat.le_refl _) _)
theorem AS.grown {w0 : World} {b : Nat} {k : Int × Int} {w w' : World} {base : Nat} {v : Value} {r : List (Int × Int)} (h : AS w0 b k w) (hv : OwnKeys w base v r) (hbase : w0.heap.size ≤ base) (hg : w.grownBy w' v.ownBlock) : AS w0 b k w' := by
  have hB : RowKit.Below w0.heap.size w w' := (RowKit.Below.refl _ _).grown hg h.2.2.1.size (fun k hk => Nat.le_trans hbase (hv.block k hk).1)
  exact ⟨(hB.cell (p := ⟨b, 0, none⟩) h.2.2.2).trans h.1, (hB.cell (p := ⟨b, 1, none⟩) h.2.2.2).trans h.2.1, h.2.2.1.trans hB, h.2.2.2⟩
theorem AS.cells {w0 : World} {b : Nat} {k : Int × Int} {w : World} (h : AS w0 b k w) : w.cell? ⟨b, 0, none⟩ = some (.int .i64 k.1) ∧ w.cell? ⟨b, 1, none⟩ = some (.int .i64 k.2) := ⟨h.1, h.2.1⟩
theorem AS.kr {w0 : World} {b : Nat} {k : Int × Int} {w : World} (h : AS w0 b k w) {A : Option Addr} {l : List (Int × Int)} (hk : KR w0 A l) : KR w A l := hk.below h.2.2.1
theorem kr_new (w : World) (k : Int × Int) : KR (w.alloc (Obj.cells #[.int .i64 k.1, .int .i64 k.2] 35)) (some ⟨w.heap.size, 0, none⟩) [k] :=
  ListAt.keys (.inr ⟨w.heap.size, 0, rfl, fun j hj => by
    obtain rfl : j = 0 := by simp at hj; omega
    exact ⟨by rw [World.cell?_alloc_at _ _ _ _ rfl]; rfl, by rw [World.cell?_alloc_at _ _ _ _ rfl]; rfl⟩⟩)
theorem KR.grow {w w' : World} {B : Nat} {l : List (Int × Int)} (h : KR w (some ⟨B, 0, none⟩) l) {row : Option Nat} (hg : w.grownBy w' row) (hne : some B ≠ row) : KR w' (some ⟨B, 0, none⟩) l := fun h0 => by
  obtain ⟨ad, hA, hk⟩ := h h0
  obtain rfl := Option.some.inj hA
  refine ⟨_, rfl, Nat.lt_of_lt_of_le hk.1 hg.size, fun j hj i v hv => ?_⟩
  rw [← hk.2 j hj i v hv, Addr.add_lit]
  exact World.cell?_of_block (hg.block B hk.1 hne)
theorem ne_new {w : World} {base : Nat} {v : Value} {r : List (Int × Int)} (h : OwnKeys w base v r) : some w.heap.size ≠ v.ownBlock := fun e => Nat.lt_irrefl _ (h.block _ e.symm).2
theorem ne_base {w : World} {base B : Nat} {v : Value} {r : List (Int × Int)} (h : OwnKeys w base v r) (hB : B < base) : some B ≠ v.ownBlock := fun e => Nat.lt_irrefl _ (Nat.lt_of_lt_of_le hB (h.block _ e.symm).1)
theorem lt_made {w : World} {o : Obj} {B : Nat} (h : Hid (B = (w.alloc o).drew.heap.size)) : w.heap.size < B := by have := h.out; simp at this; omega
theorem kr_b {w1 w2 : World} {k : Int × Int} {base : Nat} {v : Value} {r : List (Int × Int)} (hv : OwnKeys w1 base v r) (hg : (w1.alloc (Obj.cells #[.int .i64 k.1, .int .i64 k.2] 35)).grownBy w2 v.ownBlock) : KR w2 (some ⟨w1.heap.size, 0, none⟩) [k] := KR.grow (kr_new w1 k) hg (ne_new hv)
theorem kr_c {w w1 w2 : World} {k : Int × Int} {B : Nat} {v : Value} {r : List (Int × Int)} (hb : RowKit.Below B (w.alloc (Obj.cells #[.int .i64 k.1, .int .i64 k.2] 35)).drew w1) (hB : Hid (B = (w.alloc (Obj.cells #[.int .i64 k.1, .int .i64 k.2] 35)).drew.heap.size)) (hv : OwnKeys w1 B v r) (hg : w1.grownBy w2 v.ownBlock) : KR w2 (some ⟨w.heap.size, 0, none⟩) [k] :=
  KR.grow ((KR.below (kr_new w k) (RowKit.Below.refl _ _).drew).below (by rw [← hB.out]; exact hb)) hg (ne_base hv (lt_made hB))
/-- the heap has grown up to there -/
def GE (B : Nat) (w : World) : Prop := B ≤ w.heap.size
theorem GE.drewN {B : Nat} {w : World} (h : GE B w) {n : Nat} : GE B (w.drewN n) := by unfold GE at *; simpa using h
theorem GE.drew {B : Nat} {w : World} (h : GE B w) : GE B w.drew := h
theorem GE.alloc {B : Nat} {w : World} (h : GE B w) {o : Obj} : GE B (w.alloc o) := by unfold GE at *; simp; omega
theorem copied_box {A : Option Addr} {c : Nat} {l : List (Int × Int)} {w0 w : World} {b : Nat} {k : Int × Int} (hS : AS w0 b k w) (h : Hid (KR w0 A l)) (hl : l.length < 8796093022208) (hc : l.length ≤ c) :
    Calls Tryd.prog 11 #[.slice A l.length c] w fun e w' => ∃ v B, e = .returned v ∧ Hid (B = w.heap.size) ∧ w0.heap.size ≤ B ∧ GE B w' ∧ OwnKeys w' B v l ∧ RowKit.Below B w w' ∧ (w'.cell? ⟨b, 0, none⟩ = some (.int .i64 k.1) ∧ w'.cell? ⟨b, 1, none⟩ = some (.int .i64 k.2)) ∧ AS w0 b k w' :=
  (copied_calls A c l w (h.out.below hS.2.2.1) hl hc).mono fun e w' ⟨v, he, ho, hb⟩ => ⟨v, _, he, Lib.hid rfl, hS.2.2.1.size, hb.size, ho, hb, ⟨(hS.step hb).1, (hS.step hb).2.1⟩, hS.step hb⟩
theorem step_app_s {ops : Array Oper} {o : Oper} {a : Act} {w0 w : World} {b : Nat} {k : Int × Int} {K : Act → World → Prop} {Q : Exit → Act → World → Prop} {E : Prop} (hgd : o.guard = none) (s x : Operand)
    (ho : o.op = .call { callee := .builtin .append, args := #[s, x], argTypes := #[22, 22] }) (hty : o.type = 22) {B : Nat} {v : Value} {r l : List (Int × Int)} {A : Option Addr} {n2 c2 : Nat}
    (hs : a.eval s = v) (hx : a.eval x = .slice A n2 c2) (hn : n2 = l.length) (hS : AS w0 b k w) (h : OwnKeys w B v r) (hB : w0.heap.size ≤ B) (hG : GE B w) (hl : KR w A l) (hlen : Hid (r.length + l.length ≤ 8796093022208))
    (hK : ∀ v' w', OwnKeys w' B v' (r ++ l) → w.grownBy w' v.ownBlock → (w'.cell? ⟨b, 0, none⟩ = some (.int .i64 k.1) ∧ w'.cell? ⟨b, 1, none⟩ = some (.int .i64 k.2)) → AS w0 b k w' → GE B w' → K (a.put o.dst v') w') : if Region.wanted o (yielded ops a.tmps) = true then Oper.wp Tryd.prog o a w K Q else E :=
  step_app hgd s x ho hty hs hx hn h hG hl hlen.out fun v' w' h1 h2 => hK v' w' h1 h2 (hS.grown h hB h2).cells (hS.grown h hB h2) (Nat.le_trans hG h2.size)
theorem ListAt.at {w : World} {b o : Nat} {l : List (Int × Int)} (h : ListAt w (some ⟨b, o, none⟩) l) {i : Nat} (hi : i < l.length) : w.cell? ⟨b, o + i * 2, none⟩ = some (.int .i64 l[i].1) ∧ w.cell? ⟨b, o + i * 2 + 1, none⟩ = some (.int .i64 l[i].2) ∧ b < w.heap.size := by
  rcases h with ⟨h, _⟩ | ⟨b', o', h, hc⟩
  · cases h
  · obtain ⟨rfl, rfl⟩ : b = b' ∧ o = o' := by simpa using h
    obtain ⟨h1, h2⟩ := hc i hi
    rw [getElem!_pos l i hi] at h1 h2
    exact ⟨h1, h2, World.block_lt_of_cell? w _ h1⟩
theorem ListAt.some {w : World} {A : Option Addr} {l : List (Int × Int)} (h : ListAt w A l) (h0 : 0 < l.length) : ∃ b o, A = .some ⟨b, o, none⟩ := by
  rcases h with ⟨_, rfl⟩ | ⟨b, o, h, _⟩
  · simp at h0
  · exact ⟨b, o, h⟩
/-- what region 27 keeps -/
def FS (w0 : World) (b o : Nat) (z : Int × Int) (W' : World) : Prop := W'.cell? ⟨b, o, none⟩ = some (.int .i64 z.1) ∧ W'.cell? ⟨b, o + 1, none⟩ = some (.int .i64 z.2) ∧ RowKit.Below w0.heap.size w0 W' ∧ b < w0.heap.size
theorem FS.step {w0 : World} {b o : Nat} {z : Int × Int} {w w' : World} (h : FS w0 b o z w) (hb : RowKit.Below w.heap.size w w') : FS w0 b o z w' :=
  have hlt : b < w.heap.size := Nat.lt_of_lt_of_le h.2.2.2 h.2.2.1.size
  ⟨(hb.cell (p := ⟨b, o, none⟩) hlt).trans h.1, (hb.cell (p := ⟨b, o + 1, none⟩) hlt).trans h.2.1, h.2.2.1.trans (hb.mono h.2.2.1.size), h.2.2.2⟩
theorem FS.drewN {w0 : World} {b o : Nat} {z : Int × Int} {w : World} (h : FS w0 b o z w) {n : Nat} : FS w0 b o z (w.drewN n) := h.step (pw_below_drewN (RowKit.Below.refl _ _) n)
theorem FS.drew {w0 : World} {b o : Nat} {z : Int × Int} {w : World} (h : FS w0 b o z w) : FS w0 b o z w.drew := h.step (RowKit.Below.refl _ _).drew
theorem FS.cells {w0 : World} {b o : Nat} {z : Int × Int} {w : World} (h : FS w0 b o z w) : w.cell? ⟨b, o, none⟩ = some (.int .i64 z.1) ∧ w.cell? ⟨b, o + 1, none⟩ = some (.int .i64 z.2) := ⟨h.1, h.2.1⟩
theorem copied_f {A : Option Addr} {c : Nat} {l : List (Int × Int)} {w0 w : World} {b o : Nat} {z : Int × Int} (hS : FS w0 b o z w) (h : KR w0 A l) (hl : l.length < 8796093022208) (hc : l.length ≤ c) :
    Calls Tryd.prog 11 #[.slice A l.length c] w fun e w' => ∃ B d, e = .returned (.slice B l.length d) ∧ l.length ≤ d ∧ ListAt w' B l ∧ (w'.cell? ⟨b, o, none⟩ = some (.int .i64 z.1) ∧ w'.cell? ⟨b, o + 1, none⟩ = some (.int .i64 z.2)) ∧ FS w0 b o z w' :=
  (copied_s (h.below hS.2.2.1) hl hc).mono fun e w' ⟨B, d, he, hd, hL, hb⟩ => ⟨B, d, he, hd, hL, (hS.step hb).cells, hS.step hb⟩
theorem find_f {A : Option Addr} {c : Nat} {l : List (Int × Int)} {z : Int × Int} {w0 w : World} {b o : Nat} (hS : FS w0 b o z w) (h : ListAt w A l) (hl : l.length < 8796093022208) (hc : l.length ≤ c) (hR : Rising l) {q : Nat} {p : Bool} (hq : q = findN l z) (hp : p = decide (z ∈ l)) :
    Calls Tryd.prog 32 #[.slice A l.length c, .agg #[.int .i64 z.1, .int .i64 z.2]] w fun e w' => e = .returned (.tuple #[.int .i64 q, .bool p]) ∧ (w'.cell? ⟨b, o, none⟩ = some (.int .i64 z.1) ∧ w'.cell? ⟨b, o + 1, none⟩ = some (.int .i64 z.2)) ∧ FS w0 b o z w' :=
  (find_calls A c l z w h hl hc hR).mono fun e w' h => ⟨by rw [hq, hp]; exact h.1, (hS.step h.2).cells, hS.step h.2⟩
theorem stands_s {A : Option Addr} {c : Nat} {l : List (Int × Int)} {z : Int × Int} {w : World} (h : KR w A l) (hl : l.length ≤ 9223372036854775807) (hc : l.length ≤ c) {p : Bool} (hp : p = decide (z ∈ l)) :
    Calls Tryd.prog 31 #[.slice A l.length c, .agg #[.int .i64 z.1, .int .i64 z.2]] w fun e w' => e = .returned (.bool p) ∧ RowKit.Below w.heap.size w w' :=
  (stands_calls A c l z w h hl hc).mono fun e w' h => ⟨by rw [hp]; exact h.1, h.2⟩
set_option maxHeartbeats 16000000 in
set_option maxRecDepth 100000 in
theorem walk_good (W : World) (A A2 : Option Addr) (c c2 : Nat) (la lb : List (Int × Int)) (k : Int × Int) (ha : KR W A la) (hb : KR W A2 lb) (hca : la.length ≤ c) (hcb : lb.length ≤ c2) (hza : la.length ≤ 1048576) (hzb : lb.length ≤ 1048576) (hT : TabW W) (hsa : soundF la = true) (hsb : soundF lb = true) :
    Calls Tryd.prog 8 #[.slice A la.length c, .slice A2 lb.length c2, .agg #[.int .i64 k.1, .int .i64 k.2]] W fun e W' => e = .returned (.bool true) ∧ RowKit.Below W.heap.size W W' := by
  have E := Lib.hid (env0 (k := k) ha hb)
  have HT := Lib.hid hT
  have SA := Lib.hid hsa
  have SB := Lib.hid hsb
  obtain ⟨x, hx⟩ : ∃ x, x = sortF la := ⟨_, rfl⟩
  obtain ⟨y, hy⟩ : ∃ y, y = sortF lb := ⟨_, rfl⟩
  have hlx : x.length ≤ 1048576 := by rw [hx]; exact Nat.le_trans (sortF_length la) hza
  have hly : y.length ≤ 1048576 := by rw [hy]; exact Nat.le_trans (sortF_length lb) hzb
  have RX : Hid (Rising x) := Lib.hid (by rw [hx]; exact rising_sort la hsa)
  have RY : Hid (Rising y) := Lib.hid (by rw [hy]; exact rising_sort lb hsb)
  have MX : Hid (∀ z, z ∈ x ↔ z ∈ la) := Lib.hid (fun z => by rw [hx]; exact mem_sort la z)
  have MY : Hid (∀ z, z ∈ y ↔ z ∈ lb) := Lib.hid (fun z => by rw [hy]; exact mem_sort lb z)
  have HX := Lib.hid hx
  have HY := Lib.hid hy
  clear ha hb hT hsa hsb hx hy
  go_enter Tryd.func8, Tryd.ntmps8
  go_wp2_with fail
  refine (preludelaw02_plain.calls true _ rfl (TabW.of E.out.below HT.out)).mono ?_
  rintro e w1 ⟨rfl, hb1⟩
  replace E := Lib.hid (E.out.step hb1)
  clear hb1 HT
  go_wp2_with fail
  refine (copied_s E.out.ka (by omega) hca).mono ?_
  rintro e w2 ⟨B2, d2, rfl, hd2, hl2, hb2⟩
  replace E := Lib.hid ((E.out.step hb2).push hl2)
  clear hl2 hb2
  go_wp2_with fail
  refine (sort_s E.out.top (by omega) hd2 SA.out).mono ?_
  rw [← HX.out]
  rintro e w3 ⟨X, cx, rfl, hcx, hl3, hb3⟩
  replace E := Lib.hid ((E.out.pop.step hb3).push hl3)
  clear hl3 hb3 hd2
  go_wp2_with fail
  refine (copied_s E.out.kb (by omega) hcb).mono ?_
  rintro e w2 ⟨B2, d2, rfl, hd2, hl2, hb2⟩
  replace E := Lib.hid ((E.out.step hb2).push hl2)
  clear hl2 hb2
  go_wp2_with fail
  refine (sort_s E.out.top (by omega) hd2 SB.out).mono ?_
  rw [← HY.out]
  rintro e w3 ⟨Y, cy, rfl, hcy, hl3, hb3⟩
  replace E := Lib.hid ((E.out.pop.step hb3).push hl3)
  clear hl3 hb3 hd2
  go_wp2_with fail
  refine (lsound_calls A c la _ E.out.ka (by omega) hca).mono ?_
  rw [SA.out]
  rintro e w ⟨rfl, hb1⟩
  replace E := Lib.hid (E.out.step hb1)
  clear hb1
  go_wp2_with fail
  refine (lsound_calls A2 c2 lb _ E.out.kb (by omega) hcb).mono ?_
  rw [SB.out]
  rintro e w ⟨rfl, hb1⟩
  replace E := Lib.hid (E.out.step hb1)
  clear hb1
  go_wp2_with fail
  refine (num_s _ _).mono ?_
  rintro e w ⟨rfl, hb1⟩
  replace E := Lib.hid (E.out.step hb1)
  clear hb1
  go_wp2_with fail
  refine (num_s _ _).mono ?_
  rintro e w ⟨rfl, hb1⟩
  replace E := Lib.hid (E.out.step hb1)
  clear hb1
  go_wp2_with fail
  refine (copied_s E.out.top1.keys (by omega) hcx).mono ?_
  rintro e w2 ⟨B2, d2, rfl, hd2, hl2, hb2⟩
  replace E := Lib.hid ((E.out.step hb2).push hl2)
  clear hl2 hb2
  go_wp2_with fail
  refine (sort_s E.out.top (by omega) hd2 (sound_of_rising RX.out)).mono ?_
  rw [sort_up x RX.out.2]
  rintro e w3 ⟨Z, cz, rfl, hcz, hl3, hb3⟩
  replace E := Lib.hid ((E.out.pop.step hb3).push hl3)
  clear hl3 hb3 hd2
  go_wp2_with fail
  refine (rises_s E.out.top2 (by omega) hcx RX.out).mono ?_
  rintro e w ⟨rfl, hb1⟩
  replace E := Lib.hid (E.out.step hb1)
  clear hb1
  go_wp2_with fail
  refine (rises_s E.out.top1 (by omega) hcy RY.out).mono ?_
  rintro e w ⟨rfl, hb1⟩
  replace E := Lib.hid (E.out.step hb1)
  clear hb1
  go_wp2_with fail
  refine (num_s _ _).mono ?_
  rintro e w ⟨rfl, hb1⟩
  replace E := Lib.hid (E.out.step hb1)
  clear hb1
  go_wp2_with fail
  refine (same_calls Z X cz cx x _ E.out.top.keys E.out.top2.keys (by omega) hcz hcx).mono ?_
  rintro e w ⟨rfl, hb1⟩
  replace E := Lib.hid (E.out.pop.step hb1)
  clear hb1 hcz
  go_wp2_with fail
  refine (copied_s E.out.top1.keys (by omega) hcx).mono ?_
  rintro e w2 ⟨B2, d2, rfl, hd2, hl2, hb2⟩
  replace E := Lib.hid ((E.out.step hb2).push hl2)
  clear hl2 hb2
  go_wp2_with fail
  refine (copied_s E.out.top1.keys (by omega) hcy).mono ?_
  rintro e w4 ⟨B4, d4, rfl, hd4, hl4, hb4⟩
  replace E := Lib.hid ((E.out.step hb4).push hl4)
  clear hl4 hb4
  go_wp2_with fail
  refine (union_s E.out.top1 E.out.top (by omega) (by omega) hd2 hd4 RX.out RY.out).mono ?_
  obtain ⟨u, hu⟩ : ∃ u, u = chooseF true true true x y := ⟨_, rfl⟩
  rw [← hu]
  have Hu := Lib.hid hu
  clear hu
  rintro e w3 ⟨U, cu, rfl, hcu, hl3, hb3⟩
  replace E := Lib.hid ((E.out.pop.pop.step hb3).push hl3)
  clear hl3 hb3 hd2 hd4
  go_wp2_with fail
  refine (copied_s E.out.top2.keys (by omega) hcx).mono ?_
  rintro e w2 ⟨B2, d2, rfl, hd2, hl2, hb2⟩
  replace E := Lib.hid ((E.out.step hb2).push hl2)
  clear hl2 hb2
  go_wp2_with fail
  refine (copied_s E.out.top2.keys (by omega) hcy).mono ?_
  rintro e w4 ⟨B4, d4, rfl, hd4, hl4, hb4⟩
  replace E := Lib.hid ((E.out.step hb4).push hl4)
  clear hl4 hb4
  go_wp2_with fail
  refine (meet_s E.out.top1 E.out.top (by omega) (by omega) hd2 hd4 RX.out RY.out).mono ?_
  obtain ⟨m, hm⟩ : ∃ m, m = chooseF false true false x y := ⟨_, rfl⟩
  rw [← hm]
  have Hm := Lib.hid hm
  clear hm
  rintro e w3 ⟨M, cm, rfl, hcm, hl3, hb3⟩
  replace E := Lib.hid ((E.out.pop.pop.step hb3).push hl3)
  clear hl3 hb3 hd2 hd4
  go_wp2_with fail
  refine (copied_s E.out.top3.keys (by omega) hcx).mono ?_
  rintro e w2 ⟨B2, d2, rfl, hd2, hl2, hb2⟩
  replace E := Lib.hid ((E.out.step hb2).push hl2)
  clear hl2 hb2
  go_wp2_with fail
  refine (copied_s E.out.top3.keys (by omega) hcy).mono ?_
  rintro e w4 ⟨B4, d4, rfl, hd4, hl4, hb4⟩
  replace E := Lib.hid ((E.out.step hb4).push hl4)
  clear hl4 hb4
  go_wp2_with fail
  refine (minus_s E.out.top1 E.out.top (by omega) (by omega) hd2 hd4 RX.out RY.out).mono ?_
  obtain ⟨n, hn⟩ : ∃ n, n = chooseF true false false x y := ⟨_, rfl⟩
  rw [← hn]
  have Hn := Lib.hid hn
  clear hn
  rintro e w3 ⟨N, cn, rfl, hcn, hl3, hb3⟩
  replace E := Lib.hid ((E.out.pop.pop.step hb3).push hl3)
  clear hl3 hb3 hd2 hd4
  have hlu : u.length ≤ 2097152 := by rw [Hu.out]; have := (len_choose x y).1; omega
  have hlm : m.length ≤ 2097152 := by rw [Hm.out]; have := (len_choose x y).1; omega
  have hln : n.length ≤ 2097152 := by rw [Hn.out]; have := (len_choose x y).2; omega
  have RU : Hid (Rising u) := Lib.hid (by rw [Hu.out]; exact rising_choose _ _ _ RX.out RY.out)
  have RM : Hid (Rising m) := Lib.hid (by rw [Hm.out]; exact rising_choose _ _ _ RX.out RY.out)
  have RN : Hid (Rising n) := Lib.hid (by rw [Hn.out]; exact rising_choose _ _ _ RX.out RY.out)
  go_wp2_with fail
  refine (num_s _ _).mono ?_
  rintro e w ⟨rfl, hb1⟩
  replace E := Lib.hid (E.out.step hb1)
  clear hb1
  go_wp2_with fail
  refine (num_s _ _).mono ?_
  rintro e w ⟨rfl, hb1⟩
  replace E := Lib.hid (E.out.step hb1)
  clear hb1
  go_wp2_with fail
  refine (num_s _ _).mono ?_
  rintro e w ⟨rfl, hb1⟩
  replace E := Lib.hid (E.out.step hb1)
  clear hb1
  go_wp2_with fail
  refine (rises_s E.out.top2 (by omega) hcu RU.out).mono ?_
  rintro e w ⟨rfl, hb1⟩
  replace E := Lib.hid (E.out.step hb1)
  clear hb1
  go_wp2_with fail
  refine (rises_s E.out.top1 (by omega) hcm RM.out).mono ?_
  rintro e w ⟨rfl, hb1⟩
  replace E := Lib.hid (E.out.step hb1)
  clear hb1
  go_wp2_with fail
  refine (rises_s E.out.top (by omega) hcn RN.out).mono ?_
  rintro e w ⟨rfl, hb1⟩
  replace E := Lib.hid (E.out.step hb1)
  clear hb1
  obtain ⟨al, hal⟩ : ∃ al, al = la ++ lb ++ [k] := ⟨_, rfl⟩
  have HAL := Lib.hid hal
  have hzal : al.length ≤ 2097153 := by rw [hal]; simp; omega
  clear hal
  go_upto_region 19 with fail
  go_cut [18] (fun s18 wx => ∃ G cg, s18 = .slice G al.length cg ∧ al.length ≤ cg ∧ Env W A A2 la lb k [(G, al), (N, n), (M, m), (U, u), (Y, y), (X, x)] wx)
  case first =>
    have hS0 : AS w W.heap.size k w := ⟨E.out.box0, E.out.box1, RowKit.Below.refl _ _, E.out.lt⟩
    have KA := Lib.hid E.out.ka
    have KB := Lib.hid E.out.kb
    have HL1 : Hid (la.length + lb.length ≤ 8796093022208) := Lib.hid (by omega)
    have HL2 : Hid ((la ++ lb).length + [k].length ≤ 8796093022208) := Lib.hid (by simp; omega)
    have HL0 : la.length < 8796093022208 := by omega
    go_region_held3 (fun W' => W'.cell? ⟨W.heap.size, 0, none⟩ = some (.int .i64 k.1) ∧ W'.cell? ⟨W.heap.size, 1, none⟩ = some (.int .i64 k.2)) ((exact (show AS w W.heap.size k _ by repeat (first | with_reducible assumption | with_reducible apply AS.drewN | with_reducible apply AS.drew | with_reducible apply AS.alloc)).cells))
      (first
        | (go_at_call 11; refine (copied_box (w0 := w) (b := W.heap.size) (k := k) (by repeat (first | with_reducible assumption | with_reducible apply AS.drewN | with_reducible apply AS.drew | with_reducible apply AS.alloc)) KA HL0 hca).mono ?_; rintro e w1 ⟨v1, B1, rfl, HB1, hB1, hG1, hv1, hb1, hc1, hS1⟩; obtain ⟨hc10, hc11⟩ := hc1)
        | (refine step_app_s (w0 := w) (b := W.heap.size) (k := k) (B := B1) (v := v1) (r := la) (l := lb) rfl _ _ rfl rfl rfl rfl rfl (by repeat (first | with_reducible assumption | with_reducible apply AS.drewN | with_reducible apply AS.drew | with_reducible apply AS.alloc)) (by repeat (first | with_reducible assumption | with_reducible apply OwnKeys.drewN | with_reducible apply OwnKeys.alloc)) hB1 (by repeat (first | with_reducible assumption | with_reducible apply GE.drewN | with_reducible apply GE.drew | with_reducible apply GE.alloc)) (AS.kr (w0 := w) (b := W.heap.size) (k := k) (by repeat (first | with_reducible assumption | with_reducible apply AS.drewN | with_reducible apply AS.drew | with_reducible apply AS.alloc)) KB.out) HL1 ?_; intro v2 w2 hv2 hg2 hc2 hS2 hG2; obtain ⟨hc20, hc21⟩ := hc2)
        | (refine step_app_s (w0 := w) (b := W.heap.size) (k := k) (B := B1) (v := v2) (r := la ++ lb) (l := [k]) rfl _ _ rfl rfl rfl rfl rfl (by repeat (first | with_reducible assumption | with_reducible apply AS.drewN | with_reducible apply AS.drew | with_reducible apply AS.alloc)) (by repeat (first | with_reducible assumption | with_reducible apply OwnKeys.drewN | with_reducible apply OwnKeys.alloc)) hB1 (by repeat (first | with_reducible assumption | with_reducible apply GE.drewN | with_reducible apply GE.drew | with_reducible apply GE.alloc)) (by first | with_reducible exact kr_new _ _ | exact kr_b hv1 hg2 | exact kr_c hb1 HB1 hv1 hg2) HL2 ?_; intro v3 w3 hv3 hg3 hc3 hS3 hG3; obtain ⟨hc30, hc31⟩ := hc3)
        | fail)
    all_goals (rw [← HAL.out] at hv3; obtain ⟨G, cg, rfl, hcg, _, hL⟩ := hv3.KR; go_wp2_with fail; go_meet; exact ⟨G, cg, rfl, hcg, (E.out.step hS3.2.2.1).push hL⟩)
  case rest =>
    obtain ⟨G, cg, rfl, hcg, E⟩ := hcut
    replace E := Lib.hid E
    have hal0 : 0 < al.length := by rw [HAL.out]; simp; omega
    obtain ⟨gb, go, rfl⟩ := ListAt.some E.out.top hal0
    clear hal0
    go_wp2_with fail
    go_loopg [19, 20, 21, 22, 23] al.length (fun gg s19 s20 s21 s22 s23 wr => ∃ i : Nat, s19 = .int .i64 i ∧ i ≤ al.length ∧ al.length - i ≤ gg ∧ Aside (Env W A A2 la lb k [(some ⟨gb, go, none⟩, al), (N, n), (M, m), (U, u), (Y, y), (X, x)] wr))
    case atStart => exact ⟨0, rfl, by omega, by omega, E.out⟩
    case round =>
      obtain ⟨i, rfl, hi, hg, EW⟩ := hrel
      clear E
      by_cases hlt : i < al.length
      · have hltz : (i : Int) < (al.length : Int) := by omega
        obtain ⟨z, hz⟩ : ∃ z, z = al[i] := ⟨_, rfl⟩
        have HZ : Hid (∀ w', Env W A A2 la lb k [(some ⟨gb, go, none⟩, al), (N, n), (M, m), (U, u), (Y, y), (X, x)] w' → w'.cell? ⟨gb, go + i * 2, none⟩ = some (.int .i64 z.1) ∧ w'.cell? ⟨gb, go + i * 2 + 1, none⟩ = some (.int .i64 z.2)) := Lib.hid (fun w' h => by
          rw [hz]
          obtain ⟨h1, h2, _⟩ := ListAt.at h.top hlt
          exact ⟨h1, h2⟩)
        clear hz
        obtain ⟨pa, hpa⟩ : ∃ p, p = decide (z ∈ la) := ⟨_, rfl⟩
        obtain ⟨pb, hpb⟩ : ∃ p, p = decide (z ∈ lb) := ⟨_, rfl⟩
        have PA := Lib.hid hpa
        have PB := Lib.hid hpb
        have PX : Hid (pa = decide (z ∈ x)) := Lib.hid (by rw [hpa]; simp only [MX.out])
        have PY : Hid (pb = decide (z ∈ y)) := Lib.hid (by rw [hpb]; simp only [MY.out])
        have PU : Hid ((pa || pb) = decide (z ∈ u)) := Lib.hid (by rw [Hu.out, PX.out, PY.out]; simp only [mem_choose _ _ _ z x y RX.out.2 RY.out.2]; by_cases h1 : z ∈ x <;> by_cases h2 : z ∈ y <;> simp [h1, h2])
        have PM : Hid ((pa && pb) = decide (z ∈ m)) := Lib.hid (by rw [Hm.out, PX.out, PY.out]; simp only [mem_choose _ _ _ z x y RX.out.2 RY.out.2]; by_cases h1 : z ∈ x <;> by_cases h2 : z ∈ y <;> simp [h1, h2])
        have PN : Hid ((pa && !pb) = decide (z ∈ n)) := Lib.hid (by rw [Hn.out, PX.out, PY.out]; simp only [mem_choose _ _ _ z x y RX.out.2 RY.out.2]; by_cases h1 : z ∈ x <;> by_cases h2 : z ∈ y <;> simp [h1, h2])
        clear hpa hpb
        have E := Lib.hid EW.out
        clear EW
        cases pa <;> cases pb
        all_goals as_aux_lemma =>
          try simp only [Bool.or_true, Bool.or_false, Bool.and_true, Bool.and_false, Bool.not_true, Bool.not_false] at PU PM PN
          obtain ⟨d1, d2⟩ := HZ.out _ E.out
          go_wp2_with fail
          refine (stands_s E.out.ka (by omega) hca PA.out).mono ?_
          rintro e w ⟨rfl, hb1⟩
          replace E := Lib.hid (E.out.step hb1)
          clear d1 d2 hb1
          obtain ⟨d1, d2⟩ := HZ.out _ E.out
          go_wp2_with fail
          refine (stands_s E.out.kb (by omega) hcb PB.out).mono ?_
          rintro e w ⟨rfl, hb1⟩
          replace E := Lib.hid (E.out.step hb1)
          clear d1 d2 hb1
          obtain ⟨d1, d2⟩ := HZ.out _ E.out
          go_wp2_with fail
          refine (stands_s E.out.top5.keys (by omega) hcx PX.out).mono ?_
          rintro e w ⟨rfl, hb1⟩
          replace E := Lib.hid (E.out.step hb1)
          clear d1 d2 hb1
          obtain ⟨d1, d2⟩ := HZ.out _ E.out
          go_wp2_with fail
          refine (stands_s E.out.top3.keys (by omega) hcu PU.out).mono ?_
          rintro e w ⟨rfl, hb1⟩
          replace E := Lib.hid (E.out.step hb1)
          clear d1 d2 hb1
          obtain ⟨d1, d2⟩ := HZ.out _ E.out
          go_wp2_with fail
          refine (stands_s E.out.top2.keys (by omega) hcm PM.out).mono ?_
          rintro e w ⟨rfl, hb1⟩
          replace E := Lib.hid (E.out.step hb1)
          clear d1 d2 hb1
          obtain ⟨d1, d2⟩ := HZ.out _ E.out
          go_wp2_with fail
          refine (stands_s E.out.top1.keys (by omega) hcn PN.out).mono ?_
          rintro e w ⟨rfl, hb1⟩
          replace E := Lib.hid (E.out.step hb1)
          clear d1 d2 hb1
          obtain ⟨d1, d2⟩ := HZ.out _ E.out
          go_wp2_with fail
          obtain ⟨q, hq⟩ : ∃ q, q = findN x z := ⟨_, rfl⟩
          have hq1 : q ≤ x.length := by rw [hq]; exact findN_le x z
          have HQ := Lib.hid hq
          clear hq
          have hF0 : FS w gb (go + i * 2) z w := ⟨d1, d2, RowKit.Below.refl _ _, World.block_lt_of_cell? w _ d1⟩
          go_region_held3 (fun W' => W'.cell? ⟨gb, go + i * 2, none⟩ = some (.int .i64 z.1) ∧ W'.cell? ⟨gb, go + i * 2 + 1, none⟩ = some (.int .i64 z.2)) ((exact (show FS w gb (go + i * 2) z _ by repeat (first | with_reducible assumption | with_reducible apply FS.drewN | with_reducible apply FS.drew)).cells))
            (first
              | (go_at_call 11; refine (copied_f (w0 := w) (b := gb) (o := go + i * 2) (z := z) (by repeat (first | with_reducible assumption | with_reducible apply FS.drewN | with_reducible apply FS.drew)) E.out.top5.keys (by omega) hcx).mono ?_; rintro e w1 ⟨B1, e1, rfl, he1, hl1, hc1, hS1⟩; obtain ⟨hc10, hc11⟩ := hc1)
              | (go_at_call 32; refine (find_f (w0 := w) (b := gb) (o := go + i * 2) (by repeat (first | with_reducible assumption | with_reducible apply FS.drewN | with_reducible apply FS.drew)) (by first | exact hl1 | exact hl1.below (pw_below_drewN (RowKit.Below.refl _ _) _)) (by omega) he1 RX.out HQ.out PX.out).mono ?_; rintro e w2 ⟨rfl, hc2, hS2⟩; obtain ⟨hc20, hc21⟩ := hc2)
              | fail)
          have hB := hS2.2.2.1
          replace E := Lib.hid (E.out.step hB)
          clear d1 d2 hF0 hl1 hc10 hc11 hS1 hc20 hc21 hS2 hB he1
          obtain ⟨d1, d2⟩ := HZ.out _ E.out
          first
            | (have hin : z ∈ x := of_decide_eq_true PX.out.symm
               have hql : q < x.length := by rw [HQ.out]; exact (find_at RX.out.2 z hin).1
               have hqz : x[q]'hql = z := by simp only [HQ.out]; exact (find_at RX.out.2 z hin).2
               obtain ⟨xb, xo, rfl⟩ := ListAt.some E.out.top5 (by omega)
               obtain ⟨f1, f2, _⟩ := ListAt.at E.out.top5 hql
               rw [hqz] at f1 f2
               clear hqz hin
               have hqlz : (q : Int) < (x.length : Int) := by omega
               have c1 : decide ((q : Int) < 0) = false := decide_eq_false (by omega)
               have c2 : decide ((q : Int) > (x.length : Int)) = false := decide_eq_false (by omega)
               have c2' : decide (x.length < q) = false := decide_eq_false (by omega)
               have c3 : decide ((q : Int) = (x.length : Int)) = false := decide_eq_false (by omega)
               have c3' : decide (q = x.length) = false := decide_eq_false (by omega)
               have c4 : ((q : Int) == (x.length : Int)) = false := beq_eq_false_iff_ne.mpr (by omega)
               have c4' : (q == x.length) = false := beq_eq_false_iff_ne.mpr (by omega)
               have c5 : ¬ (q : Int) = (x.length : Int) := by omega
               have c5' : ¬ q = x.length := by omega
               go_wp2_with fail
               go_quiet (fail))
            | (have c1 : decide ((q : Int) < 0) = false := decide_eq_false (by omega)
               have c2 : decide ((q : Int) > (x.length : Int)) = false := decide_eq_false (by omega)
               have c2' : decide (x.length < q) = false := decide_eq_false (by omega)
               go_wp2_with fail
               go_quiet (fail))
          go_wp2_with fail
          go_roundg (al.length - (i + 1))
          case measure => omega
          case rel => exact ⟨i + 1, by go_num, by omega, by omega, E.out.drewN _⟩
      · have hltz : ¬ (i : Int) < (al.length : Int) := by omega
        have hUM : (u.length : Int) + (m.length : Int) = (x.length : Int) + (y.length : Int) := by rw [Hu.out, Hm.out]; have := (len_choose x y).1; omega
        have hNM : (n.length : Int) + (m.length : Int) = (x.length : Int) := by rw [Hn.out, Hm.out]; have := (len_choose x y).2; omega
        have E := Lib.hid EW.out
        clear EW
        go_wp2_with fail
        go_ret
        exact ⟨rfl, E.out.below⟩
set_option maxHeartbeats 16000000 in
set_option maxRecDepth 100000 in
theorem walk_bad1 (W : World) (A A2 : Option Addr) (c c2 : Nat) (la lb : List (Int × Int)) (k : Int × Int) (ha : KR W A la) (hb : KR W A2 lb) (hca : la.length ≤ c) (hcb : lb.length ≤ c2) (hza : la.length ≤ 1048576) (hzb : lb.length ≤ 1048576) (hT : TabW W) (hsa : soundF la = false) (hsb : soundF lb = true) :
    Calls Tryd.prog 8 #[.slice A la.length c, .slice A2 lb.length c2, .agg #[.int .i64 k.1, .int .i64 k.2]] W fun e W' => e = .returned (.bool true) ∧ RowKit.Below W.heap.size W W' := by
  have E := Lib.hid (env0 (k := k) ha hb)
  have HT := Lib.hid hT
  have SA := Lib.hid hsa
  have SB := Lib.hid hsb
  clear ha hb hT hsa hsb
  go_enter Tryd.func8, Tryd.ntmps8
  go_wp2_with fail
  refine (preludelaw02_plain.calls true _ rfl (TabW.of E.out.below HT.out)).mono ?_
  rintro e w1 ⟨rfl, hb1⟩
  replace E := Lib.hid (E.out.step hb1)
  clear hb1
  clear HT
  go_wp2_with fail
  refine (copied_s E.out.ka (by omega) hca).mono ?_
  rintro e w2 ⟨B2, d2, rfl, hd2, hl2, hb2⟩
  replace E := Lib.hid ((E.out.step hb2).push hl2)
  clear hl2 hb2
  go_wp2_with fail
  refine (sort_bad E.out.top (by omega) hd2 SA.out).mono ?_
  rintro e w3 ⟨Xla, cla, rfl, hb1⟩
  replace E := Lib.hid (E.out.pop.step hb1)
  clear hb1
  go_wp2_with fail
  refine (copied_s E.out.kb (by omega) hcb).mono ?_
  rintro e w2 ⟨B2, d2, rfl, hd2, hl2, hb2⟩
  replace E := Lib.hid ((E.out.step hb2).push hl2)
  clear hl2 hb2
  go_wp2_with fail
  refine (sort_s E.out.top (by omega) hd2 SB.out).mono ?_
  rintro e w3 ⟨Xlb, clb, rfl, hclb, hl3, hb1⟩
  clear hl3
  replace E := Lib.hid (E.out.pop.step hb1)
  clear hb1
  go_wp2_with fail
  refine (lsound_calls A c la _ E.out.ka (by omega) hca).mono ?_
  rw [SA.out]
  rintro e w ⟨rfl, hb1⟩
  replace E := Lib.hid (E.out.step hb1)
  clear hb1
  go_wp2_with fail
  refine (lsound_calls A2 c2 lb _ E.out.kb (by omega) hcb).mono ?_
  rw [SB.out]
  rintro e w ⟨rfl, hb1⟩
  replace E := Lib.hid (E.out.step hb1)
  clear hb1
  go_wp2_with fail
  refine (num_s _ _).mono ?_
  rintro e w ⟨rfl, hb1⟩
  replace E := Lib.hid (E.out.step hb1)
  clear hb1
  go_wp2_with fail
  refine (num_s _ _).mono ?_
  rintro e w ⟨rfl, hb1⟩
  replace E := Lib.hid (E.out.step hb1)
  clear hb1
  go_wp2_with fail
  refine (num_s _ _).mono ?_
  rintro e w ⟨rfl, hb1⟩
  replace E := Lib.hid (E.out.step hb1)
  clear hb1
  go_wp2_with fail
  go_ret
  exact ⟨rfl, E.out.below⟩
set_option maxHeartbeats 16000000 in
set_option maxRecDepth 100000 in
theorem walk_bad2 (W : World) (A A2 : Option Addr) (c c2 : Nat) (la lb : List (Int × Int)) (k : Int × Int) (ha : KR W A la) (hb : KR W A2 lb) (hca : la.length ≤ c) (hcb : lb.length ≤ c2) (hza : la.length ≤ 1048576) (hzb : lb.length ≤ 1048576) (hT : TabW W) (hsa : soundF la = true) (hsb : soundF lb = false) :
    Calls Tryd.prog 8 #[.slice A la.length c, .slice A2 lb.length c2, .agg #[.int .i64 k.1, .int .i64 k.2]] W fun e W' => e = .returned (.bool true) ∧ RowKit.Below W.heap.size W W' := by
  have E := Lib.hid (env0 (k := k) ha hb)
  have HT := Lib.hid hT
  have SA := Lib.hid hsa
  have SB := Lib.hid hsb
  clear ha hb hT hsa hsb
  go_enter Tryd.func8, Tryd.ntmps8
  go_wp2_with fail
  refine (preludelaw02_plain.calls true _ rfl (TabW.of E.out.below HT.out)).mono ?_
  rintro e w1 ⟨rfl, hb1⟩
  replace E := Lib.hid (E.out.step hb1)
  clear hb1
  clear HT
  go_wp2_with fail
  refine (copied_s E.out.ka (by omega) hca).mono ?_
  rintro e w2 ⟨B2, d2, rfl, hd2, hl2, hb2⟩
  replace E := Lib.hid ((E.out.step hb2).push hl2)
  clear hl2 hb2
  go_wp2_with fail
  refine (sort_s E.out.top (by omega) hd2 SA.out).mono ?_
  rintro e w3 ⟨Xla, cla, rfl, hcla, hl3, hb1⟩
  clear hl3
  replace E := Lib.hid (E.out.pop.step hb1)
  clear hb1
  go_wp2_with fail
  refine (copied_s E.out.kb (by omega) hcb).mono ?_
  rintro e w2 ⟨B2, d2, rfl, hd2, hl2, hb2⟩
  replace E := Lib.hid ((E.out.step hb2).push hl2)
  clear hl2 hb2
  go_wp2_with fail
  refine (sort_bad E.out.top (by omega) hd2 SB.out).mono ?_
  rintro e w3 ⟨Xlb, clb, rfl, hb1⟩
  replace E := Lib.hid (E.out.pop.step hb1)
  clear hb1
  go_wp2_with fail
  refine (lsound_calls A c la _ E.out.ka (by omega) hca).mono ?_
  rw [SA.out]
  rintro e w ⟨rfl, hb1⟩
  replace E := Lib.hid (E.out.step hb1)
  clear hb1
  go_wp2_with fail
  refine (lsound_calls A2 c2 lb _ E.out.kb (by omega) hcb).mono ?_
  rw [SB.out]
  rintro e w ⟨rfl, hb1⟩
  replace E := Lib.hid (E.out.step hb1)
  clear hb1
  go_wp2_with fail
  refine (num_s _ _).mono ?_
  rintro e w ⟨rfl, hb1⟩
  replace E := Lib.hid (E.out.step hb1)
  clear hb1
  go_wp2_with fail
  refine (num_s _ _).mono ?_
  rintro e w ⟨rfl, hb1⟩
  replace E := Lib.hid (E.out.step hb1)
  clear hb1
  go_wp2_with fail
  refine (num_s _ _).mono ?_
  rintro e w ⟨rfl, hb1⟩
  replace E := Lib.hid (E.out.step hb1)
  clear hb1
  go_wp2_with fail
  go_ret
  exact ⟨rfl, E.out.below⟩
set_option maxHeartbeats 16000000 in
set_option maxRecDepth 100000 in
theorem walk_bad3 (W : World) (A A2 : Option Addr) (c c2 : Nat) (la lb : List (Int × Int)) (k : Int × Int) (ha : KR W A la) (hb : KR W A2 lb) (hca : la.length ≤ c) (hcb : lb.length ≤ c2) (hza : la.length ≤ 1048576) (hzb : lb.length ≤ 1048576) (hT : TabW W) (hsa : soundF la = false) (hsb : soundF lb = false) :
    Calls Tryd.prog 8 #[.slice A la.length c, .slice A2 lb.length c2, .agg #[.int .i64 k.1, .int .i64 k.2]] W fun e W' => e = .returned (.bool true) ∧ RowKit.Below W.heap.size W W' := by
  have E := Lib.hid (env0 (k := k) ha hb)
  have HT := Lib.hid hT
  have SA := Lib.hid hsa
  have SB := Lib.hid hsb
  clear ha hb hT hsa hsb
  go_enter Tryd.func8, Tryd.ntmps8
  go_wp2_with fail
  refine (preludelaw02_plain.calls true _ rfl (TabW.of E.out.below HT.out)).mono ?_
  rintro e w1 ⟨rfl, hb1⟩
  replace E := Lib.hid (E.out.step hb1)
  clear hb1
  clear HT
  go_wp2_with fail
  refine (copied_s E.out.ka (by omega) hca).mono ?_
  rintro e w2 ⟨B2, d2, rfl, hd2, hl2, hb2⟩
  replace E := Lib.hid ((E.out.step hb2).push hl2)
  clear hl2 hb2
  go_wp2_with fail
  refine (sort_bad E.out.top (by omega) hd2 SA.out).mono ?_
  rintro e w3 ⟨Xla, cla, rfl, hb1⟩
  replace E := Lib.hid (E.out.pop.step hb1)
  clear hb1
  go_wp2_with fail
  refine (copied_s E.out.kb (by omega) hcb).mono ?_
  rintro e w2 ⟨B2, d2, rfl, hd2, hl2, hb2⟩
  replace E := Lib.hid ((E.out.step hb2).push hl2)
  clear hl2 hb2
  go_wp2_with fail
  refine (sort_bad E.out.top (by omega) hd2 SB.out).mono ?_
  rintro e w3 ⟨Xlb, clb, rfl, hb1⟩
  replace E := Lib.hid (E.out.pop.step hb1)
  clear hb1
  go_wp2_with fail
  refine (lsound_calls A c la _ E.out.ka (by omega) hca).mono ?_
  rw [SA.out]
  rintro e w ⟨rfl, hb1⟩
  replace E := Lib.hid (E.out.step hb1)
  clear hb1
  go_wp2_with fail
  refine (lsound_calls A2 c2 lb _ E.out.kb (by omega) hcb).mono ?_
  rw [SB.out]
  rintro e w ⟨rfl, hb1⟩
  replace E := Lib.hid (E.out.step hb1)
  clear hb1
  go_wp2_with fail
  refine (num_s _ _).mono ?_
  rintro e w ⟨rfl, hb1⟩
  replace E := Lib.hid (E.out.step hb1)
  clear hb1
  go_wp2_with fail
  refine (num_s _ _).mono ?_
  rintro e w ⟨rfl, hb1⟩
  replace E := Lib.hid (E.out.step hb1)
  clear hb1
  go_wp2_with fail
  refine (num_s _ _).mono ?_
  rintro e w ⟨rfl, hb1⟩
  replace E := Lib.hid (E.out.step hb1)
  clear hb1
  go_wp2_with fail
  go_ret
  exact ⟨rfl, E.out.below⟩
theorem walk (W : World) (A A2 : Option Addr) (c c2 : Nat) (la lb : List (Int × Int)) (k : Int × Int) (ha : KR W A la) (hb : KR W A2 lb) (hca : la.length ≤ c) (hcb : lb.length ≤ c2) (hza : la.length ≤ 1048576) (hzb : lb.length ≤ 1048576) (hT : TabW W) :
    Calls Tryd.prog 8 #[.slice A la.length c, .slice A2 lb.length c2, .agg #[.int .i64 k.1, .int .i64 k.2]] W fun e W' => e = .returned (.bool true) ∧ RowKit.Below W.heap.size W W' := by
  cases hsa : soundF la <;> cases hsb : soundF lb
  · exact walk_bad3 W A A2 c c2 la lb k ha hb hca hcb hza hzb hT hsa hsb
  · exact walk_bad1 W A A2 c c2 la lb k ha hb hca hcb hza hzb hT hsa hsb
  · exact walk_bad2 W A A2 c c2 la lb k ha hb hca hcb hza hzb hT hsa hsb
  · exact walk_good W A A2 c c2 la lb k ha hb hca hcb hza hzb hT hsa hsb
end Go.Proofs.YtbmfldoobkeieaaDoor.WalkSet
