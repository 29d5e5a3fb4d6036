/- Lemmas of this claim's proof, out of several texts merged by wip/tools/prune.py of this session, what the claim does not use left out: PlMem, PlMem2, PlShelf, PlState, PlSplit, PlLists, PlPush, PlStep, PlArm, PlSplitW, PlAsk, PlApart, PlKeep. -/
import Derived.Test.YtbmfldoobkeieaaM6
import Derived.RegionTactic
import Derived.Deep.RegionHeld3
import Derived.StillTailTactics
import Derived.Deep.RegionLaw
import Derived.Deep.DeepCutAuto
import Derived.Deep.QuietTactic
import Derived.BigQuiet
import Derived.Deep.CutBlock
namespace Go.Proofs.Ytbmfldoobkeieaa.PlMem
open Go.RowKit Go.Lib Go.Sort Go.Proofs.Ytbmfldoobkeieaa.Own Go.Proofs.Ytbmfldoobkeieaa.KForm
set_option linter.unusedVariables false
set_option linter.unusedSimpArgs false
/-- cell j of what the holder of the i-th list writes -/
def mkV (i j : Nat) : Value := if j % 2 = 0 then .int .i64 (-20 - (i : Int)) else .int .i64 (i : Int)
theorem mkV_add (i j m : Nat) : mkV i (m * 2 + j) = mkV i j := by unfold mkV; rw [show (m * 2 + j) % 2 = j % 2 by omega]
theorem mkV_one (i j : Nat) : (mkV i j).oneCell' = true := by unfold mkV; split <;> rfl
/-- a slice of n keys, at the head of a row of the i-th family -/
def Mem (w : World) (τ : Nat → Option Nat) (i : Nat) (v : Value) (n : Nat) (good : Nat → Value → Prop) : Prop :=
  (v = .slice none 0 0 ∧ n = 0) ∨ ∃ b c M f, v = .slice (some ⟨b, 0, none⟩) n c ∧ τ b = some i ∧ w.rowIs b 29 M f ∧ n ≤ c ∧ c * 2 ≤ M ∧ ∀ j, j < n * 2 → good j (f j)
/-- .. full of its mark -/
abbrev Full (w : World) (τ : Nat → Option Nat) (i : Nat) (v : Value) (n : Nat) : Prop := Mem w τ i v n (fun j x => x = mkV i j)
theorem Mem.keep {w w' : World} {τ τ' : Nat → Option Nat} {i : Nat} {v : Value} {n : Nat} {good : Nat → Value → Prop} (h : Mem w τ i v n good) (hb : ∀ b, τ b = some i → b < w.heap.size → w'.heap[b]? = w.heap[b]?) (ht : ∀ b, b < w.heap.size → τ b = some i → τ' b = some i) : Mem w' τ' i v n good := by
  rcases h with h | ⟨b, c, M, f, h1, h2, h3, h4⟩
  · exact .inl h
  · exact .inr ⟨b, c, M, f, h1, ht b h3.lt h2, h3.of_block (hb b h2 h3.lt), h4⟩
theorem Mem.imp {w : World} {τ : Nat → Option Nat} {i : Nat} {v : Value} {n : Nat} {good good' : Nat → Value → Prop} (h : Mem w τ i v n good) (hg : ∀ j, j < n * 2 → ∀ x, good j x → good' j x) : Mem w τ i v n good' := by
  rcases h with h | ⟨b, c, M, f, h1, h2, h3, h4, h6, h7⟩
  · exact .inl h
  · exact .inr ⟨b, c, M, f, h1, h2, h3, h4, h6, fun j hj => hg j hj _ (h7 j hj)⟩
/-- marks of its family are written into a row -/
theorem Mem.marks {w : World} {τ : Nat → Option Nat} {i i' b o : Nat} {v : Value} {n : Nat} {vs : List Value} (h : Full w τ i' v n) (hb : τ b = some i) (hvs : ∀ (k : Nat) u, vs[k]? = some u → u = mkV i (o + k)) : Full (w.setCells b o vs) τ i' v n := by
  rcases h with h | ⟨b', c, M, f, h1, h2, h3, h4, h6, h7⟩
  · exact .inl h
  · by_cases e : b' = b
    · subst e
      have hi : i' = i := by rw [h2] at hb; exact Option.some.inj hb
      subst hi
      refine .inr ⟨b', c, M, _, h1, h2, rowIs_sets b' _ M vs o w f h3, h4, h6, fun j hj => ?_⟩
      show (if o ≤ j ∧ j < o + vs.length then vs[j - o]! else f j) = mkV i' j
      by_cases hin : o ≤ j ∧ j < o + vs.length
      · rw [if_pos hin, List.getElem!_eq_getElem?_getD, List.getElem?_eq_getElem (by omega)]
        have := hvs (j - o) _ (List.getElem?_eq_getElem (by omega))
        rw [show o + (j - o) = j by omega] at this
        exact this
      · rw [if_neg hin]
        exact h7 j hj
    · exact .inr ⟨b', c, M, f, h1, h2, h3.of_block ((grownBy_setCells b vs o w).block b' h3.lt (fun h => e (Option.some.inj h))), h4, h6, h7⟩
/-- one step: rows of families may take marks of their families; new rows may be tagged -/
structure AStep (w : World) (τ : Nat → Option Nat) (w' : World) (τ' : Nat → Option Nat) : Prop where
  os : w'.os = w.os
  tape : w'.tape = w.tape
  output : w'.output = w.output
  size : w.heap.size ≤ w'.heap.size
  blk : ∀ b, b < w.heap.size → τ b = none → w'.heap[b]? = w.heap[b]?
  tag : ∀ b, b < w.heap.size → τ' b = τ b
  lt : ∀ b i, τ' b = some i → b < w'.heap.size
  mem : ∀ i v n, Full w τ i v n → Full w' τ' i v n
theorem AStep.trans {w w' w'' : World} {τ τ' τ'' : Nat → Option Nat} (h : AStep w τ w' τ') (k : AStep w' τ' w'' τ'') : AStep w τ w'' τ'' :=
  ⟨k.os.trans h.os, k.tape.trans h.tape, k.output.trans h.output, Nat.le_trans h.size k.size, fun b hb ht => (k.blk b (Nat.lt_of_lt_of_le hb h.size) ((h.tag b hb).trans ht)).trans (h.blk b hb ht),
    fun b hb => (k.tag b (Nat.lt_of_lt_of_le hb h.size)).trans (h.tag b hb), k.lt, fun i v n hf => k.mem i v n (h.mem i v n hf)⟩
/-- nothing that lay has turned -/
theorem AStep.fresh {w w' : World} {τ : Nat → Option Nat} (hb : RowKit.Below w.heap.size w w') (hl : ∀ b i, τ b = some i → b < w.heap.size) : AStep w τ w' τ :=
  ⟨hb.os, hb.tape, hb.output, hb.size, fun b h _ => hb.block b h, fun _ _ => rfl, fun b i h => Nat.lt_of_lt_of_le (hl b i h) hb.size, fun i v n h => h.keep (fun b _ hlt => hb.block b hlt) (fun _ _ h => h)⟩
/-- a new row, tagged -/
theorem AStep.new {w w' : World} {τ : Nat → Option Nat} {g i : Nat} (hb : w.grownBy w' none) (hl : ∀ b i, τ b = some i → b < w.heap.size) (hg : w.heap.size ≤ g) (hg2 : g < w'.heap.size) : AStep w τ w' (fun b => if b = g then some i else τ b) :=
  ⟨hb.os, hb.tape, hb.output, hb.size, fun b h _ => hb.block b h (by simp), fun b h => if_neg (by omega), fun b i' h => by
    by_cases e : b = g
    · subst e; exact hg2
    · rw [if_neg e] at h
      exact Nat.lt_of_lt_of_le (hl b i' h) hb.size,
    fun i' v n h => h.keep (fun b _ hlt => hb.block b hlt (by simp)) (fun b hlt h => by rw [if_neg (by omega)]; exact h)⟩
theorem AStep.marks {w : World} {τ : Nat → Option Nat} {i b o : Nat} {vs : List Value} (hb : τ b = some i) (hl : ∀ b i, τ b = some i → b < w.heap.size) (hvs : ∀ (k : Nat) u, vs[k]? = some u → u = mkV i (o + k)) : AStep w τ (w.setCells b o vs) τ := by
  have hg := grownBy_setCells b vs o w
  exact ⟨hg.os, hg.tape, hg.output, hg.size, fun b' hlt ht => hg.block b' hlt (fun e => by rw [Option.some.inj e, hb] at ht; cases ht), fun _ _ => rfl, fun b i h => Nat.lt_of_lt_of_le (hl b i h) hg.size, fun i' v n h => h.marks hb hvs⟩
/-- append of marks of its family onto a slice of a family -/
theorem wpList_append_mem (w : World) {ops : Array Oper} {rest : List Oper} {o : Oper} {a : Act} {Q : Exit → Act → World → Prop} (hgd : o.guard = none) (s x : Operand)
    (ho : o.op = .call { callee := .builtin .append, args := #[s, x], argTypes := #[22, 22] }) (τ : Nat → Option Nat) (i : Nat) (v : Value) (n : Nat) (hs : a.eval s = v) (hv : Full w τ i v n)
    (ad : Addr) (m c : Nat) (hx : a.eval x = .slice (some ad) m c) (news : List Value) (hl : news.length = m * 2) (hnews : ∀ j u, news[j]? = some u → w.cell? (ad.add j) = some u) (hmk : ∀ (j : Nat) u, news[j]? = some u → u = mkV i j)
    (hm : 0 < m) (hbd : n + m ≤ 4398046511104) (hlt : ∀ b i, τ b = some i → b < w.heap.size)
    (h : ∀ b' c' w' τ', Full w' τ' i (.slice (some ⟨b', 0, none⟩) (n + m) c') (n + m) → AStep w τ w' τ' → wpList Try.prog ops Q rest (a.put o.dst (.slice (some ⟨b', 0, none⟩) (n + m) c')) w') :
    wpList Try.prog ops Q (o :: rest) a w := by
  obtain ⟨i0, ih, iz0, iz1, iz2⟩ := info_parts infoKey
  have hone : ∀ u ∈ news, u.oneCell' = true := fun u hu => by
    obtain ⟨j, hj, rfl⟩ := List.mem_iff_getElem.mp hu
    rw [hmk j _ (List.getElem?_eq_getElem hj)]
    exact mkV_one i j
  have fresh : ∀ (olds : List Value) (v' : Value) (w' : World), olds.length = n * 2 → (∀ (j : Nat) u, olds[j]? = some u → u = mkV i j) → w'.ownsRow w.heap.size 29 2 v' (n + m) (olds ++ news) → w.grownBy w' none → wpList Try.prog ops Q rest (a.put o.dst v') w' := by
    intro olds v' w' ho1 ho2 hown hg
    rcases Has.of_owns hown with ⟨_, h0⟩ | ⟨g, cap, f, rfl, hgb, hrow, hn, hmx, hgood⟩
    · omega
    · refine h g cap w' _ (.inr ⟨g, cap, cap * 2, f, rfl, if_pos rfl, hrow, hn, Nat.le_refl _, fun j hj => ?_⟩) (AStep.new (i := i) hg hlt hgb hrow.lt)
      have this : (olds ++ news)[j]? = some (f j) := hgood j hj
      show f j = mkV i j
      by_cases e : j < n * 2
      · rw [List.getElem?_append_left (by omega)] at this
        exact ho2 j _ this
      · rw [List.getElem?_append_right (by omega), ho1] at this
        rw [hmk _ _ this, ← mkV_add i (j - n * 2) n, show n * 2 + (j - n * 2) = j by omega]
  rcases hv with ⟨rfl, rfl⟩ | ⟨b, cap, M, f, rfl, htb, hrow, hn, hcM, hgood⟩
  · refine wpList_append_grows w hgd s x 22 ho 29 i0 (.agg #[.int .i64 0, .int .i64 0]) 2 16 Try.underlying22 ih iz0 iz1 iz2 rfl (by decide) none 0 0 [] hs (fun _ => ⟨rfl, rfl⟩) (by simp) (fun b hb => by cases hb) ad m c news hx hl hnews hone (by omega) (by unfold maxLen; omega) (by omega) ?_
    intro v' w' hown hg
    exact fresh [] v' w' (by simp) (fun j u hu => by simp at hu) hown hg
  · have hnc : n * 2 ≤ cap * 2 := Nat.mul_le_mul_right _ hn
    have holds : ∀ (j : Nat) u, ((List.range (n * 2)).map f)[j]? = some u → j < n * 2 ∧ u = f j := by
      intro j u hu
      rw [List.getElem?_map] at hu
      rcases Nat.lt_or_ge j (n * 2) with hj | hj
      · rw [List.getElem?_range hj] at hu
        exact ⟨hj, by simpa using hu.symm⟩
      · rw [List.getElem?_eq_none (by simpa using hj)] at hu
        cases hu
    refine wpList_append_arg w hgd s x 22 ho 29 i0 (.agg #[.int .i64 0, .int .i64 0]) 2 16 Try.underlying22 ih iz0 iz1 iz2 rfl (by decide) b 0 n cap ((List.range (n * 2)).map f) hs (by simp) (fun j u hu => ?_) ad m c news hx hl hnews hone (fun hr j hj => ?_) (by unfold maxLen; omega) (by omega) (fun hr => ?_) (fun hr v' w' hown hg => ?_)
    · obtain ⟨hj, rfl⟩ := holds j u hu
      rw [Nat.zero_add]
      exact hrow.cell (by omega)
    · refine ⟨?_, hrow.frozen _⟩
      rw [hrow.cell (by omega)]
      rfl
    · have hst : AStep w τ (w.setCells b (0 + n * 2) news) τ := AStep.marks htb hlt (fun k u hu => by rw [hmk k u hu, Nat.zero_add, mkV_add])
      refine h b cap _ τ (.inr ⟨b, cap, M, _, rfl, htb, rowIs_sets b _ M news (0 + n * 2) w f hrow, hr, hcM, fun j hj => ?_⟩) hst
      show (if 0 + n * 2 ≤ j ∧ j < 0 + n * 2 + news.length then news[j - (0 + n * 2)]! else f j) = mkV i j
      by_cases e : j < n * 2
      · rw [if_neg (by omega)]
        exact hgood j e
      · rw [if_pos (by omega), List.getElem!_eq_getElem?_getD, List.getElem?_eq_getElem (by omega)]
        have := hmk (j - (0 + n * 2)) _ (List.getElem?_eq_getElem (by omega))
        show news[j - (0 + n * 2)] = _
        rw [this, ← mkV_add i (j - (0 + n * 2)) n, show n * 2 + (j - (0 + n * 2)) = j by omega]
    · exact fresh _ v' w' (by simp) (fun j u hu => by obtain ⟨hj, rfl⟩ := holds j u hu; exact hgood j hj) hown hg
/-- the lists, each full of its mark, and the row they stand in -/
structure AI (base N B : Nat) (V : Nat → Value) (L : Nat → Nat) (w0 wr : World) (τ : Nat → Option Nat) : Prop where
  below : RowKit.Below base w0 wr
  lo : base ≤ wr.heap.size
  lt : ∀ b i, τ b = some i → b < wr.heap.size
  ge : ∀ b i, τ b = some i → base ≤ b
  hB : B < wr.heap.size
  tB : τ B = none
  cells : ∀ i, i < N → wr.cell? ⟨B, i, none⟩ = some (V i)
  fam : ∀ i, i < N → Full wr τ i (V i) (L i)
theorem AI.step {base N B : Nat} {V : Nat → Value} {L : Nat → Nat} {w0 wr w' : World} {τ τ' : Nat → Option Nat} (h : AI base N B V L w0 wr τ) (s : AStep wr τ w' τ') : AI base N B V L w0 w' τ' := by
  refine ⟨h.below.trans ⟨s.os, s.tape, s.output, s.size, fun k hk => ?_⟩, Nat.le_trans h.lo s.size, s.lt, fun b i hb => ?_, Nat.lt_of_lt_of_le h.hB s.size, (s.tag B h.hB).trans h.tB, fun i hi => ?_, fun i hi => s.mem i _ _ (h.fam i hi)⟩
  · refine s.blk k (Nat.lt_of_lt_of_le hk h.lo) ?_
    cases ht : τ k with
    | none => rfl
    | some i => exact absurd (h.ge k i ht) (by omega)
  · rcases Nat.lt_or_ge b wr.heap.size with hlt | hge
    · exact h.ge b i ((s.tag b hlt).symm.trans hb)
    · exact Nat.le_trans h.lo hge
  · rw [World.cell?_of_block (w := wr) (w' := w') (a := ⟨B, i, none⟩) (s.blk B h.hB h.tB)]
    exact h.cells i hi
/-- a list of slices that grows: its members belong to families -/
def GR (base : Nat) (w : World) (τ : Nat → Option Nat) (v : Value) (T B mx : Nat) : Prop :=
  ∃ G : Nat → Value, Has w base 22 1 v T (fun j x => x = G j) ∧ (∀ b, v.ownBlock = some b → τ b = none ∧ b ≠ B) ∧ ∀ t, t < T → ∃ n, n ≤ mx ∧ Full w τ (t / 21) (G t) n
theorem GR.step {base T B mx : Nat} {w w' : World} {τ τ' : Nat → Option Nat} {v : Value} (h : GR base w τ v T B mx) (s : AStep w τ w' τ') : GR base w' τ' v T B mx := by
  obtain ⟨G, h1, h2, h3⟩ := h
  refine ⟨G, ?_, fun b hb => ⟨?_, (h2 b hb).2⟩, fun t ht => ?_⟩
  · rcases h1 with h1 | ⟨b, c, f, e, hb, hrow, r⟩
    · exact .inl h1
    · exact .inr ⟨b, c, f, e, hb, hrow.of_block (s.blk b hrow.lt (h2 b (by rw [e]; rfl)).1), r⟩
  · have hblt := (h1.block b hb).2
    exact (s.tag b hblt).trans (h2 b hb).1
  · obtain ⟨n, hn, hf⟩ := h3 t ht
    exact ⟨n, hn, s.mem _ _ _ hf⟩
end Go.Proofs.Ytbmfldoobkeieaa.PlMem

namespace Go.Proofs.Ytbmfldoobkeieaa.PlMem
open Go.RowKit Go.Lib Go.Sort Go.Proofs.Ytbmfldoobkeieaa.Own Go.Proofs.Ytbmfldoobkeieaa.KForm
set_option linter.unusedVariables false
set_option linter.unusedSimpArgs false
theorem infoSl : (Try.prog.info? 22).map (fun i => (i.zero, i.size, i.bytes)) = some (some (.slice none 0 0), 1, 24) := by kernel_rfl
/-- no family's row is touched, nor block B -/
def AOther (base B : Nat) (w : World) (τ : Nat → Option Nat) (w' : World) : Prop := ∃ row : Option Nat, w.grownBy w' row ∧ ∀ b, row = some b → τ b = none ∧ b ≠ B ∧ base ≤ b
theorem AOther.full {base B : Nat} {w w' : World} {τ : Nat → Option Nat} (h : AOther base B w τ w') {i : Nat} {v : Value} {n : Nat} (hf : Full w τ i v n) : Full w' τ i v n := by
  obtain ⟨row, hg, hr⟩ := h
  exact hf.keep (fun b ht hlt => hg.block b hlt (fun e => by rw [(hr b e.symm).1] at ht; cases ht)) (fun _ _ h => h)
theorem AI.other {base N B : Nat} {V : Nat → Value} {L : Nat → Nat} {w0 wr w' : World} {τ : Nat → Option Nat} (h : AI base N B V L w0 wr τ) (s : AOther base B wr τ w') : AI base N B V L w0 w' τ := by
  obtain ⟨row, hg, hr⟩ := id s
  refine ⟨h.below.grown hg h.lo (fun k hk => (hr k hk).2.2), Nat.le_trans h.lo hg.size, fun b i hb => Nat.lt_of_lt_of_le (h.lt b i hb) hg.size, h.ge, Nat.lt_of_lt_of_le h.hB hg.size, h.tB, fun i hi => ?_, fun i hi => s.full (h.fam i hi)⟩
  rw [World.cell?_of_block (w := wr) (w' := w') (a := ⟨B, i, none⟩) (hg.block B h.hB (fun e => (hr B e.symm).2.1 rfl))]
  exact h.cells i hi
theorem wpList_append_GR (w : World) {ops : Array Oper} {rest : List Oper} {o : Oper} {a : Act} {Q : Exit → Act → World → Prop} (hgd : o.guard = none) (s x : Operand)
    (ho : o.op = .call { callee := .builtin .append, args := #[s, x], argTypes := #[57, 57] }) (base : Nat) (τ : Nat → Option Nat) (v : Value) (T B mx : Nat) (hs : a.eval s = v) (hG : GR base w τ v T B mx) (hlt : ∀ b i, τ b = some i → b < w.heap.size) (hB : B < w.heap.size) (hbase : base ≤ w.heap.size)
    (u : Value) (hu1 : u.oneCell' = true) (ad : Addr) (c : Nat) (hx : a.eval x = .slice (some ad) 1 c) (hcell : w.cell? (ad.add 0) = some u) (hm : ∃ n, n ≤ mx ∧ Full w τ (T / 21) u n) (hT : T + 1 ≤ 1099511627776)
    (h : ∀ b' c' w', GR base w' τ (.slice (some ⟨b', 0, none⟩) (T + 1) c') (T + 1) B mx → AOther base B w τ w' → wpList Try.prog ops Q rest (a.put o.dst (.slice (some ⟨b', 0, none⟩) (T + 1) c')) w') :
    wpList Try.prog ops Q (o :: rest) a w := by
  obtain ⟨i0, ih, iz0, iz1, iz2⟩ := info_parts infoSl
  obtain ⟨G, h1, h2, h3⟩ := hG
  refine wpList_append_has w hgd s x 57 ho base 22 i0 (.slice none 0 0) 1 24 Try.underlying57 ih iz0 iz1 iz2 rfl (by decide) v T (fun j x => x = G j) hs h1 ad 1 c [u] hx rfl (fun j y hj => ?_) (fun y hy => by rw [List.mem_singleton.mp hy]; exact hu1) (by decide) (by unfold maxLen; omega) (by omega) hbase ?_
  · cases j with
    | zero => rw [← Option.some.inj hj]; exact hcell
    | succ j => simp at hj
  · intro b' c' w' hnew hblk hold hgr
    have hoth : AOther base B w τ w' := ⟨v.ownBlock, hgr, fun b hb => ⟨(h2 b hb).1, (h2 b hb).2, (h1.block b hb).1⟩⟩
    refine h b' c' w' ⟨fun j => if j = T then u else G j, hnew.imp (fun j hj x hx => ?_), fun b hb => ?_, fun t ht => ?_⟩ hoth
    · show x = if j = T then u else G j
      by_cases e : j = T
      · rw [if_pos e]
        have := hx.2 (by omega)
        rw [e, show T - T * 1 = 0 by omega] at this
        exact (Option.some.inj this).symm
      · rw [if_neg e]
        exact hx.1 (by omega)
    · have e : b' = b := by simpa [Value.ownBlock] using hb
      subst e
      rcases hblk with hb2 | hb2
      · exact h2 b' hb2
      · refine ⟨?_, by omega⟩
        cases ht : τ b' with
        | none => rfl
        | some i => exact absurd (hlt b' i ht) (by omega)
    · show ∃ n, n ≤ mx ∧ Full w' τ (t / 21) (if t = T then u else G t) n
      by_cases e : t = T
      · subst e
        rw [if_pos rfl]
        obtain ⟨n, hn, hf⟩ := hm
        exact ⟨n, hn, hoth.full hf⟩
      · rw [if_neg e]
        obtain ⟨n, hn, hf⟩ := h3 t (by omega)
        exact ⟨n, hn, hoth.full hf⟩
end Go.Proofs.Ytbmfldoobkeieaa.PlMem

namespace Go.Proofs.Ytbmfldoobkeieaa.PlShelf
open Go.RowKit Go.Lib Go.Sort Go.Proofs.Ytbmfldoobkeieaa.Own Go.Proofs.Ytbmfldoobkeieaa.KForm Go.Proofs.Ytbmfldoobkeieaa.PlMem
set_option linter.unusedVariables false
set_option linter.unusedSimpArgs false
/-- from w to w': what lies outside X stays; the blocks that may turn then are those that might before, or new ones -/
structure Step (X : Nat → Prop) (w : World) (X' : Nat → Prop) (w' : World) : Prop where
  os : w'.os = w.os
  tape : w'.tape = w.tape
  output : w'.output = w.output
  size : w.heap.size ≤ w'.heap.size
  keep : ∀ b, b < w.heap.size → ¬ X b → w'.heap[b]? = w.heap[b]?
  new : ∀ b, b < w.heap.size → X' b → X b
theorem Step.refl (X : Nat → Prop) (w : World) : Step X w X w := ⟨rfl, rfl, rfl, Nat.le_refl _, fun _ _ _ => rfl, fun _ _ h => h⟩
theorem Step.trans {X X' X'' : Nat → Prop} {w w' w'' : World} (h : Step X w X' w') (k : Step X' w' X'' w'') : Step X w X'' w'' :=
  ⟨k.os.trans h.os, k.tape.trans h.tape, k.output.trans h.output, Nat.le_trans h.size k.size, fun b hb hx => (k.keep b (Nat.lt_of_lt_of_le hb h.size) (fun hx' => hx (h.new b hb hx'))).trans (h.keep b hb hx), fun b hb hx => h.new b hb (k.new b (Nat.lt_of_lt_of_le hb h.size) hx)⟩
theorem Step.fresh {w w' : World} (X : Nat → Prop) (h : RowKit.Below w.heap.size w w') : Step X w X w' := ⟨h.os, h.tape, h.output, h.size, fun b hb _ => h.block b hb, fun _ _ h => h⟩
theorem Step.grown {w w' : World} {row : Option Nat} {X X' : Nat → Prop} (h : w.grownBy w' row) (hr : ∀ b, row = some b → X b) (hn : ∀ b, b < w.heap.size → X' b → X b) : Step X w X' w' :=
  ⟨h.os, h.tape, h.output, h.size, fun b hb hx => h.block b hb (fun e => hx (hr b e.symm)), hn⟩
theorem Step.below {X X' : Nat → Prop} {w w' : World} (h : Step X w X' w') {base : Nat} (hb : base ≤ w.heap.size) (hX : ∀ b, X b → base ≤ b) : RowKit.Below base w w' :=
  ⟨h.os, h.tape, h.output, h.size, fun k hk => h.keep k (by omega) (fun hx => by have := hX k hx; omega)⟩
/-- a list of keys that is read, outside X -/
def KX (X : Nat → Prop) (w : World) (A : Option Addr) (l : List (Int × Int)) : Prop := 0 < l.length → ∃ ad, A = some ad ∧ ¬ X ad.block ∧ KeysAt w ad l
theorem KX.kr {X : Nat → Prop} {w : World} {A : Option Addr} {l : List (Int × Int)} (h : KX X w A l) : KR w A l := fun h0 => by
  obtain ⟨ad, e, _, hk⟩ := h h0
  exact ⟨ad, e, hk⟩
theorem keysAt_block {w w' : World} {ad : Addr} {l : List (Int × Int)} (h : KeysAt w ad l) (hs : w.heap.size ≤ w'.heap.size) (hb : w'.heap[ad.block]? = w.heap[ad.block]?) : KeysAt w' ad l :=
  ⟨Nat.lt_of_lt_of_le h.1 hs, fun j hj i v hv => by rw [World.cell?_of_block (w := w) (w' := w') (a := ad.add (j * 2 + i)) (by rw [KForm.add_block]; exact hb)]; exact h.2 j hj i v hv⟩
theorem KX.step {X X' : Nat → Prop} {w w' : World} {A : Option Addr} {l : List (Int × Int)} (h : KX X w A l) (s : Step X w X' w') : KX X' w' A l := fun h0 => by
  obtain ⟨ad, e, hx, hk⟩ := h h0
  exact ⟨ad, e, fun hx' => hx (s.new _ hk.1 hx'), keysAt_block hk s.size (s.keep _ hk.1 hx)⟩
/-- a list of keys in memory of its own, outside X -/
def LX (X : Nat → Prop) (w : World) (base : Nat) (v : Value) (r : List (Int × Int)) : Prop :=
  (v = .slice none 0 0 ∧ r = []) ∨ ∃ g c M, v = .slice (some ⟨g, 0, none⟩) r.length c ∧ base ≤ g ∧ ¬ X g ∧ r.length ≤ c ∧ c * 2 ≤ M ∧ RowHas w g M r.toArray
theorem LX.step {X X' : Nat → Prop} {w w' : World} {base : Nat} {v : Value} {r : List (Int × Int)} (h : LX X w base v r) (s : Step X w X' w') : LX X' w' base v r := by
  rcases h with h | ⟨g, c, M, e, hb, hx, hc, hM, hrow⟩
  · exact .inl h
  · exact .inr ⟨g, c, M, e, hb, fun hx' => hx (s.new _ hrow.lt hx'), hc, hM, hrow.of_block (s.keep _ hrow.lt hx)⟩
theorem LX.of_own {X : Nat → Prop} {w : World} {base base' : Nat} {v : Value} {r : List (Int × Int)} (h : OwnKeys w base v r) (hb : base' ≤ base) (hX : ∀ b, X b → b < base) : LX X w base' v r := by
  rcases h with h | ⟨g, c, M, e, hg, hc, hM, hrow⟩
  · exact .inl h
  · exact .inr ⟨g, c, M, e, by omega, fun hx => by have := hX g hx; omega, hc, hM, hrow⟩
theorem LX.kx {X : Nat → Prop} {w : World} {base : Nat} {v : Value} {r : List (Int × Int)} (h : LX X w base v r) : ∃ A c, v = .slice A r.length c ∧ r.length ≤ c ∧ KX X w A r := by
  rcases h with ⟨rfl, rfl⟩ | ⟨g, c, M, rfl, hb, hx, hc, hM, hrow⟩
  · exact ⟨none, 0, rfl, Nat.le_refl _, fun h => absurd h (by simp)⟩
  · refine ⟨_, c, rfl, hc, fun h0 => ⟨_, rfl, hx, hrow.lt, fun j hj i v hv => ?_⟩⟩
    obtain ⟨e1, e2, _, _⟩ := hrow.cell (j := j) (by simpa using hj)
    rw [Addr.add_lit, Nat.zero_add]
    match i, hv with
    | 0, hv => rw [← Option.some.inj hv, Nat.add_zero, e1]; simp
    | 1, hv => rw [← Option.some.inj hv, e2]; simp
/-- a row of slices, held alone: its values are L's -/
def VR (w : World) (base : Nat) (t : TypeId) (v : Value) (L : List Value) : Prop := Has w base t 1 v L.length (fun j x => L[j]? = some x)
theorem VR.keep {w w' : World} {base : Nat} {t : TypeId} {v : Value} {L : List Value} (h : VR w base t v L) (hk : ∀ b, v.ownBlock = some b → w'.heap[b]? = w.heap[b]?) : VR w' base t v L := by
  rcases h with h | ⟨b, c, f, e, hb, hrow, r⟩
  · exact .inl h
  · exact .inr ⟨b, c, f, e, hb, hrow.of_block (hk b (by rw [e]; rfl)), r⟩
/-- behind one append onto a row of slices -/
theorem VR.push {w' : World} {base : Nat} {t : TypeId} {u : Value} {L : List Value} {b' c' : Nat} (h : Has w' base t 1 (.slice (some ⟨b', 0, none⟩) (L.length + 1) c') (L.length + 1) (fun j x => (j < L.length * 1 → L[j]? = some x) ∧ (L.length * 1 ≤ j → [u][j - L.length * 1]? = some x))) :
    VR w' base t (.slice (some ⟨b', 0, none⟩) (L.length + 1) c') (L ++ [u]) := by
  unfold VR
  rw [List.length_append, List.length_singleton]
  refine h.imp (fun j hj x hx => ?_)
  show (L ++ [u])[j]? = some x
  by_cases e : j < L.length
  · rw [List.getElem?_append_left e]
    exact hx.1 (by omega)
  · rw [List.getElem?_append_right (by omega)]
    have := hx.2 (by omega)
    rwa [Nat.mul_one] at this
end Go.Proofs.Ytbmfldoobkeieaa.PlShelf

namespace Go.Proofs.Ytbmfldoobkeieaa.PlShelf
open Go.RowKit Go.Lib Go.Sort Go.Proofs.Ytbmfldoobkeieaa.Own Go.Proofs.Ytbmfldoobkeieaa.KForm Go.Proofs.Ytbmfldoobkeieaa.PlMem
set_option linter.unusedVariables false
set_option linter.unusedSimpArgs false
/-- the blocks that may turn: the shelf's own, and the rows of its four lists -/
def Xb (sB : Nat) (vl vw vo vs : Value) (b : Nat) : Prop := b = sB ∨ vl.ownBlock = some b ∨ vw.ownBlock = some b ∨ vo.ownBlock = some b ∨ vs.ownBlock = some b
/-- a list of lists: a row of slices, outside X; its members are read, outside X -/
def OX (X : Nat → Prop) (w : World) (base : Nat) (v : Value) (Q : List (List (Int × Int))) : Prop :=
  (v = .slice none 0 0 ∧ Q = []) ∨ ∃ b c M f, v = .slice (some ⟨b, 0, none⟩) Q.length c ∧ base ≤ b ∧ ¬ X b ∧ w.rowIs b 22 M f ∧ Q.length ≤ c ∧ c ≤ M ∧ ∀ j, j < Q.length → ∃ A cc, f j = .slice A Q[j]!.length cc ∧ Q[j]!.length ≤ cc ∧ KX X w A Q[j]!
theorem OX.step {X X' : Nat → Prop} {w w' : World} {base : Nat} {v : Value} {Q : List (List (Int × Int))} (h : OX X w base v Q) (s : Step X w X' w') : OX X' w' base v Q := by
  rcases h with h | ⟨b, c, M, f, e, hb, hx, hrow, hc, hM, hm⟩
  · exact .inl h
  · refine .inr ⟨b, c, M, f, e, hb, fun hx' => hx (s.new _ hrow.lt hx'), hrow.of_block (s.keep _ hrow.lt hx), hc, hM, fun j hj => ?_⟩
    obtain ⟨A, cc, e1, e2, e3⟩ := hm j hj
    exact ⟨A, cc, e1, e2, e3.step s⟩
/-- the members of a row of slices, each with its contents -/
def Each (L : List Value) (R : List (List (Int × Int))) (p : Value → List (Int × Int) → Prop) : Prop := L.length = R.length ∧ ∀ (i : Nat) u r, L[i]? = some u → R[i]? = some r → p u r
theorem Each.imp {L : List Value} {R : List (List (Int × Int))} {p q : Value → List (Int × Int) → Prop} (h : Each L R p) (hpq : ∀ u r, p u r → q u r) : Each L R q := ⟨h.1, fun i u r h1 h2 => hpq u r (h.2 i u r h1 h2)⟩
theorem Each.push {L : List Value} {R : List (List (Int × Int))} {p : Value → List (Int × Int) → Prop} (h : Each L R p) {u : Value} {r : List (Int × Int)} (hu : p u r) : Each (L ++ [u]) (R ++ [r]) p := by
  refine ⟨by rw [List.length_append, List.length_append, h.1]; rfl, fun i u' r' h1 h2 => ?_⟩
  by_cases e : i < L.length
  · rw [List.getElem?_append_left e] at h1
    rw [List.getElem?_append_left (by have := h.1; omega)] at h2
    exact h.2 i u' r' h1 h2
  · rw [List.getElem?_append_right (by omega)] at h1
    rw [List.getElem?_append_right (by have := h.1; omega)] at h2
    have hi : i - L.length = 0 := by
      rcases Nat.eq_zero_or_pos (i - L.length) with e0 | e0
      · exact e0
      · rw [List.getElem?_eq_none (by simp; omega)] at h1; cases h1
    rw [hi] at h1
    rw [← h.1, hi] at h2
    rw [← Option.some.inj h1, ← Option.some.inj h2]
    exact hu
/-- the members of a row of lists of lists -/
def EachQ (L : List Value) (R : List (List (List (Int × Int)))) (p : Value → List (List (Int × Int)) → Prop) : Prop := L.length = R.length ∧ ∀ (i : Nat) u r, L[i]? = some u → R[i]? = some r → p u r
theorem EachQ.imp {L : List Value} {R : List (List (List (Int × Int)))} {p q : Value → List (List (Int × Int)) → Prop} (h : EachQ L R p) (hpq : ∀ u r, p u r → q u r) : EachQ L R q := ⟨h.1, fun i u r h1 h2 => hpq u r (h.2 i u r h1 h2)⟩
theorem EachQ.push {L : List Value} {R : List (List (List (Int × Int)))} {p : Value → List (List (Int × Int)) → Prop} (h : EachQ L R p) {u : Value} {r : List (List (Int × Int))} (hu : p u r) : EachQ (L ++ [u]) (R ++ [r]) p := by
  refine ⟨by rw [List.length_append, List.length_append, h.1]; rfl, fun i u' r' h1 h2 => ?_⟩
  by_cases e : i < L.length
  · rw [List.getElem?_append_left e] at h1
    rw [List.getElem?_append_left (by have := h.1; omega)] at h2
    exact h.2 i u' r' h1 h2
  · rw [List.getElem?_append_right (by omega)] at h1
    rw [List.getElem?_append_right (by have := h.1; omega)] at h2
    have hi : i - L.length = 0 := by
      rcases Nat.eq_zero_or_pos (i - L.length) with e0 | e0
      · exact e0
      · rw [List.getElem?_eq_none (by simp; omega)] at h1; cases h1
    rw [hi] at h1
    rw [← h.1, hi] at h2
    rw [← Option.some.inj h1, ← Option.some.inj h2]
    exact hu
/-- slices that share no row -/
def Apart (L : List Value) : Prop := L.Pairwise (fun a b => a.ownBlock = none ∨ a.ownBlock ≠ b.ownBlock)
theorem Apart.push {L : List Value} (h : Apart L) {u : Value} (hu : ∀ a ∈ L, a.ownBlock = none ∨ a.ownBlock ≠ u.ownBlock) : Apart (L ++ [u]) :=
  List.pairwise_append.mpr ⟨h, List.pairwise_singleton _ _, fun a ha b hb => by rw [List.mem_singleton.mp hb]; exact hu a ha⟩
/-- two options that are not one block -/
def Ne2 (a b : Option Nat) : Prop := ∀ k, a = some k → b ≠ some k
/-- .. and rows that are lent out -/
def XZ (Z : Nat → Prop) (sB : Nat) (vl vw vo vs : Value) (b : Nat) : Prop := Xb sB vl vw vo vs b ∨ Z b
theorem Step.or {X X' : Nat → Prop} {w w' : World} (h : Step X w X' w') (Z : Nat → Prop) : Step (fun b => X b ∨ Z b) w (fun b => X' b ∨ Z b) w' :=
  ⟨h.os, h.tape, h.output, h.size, fun b hb hx => h.keep b hb (fun e => hx (.inl e)), fun b hb hx => hx.imp (h.new b hb) id⟩
/-- the four cells of a shelf -/
def sh (vl vw vo vs : Value) (j : Nat) : Value := if j = 0 then vl else if j = 1 then vw else if j = 2 then vo else vs
structure PS (base sB : Nat) (Z : Nat → Prop) (w0 : World) (vl vw vo vs : Value) (LV WV OV SV : List Value) (RL RW : List (List (Int × Int))) (QO QS : List (List (List (Int × Int)))) (mx : Nat) (w : World) : Prop where
  below : RowKit.Below base w0 w
  lo : base ≤ w.heap.size
  box : w.rowIs sB 73 4 (sh vl vw vo vs)
  xge : ∀ b, Xb sB vl vw vo vs b → base ≤ b ∧ b < w.heap.size
  zge : ∀ b, Z b → base ≤ b ∧ b < w.heap.size
  nz : ∀ b, Xb sB vl vw vo vs b → ¬ Z b
  nl : Ne2 vl.ownBlock (some sB)
  nw : Ne2 vw.ownBlock (some sB) ∧ Ne2 vw.ownBlock vl.ownBlock
  no : Ne2 vo.ownBlock (some sB) ∧ Ne2 vo.ownBlock vl.ownBlock ∧ Ne2 vo.ownBlock vw.ownBlock
  ns : Ne2 vs.ownBlock (some sB) ∧ Ne2 vs.ownBlock vl.ownBlock ∧ Ne2 vs.ownBlock vw.ownBlock ∧ Ne2 vs.ownBlock vo.ownBlock
  rl : VR w base 22 vl LV
  rw : VR w base 22 vw WV
  ro : VR w base 57 vo OV
  rs : VR w base 57 vs SV
  lists : Each LV RL (fun u r => r.length ≤ mx ∧ LX (XZ Z sB vl vw vo vs) w base u r)
  lap : Apart LV
  want : Each WV RW (fun u r => ∃ A c, u = .slice A r.length c ∧ r.length ≤ c ∧ KX (XZ Z sB vl vw vo vs) w A r)
  outer : EachQ OV QO (fun u q => (q.length ≤ 256 ∧ ∀ x ∈ q, x.length ≤ mx) ∧ OX (XZ Z sB vl vw vo vs) w base u q)
  oap : Apart OV
  was : EachQ SV QS (fun u q => OX (XZ Z sB vl vw vo vs) w base u q)
/-- nothing that lay has turned -/
theorem PS.fresh {base sB : Nat} {Z : Nat → Prop} {w0 : World} {vl vw vo vs : Value} {LV WV OV SV : List Value} {RL RW : List (List (Int × Int))} {QO QS : List (List (List (Int × Int)))} {mx : Nat} {w w' : World} (h : PS base sB Z w0 vl vw vo vs LV WV OV SV RL RW QO QS mx w) (hb : RowKit.Below w.heap.size w w') :
    PS base sB Z w0 vl vw vo vs LV WV OV SV RL RW QO QS mx w' := by
  have s : Step (XZ Z sB vl vw vo vs) w (XZ Z sB vl vw vo vs) w' := Step.fresh _ hb
  have blk : ∀ b, Xb sB vl vw vo vs b → w'.heap[b]? = w.heap[b]? := fun b hx => hb.block b (h.xge b hx).2
  exact ⟨h.below.trans (hb.mono h.lo), Nat.le_trans h.lo hb.size, h.box.of_block (blk sB (.inl rfl)), fun b hx => ⟨(h.xge b hx).1, Nat.lt_of_lt_of_le (h.xge b hx).2 hb.size⟩, fun b hz => ⟨(h.zge b hz).1, Nat.lt_of_lt_of_le (h.zge b hz).2 hb.size⟩, h.nz, h.nl, h.nw, h.no, h.ns,
    h.rl.keep (fun b e => blk b (.inr (.inl e))), h.rw.keep (fun b e => blk b (.inr (.inr (.inl e)))), h.ro.keep (fun b e => blk b (.inr (.inr (.inr (.inl e))))), h.rs.keep (fun b e => blk b (.inr (.inr (.inr (.inr e))))),
    h.lists.imp (fun u r hp => ⟨hp.1, hp.2.step s⟩), h.lap, h.want.imp (fun u r ⟨A, c, e1, e2, e3⟩ => ⟨A, c, e1, e2, e3.step s⟩), EachQ.imp h.outer (fun u q hp => ⟨hp.1, hp.2.step s⟩), h.oap, EachQ.imp h.was (fun u q hp => hp.step s)⟩
/-- one more in the first row -/
theorem PS.push0 {base sB : Nat} {Z : Nat → Prop} {w0 : World} {vl vw vo vs : Value} {LV WV OV SV : List Value} {RL RW : List (List (Int × Int))} {QO QS : List (List (List (Int × Int)))} {mx : Nat} {w w2 : World} {b' c' : Nat} {u : Value} (h : PS base sB Z w0 vl vw vo vs LV WV OV SV RL RW QO QS mx w) {r : List (Int × Int)} (hr : r.length ≤ mx) (hu : LX (XZ Z sB vl vw vo vs) w base u r) (hap : ∀ a ∈ LV, a.ownBlock = none ∨ a.ownBlock ≠ u.ownBlock)
    (hnew : Has w2 base 22 1 (.slice (some ⟨b', 0, none⟩) (LV.length + 1) c') (LV.length + 1) (fun j x => (j < LV.length * 1 → LV[j]? = some x) ∧ (LV.length * 1 ≤ j → [u][j - LV.length * 1]? = some x))) (hblk : vl.ownBlock = some b' ∨ w.heap.size ≤ b') (hgr : w.grownBy w2 vl.ownBlock) :
    PS base sB Z w0 (.slice (some ⟨b', 0, none⟩) (LV.length + 1) c') vw vo vs (LV ++ [u]) WV OV SV (RL ++ [r]) RW QO QS mx (w2.setCell ⟨sB, 0, none⟩ (.slice (some ⟨b', 0, none⟩) (LV.length + 1) c')) ∧ Step (Xb sB vl vw vo vs) w (Xb sB (.slice (some ⟨b', 0, none⟩) (LV.length + 1) c') vw vo vs) (w2.setCell ⟨sB, 0, none⟩ (.slice (some ⟨b', 0, none⟩) (LV.length + 1) c')) := by
  have own' : ∀ q, (Value.slice (some ⟨b', 0, none⟩) (LV.length + 1) c').ownBlock = some q → b' = q := fun q e => by simpa [Value.ownBlock] using e
  have hsB := (h.xge sB (.inl rfl)).2
  have hb2 : base ≤ b' := by rcases hblk with e | e; exact (h.xge b' (.inr (.inl e))).1; exact Nat.le_trans h.lo e
  have nsB : b' ≠ sB := by rcases hblk with e | e; exact fun e2 => h.nl b' e (by rw [e2]); omega
  have hb2s : b' < w2.heap.size := (hnew.block b' rfl).2
  have st : Step (Xb sB vl vw vo vs) w (Xb sB (.slice (some ⟨b', 0, none⟩) (LV.length + 1) c') vw vo vs) (w2.setCell ⟨sB, 0, none⟩ (.slice (some ⟨b', 0, none⟩) (LV.length + 1) c')) := by
    refine ⟨hgr.os, hgr.tape, hgr.output, by simpa using hgr.size, fun b hb hx => ?_, fun b hb hx => ?_⟩
    · rw [Below.heap_setCell _ _ _ _ (fun e => hx (.inl e))]
      exact hgr.block b hb (fun e => hx (.inr (.inl e.symm)))
    · rcases hx with e | e | e | e | e
      · exact .inl e
      · have e2 : b' = b := by simpa [Value.ownBlock] using e
        subst e2
        rcases hblk with e3 | e3
        · exact .inr (.inl e3)
        · omega
      · exact .inr (.inr (.inl e))
      · exact .inr (.inr (.inr (.inl e)))
      · exact .inr (.inr (.inr (.inr e)))
  have oth : ∀ k, Xb sB vl vw vo vs k → k ≠ sB → vl.ownBlock ≠ some k → (w2.setCell ⟨sB, 0, none⟩ (.slice (some ⟨b', 0, none⟩) (LV.length + 1) c')).heap[k]? = w.heap[k]? := fun q hx h1 h2 => by
    rw [Below.heap_setCell _ _ _ _ h1]
    exact hgr.block q (h.xge q hx).2 (fun e => h2 e.symm)
  have nb : ∀ q, Xb sB vl vw vo vs q → vl.ownBlock ≠ some q → (some b' : Option Nat) ≠ some q := fun q hx h1 e => by
    have e2 : b' = q := Option.some.inj e
    subst e2
    rcases hblk with e3 | e3
    · exact h1 e3
    · have := (h.xge b' hx).2; omega
  refine ⟨
    { below := h.below.trans (st.below h.lo (fun b hx => (h.xge b hx).1))
      lo := Nat.le_trans h.lo st.size
      box := ?_
      xge := ?_
      zge := fun b hz => ⟨(h.zge b hz).1, Nat.lt_of_lt_of_le (h.zge b hz).2 st.size⟩
      nz := fun b hx hz => h.nz b (st.new b (h.zge b hz).2 hx) hz
      nl := fun q e e3 => (by cases own' q e; exact nsB (Option.some.inj e3).symm)
      nw := ⟨h.nw.1, fun q e => nb q (.inr (.inr (.inl e))) (h.nw.2 q e)⟩
      no := ⟨h.no.1, fun q e => nb q (.inr (.inr (.inr (.inl e)))) (h.no.2.1 q e), h.no.2.2⟩
      ns := ⟨h.ns.1, fun q e => nb q (.inr (.inr (.inr (.inr e)))) (h.ns.2.1 q e), h.ns.2.2.1, h.ns.2.2.2⟩
      rl := (VR.push hnew).keep (fun b e => (by cases own' b e; exact Below.heap_setCell _ _ _ _ nsB))
      rw := h.rw.keep (fun b e => oth b (.inr (.inr (.inl e))) (fun e2 => h.nw.1 b e (by rw [e2])) (h.nw.2 b e))
      ro := h.ro.keep (fun b e => oth b (.inr (.inr (.inr (.inl e)))) (fun e2 => h.no.1 b e (by rw [e2])) (h.no.2.1 b e))
      rs := h.rs.keep (fun b e => oth b (.inr (.inr (.inr (.inr e)))) (fun e2 => h.ns.1 b e (by rw [e2])) (h.ns.2.1 b e))
      lists := (h.lists.imp (fun u r hp => ⟨hp.1, hp.2.step (st.or Z)⟩)).push ⟨hr, hu.step (st.or Z)⟩
      lap := h.lap.push hap
      want := h.want.imp (fun u r ⟨A, c, e1, e2, e3⟩ => ⟨A, c, e1, e2, e3.step (st.or Z)⟩)
      outer := EachQ.imp h.outer (fun u q hp => ⟨hp.1, hp.2.step (st.or Z)⟩)
      oap := h.oap
      was := EachQ.imp h.was (fun u q hp => hp.step (st.or Z)) }, st⟩
  · refine ((h.box.of_block (hgr.block sB hsB (fun e => h.nl sB e.symm rfl))).set 0 _).congr (fun j hj => ?_)
    match j, hj with
    | 0, _ => rfl
    | 1, _ => rfl
    | 2, _ => rfl
    | 3, _ => rfl
  · intro b hx
    have hsz : (w2.setCell ⟨sB, 0, none⟩ (.slice (some ⟨b', 0, none⟩) (LV.length + 1) c')).heap.size = w2.heap.size := by simp
    rw [hsz]
    have hs2 := hgr.size
    rcases hx with e | e | e | e | e
    · have := h.xge b (.inl e); omega
    · have e2 : b' = b := by simpa [Value.ownBlock] using e
      subst e2; exact ⟨hb2, hb2s⟩
    · have := h.xge b (.inr (.inr (.inl e))); omega
    · have := h.xge b (.inr (.inr (.inr (.inl e)))); omega
    · have := h.xge b (.inr (.inr (.inr (.inr e)))); omega
/-- one more in the second row -/
theorem PS.push1 {base sB : Nat} {Z : Nat → Prop} {w0 : World} {vl vw vo vs : Value} {LV WV OV SV : List Value} {RL RW : List (List (Int × Int))} {QO QS : List (List (List (Int × Int)))} {mx : Nat} {w w2 : World} {b' c' : Nat} {u : Value} (h : PS base sB Z w0 vl vw vo vs LV WV OV SV RL RW QO QS mx w) {r : List (Int × Int)} (hu : ∃ A c, u = .slice A r.length c ∧ r.length ≤ c ∧ KX (XZ Z sB vl vw vo vs) w A r)
    (hnew : Has w2 base 22 1 (.slice (some ⟨b', 0, none⟩) (WV.length + 1) c') (WV.length + 1) (fun j x => (j < WV.length * 1 → WV[j]? = some x) ∧ (WV.length * 1 ≤ j → [u][j - WV.length * 1]? = some x))) (hblk : vw.ownBlock = some b' ∨ w.heap.size ≤ b') (hgr : w.grownBy w2 vw.ownBlock) :
    PS base sB Z w0 vl (.slice (some ⟨b', 0, none⟩) (WV.length + 1) c') vo vs LV (WV ++ [u]) OV SV RL (RW ++ [r]) QO QS mx (w2.setCell ⟨sB, 1, none⟩ (.slice (some ⟨b', 0, none⟩) (WV.length + 1) c')) ∧ Step (Xb sB vl vw vo vs) w (Xb sB vl (.slice (some ⟨b', 0, none⟩) (WV.length + 1) c') vo vs) (w2.setCell ⟨sB, 1, none⟩ (.slice (some ⟨b', 0, none⟩) (WV.length + 1) c')) := by
  have own' : ∀ q, (Value.slice (some ⟨b', 0, none⟩) (WV.length + 1) c').ownBlock = some q → b' = q := fun q e => by simpa [Value.ownBlock] using e
  have hsB := (h.xge sB (.inl rfl)).2
  have hb2 : base ≤ b' := by rcases hblk with e | e; exact (h.xge b' (.inr (.inr (.inl e)))).1; exact Nat.le_trans h.lo e
  have nsB : b' ≠ sB := by rcases hblk with e | e; exact fun e2 => h.nw.1 b' e (by rw [e2]); omega
  have hb2s : b' < w2.heap.size := (hnew.block b' rfl).2
  have st : Step (Xb sB vl vw vo vs) w (Xb sB vl (.slice (some ⟨b', 0, none⟩) (WV.length + 1) c') vo vs) (w2.setCell ⟨sB, 1, none⟩ (.slice (some ⟨b', 0, none⟩) (WV.length + 1) c')) := by
    refine ⟨hgr.os, hgr.tape, hgr.output, by simpa using hgr.size, fun b hb hx => ?_, fun b hb hx => ?_⟩
    · rw [Below.heap_setCell _ _ _ _ (fun e => hx (.inl e))]
      exact hgr.block b hb (fun e => hx (.inr (.inr (.inl e.symm))))
    · rcases hx with e | e | e | e | e
      · exact .inl e
      · exact .inr (.inl e)
      · have e2 : b' = b := by simpa [Value.ownBlock] using e
        subst e2
        rcases hblk with e3 | e3
        · exact .inr (.inr (.inl e3))
        · omega
      · exact .inr (.inr (.inr (.inl e)))
      · exact .inr (.inr (.inr (.inr e)))
  have oth : ∀ k, Xb sB vl vw vo vs k → k ≠ sB → vw.ownBlock ≠ some k → (w2.setCell ⟨sB, 1, none⟩ (.slice (some ⟨b', 0, none⟩) (WV.length + 1) c')).heap[k]? = w.heap[k]? := fun q hx h1 h2 => by
    rw [Below.heap_setCell _ _ _ _ h1]
    exact hgr.block q (h.xge q hx).2 (fun e => h2 e.symm)
  have nb : ∀ q, Xb sB vl vw vo vs q → vw.ownBlock ≠ some q → (some b' : Option Nat) ≠ some q := fun q hx h1 e => by
    have e2 : b' = q := Option.some.inj e
    subst e2
    rcases hblk with e3 | e3
    · exact h1 e3
    · have := (h.xge b' hx).2; omega
  refine ⟨
    { below := h.below.trans (st.below h.lo (fun b hx => (h.xge b hx).1))
      lo := Nat.le_trans h.lo st.size
      box := ?_
      xge := ?_
      zge := fun b hz => ⟨(h.zge b hz).1, Nat.lt_of_lt_of_le (h.zge b hz).2 st.size⟩
      nz := fun b hx hz => h.nz b (st.new b (h.zge b hz).2 hx) hz
      nl := h.nl
      nw := ⟨fun q e e3 => (by cases own' q e; exact nsB (Option.some.inj e3).symm), fun q e e3 => (by cases own' q e; exact nb b' (.inr (.inl e3)) (fun e4 => h.nw.2 b' e4 e3) rfl)⟩
      no := ⟨h.no.1, h.no.2.1, fun q e => nb q (.inr (.inr (.inr (.inl e)))) (h.no.2.2 q e)⟩
      ns := ⟨h.ns.1, h.ns.2.1, fun q e => nb q (.inr (.inr (.inr (.inr e)))) (h.ns.2.2.1 q e), h.ns.2.2.2⟩
      rl := h.rl.keep (fun b e => oth b (.inr (.inl e)) (fun e2 => h.nl b e (by rw [e2])) (fun e2 => h.nw.2 b e2 e))
      rw := (VR.push hnew).keep (fun b e => (by cases own' b e; exact Below.heap_setCell _ _ _ _ nsB))
      ro := h.ro.keep (fun b e => oth b (.inr (.inr (.inr (.inl e)))) (fun e2 => h.no.1 b e (by rw [e2])) (h.no.2.2 b e))
      rs := h.rs.keep (fun b e => oth b (.inr (.inr (.inr (.inr e)))) (fun e2 => h.ns.1 b e (by rw [e2])) (h.ns.2.2.1 b e))
      lists := h.lists.imp (fun u r hp => ⟨hp.1, hp.2.step (st.or Z)⟩)
      lap := h.lap
      want := (h.want.imp (fun u r ⟨A, c, e1, e2, e3⟩ => ⟨A, c, e1, e2, e3.step (st.or Z)⟩)).push (by obtain ⟨A, c, e1, e2, e3⟩ := hu; exact ⟨A, c, e1, e2, e3.step (st.or Z)⟩)
      outer := EachQ.imp h.outer (fun u q hp => ⟨hp.1, hp.2.step (st.or Z)⟩)
      oap := h.oap
      was := EachQ.imp h.was (fun u q hp => hp.step (st.or Z)) }, st⟩
  · refine ((h.box.of_block (hgr.block sB hsB (fun e => h.nw.1 sB e.symm rfl))).set 1 _).congr (fun j hj => ?_)
    match j, hj with
    | 0, _ => rfl
    | 1, _ => rfl
    | 2, _ => rfl
    | 3, _ => rfl
  · intro b hx
    have hsz : (w2.setCell ⟨sB, 1, none⟩ (.slice (some ⟨b', 0, none⟩) (WV.length + 1) c')).heap.size = w2.heap.size := by simp
    rw [hsz]
    have hs2 := hgr.size
    rcases hx with e | e | e | e | e
    · have := h.xge b (.inl e); omega
    · have := h.xge b (.inr (.inl e)); omega
    · have e2 : b' = b := by simpa [Value.ownBlock] using e
      subst e2; exact ⟨hb2, hb2s⟩
    · have := h.xge b (.inr (.inr (.inr (.inl e)))); omega
    · have := h.xge b (.inr (.inr (.inr (.inr e)))); omega
/-- one more in the third row -/
theorem PS.push2 {base sB : Nat} {Z : Nat → Prop} {w0 : World} {vl vw vo vs : Value} {LV WV OV SV : List Value} {RL RW : List (List (Int × Int))} {QO QS : List (List (List (Int × Int)))} {mx : Nat} {w w2 : World} {b' c' : Nat} {u : Value} (h : PS base sB Z w0 vl vw vo vs LV WV OV SV RL RW QO QS mx w) {q : List (List (Int × Int))} (hq : q.length ≤ 256 ∧ ∀ x ∈ q, x.length ≤ mx) (hu : OX (XZ Z sB vl vw vo vs) w base u q) (hap : ∀ a ∈ OV, a.ownBlock = none ∨ a.ownBlock ≠ u.ownBlock)
    (hnew : Has w2 base 57 1 (.slice (some ⟨b', 0, none⟩) (OV.length + 1) c') (OV.length + 1) (fun j x => (j < OV.length * 1 → OV[j]? = some x) ∧ (OV.length * 1 ≤ j → [u][j - OV.length * 1]? = some x))) (hblk : vo.ownBlock = some b' ∨ w.heap.size ≤ b') (hgr : w.grownBy w2 vo.ownBlock) :
    PS base sB Z w0 vl vw (.slice (some ⟨b', 0, none⟩) (OV.length + 1) c') vs LV WV (OV ++ [u]) SV RL RW (QO ++ [q]) QS mx (w2.setCell ⟨sB, 2, none⟩ (.slice (some ⟨b', 0, none⟩) (OV.length + 1) c')) ∧ Step (Xb sB vl vw vo vs) w (Xb sB vl vw (.slice (some ⟨b', 0, none⟩) (OV.length + 1) c') vs) (w2.setCell ⟨sB, 2, none⟩ (.slice (some ⟨b', 0, none⟩) (OV.length + 1) c')) := by
  have own' : ∀ q, (Value.slice (some ⟨b', 0, none⟩) (OV.length + 1) c').ownBlock = some q → b' = q := fun q e => by simpa [Value.ownBlock] using e
  have hsB := (h.xge sB (.inl rfl)).2
  have hb2 : base ≤ b' := by rcases hblk with e | e; exact (h.xge b' (.inr (.inr (.inr (.inl e))))).1; exact Nat.le_trans h.lo e
  have nsB : b' ≠ sB := by rcases hblk with e | e; exact fun e2 => h.no.1 b' e (by rw [e2]); omega
  have hb2s : b' < w2.heap.size := (hnew.block b' rfl).2
  have st : Step (Xb sB vl vw vo vs) w (Xb sB vl vw (.slice (some ⟨b', 0, none⟩) (OV.length + 1) c') vs) (w2.setCell ⟨sB, 2, none⟩ (.slice (some ⟨b', 0, none⟩) (OV.length + 1) c')) := by
    refine ⟨hgr.os, hgr.tape, hgr.output, by simpa using hgr.size, fun b hb hx => ?_, fun b hb hx => ?_⟩
    · rw [Below.heap_setCell _ _ _ _ (fun e => hx (.inl e))]
      exact hgr.block b hb (fun e => hx (.inr (.inr (.inr (.inl e.symm)))))
    · rcases hx with e | e | e | e | e
      · exact .inl e
      · exact .inr (.inl e)
      · exact .inr (.inr (.inl e))
      · have e2 : b' = b := by simpa [Value.ownBlock] using e
        subst e2
        rcases hblk with e3 | e3
        · exact .inr (.inr (.inr (.inl e3)))
        · omega
      · exact .inr (.inr (.inr (.inr e)))
  have oth : ∀ k, Xb sB vl vw vo vs k → k ≠ sB → vo.ownBlock ≠ some k → (w2.setCell ⟨sB, 2, none⟩ (.slice (some ⟨b', 0, none⟩) (OV.length + 1) c')).heap[k]? = w.heap[k]? := fun q hx h1 h2 => by
    rw [Below.heap_setCell _ _ _ _ h1]
    exact hgr.block q (h.xge q hx).2 (fun e => h2 e.symm)
  have nb : ∀ q, Xb sB vl vw vo vs q → vo.ownBlock ≠ some q → (some b' : Option Nat) ≠ some q := fun q hx h1 e => by
    have e2 : b' = q := Option.some.inj e
    subst e2
    rcases hblk with e3 | e3
    · exact h1 e3
    · have := (h.xge b' hx).2; omega
  refine ⟨
    { below := h.below.trans (st.below h.lo (fun b hx => (h.xge b hx).1))
      lo := Nat.le_trans h.lo st.size
      box := ?_
      xge := ?_
      zge := fun b hz => ⟨(h.zge b hz).1, Nat.lt_of_lt_of_le (h.zge b hz).2 st.size⟩
      nz := fun b hx hz => h.nz b (st.new b (h.zge b hz).2 hx) hz
      nl := h.nl
      nw := ⟨h.nw.1, h.nw.2⟩
      no := ⟨fun q e e3 => (by cases own' q e; exact nsB (Option.some.inj e3).symm), fun q e e3 => (by cases own' q e; exact nb b' (.inr (.inl e3)) (fun e4 => h.no.2.1 b' e4 e3) rfl), fun q e e3 => (by cases own' q e; exact nb b' (.inr (.inr (.inl e3))) (fun e4 => h.no.2.2 b' e4 e3) rfl)⟩
      ns := ⟨h.ns.1, h.ns.2.1, h.ns.2.2.1, fun q e => nb q (.inr (.inr (.inr (.inr e)))) (h.ns.2.2.2 q e)⟩
      rl := h.rl.keep (fun b e => oth b (.inr (.inl e)) (fun e2 => h.nl b e (by rw [e2])) (fun e2 => h.no.2.1 b e2 e))
      rw := h.rw.keep (fun b e => oth b (.inr (.inr (.inl e))) (fun e2 => h.nw.1 b e (by rw [e2])) (fun e2 => h.no.2.2 b e2 e))
      ro := (VR.push hnew).keep (fun b e => (by cases own' b e; exact Below.heap_setCell _ _ _ _ nsB))
      rs := h.rs.keep (fun b e => oth b (.inr (.inr (.inr (.inr e)))) (fun e2 => h.ns.1 b e (by rw [e2])) (h.ns.2.2.2 b e))
      lists := h.lists.imp (fun u r hp => ⟨hp.1, hp.2.step (st.or Z)⟩)
      lap := h.lap
      want := h.want.imp (fun u r ⟨A, c, e1, e2, e3⟩ => ⟨A, c, e1, e2, e3.step (st.or Z)⟩)
      outer := (EachQ.push h.outer ⟨hq, hu⟩).imp (fun u q hp => ⟨hp.1, hp.2.step (st.or Z)⟩)
      oap := h.oap.push hap
      was := EachQ.imp h.was (fun u q hp => hp.step (st.or Z)) }, st⟩
  · refine ((h.box.of_block (hgr.block sB hsB (fun e => h.no.1 sB e.symm rfl))).set 2 _).congr (fun j hj => ?_)
    match j, hj with
    | 0, _ => rfl
    | 1, _ => rfl
    | 2, _ => rfl
    | 3, _ => rfl
  · intro b hx
    have hsz : (w2.setCell ⟨sB, 2, none⟩ (.slice (some ⟨b', 0, none⟩) (OV.length + 1) c')).heap.size = w2.heap.size := by simp
    rw [hsz]
    have hs2 := hgr.size
    rcases hx with e | e | e | e | e
    · have := h.xge b (.inl e); omega
    · have := h.xge b (.inr (.inl e)); omega
    · have := h.xge b (.inr (.inr (.inl e))); omega
    · have e2 : b' = b := by simpa [Value.ownBlock] using e
      subst e2; exact ⟨hb2, hb2s⟩
    · have := h.xge b (.inr (.inr (.inr (.inr e)))); omega
/-- one more in the fourth row -/
theorem PS.push3 {base sB : Nat} {Z : Nat → Prop} {w0 : World} {vl vw vo vs : Value} {LV WV OV SV : List Value} {RL RW : List (List (Int × Int))} {QO QS : List (List (List (Int × Int)))} {mx : Nat} {w w2 : World} {b' c' : Nat} {u : Value} (h : PS base sB Z w0 vl vw vo vs LV WV OV SV RL RW QO QS mx w) {q : List (List (Int × Int))} (hu : OX (XZ Z sB vl vw vo vs) w base u q)
    (hnew : Has w2 base 57 1 (.slice (some ⟨b', 0, none⟩) (SV.length + 1) c') (SV.length + 1) (fun j x => (j < SV.length * 1 → SV[j]? = some x) ∧ (SV.length * 1 ≤ j → [u][j - SV.length * 1]? = some x))) (hblk : vs.ownBlock = some b' ∨ w.heap.size ≤ b') (hgr : w.grownBy w2 vs.ownBlock) :
    PS base sB Z w0 vl vw vo (.slice (some ⟨b', 0, none⟩) (SV.length + 1) c') LV WV OV (SV ++ [u]) RL RW QO (QS ++ [q]) mx (w2.setCell ⟨sB, 3, none⟩ (.slice (some ⟨b', 0, none⟩) (SV.length + 1) c')) ∧ Step (Xb sB vl vw vo vs) w (Xb sB vl vw vo (.slice (some ⟨b', 0, none⟩) (SV.length + 1) c')) (w2.setCell ⟨sB, 3, none⟩ (.slice (some ⟨b', 0, none⟩) (SV.length + 1) c')) := by
  have own' : ∀ q, (Value.slice (some ⟨b', 0, none⟩) (SV.length + 1) c').ownBlock = some q → b' = q := fun q e => by simpa [Value.ownBlock] using e
  have hsB := (h.xge sB (.inl rfl)).2
  have hb2 : base ≤ b' := by rcases hblk with e | e; exact (h.xge b' (.inr (.inr (.inr (.inr e))))).1; exact Nat.le_trans h.lo e
  have nsB : b' ≠ sB := by rcases hblk with e | e; exact fun e2 => h.ns.1 b' e (by rw [e2]); omega
  have hb2s : b' < w2.heap.size := (hnew.block b' rfl).2
  have st : Step (Xb sB vl vw vo vs) w (Xb sB vl vw vo (.slice (some ⟨b', 0, none⟩) (SV.length + 1) c')) (w2.setCell ⟨sB, 3, none⟩ (.slice (some ⟨b', 0, none⟩) (SV.length + 1) c')) := by
    refine ⟨hgr.os, hgr.tape, hgr.output, by simpa using hgr.size, fun b hb hx => ?_, fun b hb hx => ?_⟩
    · rw [Below.heap_setCell _ _ _ _ (fun e => hx (.inl e))]
      exact hgr.block b hb (fun e => hx (.inr (.inr (.inr (.inr e.symm)))))
    · rcases hx with e | e | e | e | e
      · exact .inl e
      · exact .inr (.inl e)
      · exact .inr (.inr (.inl e))
      · exact .inr (.inr (.inr (.inl e)))
      · have e2 : b' = b := by simpa [Value.ownBlock] using e
        subst e2
        rcases hblk with e3 | e3
        · exact .inr (.inr (.inr (.inr e3)))
        · omega
  have oth : ∀ k, Xb sB vl vw vo vs k → k ≠ sB → vs.ownBlock ≠ some k → (w2.setCell ⟨sB, 3, none⟩ (.slice (some ⟨b', 0, none⟩) (SV.length + 1) c')).heap[k]? = w.heap[k]? := fun q hx h1 h2 => by
    rw [Below.heap_setCell _ _ _ _ h1]
    exact hgr.block q (h.xge q hx).2 (fun e => h2 e.symm)
  have nb : ∀ q, Xb sB vl vw vo vs q → vs.ownBlock ≠ some q → (some b' : Option Nat) ≠ some q := fun q hx h1 e => by
    have e2 : b' = q := Option.some.inj e
    subst e2
    rcases hblk with e3 | e3
    · exact h1 e3
    · have := (h.xge b' hx).2; omega
  refine ⟨
    { below := h.below.trans (st.below h.lo (fun b hx => (h.xge b hx).1))
      lo := Nat.le_trans h.lo st.size
      box := ?_
      xge := ?_
      zge := fun b hz => ⟨(h.zge b hz).1, Nat.lt_of_lt_of_le (h.zge b hz).2 st.size⟩
      nz := fun b hx hz => h.nz b (st.new b (h.zge b hz).2 hx) hz
      nl := h.nl
      nw := ⟨h.nw.1, h.nw.2⟩
      no := ⟨h.no.1, h.no.2.1, h.no.2.2⟩
      ns := ⟨fun q e e3 => (by cases own' q e; exact nsB (Option.some.inj e3).symm), fun q e e3 => (by cases own' q e; exact nb b' (.inr (.inl e3)) (fun e4 => h.ns.2.1 b' e4 e3) rfl), fun q e e3 => (by cases own' q e; exact nb b' (.inr (.inr (.inl e3))) (fun e4 => h.ns.2.2.1 b' e4 e3) rfl), fun q e e3 => (by cases own' q e; exact nb b' (.inr (.inr (.inr (.inl e3)))) (fun e4 => h.ns.2.2.2 b' e4 e3) rfl)⟩
      rl := h.rl.keep (fun b e => oth b (.inr (.inl e)) (fun e2 => h.nl b e (by rw [e2])) (fun e2 => h.ns.2.1 b e2 e))
      rw := h.rw.keep (fun b e => oth b (.inr (.inr (.inl e))) (fun e2 => h.nw.1 b e (by rw [e2])) (fun e2 => h.ns.2.2.1 b e2 e))
      ro := h.ro.keep (fun b e => oth b (.inr (.inr (.inr (.inl e)))) (fun e2 => h.no.1 b e (by rw [e2])) (fun e2 => h.ns.2.2.2 b e2 e))
      rs := (VR.push hnew).keep (fun b e => (by cases own' b e; exact Below.heap_setCell _ _ _ _ nsB))
      lists := h.lists.imp (fun u r hp => ⟨hp.1, hp.2.step (st.or Z)⟩)
      lap := h.lap
      want := h.want.imp (fun u r ⟨A, c, e1, e2, e3⟩ => ⟨A, c, e1, e2, e3.step (st.or Z)⟩)
      outer := EachQ.imp h.outer (fun u q hp => ⟨hp.1, hp.2.step (st.or Z)⟩)
      oap := h.oap
      was := (EachQ.push h.was hu).imp (fun u q hp => hp.step (st.or Z)) }, st⟩
  · refine ((h.box.of_block (hgr.block sB hsB (fun e => h.ns.1 sB e.symm rfl))).set 3 _).congr (fun j hj => ?_)
    match j, hj with
    | 0, _ => rfl
    | 1, _ => rfl
    | 2, _ => rfl
    | 3, _ => rfl
  · intro b hx
    have hsz : (w2.setCell ⟨sB, 3, none⟩ (.slice (some ⟨b', 0, none⟩) (SV.length + 1) c')).heap.size = w2.heap.size := by simp
    rw [hsz]
    have hs2 := hgr.size
    rcases hx with e | e | e | e | e
    · have := h.xge b (.inl e); omega
    · have := h.xge b (.inr (.inl e)); omega
    · have := h.xge b (.inr (.inr (.inl e))); omega
    · have := h.xge b (.inr (.inr (.inr (.inl e)))); omega
    · have e2 : b' = b := by simpa [Value.ownBlock] using e
      subst e2; exact ⟨hb2, hb2s⟩
end Go.Proofs.Ytbmfldoobkeieaa.PlShelf

namespace Go.Proofs.Ytbmfldoobkeieaa.PlShelf
open Go.RowKit Go.Lib Go.Sort Go.Proofs.Ytbmfldoobkeieaa.Own Go.Proofs.Ytbmfldoobkeieaa.KForm Go.Proofs.Ytbmfldoobkeieaa.PlMem Go.Proofs.Ytbmfldoobkeieaa.PlPure Go.Proofs.Ytbmfldoobkeieaa.PlCalls
set_option linter.unusedVariables false
set_option linter.unusedSimpArgs false
theorem own_of_R {w : World} {base : Nat} {ok : Nat → Prop} {v : Value} {l : List (Int × Int)} (h : YtbmfldoobkeieaaW.PrintWords.Kd.R GRf.k29 29 w base ok v (l.map tS)) : OwnKeys w base v l ∧ ∀ k, v.ownBlock = some k → ok k := by
  obtain ⟨h0, inner, ho, hr⟩ := h
  rw [List.length_map] at ho
  replace ho : w.ownsRow base 29 2 v l.length inner := ho
  refine ⟨own_of_has ((Has.of_owns ho).imp (fun j hj x hx => ?_)), h0⟩
  have hx' : inner[j]? = some x := hx
  have hlt : j / 2 < l.length := by omega
  have hM := hr.2 (j / 2) (tS l[j / 2]) (by rw [List.getElem?_map, List.getElem?_eq_getElem hlt]; rfl)
  have e := GRf.k29_openM hM
  have e2 : ((inner.drop (j / 2 * 2)).take 2)[j % 2]? = some x := by
    rw [List.getElem?_take_of_lt (by omega), List.getElem?_drop, show j / 2 * 2 + j % 2 = j by omega]
    exact hx'
  replace e : (inner.drop (j / 2 * 2)).take 2 = [.int .i64 (tS l[j / 2]).f0, .int .i64 (tS l[j / 2]).f1] := e
  rw [e] at e2
  show x = flatV l j
  unfold flatV
  rw [get! l (j / 2) hlt]
  rcases Nat.mod_two_eq_zero_or_one j with hp | hp
  · rw [hp] at e2
    rw [if_pos hp]
    exact (Option.some.inj e2).symm
  · rw [hp] at e2
    rw [if_neg (by omega)]
    exact (Option.some.inj e2).symm
/-- what a Split's answer looks like -/
def Parts (w : World) (base : Nat) (v : Value) (Q : List (List (Int × Int))) : Prop :=
  (v = .slice none 0 0 ∧ Q = []) ∨ ∃ b c f, v = .slice (some ⟨b, 0, none⟩) Q.length c ∧ base ≤ b ∧ w.rowIs b 22 (c * 1) f ∧ Q.length ≤ c ∧ c ≤ maxLen ∧ (∀ (j : Nat) q, Q[j]? = some q → OwnKeys w base (f j) q ∧ (f j).ownBlock ≠ some b) ∧ ∀ i j, i < j → j < Q.length → (f i).ownBlock = none ∨ (f i).ownBlock ≠ (f j).ownBlock
theorem parts_of_S {w : World} {base : Nat} {ok : Nat → Prop} {v : Value} {Q : List (List (Int × Int))} (h : YtbmfldoobkeieaaW.PrintWords.Kd.S (YtbmfldoobkeieaaW.PrintWords.Kd.slice 29 GRf.k29) 22 w base ok v (Q.map (·.map tS))) : Parts w base v Q := by
  obtain ⟨tg, h0, inner, ho, hr⟩ := h
  rw [List.length_zipIdx, List.length_map] at ho
  replace ho : w.ownsRow base 22 1 v Q.length inner := ho
  have each : ∀ (j : Nat) q, Q[j]? = some q → ∃ u, inner[j]? = some u ∧ OwnKeys w base u q ∧ ∀ k, u.ownBlock = some k → (some k ≠ v.ownBlock ∧ tg k = j) := by
    intro j q hq
    have hz : (Q.map (·.map tS)).zipIdx[j]? = some (q.map tS, j) := YtbmfldoobkeieaaW.PrintWords.Kd.zip_at (by rw [List.getElem?_map, hq]; rfl)
    obtain ⟨u, e, hR⟩ := hr.2 j (q.map tS, j) hz
    obtain ⟨h1, h2⟩ := own_of_R hR
    refine ⟨u, ?_, h1, fun k hk => ⟨(h2 k hk).1.2, (h2 k hk).2⟩⟩
    have : ((inner.drop (j * 1)).take 1)[0]? = some u := by
      have e' : (inner.drop (j * 1)).take 1 = [u] := e
      rw [e']
      rfl
    rw [List.getElem?_take_of_lt (by omega), List.getElem?_drop] at this
    simpa using this
  rcases Has.of_owns ho with ⟨hv, hn⟩ | ⟨b, c, f, hv, hb, hrow, hn, hm, hg⟩
  · exact .inl ⟨hv, List.eq_nil_of_length_eq_zero hn⟩
  · have hf : ∀ (j : Nat) u, j < Q.length → inner[j]? = some u → f j = u := fun j u hj hu => by
      have : inner[j]? = some (f j) := hg j (by omega)
      rw [hu] at this
      exact (Option.some.inj this).symm
    have hvb : v.ownBlock = some b := by rw [hv]; rfl
    refine .inr ⟨b, c, f, hv, hb, hrow, hn, hm, fun j q hq => ?_, fun i j hij hj => ?_⟩
    · obtain ⟨u, hu, h1, h2⟩ := each j q hq
      rw [hf j u (List.getElem?_eq_some_iff.mp hq).1 hu]
      exact ⟨h1, fun e => (h2 b e).1 hvb.symm⟩
    · obtain ⟨u1, hu1, _, k1⟩ := each i _ (List.getElem?_eq_getElem (show i < Q.length by omega))
      obtain ⟨u2, hu2, _, k2⟩ := each j _ (List.getElem?_eq_getElem hj)
      rw [hf i u1 (by omega) hu1, hf j u2 hj hu2]
      cases e : u1.ownBlock with
      | none => exact .inl rfl
      | some k =>
        refine .inr fun e2 => ?_
        have a1 := (k1 k e).2
        have a2 := (k2 k e2.symm).2
        omega
/-- Split, by the program and by the document: the same lists, each answer in rows of its own -/
theorem split_two (l : List (Int × Int)) (n : Int) (hl : l.length < 4398046511104) (hw : ∀ x ∈ l, -9223372036854775808 ≤ x.2 ∧ x.2 ≤ 9223372036854775807) :
    ∃ (Q : List (List (Int × Int))) (t : Int), Q.length ≤ 256 ∧ (∀ q ∈ Q, q.length ≤ l.length) ∧
      (∀ (A : Option Addr) (c : Nat) (w : World), KR w A l → l.length ≤ c → Calls Try.prog 33 #[.slice A l.length c, .int .i64 n] w fun e w' => ∃ v, e = .returned (.tuple #[v, .int .i64 t]) ∧ Parts w' w.heap.size v Q ∧ RowKit.Below w.heap.size w w') ∧
      (∀ (A : Option Addr) (c : Nat) (w : World), KR w A l → l.length ≤ c → Calls Try.prog 87 #[.slice A l.length c, .int .i64 n] w fun e w' => ∃ v, e = .returned (.tuple #[v, .int .i64 t]) ∧ Parts w' w.heap.size v Q ∧ RowKit.Below w.heap.size w w') := by
  obtain ⟨Q, t, h1, h2, h3, h4⟩ := split_both l n hl hw (l.length + 3) (by omega)
  refine ⟨Q, t, h1, h2, fun A c w h hc => ?_, fun A c w h hc => ?_⟩
  · have := GRf.keys_Split.calls (l.length + 3) A c (l.map tS) n _ _ w (KR.CR h (by omega)) (by rw [List.length_map]; exact hc) h3
    rw [List.length_map] at this
    refine this.mono ?_
    rintro e w' ⟨v, he, hS, hb⟩
    exact ⟨v, he, parts_of_S hS, hb⟩
  · have := GRf.preluderef02_Split.calls (l.length + 3) A c (l.map tS) n _ _ w (KR.CR h (by omega)) (by rw [List.length_map]; exact hc) h4
    rw [List.length_map] at this
    refine this.mono ?_
    rintro e w' ⟨v, he, hS, hb⟩
    exact ⟨v, he, parts_of_S hS, hb⟩
end Go.Proofs.Ytbmfldoobkeieaa.PlShelf

namespace Go.Proofs.Ytbmfldoobkeieaa.PlShelf
open Go.RowKit Go.Lib Go.Sort Go.Proofs.Ytbmfldoobkeieaa.Own Go.Proofs.Ytbmfldoobkeieaa.KForm Go.Proofs.Ytbmfldoobkeieaa.PlMem Go.Proofs.Ytbmfldoobkeieaa.PlPure Go.Proofs.Ytbmfldoobkeieaa.PlCalls
set_option linter.unusedVariables false
set_option linter.unusedSimpArgs false
/-- a list of lists that is read -/
def LQ (w : World) (v : Value) (Q : List (List (Int × Int))) : Prop :=
  ∃ A c, v = .slice A Q.length c ∧ Q.length ≤ c ∧ (0 < Q.length → ∃ b, A = some ⟨b, 0, none⟩ ∧ ∀ (j : Nat) q, Q[j]? = some q → ∃ A' c', w.cell? ⟨b, j, none⟩ = some (.slice A' q.length c') ∧ q.length ≤ c' ∧ KR w A' q)
theorem LQ.of_OX {X : Nat → Prop} {w : World} {base : Nat} {v : Value} {Q : List (List (Int × Int))} (h : OX X w base v Q) : LQ w v Q := by
  rcases h with ⟨rfl, rfl⟩ | ⟨b, c, M, f, rfl, hb, hx, hrow, hc, hM, hm⟩
  · exact ⟨none, 0, rfl, Nat.le_refl _, fun h => absurd h (by simp)⟩
  · refine ⟨_, c, rfl, hc, fun _ => ⟨b, rfl, fun j q hq => ?_⟩⟩
    obtain ⟨hlt, rfl⟩ := List.getElem?_eq_some_iff.mp hq
    obtain ⟨A, cc, e1, e2, e3⟩ := hm j hlt
    rw [getElem!_pos Q j hlt] at e1 e2 e3
    exact ⟨A, cc, by rw [hrow.cell (by omega), e1], e2, e3.kr⟩
theorem own_kr {w : World} {base : Nat} {v : Value} {r : List (Int × Int)} (h : OwnKeys w base v r) : ∃ A c, v = .slice A r.length c ∧ r.length ≤ c ∧ KR w A r := by
  obtain ⟨B, d, rfl, hd, _, hL⟩ := h.KR
  exact ⟨B, d, rfl, hd, fun h0 => hL.keys h0⟩
theorem LQ.of_parts {w : World} {base : Nat} {v : Value} {Q : List (List (Int × Int))} (h : Parts w base v Q) : LQ w v Q := by
  rcases h with ⟨rfl, rfl⟩ | ⟨b, c, f, rfl, hb, hrow, hc, hm, he, _⟩
  · exact ⟨none, 0, rfl, Nat.le_refl _, fun h => absurd h (by simp)⟩
  · refine ⟨_, c, rfl, hc, fun _ => ⟨b, rfl, fun j q hq => ?_⟩⟩
    have hlt := (List.getElem?_eq_some_iff.mp hq).1
    obtain ⟨A, cc, e1, e2, e3⟩ := own_kr (he j q hq).1
    exact ⟨A, cc, by rw [hrow.cell (by omega), e1], e2, e3⟩
theorem LQ.of_row {w : World} {base : Nat} {v : Value} {L : List Value} {R : List (List (Int × Int))} (h : VR w base 22 v L) (hR : Each L R (fun u r => ∃ A c, u = .slice A r.length c ∧ r.length ≤ c ∧ KR w A r)) : LQ w v R := by
  rcases h with ⟨rfl, h0⟩ | ⟨b, c, f, rfl, hb, hrow, hn, hm, hg⟩
  · have e : R = [] := List.eq_nil_of_length_eq_zero (by rw [← hR.1]; exact h0)
    subst e
    exact ⟨none, 0, rfl, Nat.le_refl _, fun h => absurd h (by simp)⟩
  · rw [hR.1]
    refine ⟨_, c, rfl, by rw [← hR.1]; exact hn, fun _ => ⟨b, rfl, fun j q hq => ?_⟩⟩
    have hlt := (List.getElem?_eq_some_iff.mp hq).1
    have hL : L[j]? = some (f j) := hg j (by rw [hR.1]; omega)
    obtain ⟨A, cc, e1, e2, e3⟩ := hR.2 j _ q hL hq
    exact ⟨A, cc, by rw [hrow.cell (by have := hR.1; omega), e1], e2, e3⟩
theorem LQ.C {w : World} {A : Option Addr} {c : Nat} {Q : List (List (Int × Int))} {v : Value} (h : LQ w v Q) (hl : ∀ q ∈ Q, q.length ≤ 9223372036854775807) (hQ : Q.length ≤ 9223372036854775807) :
    ∃ A c, v = .slice A Q.length c ∧ Q.length ≤ c ∧ YtbmfldoobkeieaaW.PrintWords.Kd.C (YtbmfldoobkeieaaW.PrintWords.Kd.slice 29 GRf.k29) w A (Q.map (·.map tS)).length (Q.map (·.map tS)) := by
  obtain ⟨A, c, rfl, hc, hr⟩ := h
  refine ⟨A, c, rfl, hc, rfl, by rw [List.length_map]; exact hQ, fun h0 => ?_⟩
  rw [List.length_map] at h0
  obtain ⟨b, rfl, hcell⟩ := hr h0
  refine ⟨_, rfl, fun j p hp => ?_⟩
  rw [List.getElem?_map] at hp
  obtain ⟨q, hq, rfl⟩ := Option.map_eq_some_iff.mp hp
  obtain ⟨A', c', h1, h2, h3⟩ := hcell j q hq
  have hq2 := hl q (List.mem_of_getElem? hq)
  refine ⟨[.slice A' (q.map tS).length c'], rfl, ⟨A', c', rfl, by rw [List.length_map]; exact h2, KR.CR h3 hq2⟩, fun i u hu => ?_⟩
  match i, hu with
  | 0, hu =>
    rw [← Option.some.inj hu, List.length_map, Addr.add_lit]
    show w.cell? ⟨b, 0 + (j * 1 + 0), none⟩ = _
    rw [show 0 + (j * 1 + 0) = j by omega]
    exact h1
theorem lists_same {w : World} {v v' : Value} {Q : List (List (Int × Int))} (h : LQ w v Q) (h' : LQ w v' Q) (hQ : Q.length ≤ 4611686018427387903) (M : Nat) (hM : M ≤ 4611686018427387903) (hl : ∀ q ∈ Q, q.length ≤ M) :
    Calls Try.prog 68 #[v, v'] w fun e w' => e = .returned (.bool true) ∧ YtbmfldoobkeieaaW.PrintWords.Drawn0 w w' := by
  obtain ⟨A, c, rfl, hc, hC⟩ := LQ.C (A := none) (c := 0) h (fun q hq => by have := hl q hq; omega) (by omega)
  obtain ⟨A', c', rfl, hc', hC'⟩ := LQ.C (A := none) (c := 0) h' (fun q hq => by have := hl q hq; omega) (by omega)
  have := GRf.preludelaw02_sameLists.calls (M + Q.length + 1) A c (Q.map (·.map tS)) A' c' (Q.map (·.map tS)) true w hC (by rw [List.length_map]; exact hc) hC' (by rw [List.length_map]; exact hc') (sameL_f Q hQ M hM hl _ (by omega))
  rw [List.length_map] at this
  exact this
/-- nothing is lent out any more -/
theorem PS.drop {base sB : Nat} {Z : Nat → Prop} {w0 : World} {vl vw vo vs : Value} {LV WV OV SV : List Value} {RL RW : List (List (Int × Int))} {QO QS : List (List (List (Int × Int)))} {mx : Nat} {w : World} (h : PS base sB Z w0 vl vw vo vs LV WV OV SV RL RW QO QS mx w) : PS base sB (fun _ => False) w0 vl vw vo vs LV WV OV SV RL RW QO QS mx w := by
  have s : Step (XZ Z sB vl vw vo vs) w (XZ (fun _ => False) sB vl vw vo vs) w := ⟨rfl, rfl, rfl, Nat.le_refl _, fun _ _ _ => rfl, fun _ _ h => h.elim .inl (fun f => f.elim)⟩
  exact ⟨h.below, h.lo, h.box, h.xge, fun _ f => f.elim, fun _ _ f => f, h.nl, h.nw, h.no, h.ns, h.rl, h.rw, h.ro, h.rs, h.lists.imp (fun u r hp => ⟨hp.1, hp.2.step s⟩), h.lap, h.want.imp (fun u r ⟨A, c, e1, e2, e3⟩ => ⟨A, c, e1, e2, e3.step s⟩), EachQ.imp h.outer (fun u q hp => ⟨hp.1, hp.2.step s⟩), h.oap, EachQ.imp h.was (fun u q hp => hp.step s)⟩
/-- a new row is lent out -/
theorem PS.lend {base sB : Nat} {Z : Nat → Prop} {w0 : World} {vl vw vo vs : Value} {LV WV OV SV : List Value} {RL RW : List (List (Int × Int))} {QO QS : List (List (List (Int × Int)))} {mx : Nat} {w w' : World} (h : PS base sB Z w0 vl vw vo vs LV WV OV SV RL RW QO QS mx w) (hb : RowKit.Below w.heap.size w w') (v : Value) (hg : ∀ g, v.ownBlock = some g → w.heap.size ≤ g ∧ g < w'.heap.size) :
    PS base sB (fun b => Z b ∨ v.ownBlock = some b) w0 vl vw vo vs LV WV OV SV RL RW QO QS mx w' := by
  have k := h.fresh hb
  have s : Step (XZ Z sB vl vw vo vs) w (XZ (fun b => Z b ∨ v.ownBlock = some b) sB vl vw vo vs) w' := ⟨hb.os, hb.tape, hb.output, hb.size, fun b hlt _ => hb.block b hlt, fun b hlt hx => by
    rcases hx with hx | hx | hx
    · exact .inl hx
    · exact .inr hx
    · have := (hg b hx).1; omega⟩
  exact ⟨k.below, k.lo, k.box, k.xge, fun b hz => hz.elim (k.zge b) (fun e => ⟨by have := (hg b e).1; have := h.lo; omega, (hg b e).2⟩), fun b hx hz => hz.elim (k.nz b hx) (fun e => by have := (hg b e).1; have := (h.xge b hx).2; omega), k.nl, k.nw, k.no, k.ns, k.rl, k.rw, k.ro, k.rs,
    h.lists.imp (fun u r hp => ⟨hp.1, hp.2.step s⟩), h.lap, h.want.imp (fun u r ⟨A, c, e1, e2, e3⟩ => ⟨A, c, e1, e2, e3.step s⟩), EachQ.imp h.outer (fun u q hp => ⟨hp.1, hp.2.step s⟩), h.oap, EachQ.imp h.was (fun u q hp => hp.step s)⟩
/-- a row that was lent out is written over -/
theorem PS.over {base sB : Nat} {Z : Nat → Prop} {w0 : World} {vl vw vo vs : Value} {LV WV OV SV : List Value} {RL RW : List (List (Int × Int))} {QO QS : List (List (List (Int × Int)))} {mx : Nat} {w w' : World} (h : PS base sB Z w0 vl vw vo vs LV WV OV SV RL RW QO QS mx w) {row : Option Nat} (hg : w.grownBy w' row) (hZ : ∀ b, row = some b → Z b) :
    PS base sB Z w0 vl vw vo vs LV WV OV SV RL RW QO QS mx w' ∧ Step Z w Z w' := by
  have s0 : Step Z w Z w' := Step.grown hg hZ (fun _ _ h => h)
  have s : Step (XZ Z sB vl vw vo vs) w (XZ Z sB vl vw vo vs) w' := Step.grown hg (fun b e => .inr (hZ b e)) (fun _ _ h => h)
  have blk : ∀ b, Xb sB vl vw vo vs b → w'.heap[b]? = w.heap[b]? := fun b hx => s0.keep b (h.xge b hx).2 (h.nz b hx)
  exact ⟨⟨h.below.trans (s0.below h.lo (fun b hz => (h.zge b hz).1)), Nat.le_trans h.lo s.size, h.box.of_block (blk sB (.inl rfl)), fun b hx => ⟨(h.xge b hx).1, Nat.lt_of_lt_of_le (h.xge b hx).2 s.size⟩, fun b hz => ⟨(h.zge b hz).1, Nat.lt_of_lt_of_le (h.zge b hz).2 s.size⟩, h.nz, h.nl, h.nw, h.no, h.ns,
    h.rl.keep (fun b e => blk b (.inr (.inl e))), h.rw.keep (fun b e => blk b (.inr (.inr (.inl e)))), h.ro.keep (fun b e => blk b (.inr (.inr (.inr (.inl e))))), h.rs.keep (fun b e => blk b (.inr (.inr (.inr (.inr e))))),
    h.lists.imp (fun u r hp => ⟨hp.1, hp.2.step s⟩), h.lap, h.want.imp (fun u r ⟨A, c, e1, e2, e3⟩ => ⟨A, c, e1, e2, e3.step s⟩), EachQ.imp h.outer (fun u q hp => ⟨hp.1, hp.2.step s⟩), h.oap, EachQ.imp h.was (fun u q hp => hp.step s)⟩, s0⟩
/-- a new slice shares no row with those that stand -/
theorem PS.newL {base sB : Nat} {Z : Nat → Prop} {w0 : World} {vl vw vo vs : Value} {LV WV OV SV : List Value} {RL RW : List (List (Int × Int))} {QO QS : List (List (List (Int × Int)))} {mx : Nat} {w : World} (h : PS base sB Z w0 vl vw vo vs LV WV OV SV RL RW QO QS mx w) : ∀ a ∈ LV, ∀ k, a.ownBlock = some k → k < w.heap.size := by
  intro a ha k hk
  obtain ⟨i, hi, rfl⟩ := List.mem_iff_getElem.mp ha
  have hR : i < RL.length := by rw [← h.lists.1]; exact hi
  rcases (h.lists.2 i _ _ (List.getElem?_eq_getElem hi) (List.getElem?_eq_getElem hR)).2 with ⟨e, _⟩ | ⟨g, c, M, e, _, _, _, _, hrow⟩
  · rw [e] at hk; simp [Value.ownBlock] at hk
  · rw [e] at hk
    have : g = k := by simpa [Value.ownBlock] using hk
    rw [← this]; exact hrow.lt
theorem PS.newO {base sB : Nat} {Z : Nat → Prop} {w0 : World} {vl vw vo vs : Value} {LV WV OV SV : List Value} {RL RW : List (List (Int × Int))} {QO QS : List (List (List (Int × Int)))} {mx : Nat} {w : World} (h : PS base sB Z w0 vl vw vo vs LV WV OV SV RL RW QO QS mx w) : ∀ a ∈ OV, ∀ k, a.ownBlock = some k → k < w.heap.size := by
  intro a ha k hk
  obtain ⟨i, hi, rfl⟩ := List.mem_iff_getElem.mp ha
  have hR : i < QO.length := by rw [← h.outer.1]; exact hi
  rcases (h.outer.2 i _ _ (List.getElem?_eq_getElem hi) (List.getElem?_eq_getElem hR)).2 with ⟨e, _⟩ | ⟨g, c, M, f, e, _, _, hrow, _⟩
  · rw [e] at hk; simp [Value.ownBlock] at hk
  · rw [e] at hk
    have : g = k := by simpa [Value.ownBlock] using hk
    rw [← this]; exact hrow.lt
theorem apart_of {L : List Value} {B : Nat} {u : Value} (h : ∀ a ∈ L, ∀ k, a.ownBlock = some k → k < B) (hu : ∀ k, u.ownBlock = some k → B ≤ k) : ∀ a ∈ L, a.ownBlock = none ∨ a.ownBlock ≠ u.ownBlock := fun a ha => by
  cases e : a.ownBlock with
  | none => exact .inl rfl
  | some k => exact .inr fun e2 => by have := h a ha k e; have := hu k e2.symm; omega
end Go.Proofs.Ytbmfldoobkeieaa.PlShelf

namespace Go.Proofs.Ytbmfldoobkeieaa.PlShelf
open Go.RowKit Go.Lib Go.Sort Go.Proofs.Ytbmfldoobkeieaa.Own Go.Proofs.Ytbmfldoobkeieaa.KForm Go.Proofs.Ytbmfldoobkeieaa.PlMem Go.Proofs.Ytbmfldoobkeieaa.PlPure Go.Proofs.Ytbmfldoobkeieaa.PlCalls
set_option linter.unusedVariables false
set_option linter.unusedSimpArgs false
theorem infoSl2 : (Try.prog.info? 57).map (fun i => (i.zero, i.size, i.bytes)) = some (some (.slice none 0 0), 1, 24) := by kernel_rfl
/-- types of rows of slices -/
structure SlT (T e : TypeId) : Prop where
  und : Try.prog.underlying T = some (.slice e)
  inf : (Try.prog.info? e).map (fun i => (i.zero, i.size, i.bytes)) = some (some (.slice none 0 0), 1, 24)
theorem slK : SlT 57 22 := ⟨Try.underlying57, infoSl⟩
theorem slQ : SlT 71 57 := ⟨Try.underlying71, infoSl2⟩
/-- what an append of u leaves -/
structure Grew (w w2 : World) (base : Nat) (e : TypeId) (v : Value) (L : List Value) (u : Value) (b' c' : Nat) : Prop where
  has : Has w2 base e 1 (.slice (some ⟨b', 0, none⟩) (L.length + 1) c') (L.length + 1) (fun j x => (j < L.length * 1 → L[j]? = some x) ∧ (L.length * 1 ≤ j → [u][j - L.length * 1]? = some x))
  blk : v.ownBlock = some b' ∨ w.heap.size ≤ b'
  gr : w.grownBy w2 v.ownBlock
theorem push_run {T e : TypeId} (hT : SlT T e) {w : World} {base : Nat} {v : Value} {L : List Value} (h : VR w base e v L) (hb : base ≤ w.heap.size) (ad : Addr) (c2 : Nat) (u : Value) (hu1 : u.oneCell' = true) (hcell : w.cell? (ad.add 0) = some u) (hlen : L.length + 1 ≤ 1099511627776) :
    ∃ b' c' w2, (Builtin.append_ #[T, T] T #[v, .slice (some ad) 1 c2]).run Try.prog w = .ok (.slice (some ⟨b', 0, none⟩) (L.length + 1) c') w2 ∧ Grew w w2 base e v L u b' c' := by
  obtain ⟨i0, ih, iz0, iz1, iz2⟩ := info_parts hT.inf
  have hnews : ∀ (j : Nat) y, [u][j]? = some y → w.cell? (ad.add j) = some y := by
    intro j y hj
    cases j with
    | zero => rw [← Option.some.inj hj]; exact hcell
    | succ j => simp at hj
  have hone : ∀ y ∈ [u], y.oneCell' = true := fun y hy => by rw [List.mem_singleton.mp hy]; exact hu1
  have fresh : ∀ (olds : List Value) (v' : Value) (w' : World), olds = L → w'.ownsRow w.heap.size e 1 v' (L.length + 1) (olds ++ [u]) → w.grownBy w' none → ∃ b' c', v' = .slice (some ⟨b', 0, none⟩) (L.length + 1) c' ∧ Grew w w' base e v L u b' c' := by
    intro olds v' w' ho1 hown hg
    subst ho1
    rcases Has.of_owns hown with ⟨_, h0⟩ | ⟨g, cap, f, rfl, hgb, hrow, hn, hmx, hgood⟩
    · omega
    · refine ⟨g, cap, rfl, .inr ⟨g, cap, f, rfl, by omega, hrow, hn, hmx, fun j hj => ?_⟩, .inr hgb, ⟨hg.os, hg.tape, hg.output, hg.size, fun k hk _ => hg.block k hk (by simp)⟩⟩
      have this : (olds ++ [u])[j]? = some (f j) := hgood j hj
      refine ⟨fun h1 => ?_, fun h1 => ?_⟩
      · rw [List.getElem?_append_left (by omega)] at this
        exact this
      · rw [List.getElem?_append_right (by omega)] at this
        rw [Nat.mul_one]
        exact this
  rcases h with ⟨rfl, h0⟩ | ⟨b, cap, f, rfl, hbb, hrow, hn, hcm, hgood⟩
  · have hL := List.eq_nil_of_length_eq_zero h0
    subst hL
    obtain ⟨v', w', hrun, r1, r2, _⟩ := run_append_own (P := Try.prog) w w.heap.size T T e i0 (.slice none 0 0) 1 24 hT.und ih iz0 iz1 iz2 rfl (by decide) (.slice none 0 0) 0 [] (World.ownsRow_nil w _ e 1) ad 1 c2 [u] rfl hnews hone (by unfold maxLen; omega) (by omega) (Nat.le_refl _)
    obtain ⟨b', c', rfl, hG⟩ := fresh [] v' w' rfl r1 r2
    exact ⟨b', c', w', hrun, hG⟩
  · by_cases hr : L.length + 1 ≤ cap
    · have hrun := run_append_room_cells (P := Try.prog) w T T e i0 hT.und ih b 0 L.length cap ad 1 c2 [u] (by rw [iz1]; rfl) hnews hone hr (fun j hj => by rw [iz1, hrow.cell (by simp at hj; omega)]; rfl) (fun j hj => hrow.frozen _)
      rw [iz1] at hrun
      refine ⟨b, cap, _, hrun, .inr ⟨b, cap, _, rfl, hbb, rowIs_sets b e _ [u] _ w f hrow, hr, hcm, fun j hj => ?_⟩, .inl rfl, grownBy_setCells b _ _ w⟩
      refine ⟨fun h1 => ?_, fun h1 => ?_⟩
      · rw [if_neg (by omega)]
        exact hgood j h1
      · rw [if_pos (by simp; omega), show j - (0 + L.length * 1) = j - L.length * 1 by omega]
        obtain rfl : j = L.length := by omega
        simp
    · obtain ⟨v', w', hrun, r1, r2⟩ := run_append_arg_grows (P := Try.prog) w T T e i0 (.slice none 0 0) 1 24 hT.und ih iz0 iz1 iz2 rfl (by decide) ⟨b, 0, none⟩ L.length cap L (by omega) (fun j y hj => by
        have hlt := (List.getElem?_eq_some_iff.mp hj).1
        have e1 : L[j]? = some (f j) := hgood j (by omega)
        rw [Addr.add_lit, Nat.zero_add, hrow.cell (by omega), ← e1, hj]) ad 1 c2 [u] rfl hnews (by omega) (by unfold maxLen; omega) (by omega)
      obtain ⟨b', c', rfl, hG⟩ := fresh L v' w' rfl r1 r2
      exact ⟨b', c', w', hrun, hG⟩
theorem wp_push {T e : TypeId} (hT : SlT T e) {o : Oper} {a : Act} {w : World} {K : Act → World → Prop} {Q : Exit → Act → World → Prop} (s x : Operand)
    (ho : o.op = .call { callee := .builtin .append, args := #[s, x], argTypes := #[T, T] }) (hty : o.type = T) {base : Nat} {v u : Value} {L : List Value} {ad : Addr} {c2 : Nat}
    (hs : a.eval s = v) (hx : a.eval x = .slice (some ad) 1 c2) (h : VR w base e v L) (hb : base ≤ w.heap.size) (hu1 : u.oneCell' = true) (hcell : w.cell? (ad.add 0) = some u) (hlen : L.length + 1 ≤ 1099511627776)
    (hK : ∀ b' c' w2, Grew w w2 base e v L u b' c' → K (a.put o.dst (.slice (some ⟨b', 0, none⟩) (L.length + 1) c')) w2) : o.wp Try.prog a w K Q := by
  obtain ⟨b', c', w2, hrun, hG⟩ := push_run hT h hb ad c2 u hu1 hcell hlen
  unfold Oper.wp execOp
  simp only [ho, hty, resolve, invoke, builtin, Sem.run_bind, Sem.run_pure, Result.andThen_ok, List.map_toArray, List.map_cons, List.map_nil, hs, hx, hrun]
  exact hK b' c' w2 hG
theorem step_push {T e : TypeId} (hT : SlT T e) {ops : Array Oper} {o : Oper} {a : Act} {w : World} {K : Act → World → Prop} {Q : Exit → Act → World → Prop} {E : Prop} (hgd : o.guard = none) (s x : Operand)
    (ho : o.op = .call { callee := .builtin .append, args := #[s, x], argTypes := #[T, T] }) (hty : o.type = T) {base : Nat} {v u : Value} {L : List Value} {ad : Addr} {c2 : Nat}
    (hs : a.eval s = v) (hx : a.eval x = .slice (some ad) 1 c2) (h : VR w base e v L) (hb : base ≤ w.heap.size) (hu1 : u.oneCell' = true) (hcell : w.cell? (ad.add 0) = some u) (hlen : L.length + 1 ≤ 1099511627776)
    (hK : ∀ b' c' w2, Grew w w2 base e v L u b' c' → K (a.put o.dst (.slice (some ⟨b', 0, none⟩) (L.length + 1) c')) w2) : if Region.wanted o (yielded ops a.tmps) = true then Oper.wp Try.prog o a w K Q else E := by
  have hw : Region.wanted o (yielded ops a.tmps) = true := by simp [Region.wanted, hgd]
  rw [if_pos hw]
  exact wp_push hT s x ho hty hs hx h hb hu1 hcell hlen hK
theorem wpList_push {T e : TypeId} (hT : SlT T e) {ops : Array Oper} {rest : List Oper} {o : Oper} {a : Act} {w : World} {Q : Exit → Act → World → Prop} (hgd : o.guard = none) (s x : Operand)
    (ho : o.op = .call { callee := .builtin .append, args := #[s, x], argTypes := #[T, T] }) (hty : o.type = T) {base : Nat} {v u : Value} {L : List Value} {ad : Addr} {c2 : Nat}
    (hs : a.eval s = v) (hx : a.eval x = .slice (some ad) 1 c2) (h : VR w base e v L) (hb : base ≤ w.heap.size) (hu1 : u.oneCell' = true) (hcell : w.cell? (ad.add 0) = some u) (hlen : L.length + 1 ≤ 1099511627776)
    (hK : ∀ b' c' w2, Grew w w2 base e v L u b' c' → wpList Try.prog ops Q rest (a.put o.dst (.slice (some ⟨b', 0, none⟩) (L.length + 1) c')) w2) : wpList Try.prog ops Q (o :: rest) a w :=
  wpList_plain hgd fun _ hk => wp_push hT s x ho hty hs hx h hb hu1 hcell hlen fun b' c' w2 h1 => hk _ _ (hK b' c' w2 h1)
theorem PS.cellsB {base sB : Nat} {Z : Nat → Prop} {w0 : World} {vl vw vo vs : Value} {LV WV OV SV : List Value} {RL RW : List (List (Int × Int))} {QO QS : List (List (List (Int × Int)))} {mx : Nat} {w : World} (h : PS base sB Z w0 vl vw vo vs LV WV OV SV RL RW QO QS mx w) :
    w.cell? ⟨sB, 0, none⟩ = some vl ∧ w.cell? ⟨sB, 1, none⟩ = some vw ∧ w.cell? ⟨sB, 2, none⟩ = some vo ∧ w.cell? ⟨sB, 3, none⟩ = some vs ∧ sB < w.heap.size :=
  ⟨h.box.cell (i := 0) (by decide), h.box.cell (i := 1) (by decide), h.box.cell (i := 2) (by decide), h.box.cell (i := 3) (by decide), (h.xge sB (.inl rfl)).2⟩
theorem PS.grewB {base sB : Nat} {Z : Nat → Prop} {w0 : World} {vl vw vo vs : Value} {LV WV OV SV : List Value} {RL RW : List (List (Int × Int))} {QO QS : List (List (List (Int × Int)))} {mx : Nat} {w w2 : World} (h : PS base sB Z w0 vl vw vo vs LV WV OV SV RL RW QO QS mx w) {row : Option Nat} (hg : w.grownBy w2 row) (hr : Ne2 row (some sB)) (j : Nat) (hj : j < 4) :
    w2.cell? ⟨sB, j, none⟩ = some (sh vl vw vo vs j) ∧ w2.frozen? ⟨sB, j, none⟩ = false := by
  have hb : w2.rowIs sB _ 4 (sh vl vw vo vs) := h.box.of_block (hg.block sB (h.xge sB (.inl rfl)).2 (fun e => hr sB e.symm rfl))
  exact ⟨hb.cell hj, hb.frozen _⟩
/-- a list of lists in rows of its own, each outside X -/
structure PL (X : Nat → Prop) (w : World) (base : Nat) (A : Option Addr) (c b : Nat) (f : Nat → Value) (Q : List (List (Int × Int))) : Prop where
  len : Q.length ≤ c
  at_ : 0 < Q.length → A = some ⟨b, 0, none⟩ ∧ base ≤ b ∧ ¬ X b ∧ b < w.heap.size ∧ ∀ (j : Nat) q, Q[j]? = some q → w.cell? ⟨b, j, none⟩ = some (f j) ∧ LX X w base (f j) q
  ap : ∀ i j, i < j → j < Q.length → (f i).ownBlock = none ∨ (f i).ownBlock ≠ (f j).ownBlock
theorem PL.step {X X' : Nat → Prop} {w w' : World} {base : Nat} {A : Option Addr} {c b : Nat} {f : Nat → Value} {Q : List (List (Int × Int))} (h : PL X w base A c b f Q) (s : Step X w X' w') : PL X' w' base A c b f Q := by
  refine ⟨h.len, fun h0 => ?_, h.ap⟩
  obtain ⟨h1, h2, h3, h4, h5⟩ := h.at_ h0
  exact ⟨h1, h2, fun hx => h3 (s.new b h4 hx), Nat.lt_of_lt_of_le h4 s.size, fun j q hq => ⟨(World.cell?_of_block (w := w) (w' := w') (a := ⟨b, j, none⟩) (s.keep b h4 h3)).trans (h5 j q hq).1, (h5 j q hq).2.step s⟩⟩
theorem PL.of_parts {w : World} {base : Nat} {v : Value} {Q : List (List (Int × Int))} (h : Parts w base v Q) {X : Nat → Prop} (hX : ∀ b, X b → b < base) : ∃ A c b f, v = .slice A Q.length c ∧ PL X w base A c b f Q := by
  rcases h with ⟨rfl, rfl⟩ | ⟨b, c, f, rfl, hb, hrow, hc, hm, he, hap⟩
  · exact ⟨none, 0, 0, fun _ => default, rfl, Nat.le_refl _, fun h => absurd h (by simp), fun i j _ h => absurd h (by simp)⟩
  · refine ⟨_, c, b, f, rfl, hc, fun _ => ⟨rfl, hb, fun hx => by have := hX b hx; omega, hrow.lt, fun j q hq => ⟨?_, LX.of_own (he j q hq).1 (Nat.le_refl _) hX⟩⟩, hap⟩
    have hlt := (List.getElem?_eq_some_iff.mp hq).1
    exact hrow.cell (by omega)
theorem OX.of_parts {w : World} {base base' : Nat} {v : Value} {Q : List (List (Int × Int))} (h : Parts w base v Q) {X : Nat → Prop} (hX : ∀ b, X b → b < base) (hb' : base' ≤ base) : OX X w base' v Q := by
  rcases h with ⟨rfl, rfl⟩ | ⟨b, c, f, rfl, hb, hrow, hc, hm, he, hap⟩
  · exact .inl ⟨rfl, rfl⟩
  · refine .inr ⟨b, c, c * 1, f, rfl, by omega, fun hx => by have := hX b hx; omega, hrow, hc, by omega, fun j hj => ?_⟩
    have hq : Q[j]? = some Q[j]! := by rw [getElem!_pos Q j hj]; exact List.getElem?_eq_getElem hj
    exact (LX.of_own (he j _ hq).1 (Nat.le_refl _) hX).kx
theorem LX.block {X : Nat → Prop} {w : World} {base : Nat} {v : Value} {r : List (Int × Int)} (h : LX X w base v r) : ∀ k, v.ownBlock = some k → base ≤ k ∧ k < w.heap.size := by
  intro k hk
  rcases h with ⟨rfl, _⟩ | ⟨g, c, M, rfl, hb, _, _, _, hrow⟩
  · simp [Value.ownBlock] at hk
  · have : g = k := by simpa [Value.ownBlock] using hk
    subst this
    exact ⟨hb, hrow.lt⟩
theorem LX.lower {X : Nat → Prop} {w : World} {base base' : Nat} {v : Value} {r : List (Int × Int)} (h : LX X w base v r) (hb' : base' ≤ base) : LX X w base' v r := by
  rcases h with h | ⟨g, c, M, e, hb, r⟩
  · exact .inl h
  · exact .inr ⟨g, c, M, e, by omega, r⟩
theorem LX.one {X : Nat → Prop} {w : World} {base : Nat} {v : Value} {r : List (Int × Int)} (h : LX X w base v r) : v.oneCell' = true := by
  rcases h with ⟨rfl, _⟩ | ⟨g, c, M, rfl, _⟩ <;> rfl
end Go.Proofs.Ytbmfldoobkeieaa.PlShelf

namespace Go.Proofs.Ytbmfldoobkeieaa.PlShelf
open Go.RowKit Go.Lib Go.Sort Go.Proofs.Ytbmfldoobkeieaa.Own Go.Proofs.Ytbmfldoobkeieaa.KForm Go.Proofs.Ytbmfldoobkeieaa.PlMem Go.Proofs.Ytbmfldoobkeieaa.PlPure Go.Proofs.Ytbmfldoobkeieaa.PlCalls
set_option linter.unusedVariables false
set_option linter.unusedSimpArgs false
/-- what stands wherever the blocks of X alone turn -/
def Mv (P : (Nat → Prop) → World → Prop) : Prop := ∀ X X' w w', P X w → Step X w X' w' → P X' w'
/-- the shelf, and what stands beside it -/
structure SG (P : (Nat → Prop) → World → Prop) (base sB : Nat) (Z : Nat → Prop) (w0 : World) (vl vw vo vs : Value) (LV WV OV SV : List Value) (RL RW : List (List (Int × Int))) (QO QS : List (List (List (Int × Int)))) (mx : Nat) (w : World) : Prop where
  mv : Mv P
  ps : PS base sB Z w0 vl vw vo vs LV WV OV SV RL RW QO QS mx w
  ex : P (XZ Z sB vl vw vo vs) w
section
variable {P : (Nat → Prop) → World → Prop} {base sB : Nat} {Z : Nat → Prop} {w0 : World} {vl vw vo vs : Value} {LV WV OV SV : List Value} {RL RW : List (List (Int × Int))} {QO QS : List (List (List (Int × Int)))} {mx : Nat} {w w' : World}
theorem SG.fresh (h : SG P base sB Z w0 vl vw vo vs LV WV OV SV RL RW QO QS mx w) (hb : RowKit.Below w.heap.size w w') : SG P base sB Z w0 vl vw vo vs LV WV OV SV RL RW QO QS mx w' := ⟨h.mv, h.ps.fresh hb, h.mv _ _ _ _ h.ex (Step.fresh _ hb)⟩
/-- what an append onto the lists leaves, and what the store that follows does -/
theorem step_push0 {ops : Array Oper} {o : Oper} {a : Act} {K : Act → World → Prop} {Q : Exit → Act → World → Prop} {E : Prop} (hgd : o.guard = none) (s x : Operand)
    (ho : o.op = .call { callee := .builtin .append, args := #[s, x], argTypes := #[57, 57] }) (hty : o.type = 57) {u : Value} {r : List (Int × Int)} {ad : Addr} {c2 : Nat}
    (hs : a.eval s = vl) (hx : a.eval x = .slice (some ad) 1 c2) (hcell : w.cell? (ad.add 0) = some u) (hG : SG P base sB Z w0 vl vw vo vs LV WV OV SV RL RW QO QS mx w) (hr : r.length ≤ mx) (hu : LX (XZ Z sB vl vw vo vs) w base u r) (hap : ∀ a ∈ LV, a.ownBlock = none ∨ a.ownBlock ≠ u.ownBlock) (hlen : LV.length + 1 ≤ 1099511627776)
    (hK : ∀ b' c' w2, Hid (SG P base sB Z w0 (.slice (some ⟨b', 0, none⟩) (LV.length + 1) c') vw vo vs (LV ++ [u]) WV OV SV (RL ++ [r]) RW QO QS mx (w2.setCell ⟨sB, 0, none⟩ (.slice (some ⟨b', 0, none⟩) (LV.length + 1) c')) ∧ Step (Xb sB vl vw vo vs) w (Xb sB (.slice (some ⟨b', 0, none⟩) (LV.length + 1) c') vw vo vs) (w2.setCell ⟨sB, 0, none⟩ (.slice (some ⟨b', 0, none⟩) (LV.length + 1) c'))) →
      w2.cell? ⟨sB, 0, none⟩ = some vl → w2.frozen? ⟨sB, 0, none⟩ = false → K (a.put o.dst (.slice (some ⟨b', 0, none⟩) (LV.length + 1) c')) w2) : if Region.wanted o (yielded ops a.tmps) = true then Oper.wp Try.prog o a w K Q else E :=
  step_push slK hgd s x ho hty hs hx hG.ps.rl hG.ps.lo hu.one hcell hlen fun b' c' w2 hW => by
    obtain ⟨h1, h2⟩ := hG.ps.grewB hW.gr hG.ps.nl 0 (by decide)
    obtain ⟨h3, h4⟩ := hG.ps.push0 hr hu hap hW.has hW.blk hW.gr
    exact hK b' c' w2 (Lib.hid ⟨⟨hG.mv, h3, hG.mv _ _ _ _ hG.ex (h4.or Z)⟩, h4⟩) h1 h2
theorem step_push1 {ops : Array Oper} {o : Oper} {a : Act} {K : Act → World → Prop} {Q : Exit → Act → World → Prop} {E : Prop} (hgd : o.guard = none) (s x : Operand)
    (ho : o.op = .call { callee := .builtin .append, args := #[s, x], argTypes := #[57, 57] }) (hty : o.type = 57) {r : List (Int × Int)} {Au : Option Addr} {cu : Nat} {ad : Addr} {c2 : Nat}
    (hs : a.eval s = vw) (hx : a.eval x = .slice (some ad) 1 c2) (hcell : w.cell? (ad.add 0) = some (.slice Au r.length cu)) (hG : SG P base sB Z w0 vl vw vo vs LV WV OV SV RL RW QO QS mx w) (hcu : r.length ≤ cu) (hu : KX (XZ Z sB vl vw vo vs) w Au r) (hlen : WV.length + 1 ≤ 1099511627776)
    (hK : ∀ b' c' w2, Hid (SG P base sB Z w0 vl (.slice (some ⟨b', 0, none⟩) (WV.length + 1) c') vo vs LV (WV ++ [.slice Au r.length cu]) OV SV RL (RW ++ [r]) QO QS mx (w2.setCell ⟨sB, 1, none⟩ (.slice (some ⟨b', 0, none⟩) (WV.length + 1) c')) ∧ Step (Xb sB vl vw vo vs) w (Xb sB vl (.slice (some ⟨b', 0, none⟩) (WV.length + 1) c') vo vs) (w2.setCell ⟨sB, 1, none⟩ (.slice (some ⟨b', 0, none⟩) (WV.length + 1) c'))) →
      w2.cell? ⟨sB, 1, none⟩ = some vw → w2.frozen? ⟨sB, 1, none⟩ = false → K (a.put o.dst (.slice (some ⟨b', 0, none⟩) (WV.length + 1) c')) w2) : if Region.wanted o (yielded ops a.tmps) = true then Oper.wp Try.prog o a w K Q else E :=
  step_push slK hgd s x ho hty hs hx hG.ps.rw hG.ps.lo rfl hcell hlen fun b' c' w2 hW => by
    obtain ⟨h1, h2⟩ := hG.ps.grewB hW.gr hG.ps.nw.1 1 (by decide)
    obtain ⟨h3, h4⟩ := hG.ps.push1 ⟨Au, cu, rfl, hcu, hu⟩ hW.has hW.blk hW.gr
    exact hK b' c' w2 (Lib.hid ⟨⟨hG.mv, h3, hG.mv _ _ _ _ hG.ex (h4.or Z)⟩, h4⟩) h1 h2
theorem copied_SG {A : Option Addr} {c : Nat} {l : List (Int × Int)} (hG : SG P base sB Z w0 vl vw vo vs LV WV OV SV RL RW QO QS mx w) (hk : KX (XZ Z sB vl vw vo vs) w A l) (hl : l.length ≤ 1073741824) (hc : l.length ≤ c) :
    Calls Try.prog 67 #[.slice A l.length c] w fun e w' => ∃ Au cu, e = .returned (.slice Au l.length cu) ∧ l.length ≤ cu ∧ KX (XZ Z sB vl vw vo vs) w' Au l ∧ SG P base sB Z w0 vl vw vo vs LV WV OV SV RL RW QO QS mx w' ∧ Hid (RowKit.Below w.heap.size w w') ∧ w'.cell? ⟨sB, 1, none⟩ = some vw := by
  refine (copied_calls A c l w hk.kr (by omega) hc).mono ?_
  rintro e w' ⟨v, rfl, ho, hb⟩
  have hG' := hG.fresh hb
  obtain ⟨Au, cu, rfl, h1, h2⟩ := (LX.of_own (base' := base) (X := XZ Z sB vl vw vo vs) ho hG.ps.lo (fun b hx => hx.elim (fun h1 => (hG.ps.xge b h1).2) (fun h1 => (hG.ps.zge b h1).2))).kx
  exact ⟨Au, cu, rfl, h1, h2, hG', Lib.hid hb, hG'.ps.cellsB.2.1⟩
end
end Go.Proofs.Ytbmfldoobkeieaa.PlShelf

namespace Go.Proofs.Ytbmfldoobkeieaa.PlShelf
open Go.RowKit Go.Lib Go.Sort Go.Proofs.Ytbmfldoobkeieaa.Own Go.Proofs.Ytbmfldoobkeieaa.KForm Go.Proofs.Ytbmfldoobkeieaa.PlMem Go.Proofs.Ytbmfldoobkeieaa.PlPure Go.Proofs.Ytbmfldoobkeieaa.PlCalls
set_option linter.unusedVariables false
set_option linter.unusedSimpArgs false
theorem XZ.lt {base sB : Nat} {Z : Nat → Prop} {w0 : World} {vl vw vo vs : Value} {LV WV OV SV : List Value} {RL RW : List (List (Int × Int))} {QO QS : List (List (List (Int × Int)))} {mx : Nat} {w : World} (h : PS base sB Z w0 vl vw vo vs LV WV OV SV RL RW QO QS mx w) : ∀ b, XZ Z sB vl vw vo vs b → b < w.heap.size := fun b hb => hb.elim (fun h1 => (h.xge b h1).2) (fun h1 => (h.zge b h1).2)
theorem num_calls (t : Int) (w : World) : Calls Try.prog 17 #[.int .i64 t] w fun e w' => e = .returned (.int .i64 t) ∧ RowKit.Below w.heap.size w w' :=
  (GSet.preludelaw02_num.calls t t w rfl).mono fun e w' h => ⟨h.1, h.2.below⟩
/-- the document's Sort, its answer in a row of its own -/
theorem rsort_own (A : Option Addr) (c : Nat) (l : List (Int × Int)) (w : World) (hl : l.length < 4398046511104) (hc : l.length ≤ c) (h : KR w A l) :
    Calls Try.prog 58 #[.slice A l.length c] w (PRes w (sortR l) (sortE l)) := by
  have := GRf.preluderef02_Sort.calls (2 * l.length + 2) A c (l.map tS) _ _ w (KR.CR h (by omega)) (by rw [List.length_map]; exact hc) (sort_ref l hl _ (by omega))
  rw [List.length_map] at this
  refine this.mono ?_
  rintro e w' ⟨v, he, hR, hb⟩
  exact ⟨v, he, (own_of_R hR).1, hb⟩
theorem runion_own (A A2 : Option Addr) (c c2 : Nat) (x y : List (Int × Int)) (w : World) (hx : KR w A x) (hy : KR w A2 y) (hlx : x.length < 2199023255552) (hly : y.length < 2199023255552) (hc : x.length ≤ c) (hc2 : y.length ≤ c2) :
    Calls Try.prog 61 #[.slice A x.length c, .slice A2 y.length c2] w (PRes w (setR true true true x y) (setE x y)) := by
  have := GRf.preluderef02_Union.calls (2 * (x.length + y.length) + 2) A c (x.map tS) A2 c2 (y.map tS) _ _ w (KR.CR hx (by omega)) (by rw [List.length_map]; exact hc) (KR.CR hy (by omega)) (by rw [List.length_map]; exact hc2) (ref_pair (union_ref x y hlx hly _ (by omega)))
  rw [List.length_map, List.length_map] at this
  refine this.mono ?_
  rintro e w' ⟨v, he, hR, hb⟩
  exact ⟨v, he, (own_of_R hR).1, hb⟩
theorem rmeet_own (A A2 : Option Addr) (c c2 : Nat) (x y : List (Int × Int)) (w : World) (hx : KR w A x) (hy : KR w A2 y) (hlx : x.length < 2199023255552) (hly : y.length < 2199023255552) (hc : x.length ≤ c) (hc2 : y.length ≤ c2) :
    Calls Try.prog 63 #[.slice A x.length c, .slice A2 y.length c2] w (PRes w (setR false true false x y) (setE x y)) := by
  have := GRf.preluderef02_Meet.calls (2 * (x.length + y.length) + 2) A c (x.map tS) A2 c2 (y.map tS) _ _ w (KR.CR hx (by omega)) (by rw [List.length_map]; exact hc) (KR.CR hy (by omega)) (by rw [List.length_map]; exact hc2) (ref_pair (meet_ref x y (by omega) (by omega) _ (by omega)))
  rw [List.length_map, List.length_map] at this
  refine this.mono ?_
  rintro e w' ⟨v, he, hR, hb⟩
  exact ⟨v, he, (own_of_R hR).1, hb⟩
theorem rminus_own (A A2 : Option Addr) (c c2 : Nat) (x y : List (Int × Int)) (w : World) (hx : KR w A x) (hy : KR w A2 y) (hlx : x.length < 2199023255552) (hly : y.length < 2199023255552) (hc : x.length ≤ c) (hc2 : y.length ≤ c2) :
    Calls Try.prog 65 #[.slice A x.length c, .slice A2 y.length c2] w (PRes w (setR true false false x y) (setE x y)) := by
  have := GRf.preluderef02_Minus.calls (2 * (x.length + y.length) + 2) A c (x.map tS) A2 c2 (y.map tS) _ _ w (KR.CR hx (by omega)) (by rw [List.length_map]; exact hc) (KR.CR hy (by omega)) (by rw [List.length_map]; exact hc2) (ref_pair (minus_ref x y (by omega) (by omega) _ (by omega)))
  rw [List.length_map, List.length_map] at this
  refine this.mono ?_
  rintro e w' ⟨v, he, hR, hb⟩
  exact ⟨v, he, (own_of_R hR).1, hb⟩
theorem sortR_len (l : List (Int × Int)) : (sortR l).length ≤ l.length := by
  unfold sortR
  split
  · exact sortF_length l
  · simp
theorem setR_len (L B R : Bool) (x y : List (Int × Int)) (h : (L, B, R) = (true, true, true) ∨ (L, B, R) = (false, true, false) ∨ (L, B, R) = (true, false, false)) : (setR L B R x y).length ≤ x.length + y.length := by
  unfold setR
  split
  · have := len_choose x y
    rcases h with h | h | h
    all_goals (injection h with h1 h2; injection h2 with h2 h3; subst h1; subst h2; subst h3; omega)
  · simp
section
variable {w w' : World} {base : Nat} {v : Value} {A : Option Addr} {l : List (Int × Int)}
theorem Lent.keep (h : Lent w base v A l) (hk : ∀ b, v.ownBlock = some b → w'.heap[b]? = w.heap[b]?) : Lent w' base v A l := by
  rcases h with h | ⟨g, ad, e1, e2, e3, f, hr, h1, h2⟩
  · exact .inl h
  · exact .inr ⟨g, ad, e1, e2, e3, f, hr.of_block (hk g (by rw [e2]; rfl)), h1, h2⟩
theorem Lent.block (h : Lent w base v A l) : ∀ k, v.ownBlock = some k → base ≤ k ∧ k < w.heap.size := by
  intro k hk
  rcases h with ⟨_, _, rfl⟩ | ⟨g, ad, e1, rfl, e3, hr⟩
  · simp [Value.ownBlock] at hk
  · have e : g = k := by simpa [Value.ownBlock] using hk
    subst e
    exact ⟨e3, hr.lt⟩
theorem Lent.list (h : Lent w base v A l) : ∃ G c, v = .slice G l.length c ∧ l.length ≤ c ∧ ListAt w G l := by
  rcases h with ⟨_, rfl, rfl⟩ | ⟨g, ad, e1, rfl, e3, f, hr, h1, h2⟩
  · exact ⟨none, 0, rfl, Nat.le_refl _, .inl ⟨rfl, rfl⟩⟩
  · refine ⟨_, _, rfl, by omega, .inr ⟨g, 0, rfl, fun j hj => ?_⟩⟩
    obtain ⟨f1, f2⟩ := h1 j hj
    exact ⟨by rw [hr.cell (by omega), Nat.zero_add, f1], by rw [hr.cell (by omega), Nat.zero_add, f2]⟩
end
/-- what the switch leaves: the shelf, what was got and what was wanted -/
def Arm (base sB : Nat) (Z : Nat → Prop) (w0 : World) (vl vw vo vs : Value) (nR nQ mx : Nat) (w : World) (vg vn : Value) (W : World) : Prop :=
  ∃ (r : List (Int × Int)) (ul uw uo us : Value) (LU WU OU SU : List Value) (RL : List (List (Int × Int))) (QO : List (List (List (Int × Int)))),
    PS base sB Z w0 ul uw uo us LU WU OU SU RL RL QO QO mx W ∧ Step (Xb sB vl vw vo vs) w (Xb sB ul uw uo us) W ∧ RL.length ≤ nR + 256 ∧ QO.length ≤ nQ + 1 ∧ r.length ≤ mx ∧ LX (XZ Z sB ul uw uo us) W base vg r ∧ (∀ a ∈ LU, a.ownBlock = none ∨ a.ownBlock ≠ vg.ownBlock) ∧ LX (XZ Z sB ul uw uo us) W base vn r
section
variable {base sB : Nat} {Z : Nat → Prop} {w0 : World} {vl vw vo vs : Value} {LV WV OV SV : List Value} {RL : List (List (Int × Int))} {QO : List (List (List (Int × Int)))} {mx : Nat} {w W W2 : World}
theorem Arm.own (h : PS base sB Z w0 vl vw vo vs LV WV OV SV RL RL QO QO mx w) (hb : RowKit.Below w.heap.size w W) {vg vn : Value} {r : List (Int × Int)} (hg : OwnKeys W w.heap.size vg r) (hn : OwnKeys W w.heap.size vn r) (hr : r.length ≤ mx) : Arm base sB Z w0 vl vw vo vs RL.length QO.length mx w vg vn W :=
  ⟨r, vl, vw, vo, vs, LV, WV, OV, SV, RL, QO, h.fresh hb, Step.fresh _ hb, by omega, by omega, hr, LX.of_own hg h.lo (XZ.lt h), apart_of h.newL (fun k hk => (OwnKeys.block hg k hk).1), LX.of_own hn h.lo (XZ.lt h)⟩
theorem Arm.nil (h : PS base sB Z w0 vl vw vo vs LV WV OV SV RL RL QO QO mx w) (hb : RowKit.Below w.heap.size w W) : Arm base sB Z w0 vl vw vo vs RL.length QO.length mx w (.slice none 0 0) (.slice none 0 0) W :=
  Arm.own h hb (r := []) (.inl ⟨rfl, rfl⟩) (.inl ⟨rfl, rfl⟩) (by simp)
/-- two answers, one behind the other -/
theorem Arm.two (h : PS base sB Z w0 vl vw vo vs LV WV OV SV RL RL QO QO mx w) {vg vn : Value} {r : List (Int × Int)} {W1 : World} (hb1 : RowKit.Below w.heap.size w W1) (hg : OwnKeys W1 w.heap.size vg r) (hb2 : RowKit.Below W1.heap.size W1 W) (hn : OwnKeys W W1.heap.size vn r) (hr : r.length ≤ mx) : Arm base sB Z w0 vl vw vo vs RL.length QO.length mx w vg vn W :=
  Arm.own h (hb1.trans (hb2.mono hb1.size)) (OwnKeys.below hg hb2) (OwnKeys.lower hn hb1.size) hr
theorem Arm.put {ul uw uo us : Value} {LU WU OU SU : List Value} {RL' : List (List (Int × Int))} {QO' : List (List (List (Int × Int)))} (h : PS base sB Z w0 ul uw uo us LU WU OU SU RL' RL' QO' QO' mx W) (s : Step (Xb sB vl vw vo vs) w (Xb sB ul uw uo us) W) {nR nQ : Nat} (hR : RL'.length ≤ nR + 256) (hQ : QO'.length = nQ + 1) : Arm base sB Z w0 vl vw vo vs nR nQ mx w (.slice none 0 0) (.slice none 0 0) W :=
  ⟨[], ul, uw, uo, us, LU, WU, OU, SU, RL', QO', h, s, hR, by omega, by simp, .inl ⟨rfl, rfl⟩, fun a _ => by cases e : a.ownBlock with
    | none => exact .inl rfl
    | some k => exact .inr (by simp [Value.ownBlock]), .inl ⟨rfl, rfl⟩⟩
end
theorem Step.wide {Z : Nat → Prop} {w w' : World} (s : Step Z w Z w') (sB : Nat) (vl vw vo vs : Value) : Step (XZ Z sB vl vw vo vs) w (XZ Z sB vl vw vo vs) w' :=
  ⟨s.os, s.tape, s.output, s.size, fun b hb hx => s.keep b hb (fun hz => hx (.inr hz)), fun b hb h => h⟩
/-- the question in its box -/
structure BX (ob : Nat) (kd : Int) (v1 v2 : Value) (k1 k2 n : Int) (W : World) : Prop where
  lt : ob < W.heap.size
  c0 : W.cell? ⟨ob, 0, none⟩ = some (.int .i64 kd)
  c1 : W.cell? ⟨ob, 1, none⟩ = some v1
  c2 : W.cell? ⟨ob, 2, none⟩ = some v2
  c3 : W.cell? ⟨ob, 3, none⟩ = some (.int .i64 k1)
  c4 : W.cell? ⟨ob, 4, none⟩ = some (.int .i64 k2)
  c5 : W.cell? ⟨ob, 5, none⟩ = some (.int .i64 n)
theorem BX.keep {ob : Nat} {kd : Int} {v1 v2 : Value} {k1 k2 n : Int} {W W' : World} (h : BX ob kd v1 v2 k1 k2 n W) (hs : W.heap.size ≤ W'.heap.size) (hb : W'.heap[ob]? = W.heap[ob]?) : BX ob kd v1 v2 k1 k2 n W' := by
  have hc : ∀ j, W'.cell? ⟨ob, j, none⟩ = W.cell? ⟨ob, j, none⟩ := fun j => World.cell?_of_block (w := W) (w' := W') (a := ⟨ob, j, none⟩) hb
  exact ⟨Nat.lt_of_lt_of_le h.lt hs, by rw [hc, h.c0], by rw [hc, h.c1], by rw [hc, h.c2], by rw [hc, h.c3], by rw [hc, h.c4], by rw [hc, h.c5]⟩
theorem BX.below {ob : Nat} {kd : Int} {v1 v2 : Value} {k1 k2 n : Int} {W W' : World} (h : BX ob kd v1 v2 k1 k2 n W) (hb : RowKit.Below W.heap.size W W') : BX ob kd v1 v2 k1 k2 n W' := h.keep hb.size (hb.block ob h.lt)
theorem BX.step {ob : Nat} {kd : Int} {v1 v2 : Value} {k1 k2 n : Int} {W W' : World} {X X' : Nat → Prop} (h : BX ob kd v1 v2 k1 k2 n W) (s : Step X W X' W') (hx : ¬ X ob) : BX ob kd v1 v2 k1 k2 n W' := h.keep s.size (s.keep ob h.lt hx)
theorem BX.new (w : World) (kd : Int) (v1 v2 : Value) (k1 k2 n : Int) (T : TypeId) : BX w.heap.size kd v1 v2 k1 k2 n (w.alloc (.cells #[.int .i64 kd, v1, v2, .int .i64 k1, .int .i64 k2, .int .i64 n] T)) := by
  refine ⟨by simp, ?_, ?_, ?_, ?_, ?_, ?_⟩
  all_goals (rw [World.cell?_alloc_at _ _ _ _ rfl]; rfl)
end Go.Proofs.Ytbmfldoobkeieaa.PlShelf

namespace Go.Proofs.Ytbmfldoobkeieaa.PlShelf
open Go.RowKit Go.Lib Go.Sort Go.Proofs.Ytbmfldoobkeieaa.Own Go.Proofs.Ytbmfldoobkeieaa.KForm Go.Proofs.Ytbmfldoobkeieaa.PlMem Go.Proofs.Ytbmfldoobkeieaa.PlPure Go.Proofs.Ytbmfldoobkeieaa.PlCalls
set_option linter.unusedVariables false
set_option linter.unusedSimpArgs false
theorem Parts.below {w w' : World} {base : Nat} {v : Value} {Q : List (List (Int × Int))} (h : Parts w base v Q) (hb : RowKit.Below w.heap.size w w') : Parts w' base v Q := by
  rcases h with h | ⟨b, c, f, e, hbb, hrow, hc, hm, he, hap⟩
  · exact .inl h
  · exact .inr ⟨b, c, f, e, hbb, hrow.of_block (hb.block b hrow.lt), hc, hm, fun j q hq => ⟨OwnKeys.below (he j q hq).1 hb, (he j q hq).2⟩, hap⟩
theorem Parts.block {w : World} {base : Nat} {v : Value} {Q : List (List (Int × Int))} (h : Parts w base v Q) : ∀ k, v.ownBlock = some k → base ≤ k ∧ k < w.heap.size := by
  intro k hk
  rcases h with ⟨rfl, _⟩ | ⟨b, c, f, rfl, hbb, hrow, _⟩
  · simp [Value.ownBlock] at hk
  · have : b = k := by simpa [Value.ownBlock] using hk
    subst this
    exact ⟨hbb, hrow.lt⟩
theorem Parts.lower {w : World} {base base' : Nat} {v : Value} {Q : List (List (Int × Int))} (h : Parts w base v Q) (hb : base' ≤ base) : Parts w base' v Q := by
  rcases h with h | ⟨b, c, f, e, hbb, hrow, hc, hm, he, hap⟩
  · exact .inl h
  · exact .inr ⟨b, c, f, e, by omega, hrow, hc, hm, fun j q hq => ⟨OwnKeys.lower (he j q hq).1 hb, (he j q hq).2⟩, hap⟩
/-- what stands beside the shelf in the loop of split -/
def PP (B1 : Nat) (A : Option Addr) (c b : Nat) (f : Nat → Value) (A' : Option Addr) (c' b' : Nat) (f' : Nat → Value) (Q : List (List (Int × Int))) (X : Nat → Prop) (W : World) : Prop := PL X W B1 A c b f Q ∧ PL X W B1 A' c' b' f' Q
theorem PP.mv {B1 : Nat} {A : Option Addr} {c b : Nat} {f : Nat → Value} {A' : Option Addr} {c' b' : Nat} {f' : Nat → Value} {Q : List (List (Int × Int))} : Mv (PP B1 A c b f A' c' b' f' Q) := fun _ _ _ _ h s => ⟨h.1.step s, h.2.step s⟩
theorem hcell_alloc {W : World} {v : Value} {T : TypeId} {b : Nat} (hb : b = W.heap.size) : (W.alloc (.cells #[v] T)).cell? ((⟨b, 0, none⟩ : Addr).add 0) = some v := by
  rw [add_zero_off, World.cell?_alloc_at _ _ _ _ hb]
  rfl
theorem hcell_drew {W : World} {ad : Addr} {v : Value} (h : W.cell? ad = some v) : W.drew.cell? ad = some v := h
/-- nothing that lay has turned since -/
def BB (w w' : World) : Prop := RowKit.Below w.heap.size w w'
theorem BB.refl (w : World) : BB w w := RowKit.Below.refl _ _
theorem BB.drew {w w' : World} (h : BB w w') : BB w w'.drew := RowKit.Below.drew h
theorem BB.drewN {w w' : World} (h : BB w w') {n : Nat} : BB w (w'.drewN n) := ⟨h.os, h.tape, h.output, h.size, h.block⟩
theorem BB.alloc {w w' : World} (h : BB w w') {o : Obj} : BB w (w'.alloc o) := RowKit.Below.alloc h h.size o
theorem BB.out {w w' : World} (h : BB w w') : RowKit.Below w.heap.size w w' := h
section
variable {B1 : Nat} {A' : Option Addr} {c'1 b1 : Nat} {f' : Nat → Value} {A2' : Option Addr} {c2' b2 : Nat} {f2' : Nat → Value} {Q' : List (List (Int × Int))} {base sB : Nat} {Z : Nat → Prop} {w0 : World} {vl vw vo vs : Value} {LV WV OV SV : List Value} {RL RW : List (List (Int × Int))} {QO QS : List (List (List (Int × Int)))} {mx : Nat} {w : World}
theorem step_pushP {ops : Array Oper} {o : Oper} {a : Act} {K : Act → World → Prop} {Q : Exit → Act → World → Prop} {E : Prop} {wr : World} (hG : SG (PP B1 A' c'1 b1 f' A2' c2' b2 f2' Q') base sB Z w0 vl vw vo vs LV WV OV SV RL RW QO QS mx wr) (hB : base ≤ B1) (i : Nat) (hi : i < Q'.length) {Ag : Option Addr} {cg n : Nat} (hfi : f' i = .slice Ag n cg) (hr : Q'[i].length ≤ mx) (hap : ∀ a ∈ LV, a.ownBlock = none ∨ a.ownBlock ≠ (f' i).ownBlock) (hlen : LV.length + 1 ≤ 1099511627776)
    (hgd : o.guard = none) (s x : Operand)
    (ho : o.op = .call { callee := .builtin .append, args := #[s, x], argTypes := #[57, 57] }) (hty : o.type = 57) {ad : Addr} {c2 : Nat} {xv : Value}
    (hs : a.eval s = vl) (hx : a.eval x = xv) (hxv : xv = .slice (some ad) 1 c2) (hbw : BB wr w) (hcell : w.cell? (ad.add 0) = some (.slice Ag n cg))
    (hK : ∀ b' c' w2, Hid (SG (PP B1 A' c'1 b1 f' A2' c2' b2 f2' Q') base sB Z w0 (.slice (some ⟨b', 0, none⟩) (LV.length + 1) c') vw vo vs (LV ++ [f' i]) WV OV SV (RL ++ [Q'[i]]) RW QO QS mx (w2.setCell ⟨sB, 0, none⟩ (.slice (some ⟨b', 0, none⟩) (LV.length + 1) c')) ∧ Step (Xb sB vl vw vo vs) wr (Xb sB (.slice (some ⟨b', 0, none⟩) (LV.length + 1) c') vw vo vs) (w2.setCell ⟨sB, 0, none⟩ (.slice (some ⟨b', 0, none⟩) (LV.length + 1) c'))) →
      w2.cell? ⟨sB, 0, none⟩ = some vl → w2.frozen? ⟨sB, 0, none⟩ = false → K (a.put o.dst (.slice (some ⟨b', 0, none⟩) (LV.length + 1) c')) w2) : if Region.wanted o (yielded ops a.tmps) = true then Oper.wp Try.prog o a w K Q else E := by
  have hG2 := hG.fresh hbw
  have s2 : Step (Xb sB vl vw vo vs) wr (Xb sB vl vw vo vs) w := Step.fresh _ hbw
  exact step_push0 (u := f' i) (r := Q'[i]) hgd s x ho hty hs (hx.trans hxv) (by rw [hfi]; exact hcell) hG2 hr (((hG2.ex.1.at_ (by omega)).2.2.2.2 i _ (List.getElem?_eq_getElem hi)).2.lower hB) hap hlen (fun b' c' w2 hH => hK b' c' w2 (Lib.hid ⟨hH.out.1, s2.trans hH.out.2⟩))
theorem step_pushC {P : (Nat → Prop) → World → Prop} {ops : Array Oper} {o : Oper} {a : Act} {K : Act → World → Prop} {Q : Exit → Act → World → Prop} {E : Prop} {wr w1 : World} {r : List (Int × Int)} {Au : Option Addr} {cu : Nat} (hG : SG P base sB Z w0 vl vw vo vs LV WV OV SV RL RW QO QS mx w1) (hb1 : BB wr w1) (hcu : r.length ≤ cu) (hu : KX (XZ Z sB vl vw vo vs) w1 Au r) (hlen : WV.length + 1 ≤ 1099511627776)
    (hgd : o.guard = none) (s x : Operand)
    (ho : o.op = .call { callee := .builtin .append, args := #[s, x], argTypes := #[57, 57] }) (hty : o.type = 57) {ad : Addr} {c2 : Nat} {xv : Value}
    (hs : a.eval s = vw) (hx : a.eval x = xv) (hxv : xv = .slice (some ad) 1 c2) (hbw : BB w1 w) (hcell : w.cell? (ad.add 0) = some (.slice Au r.length cu))
    (hK : ∀ b' c' w2, Hid (SG P base sB Z w0 vl (.slice (some ⟨b', 0, none⟩) (WV.length + 1) c') vo vs LV (WV ++ [.slice Au r.length cu]) OV SV RL (RW ++ [r]) QO QS mx (w2.setCell ⟨sB, 1, none⟩ (.slice (some ⟨b', 0, none⟩) (WV.length + 1) c')) ∧ Step (Xb sB vl vw vo vs) wr (Xb sB vl (.slice (some ⟨b', 0, none⟩) (WV.length + 1) c') vo vs) (w2.setCell ⟨sB, 1, none⟩ (.slice (some ⟨b', 0, none⟩) (WV.length + 1) c'))) →
      w2.cell? ⟨sB, 1, none⟩ = some vw → w2.frozen? ⟨sB, 1, none⟩ = false → K (a.put o.dst (.slice (some ⟨b', 0, none⟩) (WV.length + 1) c')) w2) : if Region.wanted o (yielded ops a.tmps) = true then Oper.wp Try.prog o a w K Q else E := by
  have s2 : Step (Xb sB vl vw vo vs) wr (Xb sB vl vw vo vs) w := (Step.fresh _ hb1).trans (Step.fresh _ hbw)
  exact step_push1 hgd s x ho hty hs (hx.trans hxv) hcell (hG.fresh hbw) hcu (hu.step (Step.fresh _ hbw)) hlen (fun b' c' w2 hH => hK b' c' w2 (Lib.hid ⟨hH.out.1, s2.trans hH.out.2⟩))
theorem copied_C {P : (Nat → Prop) → World → Prop} {wr : World} {A : Option Addr} {c : Nat} {l : List (Int × Int)} (hG : SG P base sB Z w0 vl vw vo vs LV WV OV SV RL RW QO QS mx wr) (hbw : BB wr w) (hk : KX (XZ Z sB vl vw vo vs) wr A l) (hl : l.length ≤ 1073741824) (hc : l.length ≤ c) :
    Calls Try.prog 67 #[.slice A l.length c] w fun e w' => ∃ Au cu, e = .returned (.slice Au l.length cu) ∧ l.length ≤ cu ∧ Hid (KX (XZ Z sB vl vw vo vs) w' Au l) ∧ Hid (SG P base sB Z w0 vl vw vo vs LV WV OV SV RL RW QO QS mx w') ∧ Hid (BB wr w') ∧ w'.cell? ⟨sB, 1, none⟩ = some vw ∧ sB < w'.heap.size := by
  refine (copied_SG (hG.fresh hbw) (hk.step (Step.fresh _ hbw)) hl hc).mono ?_
  rintro e w' ⟨Au, cu, rfl, h1, h2, h3, h4, h5⟩
  exact ⟨Au, cu, rfl, h1, Lib.hid h2, Lib.hid h3, Lib.hid (show BB wr w' from RowKit.Below.trans (BB.out hbw) (h4.out.mono (BB.out hbw).size)), h5, h3.ps.cellsB.2.2.2.2⟩
end
theorem take_more (Q : List (List (Int × Int))) (i : Nat) (h : i < Q.length) : Q.take (i + 1) = Q.take i ++ [Q[i]] := by
  rw [List.take_add_one, List.getElem?_eq_getElem h]
  rfl
set_option maxHeartbeats 8000000 in
set_option maxRecDepth 100000 in
theorem split_calls {base sB : Nat} {Z : Nat → Prop} {w0 : World} {vl vw vo vs : Value} {LV WV OV SV : List Value} {RL : List (List (Int × Int))} {QO : List (List (List (Int × Int)))} {mx : Nat} {w : World} (h : PS base sB Z w0 vl vw vo vs LV WV OV SV RL RL QO QO mx w)
    (A A2 A3 : Option Addr) (c c2 n3 c3 : Nat) (l : List (Int × Int)) (kd k1 k2 n : Int) (hA : KR w A l) (hA2 : KR w A2 l) (hc : l.length ≤ c) (hc2 : l.length ≤ c2) (hmx : l.length ≤ mx) (hmx2 : mx ≤ 1073741824) (hw : ∀ x ∈ l, -9223372036854775808 ≤ x.2 ∧ x.2 ≤ 9223372036854775807)
    (hRL : RL.length ≤ 536870912) (hQO : QO.length ≤ 536870912) :
    Calls Try.prog 66 #[.pointer (some ⟨sB, 0, none⟩), .slice A l.length c, .agg #[.int .i64 kd, .slice A2 l.length c2, .slice A3 n3 c3, .int .i64 k1, .int .i64 k2, .int .i64 n]] w fun e w' => e = .returned (.bool true) ∧
      ∃ vl' vw' vo' vs' LV' WV' OV' SV' RL' QO', PS base sB Z w0 vl' vw' vo' vs' LV' WV' OV' SV' RL' RL' QO' QO' mx w' ∧ Step (Xb sB vl vw vo vs) w (Xb sB vl' vw' vo' vs') w' ∧ RL'.length ≤ RL.length + 256 ∧ QO'.length = QO.length + 1 := by
  obtain ⟨Q, t, hQ, hq, hP, hR⟩ := split_two l n (by omega) hw
  have HP := Lib.hid hP
  have HR := Lib.hid hR
  have HA := Lib.hid hA
  have HA2 := Lib.hid hA2
  have HS := Lib.hid h
  have HW := Lib.hid hw
  have Hq := Lib.hid hq
  clear h hA hA2 hw hP hR hq
  go_enter Try.func66, Try.ntmps66
  go_wp2_with fail
  have B0 : Hid (RowKit.Below w.heap.size w (w.alloc (Obj.cells #[.int .i64 kd, .slice A2 l.length c2, .slice A3 n3 c3, .int .i64 k1, .int .i64 k2, .int .i64 n] 75))) := Lib.hid ((RowKit.Below.refl _ _).alloc (Nat.le_refl _) _)
  refine (HP.out A c _ (HA.out.below B0.out) hc).mono ?_
  rintro e w1 ⟨v1, rfl, hp1, hb1⟩
  have C1 : w1.cell? ⟨w.heap.size, 1, none⟩ = some (.slice A2 l.length c2) := (hb1.cell (p := ⟨w.heap.size, 1, none⟩) (by simp)).trans (by rw [World.cell?_alloc_at _ _ _ _ rfl]; rfl)
  have C5 : w1.cell? ⟨w.heap.size, 5, none⟩ = some (.int .i64 n) := (hb1.cell (p := ⟨w.heap.size, 5, none⟩) (by simp)).trans (by rw [World.cell?_alloc_at _ _ _ _ rfl]; rfl)
  have B1 : Hid (RowKit.Below w.heap.size w w1) := Lib.hid (B0.out.trans (hb1.mono B0.out.size))
  have P1 : Hid (Parts w1 (w.heap.size + 1) v1 Q) := Lib.hid (by simpa using hp1)
  clear hp1 hb1 B0
  go_wp2_with fail
  refine (HR.out A2 c2 _ (HA2.out.below B1.out) hc2).mono ?_
  rintro e w2 ⟨v2, rfl, hp2, hb2⟩
  clear C1 C5
  have B2 : Hid (RowKit.Below w.heap.size w w2) := Lib.hid (B1.out.trans (hb2.mono B1.out.size))
  have L1 : Hid (w.heap.size ≤ w1.heap.size) := Lib.hid B1.out.size
  have S1 : Hid (RowKit.Below w1.heap.size w1 w2) := Lib.hid hb2
  have P2 : Hid (Parts w2 w1.heap.size v2 Q) := Lib.hid hp2
  clear hp2 hb2 B1
  go_wp2_with fail
  refine (num_calls t _).mono ?_
  rintro e w3 ⟨rfl, hb3⟩
  go_wp2_with fail
  refine (num_calls t _).mono ?_
  rintro e w4 ⟨rfl, hb4⟩
  have S4 : Hid (RowKit.Below w2.heap.size w2 w4) := Lib.hid (hb3.trans (hb4.mono hb3.size))
  clear hb3 hb4
  go_wp2_with fail
  have hp14 : Parts w4 w.heap.size v1 Q := ((P1.out.below S1.out).below S4.out).lower (Nat.le_succ _)
  have hp24 : Parts w4 w.heap.size v2 Q := (P2.out.below S4.out).lower L1.out
  refine (lists_same (LQ.of_parts hp14) (LQ.of_parts hp24) (by omega) l.length (by omega) Hq.out).mono ?_
  rintro e w5 ⟨rfl, hd5⟩
  have hb5 := hd5.below
  have hB5 : RowKit.Below w.heap.size w w5 := (B2.out.trans (S4.out.mono B2.out.size)).trans (hb5.mono (Nat.le_trans B2.out.size S4.out.size))
  have HS5 := Lib.hid (HS.out.fresh hB5)
  have hlo := HS.out.lo
  have hX := XZ.lt HS.out
  have hp15 := hp14.below hb5
  have hp25 := hp24.below hb5
  have OX1 := Lib.hid (OX.of_parts hp15 hX hlo)
  have OX2 := Lib.hid (OX.of_parts hp25 hX hlo)
  have AP1 := Lib.hid (apart_of HS.out.newO (fun k hk => (hp15.block k hk).1))
  obtain ⟨Al, cl, bl, fl, rfl, hpl⟩ := PL.of_parts hp15 hX
  obtain ⟨Am, cm, bm, fm, rfl, hpm⟩ := PL.of_parts hp25 hX
  have PL1 := Lib.hid hpl
  have PM1 := Lib.hid hpm
  have NL := Lib.hid HS.out.newL
  have HS_lo := HS.out.lo
  have ST5 : Hid (Step (Xb sB vl vw vo vs) w (Xb sB vl vw vo vs) w5) := Lib.hid (Step.fresh _ hB5)
  clear hp14 hp24 hd5 hb5 hB5 hlo hX hp15 hp25 hpl hpm P1 P2 S1 S4 B2 L1 HS
  obtain ⟨cB0, cB1, cB2, cB3, hsB⟩ := HS5.out.cellsB
  have HS6 := Lib.hid (HS5.out.fresh ((RowKit.Below.refl _ w5).alloc (Nat.le_refl _) (Obj.cells #[Value.slice Al Q.length cl] 57)))
  go_wp2_with (at_builtin; refine wpList_push slQ rfl _ _ rfl rfl (base := base) (v := vo) (u := .slice Al Q.length cl) (L := OV) (ad := ⟨w5.heap.size, 0, none⟩) (c2 := 1) rfl rfl ?hv ?hb rfl ?hc ?hl ?_)
  case hv => exact HS6.out.ro
  case hb => exact HS6.out.lo
  case hc => rw [add_zero_off, World.cell?_alloc_at _ _ _ _ rfl]; rfl
  case hl => have := HS6.out.outer.1; omega
  intro b6 c6 w6 hG6
  obtain ⟨hc6, hf6⟩ := HS6.out.grewB hG6.gr HS6.out.no.1 2 (by decide)
  replace hc6 : w6.cell? ⟨sB, 2, none⟩ = some vo := hc6
  have hc63 : w6.cell? ⟨sB, 3, none⟩ = some vs := (HS6.out.grewB hG6.gr HS6.out.no.1 3 (by decide)).1
  obtain ⟨hp6, hs6⟩ := HS6.out.push2 ⟨hQ, fun x hx => Nat.le_trans (Hq.out x hx) hmx⟩ (OX1.out.step (Step.fresh _ ((RowKit.Below.refl _ w5).alloc (Nat.le_refl _) (Obj.cells #[Value.slice Al Q.length cl] 57)))) AP1.out hG6.has hG6.blk hG6.gr
  have s56 := (Step.fresh (Xb sB vl vw vo vs) ((RowKit.Below.refl _ w5).alloc (Nat.le_refl _) (Obj.cells #[Value.slice Al Q.length cl] 57))).trans hs6
  have HS7 := Lib.hid hp6
  have ST7 := Lib.hid (ST5.out.trans s56)
  have OX3 := Lib.hid (OX2.out.step (s56.or Z))
  have PL2 := Lib.hid (PL1.out.step (s56.or Z))
  have PM2 := Lib.hid (PM1.out.step (s56.or Z))
  clear hG6 hp6 hs6 s56 HS6 HS5 ST5 OX2 OX1 PL1 PM1 cB0 cB1 cB2 cB3 AP1
  have HS8 := Lib.hid (HS7.out.fresh ((RowKit.Below.refl _ _).alloc (Nat.le_refl _) (Obj.cells #[Value.slice Am Q.length cm] 57)))
  go_wp2_with (at_builtin; refine wpList_push slQ rfl _ _ rfl rfl (base := base) (v := vs) (u := .slice Am Q.length cm) (L := SV) (ad := ⟨w6.heap.size, 0, none⟩) (c2 := 1) rfl rfl ?hv ?hb rfl ?hc ?hl ?_)
  case hv => exact HS8.out.rs
  case hb => exact HS8.out.lo
  case hc => rw [add_zero_off, World.cell?_alloc_at _ _ _ _ (by simp)]; rfl
  case hl => have := HS8.out.was.1; omega
  intro b8 c8 w8 hG8
  obtain ⟨hc8, hf8⟩ := HS8.out.grewB hG8.gr HS8.out.ns.1 3 (by decide)
  replace hc8 : w8.cell? ⟨sB, 3, none⟩ = some vs := hc8
  have s78a := Step.fresh (XZ Z sB vl vw (.slice (some ⟨b6, 0, none⟩) (OV.length + 1) c6) vs) ((RowKit.Below.refl _ (w6.setCell ⟨sB, 2, none⟩ (.slice (some ⟨b6, 0, none⟩) (OV.length + 1) c6))).alloc (Nat.le_refl _) (Obj.cells #[Value.slice Am Q.length cm] 57))
  obtain ⟨hp8, hs8⟩ := HS8.out.push3 (OX3.out.step s78a) hG8.has hG8.blk hG8.gr
  have s78 := (Step.fresh (Xb sB vl vw (.slice (some ⟨b6, 0, none⟩) (OV.length + 1) c6) vs) ((RowKit.Below.refl _ (w6.setCell ⟨sB, 2, none⟩ (.slice (some ⟨b6, 0, none⟩) (OV.length + 1) c6))).alloc (Nat.le_refl _) (Obj.cells #[Value.slice Am Q.length cm] 57))).trans hs8
  have HS9 := Lib.hid hp8
  have ST9 := Lib.hid (ST7.out.trans s78)
  have PL3 := Lib.hid (PL2.out.step (s78.or Z))
  have PM3 := Lib.hid (PM2.out.step (s78.or Z))
  clear hG8 hp8 hs8 s78 s78a HS8 HS7 ST7 OX3 PL2 PM2 hc6 hf6 hc63
  go_wp2_with fail
  have G0 : Hid (SG (PP w.heap.size Al cl bl fl Am cm bm fm Q) base sB Z w0 vl vw (.slice (some ⟨b6, 0, none⟩) (OV.length + 1) c6) (.slice (some ⟨b8, 0, none⟩) (SV.length + 1) c8) LV WV (OV ++ [.slice Al Q.length cl]) (SV ++ [.slice Am Q.length cm]) RL RL (QO ++ [Q]) (QO ++ [Q]) mx (w8.setCell ⟨sB, 3, none⟩ (.slice (some ⟨b8, 0, none⟩) (SV.length + 1) c8))) := Lib.hid ⟨PP.mv, HS9.out, PL3.out, PM3.out⟩
  clear HS9 PL3 PM3 hc8 hf8 HP HR HA HA2 HW
  generalize Value.slice (some ⟨b6, 0, none⟩) (OV.length + 1) c6 = vo1 at G0 ST9
  generalize Value.slice (some ⟨b8, 0, none⟩) (SV.length + 1) c8 = vs1 at G0 ST9 ⊢
  obtain ⟨OV1, hOV1⟩ : ∃ OV1, OV ++ [Value.slice Al Q.length cl] = OV1 := ⟨_, rfl⟩
  obtain ⟨SV1, hSV1⟩ : ∃ SV1, SV ++ [Value.slice Am Q.length cm] = SV1 := ⟨_, rfl⟩
  obtain ⟨QO1, hQO1⟩ : ∃ QO1, QO ++ [Q] = QO1 := ⟨_, rfl⟩
  have hQ1 : QO1.length = QO.length + 1 := by rw [← hQO1]; simp
  rw [hOV1, hSV1, hQO1] at G0
  clear hOV1 hSV1 hQO1
  have hLVn : LV.length = RL.length := G0.out.ps.lists.1
  have hWVn : WV.length = RL.length := G0.out.ps.want.1
  go_loopg [12] Q.length (fun gg s12 wr => ∃ (i : Nat) (ul uw : Value) (LU WU : List Value), i ≤ Q.length ∧ Q.length - i ≤ gg ∧ s12 = .int .i64 i ∧ Aside (SG (PP w.heap.size Al cl bl fl Am cm bm fm Q) base sB Z w0 ul uw vo1 vs1 LU WU OV1 SV1 (RL ++ Q.take i) (RL ++ Q.take i) QO1 QO1 mx wr ∧ Step (Xb sB vl vw vo vs) w (Xb sB ul uw vo1 vs1) wr ∧ ∀ a ∈ LU, (∀ k, a.ownBlock = some k → k < w.heap.size) ∨ ∃ j, j < i ∧ a = fl j))
  case atStart => exact ⟨0, vl, vw, LV, WV, Nat.zero_le _, by omega, rfl, by rw [List.take_zero, List.append_nil]; exact G0.out, ST9.out, fun a ha => .inl (NL.out a ha)⟩
  case round =>
    clear G0 ST9 NL
    obtain ⟨i, ul, uw, LU, WU, hi, hg, rfl, HH⟩ := hrel
    by_cases hlt : i < Q.length
    · have hltz : (i : Int) < (Q.length : Int) := by omega
      obtain ⟨hG, hST, hAP⟩ := HH.out
      clear HH
      have hq1 : Q[i]? = some Q[i] := List.getElem?_eq_getElem hlt
      have hqm := Hq.out Q[i] (List.getElem_mem hlt)
      obtain ⟨rfl, hb1, hx1, hl1, ha1⟩ := hG.ex.1.at_ (by omega)
      obtain ⟨rfl, hb2, hx2, hl2, ha2⟩ := hG.ex.2.at_ (by omega)
      obtain ⟨hc1, hu1⟩ := ha1 i _ hq1
      obtain ⟨Ag, cg, hfi, hcg, _⟩ := hu1.kx
      rw [hfi] at hc1
      obtain ⟨hc2, hu2⟩ := ha2 i _ hq1
      have hcB := hG.ps.cellsB.1
      have hsB2 := hG.ps.cellsB.2.2.2.2
      have hlo := HS_lo
      have HAPU : Hid (∀ a ∈ LU, a.ownBlock = none ∨ a.ownBlock ≠ (fl i).ownBlock) := Lib.hid (fun a ha => by
        rcases hAP a ha with h | ⟨j, hj, rfl⟩
        · cases e : a.ownBlock with
          | none => exact .inl rfl
          | some k => exact .inr fun e2 => by have := h k e; have := (hu1.block k e2.symm).1; omega
        · exact hG.ex.1.ap j i hj hlt)
      have hLUn : LU.length = (RL ++ Q.take i).length := hG.ps.lists.1
      have hWUn : WU.length = (RL ++ Q.take i).length := hG.ps.want.1
      rw [List.length_append, List.length_take] at hLUn hWUn
      have HLUn := Lib.hid hLUn
      have HWUn := Lib.hid hWUn
      clear hLUn hWUn
      have HU1 := Lib.hid (hu1.lower hlo)
      have HAP := Lib.hid hAP
      have HC2 := Lib.hid hc2
      have HU2 := Lib.hid hu2
      have HST := Lib.hid hST
      have Hx2 := Lib.hid hx2
      clear hb1 hx1 ha1 hb2 hx2 ha2 hu1 hu2 hc2 hAP hST hq1
      go_upto_region 9 with fail
      go_cut [77] (fun _ wx => ∃ (ul2 : Value), SG (PP w.heap.size (some ⟨bl, 0, none⟩) cl bl fl (some ⟨bm, 0, none⟩) cm bm fm Q) base sB Z w0 ul2 uw vo1 vs1 (LU ++ [fl i]) WU OV1 SV1 (RL ++ Q.take i ++ [Q[i]]) (RL ++ Q.take i) QO1 QO1 mx wx ∧ Step (Xb sB vl vw vo vs) w (Xb sB ul2 uw vo1 vs1) wx)
      case first =>
        go_region_law (first
            | ((refine step_pushP hG HS_lo i hlt hfi (by omega) HAPU.out (by have := HLUn.out; omega) rfl _ _ rfl rfl rfl rfl rfl (by repeat (first | with_reducible exact BB.refl _ | with_reducible apply BB.drewN | with_reducible apply BB.drew | with_reducible apply BB.alloc)) (by repeat (first | with_reducible exact hcell_alloc (by simp) | with_reducible apply hcell_drewN | with_reducible apply hcell_drew)) ?_); intro b9 c9 w9 hH9 hc9 hf9)
            | fail)
        all_goals (go_wp2_with fail; go_meet; exact ⟨_, hH9.out.1, HST.out.trans hH9.out.2⟩)
      case rest =>
        obtain ⟨ul2, hG2, hST2⟩ := hcut
        clear hG HST HU1 HC2 HU2 Hx2 HAPU hcB hc1 hsB2
        have HST2 := Lib.hid hST2
        obtain ⟨_, hb3, hx3, hl3, ha3⟩ := hG2.ex.2.at_ (by omega)
        obtain ⟨hc3, hu3⟩ := ha3 i _ (List.getElem?_eq_getElem hlt)
        obtain ⟨Am2, cm2, hfm, hcm2, hkm⟩ := hu3.kx
        rw [hfm] at hc3
        have hcB1 := hG2.ps.cellsB.2.1
        have hsB3 := hG2.ps.cellsB.2.2.2.2
        have HKM := Lib.hid hkm
        clear hST2 hb3 hx3 ha3 hu3 hkm
        go_upto_region 10 with fail
        go_region_law (first
            | ((refine step_pushC hG10.out hb10.out hcu hku.out (by have := HWUn.out; omega) rfl _ _ rfl rfl rfl rfl rfl (by repeat (first | with_reducible exact BB.refl _ | with_reducible apply BB.drewN | with_reducible apply BB.drew | with_reducible apply BB.alloc)) (by repeat (first | with_reducible exact hcell_alloc (by simp) | with_reducible apply hcell_drewN | with_reducible apply hcell_drew)) ?_); intro b11 c11 w11 hH11 hc11 hf11)
            | (go_simp; go_at_call 67; (refine (copied_C hG2 (by repeat (first | with_reducible exact BB.refl _ | with_reducible apply BB.drewN | with_reducible apply BB.drew | with_reducible apply BB.alloc)) HKM.out (by omega) hcm2).mono ?_); rintro e w10 ⟨Au, cu, rfl, hcu, hku, hG10, hb10, hc10, hs10⟩; go_wp2_with fail)
            | fail)
        all_goals
          go_wp2_with fail
          go_roundg (Q.length - (i + 1))
          case measure => omega
          case rel =>
            refine ⟨i + 1, ul2, _, LU ++ [fl i], WU ++ [.slice Au Q[i].length cu], by omega, by omega, by go_num, (show Aside _ from ⟨?_, HST2.out.trans hH11.out.2, fun a ha => ?_⟩)⟩
            · rw [take_more Q i hlt, ← List.append_assoc]
              exact hH11.out.1
            · rcases List.mem_append.mp ha with h | h
              · rcases HAP.out a h with h1 | ⟨j, hj, h1⟩
                · exact .inl h1
                · exact .inr ⟨j, by omega, h1⟩
              · exact .inr ⟨i, by omega, List.mem_singleton.mp h⟩
    · have hltz : ¬ (i : Int) < (Q.length : Int) := by omega
      obtain rfl : i = Q.length := by omega
      go_wp2_with fail
      go_ret
      obtain ⟨h1, h2, _⟩ := HH.out
      exact ⟨rfl, ul, uw, vo1, vs1, LU, WU, OV1, SV1, _, QO1, h1.ps, h2, by simp; omega, hQ1⟩
end Go.Proofs.Ytbmfldoobkeieaa.PlShelf

namespace Go.Proofs.Ytbmfldoobkeieaa.PlShelf
open Go.RowKit Go.Lib Go.Sort Go.Proofs.Ytbmfldoobkeieaa.Own Go.Proofs.Ytbmfldoobkeieaa.KForm Go.Proofs.Ytbmfldoobkeieaa.PlMem Go.Proofs.Ytbmfldoobkeieaa.PlPure Go.Proofs.Ytbmfldoobkeieaa.PlCalls
set_option linter.unusedVariables false
set_option linter.unusedSimpArgs false
theorem BB.trans {a b c : World} (h : BB a b) (k : BB b c) : BB a c := RowKit.Below.trans h (RowKit.Below.mono k h.size)
/-- Rises, Find: one answer, by the program and by the document -/
theorem rises_two (l : List (Int × Int)) (hl : l.length < 4398046511104) : ∃ r : Bool,
    (∀ (A : Option Addr) (c : Nat) (w : World), KR w A l → l.length ≤ c → Calls Try.prog 56 #[.slice A l.length c] w fun e w' => e = .returned (.bool r) ∧ BB w w') ∧
    ∀ (A : Option Addr) (c : Nat) (w : World), KR w A l → l.length ≤ c → Calls Try.prog 57 #[.slice A l.length c] w fun e w' => e = .returned (.bool r) ∧ BB w w' :=
  ⟨risesB l, fun A c w h hc => prises_calls A c l w h (by omega) hc, fun A c w h hc => rrises_calls A c l w h (by omega) hc⟩
theorem find_two (l : List (Int × Int)) (hl : l.length < 4398046511104) (k1 k2 : Int) : ∃ (N : Int) (I : Bool),
    (∀ (A : Option Addr) (c : Nat) (w : World), ListAt w A l → l.length ≤ c → Calls Try.prog 59 #[.slice A l.length c, .agg #[.int .i64 k1, .int .i64 k2]] w fun e w' => e = .returned (.tuple #[.int .i64 N, .bool I]) ∧ BB w w') ∧
    ∀ (A : Option Addr) (c : Nat) (w : World), KR w A l → l.length ≤ c → Calls Try.prog 60 #[.slice A l.length c, .agg #[.int .i64 k1, .int .i64 k2]] w fun e w' => e = .returned (.tuple #[.int .i64 N, .bool I]) ∧ BB w w' :=
  ⟨_, _, fun A c w h hc => pfind_calls A c l (k1, k2) w h (by omega) hc, fun A c w h hc => rfind_calls A c l (k1, k2) w h (by omega) hc⟩
/-- a call beside a box -/
theorem calls_at {f : FuncId} {args : Array Value} {w2 W : World} {x : Value} {ob : Nat} {kd : Int} {v1 v2 : Value} {k1 k2 n : Int} (hQ : Hid (BX ob kd v1 v2 k1 k2 n w2)) (hb : BB w2 W) (hC : Calls Try.prog f args W fun e w' => e = .returned x ∧ BB W w') :
    Calls Try.prog f args W fun e w' => e = .returned x ∧ Hid (BB w2 w') ∧ w'.cell? ⟨ob, 1, none⟩ = some v1 ∧ ob < w'.heap.size := by
  refine hC.mono ?_
  rintro e w' ⟨he, h⟩
  have k := BB.trans hb h
  exact ⟨he, Lib.hid k, (hQ.out.below k).c1, (hQ.out.below k).lt⟩
set_option maxHeartbeats 8000000 in
set_option maxRecDepth 100000 in
theorem ask_calls {sB : Nat} {w0 : World} {vl vw vo vs : Value} {LV WV OV SV : List Value} {RL : List (List (Int × Int))} {QO : List (List (List (Int × Int)))} {mx : Nat} {w : World} (h : PS w0.heap.size sB (fun _ => False) w0 vl vw vo vs LV WV OV SV RL RL QO QO mx w)
    (A A2 : Option Addr) (c c2 : Nat) (la lb : List (Int × Int)) (kd k1 k2 n : Int) (hA : KR w0 A la) (hA2 : KR w0 A2 lb) (hnA : A = none → la = []) (hnB : A2 = none → lb = []) (hc : la.length ≤ c) (hc2 : lb.length ≤ c2) (hmx : la.length + lb.length ≤ mx) (hmx2 : mx ≤ 1073741824) (hw : ∀ x ∈ la, -9223372036854775808 ≤ x.2 ∧ x.2 ≤ 9223372036854775807)
    (hRL : RL.length ≤ 536870000) (hQO : QO.length ≤ 536870000) :
    Calls Try.prog 47 #[.pointer (some ⟨sB, 0, none⟩), .agg #[.int .i64 kd, .slice A la.length c, .slice A2 lb.length c2, .int .i64 k1, .int .i64 k2, .int .i64 n]] w fun e w' => e = .returned (.bool true) ∧
      ∃ vl' vw' vo' vs' LV' WV' OV' SV' RL' QO', PS w0.heap.size sB (fun _ => False) w0 vl' vw' vo' vs' LV' WV' OV' SV' RL' RL' QO' QO' mx w' ∧ RL'.length ≤ RL.length + 257 ∧ QO'.length ≤ QO.length + 1 := by
  have HA := Lib.hid hA
  have HA2 := Lib.hid hA2
  have HW := Lib.hid hw
  have HNB := Lib.hid hnB
  have P0 := Lib.hid (h.fresh ((RowKit.Below.refl _ w).alloc (Nat.le_refl _) (Obj.cells #[.int .i64 kd, .slice A la.length c, .slice A2 lb.length c2, .int .i64 k1, .int .i64 k2, .int .i64 n] 75)))
  have X0 : Hid (∀ b, Xb sB vl vw vo vs b → b < w.heap.size) := Lib.hid (fun b hb => (h.xge b hb).2)
  have L0 := Lib.hid h.lo
  clear h hA hA2 hw hnB
  go_enter Try.func47, Try.ntmps47
  go_wp2_with fail
  have Q0 : Hid (BX w.heap.size kd (.slice A la.length c) (.slice A2 lb.length c2) k1 k2 n _) := Lib.hid (BX.new w kd (.slice A la.length c) (.slice A2 lb.length c2) k1 k2 n 75)
  refine (lent_calls A c la _ (HA.out.below P0.out.below) hnA (by omega)).mono ?_
  rintro e w1 ⟨v5, rfl, hl5, hb5⟩
  have Q1 := Lib.hid (Q0.out.below hb5)
  have P1 := Lib.hid (P0.out.lend hb5 v5 (fun g hg => Lent.block hl5 g hg))
  have L5 := Lib.hid hl5
  have hq2 := Q1.out.c2
  clear Q0 P0 hb5
  go_wp2_with fail
  refine (lent_calls A2 c2 lb _ (HA2.out.below P1.out.below) HNB.out (by omega)).mono ?_
  rintro e w2 ⟨v6, rfl, hl6, hb6⟩
  have Q2 := Lib.hid (Q1.out.below hb6)
  have P2 := Lib.hid (P1.out.lend hb6 v6 (fun g hg => Lent.block hl6 g hg))
  have L5b : Hid (Lent w2 (w.heap.size + 1) v5 A la) := Lib.hid (Lent.keep (by simpa using L5.out : Lent w1 (w.heap.size + 1) v5 A la) (fun b hb => hb6.block b (Lent.block L5.out b hb).2))
  have L6 := Lib.hid hl6
  have N56 : Hid (∀ b, v6.ownBlock = some b → v5.ownBlock ≠ some b) := Lib.hid (fun b hb e => by have := (Lent.block hl6 b hb).1; have := (Lent.block L5.out b e).2; omega)
  have B1 : Hid (w.heap.size + 1 ≤ w1.heap.size) := Lib.hid (by have := Q1.out.lt; omega)
  clear hq2 Q1 P1 hl5 hl6 hb6 L5
  obtain ⟨Z, hZe⟩ : ∃ Z : Nat → Prop, Z = (fun b => (fun b => False ∨ v5.ownBlock = some b) b ∨ v6.ownBlock = some b) := ⟨_, rfl⟩
  have P3 : Hid (PS w0.heap.size sB Z w0 vl vw vo vs LV WV OV SV RL RL QO QO mx w2) := Lib.hid (by rw [hZe]; exact P2.out)
  have Z5 : Hid (∀ b, v5.ownBlock = some b → Z b) := Lib.hid (fun b hb => by rw [hZe]; exact .inl (.inr hb))
  have Z6 : Hid (∀ b, v6.ownBlock = some b → Z b) := Lib.hid (fun b hb => by rw [hZe]; exact .inr hb)
  clear P2 hZe
  obtain ⟨G5, c5, hv5, hc5, hla⟩ := Lent.list L5b.out
  obtain ⟨G6, c6, hv6, hc6, hlb⟩ := Lent.list L6.out
  subst hv5
  subst hv6
  have LA := Lib.hid hla
  have LB := Lib.hid hlb
  clear hla hlb
  have FG : Hid (∀ W, BB w2 W → ListAt W G5 la ∧ KR W G5 la) := Lib.hid (fun W hb => ⟨ListAt.below LA.out hb, fun h0 => ListAt.keys (ListAt.below LA.out hb) h0⟩)
  have FH : Hid (∀ W, BB w2 W → ListAt W G6 lb ∧ KR W G6 lb) := Lib.hid (fun W hb => ⟨ListAt.below LB.out hb, fun h0 => ListAt.keys (ListAt.below LB.out hb) h0⟩)
  have FA : Hid (∀ W, BB w2 W → KR W A la) := Lib.hid (fun W hb => HA.out.below (P3.out.fresh hb).below)
  have FB : Hid (∀ W, BB w2 W → KR W A2 lb) := Lib.hid (fun W hb => HA2.out.below (P3.out.fresh hb).below)
  have hq0 := Q2.out.c0
  have hq1 := Q2.out.c1
  have hq2 := Q2.out.c2
  have hq3 := Q2.out.c3
  have hq4 := Q2.out.c4
  have hq5 := Q2.out.c5
  have hqlt := Q2.out.lt
  go_upto_block 0 with fail
  go_cut [7, 8, 9, 10, 11] (fun s7 s8 s9 s10 s11 W => (∃ t : Int, s9 = .int .i64 t ∧ s10 = .int .i64 t) ∧ s11 = .bool true ∧ Arm w0.heap.size sB Z w0 vl vw vo vs RL.length QO.length mx w2 s7 s8 W)
  case first =>
    by_cases e0 : kd = 0
    · subst e0
      obtain ⟨rb, hr1, hr2⟩ := rises_two la (by omega)
      have R1 := Lib.hid hr1
      have R2 := Lib.hid hr2
      clear hr1 hr2
      go_upto_region 8 with fail
      go_region_law (first
        | (go_simp; go_at_call 56; (refine (calls_at Q2 (by repeat (first | with_reducible exact BB.refl _ | with_reducible apply BB.drewN | with_reducible apply BB.drew | with_reducible apply BB.alloc)) (R1.out G5 c5 _ ((FG.out _ (by repeat (first | with_reducible exact BB.refl _ | with_reducible apply BB.drewN | with_reducible apply BB.drew | with_reducible apply BB.alloc))).2) hc5)).mono ?_); rintro e w3 ⟨rfl, hb3, hc31, hlt3⟩; go_wp2_with fail)
        | (go_simp; go_at_call 57; (refine (R2.out A c _ (FA.out _ (BB.trans hb3.out (by repeat (first | with_reducible exact BB.refl _ | with_reducible apply BB.drewN | with_reducible apply BB.drew | with_reducible apply BB.alloc)))) hc).mono ?_); rintro e w4 ⟨rfl, hb4⟩; have hb24 := Lib.hid (BB.trans (BB.trans hb3.out (by repeat (first | with_reducible exact BB.refl _ | with_reducible apply BB.drewN | with_reducible apply BB.drew | with_reducible apply BB.alloc))) hb4); go_wp2_with fail)
        | fail)
      all_goals (go_wp2_with fail; go_meet; exact ⟨⟨0, rfl, rfl⟩, rfl, Arm.nil P3.out hb24.out⟩)
    by_cases e1 : kd = 1
    · subst e1
      go_wp2_with fail
      refine (psort_calls G5 c5 la _ (by omega) hc5 (FG.out _ (BB.refl _)).1).mono ?_
      rintro e w3 ⟨v7, rfl, ho7, hb7⟩
      have hq31 := (Q2.out.below hb7).c1
      have hq32 := (Q2.out.below hb7).c2
      have hlt3 := (Q2.out.below hb7).lt
      go_wp2_with fail
      refine (rsort_own A c la _ (by omega) hc (FA.out _ hb7)).mono ?_
      rintro e w4 ⟨v8, rfl, ho8, hb8⟩
      go_wp2_with fail
      go_meet
      exact ⟨⟨_, rfl, rfl⟩, rfl, Arm.two P3.out hb7 ho7 hb8 ho8 (Nat.le_trans (sortR_len la) (by omega))⟩
    by_cases e2 : kd = 2
    · subst e2
      obtain ⟨N, I, hr1, hr2⟩ := find_two la (by omega) k1 k2
      have R1 := Lib.hid hr1
      have R2 := Lib.hid hr2
      clear hr1 hr2
      go_wp2_with fail
      refine (R1.out G5 c5 _ (FG.out _ (BB.refl _)).1 hc5).mono ?_
      rintro e w3 ⟨rfl, hb7⟩
      have hq31 := (Q2.out.below hb7).c1
      have hq33 := (Q2.out.below hb7).c3
      have hq34 := (Q2.out.below hb7).c4
      have hlt3 := (Q2.out.below hb7).lt
      go_wp2_with fail
      refine (R2.out A c _ (FA.out _ hb7) hc).mono ?_
      rintro e w4 ⟨rfl, hb8⟩
      go_wp2_with fail
      go_meet
      exact ⟨⟨0, rfl, rfl⟩, rfl, Arm.nil P3.out (BB.trans hb7 hb8)⟩
    by_cases e3 : kd = 3
    · subst e3
      go_wp2_with fail
      refine (punion_calls G5 G6 c5 c6 la lb _ (FG.out _ (BB.refl _)).1 (FH.out _ (BB.refl _)).1 (by omega) (by omega) hc5 hc6).mono ?_
      rintro e w3 ⟨v7, rfl, ho7, hb7⟩
      have hq31 := (Q2.out.below hb7).c1
      have hq32 := (Q2.out.below hb7).c2
      have hlt3 := (Q2.out.below hb7).lt
      go_wp2_with fail
      refine (runion_own A A2 c c2 la lb _ (FA.out _ hb7) (FB.out _ hb7) (by omega) (by omega) hc hc2).mono ?_
      rintro e w4 ⟨v8, rfl, ho8, hb8⟩
      go_wp2_with fail
      go_meet
      exact ⟨⟨_, rfl, rfl⟩, rfl, Arm.two P3.out hb7 ho7 hb8 ho8 (Nat.le_trans (setR_len true true true la lb (by simp)) (by omega))⟩
    by_cases e4 : kd = 4
    · subst e4
      go_wp2_with fail
      refine (pmeet_calls G5 G6 c5 c6 la lb _ (FG.out _ (BB.refl _)).1 (FH.out _ (BB.refl _)).1 (by omega) (by omega) hc5 hc6).mono ?_
      rintro e w3 ⟨v7, rfl, ho7, hb7⟩
      have hq31 := (Q2.out.below hb7).c1
      have hq32 := (Q2.out.below hb7).c2
      have hlt3 := (Q2.out.below hb7).lt
      go_wp2_with fail
      refine (rmeet_own A A2 c c2 la lb _ (FA.out _ hb7) (FB.out _ hb7) (by omega) (by omega) hc hc2).mono ?_
      rintro e w4 ⟨v8, rfl, ho8, hb8⟩
      go_wp2_with fail
      go_meet
      exact ⟨⟨_, rfl, rfl⟩, rfl, Arm.two P3.out hb7 ho7 hb8 ho8 (Nat.le_trans (setR_len false true false la lb (by simp)) (by omega))⟩
    by_cases e5 : kd = 5
    · subst e5
      go_wp2_with fail
      refine (pminus_calls G5 G6 c5 c6 la lb _ (FG.out _ (BB.refl _)).1 (FH.out _ (BB.refl _)).1 (by omega) (by omega) hc5 hc6).mono ?_
      rintro e w3 ⟨v7, rfl, ho7, hb7⟩
      have hq31 := (Q2.out.below hb7).c1
      have hq32 := (Q2.out.below hb7).c2
      have hlt3 := (Q2.out.below hb7).lt
      go_wp2_with fail
      refine (rminus_own A A2 c c2 la lb _ (FA.out _ hb7) (FB.out _ hb7) (by omega) (by omega) hc hc2).mono ?_
      rintro e w4 ⟨v8, rfl, ho8, hb8⟩
      go_wp2_with fail
      go_meet
      exact ⟨⟨_, rfl, rfl⟩, rfl, Arm.two P3.out hb7 ho7 hb8 ho8 (Nat.le_trans (setR_len true false false la lb (by simp)) (by omega))⟩
    by_cases e6 : kd = 6
    · subst e6
      go_wp2_with fail
      refine (split_calls P3.out G5 A A2 c5 c lb.length c2 la 6 k1 k2 n (FG.out _ (BB.refl _)).2 (FA.out _ (BB.refl _)) hc5 hc (by omega) hmx2 HW.out (by omega) (by omega)).mono ?_
      rintro e w3 ⟨rfl, xl, xw, xo, xs, LX', WX', OX', SX', RX', QX', hp, hs, hR, hQ⟩
      go_wp2_with fail
      go_meet
      exact ⟨⟨0, rfl, rfl⟩, rfl, Arm.put hp hs hR hQ⟩
    · go_wp2_with fail
      go_meet
      exact ⟨⟨0, rfl, rfl⟩, rfl, Arm.nil P3.out (BB.refl _)⟩
  case rest =>
    obtain ⟨⟨t, rfl, rfl⟩, rfl, r, ul, uw, uo, us, LU, WU, OU, SU, RL', QO', hp, hs, hR, hQ, hr, hg, hap, hn⟩ := hcut
    obtain ⟨Ag, cg, hvg, hcg, hkg⟩ := hg.kx
    obtain ⟨Aw, cw, hvn, hcw, hkn⟩ := hn.kx
    subst hvg
    subst hvn
    have L5c := Lib.hid (Lent.keep L5b.out (fun b hb => hs.keep b (Lent.block L5b.out b hb).2 (fun hx => P3.out.nz b hx (Z5.out b hb))))
    have L6c := Lib.hid (Lent.keep L6.out (fun b hb => hs.keep b (Lent.block L6.out b hb).2 (fun hx => P3.out.nz b hx (Z6.out b hb))))
    have Q3 := Lib.hid (Q2.out.step hs (fun hx => by have := X0.out _ hx; omega))
    have N5 : Hid (∀ b, (Value.slice G5 la.length c5).ownBlock = some b → w.heap.size + 1 ≤ b) := Lib.hid (fun b hb => (Lent.block L5b.out b hb).1)
    have N6 : Hid (∀ b, (Value.slice G6 lb.length c6).ownBlock = some b → w.heap.size + 1 ≤ b) := Lib.hid (fun b hb => Nat.le_trans B1.out (Lent.block L6.out b hb).1)
    have HP := Lib.hid hp
    have HG := Lib.hid hg
    have HKG := Lib.hid hkg
    have HKN := Lib.hid hkn
    have HAP := Lib.hid hap
    have hLU : LU.length = RL'.length := hp.lists.1
    have hWU : WU.length = RL'.length := hp.want.1
    have HLU := Lib.hid hLU
    have HWU := Lib.hid hWU
    clear hp hs hg hn hap hkg hkn L5b L6 Q2 P3 FG FH FA FB LA LB X0 L0 hq0 hq1 hq2 hq3 hq4 hq5 hqlt hLU hWU
    have hq1 := Q3.out.c1
    have hqlt := Q3.out.lt
    go_wp2_with fail
    refine (back_calls (w.heap.size + 1) (.slice G5 la.length c5) A A c 0 la _ L5c.out Iff.rfl (HA.out.below HP.out.below) (by omega) hc).mono ?_
    rintro e w5 ⟨rfl, hg5⟩
    obtain ⟨hp5, hz5⟩ := HP.out.over hg5 (fun b hb => Z5.out b hb)
    have L6d := Lib.hid (Lent.keep L6c.out (fun b hb => hg5.block b (Lent.block L6c.out b hb).2 (fun e => N56.out b hb e.symm)))
    have Q4 := Lib.hid (Q3.out.keep hg5.size (hg5.block _ Q3.out.lt (fun e => by have := N5.out _ e.symm; omega)))
    have HP5 := Lib.hid hp5
    have HG5 := Lib.hid (HG.out.step (Step.wide hz5 sB ul uw uo us))
    have HKG5 := Lib.hid (HKG.out.step (Step.wide hz5 sB ul uw uo us))
    have HKN5 := Lib.hid (HKN.out.step (Step.wide hz5 sB ul uw uo us))
    clear hp5 hz5 hg5 hq1 hqlt Q3 HP HG HKG HKN L5c L6c
    have hq2 := Q4.out.c2
    have hqlt := Q4.out.lt
    go_wp2_with fail
    refine (back_calls w1.heap.size (.slice G6 lb.length c6) A2 A2 c2 0 lb _ L6d.out Iff.rfl (HA2.out.below HP5.out.below) (by omega) hc2).mono ?_
    rintro e w6 ⟨rfl, hg6⟩
    obtain ⟨hp6, hz6⟩ := HP5.out.over hg6 (fun b hb => Z6.out b hb)
    have HP6 := Lib.hid hp6
    have HG6 := Lib.hid (HG5.out.step (Step.wide hz6 sB ul uw uo us))
    have HKG6 := Lib.hid (HKG5.out.step (Step.wide hz6 sB ul uw uo us))
    have HKN6 := Lib.hid (HKN5.out.step (Step.wide hz6 sB ul uw uo us))
    clear hp6 hz6 hg6 hq2 hqlt Q4 HP5 HG5 HKG5 HKN5 L6d Z5 Z6 N5 N6 N56
    obtain ⟨cB0, cB1, _, _, hsB⟩ := HP6.out.cellsB
    have sA := Step.fresh (XZ Z sB ul uw uo us) ((RowKit.Below.refl _ w6).alloc (Nat.le_refl _) (Obj.cells #[Value.slice Ag r.length cg] 22))
    have HP7 := Lib.hid (HP6.out.fresh ((RowKit.Below.refl _ w6).alloc (Nat.le_refl _) (Obj.cells #[Value.slice Ag r.length cg] 22)))
    have HG7 := Lib.hid (HG6.out.step sA)
    have HKG7 := Lib.hid (HKG6.out.step sA)
    have HKN7 := Lib.hid (HKN6.out.step sA)
    clear sA
    go_wp2_with (at_builtin; refine wpList_push slK rfl _ _ rfl rfl (base := w0.heap.size) (v := ul) (u := .slice Ag r.length cg) (L := LU) (ad := ⟨w6.heap.size, 0, none⟩) (c2 := 1) rfl rfl ?hv ?hb rfl ?hc ?hl ?_)
    case hv => exact HP7.out.rl
    case hb => exact HP7.out.lo
    case hc => rw [add_zero_off, World.cell?_alloc_at _ _ _ _ rfl]; rfl
    case hl => have := HLU.out; omega
    intro b8 c8 w8 hG8
    obtain ⟨hc8, hf8⟩ := HP7.out.grewB hG8.gr HP7.out.nl 0 (by decide)
    replace hc8 : w8.cell? ⟨sB, 0, none⟩ = some ul := hc8
    obtain ⟨hp8, hs8⟩ := HP7.out.push0 hr HG7.out HAP.out hG8.has hG8.blk hG8.gr
    have G9 : Hid (SG (fun X W => KX X W Ag r ∧ KX X W Aw r) w0.heap.size sB Z w0 (.slice (some ⟨b8, 0, none⟩) (LU.length + 1) c8) uw uo us (LU ++ [.slice Ag r.length cg]) WU OU SU (RL' ++ [r]) RL' QO' QO' mx (w8.setCell ⟨sB, 0, none⟩ (.slice (some ⟨b8, 0, none⟩) (LU.length + 1) c8))) := Lib.hid ⟨fun _ _ _ _ h s => ⟨h.1.step s, h.2.step s⟩, hp8, HKG7.out.step (hs8.or Z), HKN7.out.step (hs8.or Z)⟩
    clear hG8 hp8 hs8 HP7 HG7 HKG7 HKN7 HP6 HG6 HKG6 HKN6 cB0 cB1 HAP
    go_upto_region 30 with fail
    have hsB9 := G9.out.ps.cellsB.2.2.2.2
    have hcB9 := G9.out.ps.cellsB.2.1
    clear hc8 hf8 hsB
    generalize w8.setCell ⟨sB, 0, none⟩ (.slice (some ⟨b8, 0, none⟩) (LU.length + 1) c8) = w9 at G9 hsB9 hcB9 ⊢
    generalize Value.slice (some ⟨b8, 0, none⟩) (LU.length + 1) c8 = ul9 at G9 ⊢
    generalize LU ++ [Value.slice Ag r.length cg] = LU9 at G9
    go_cut [152] (fun _ wx => ∃ (uw2 : Value) (WU2 : List Value), SG (fun X W => KX X W Ag r ∧ KX X W Aw r) w0.heap.size sB Z w0 ul9 uw2 uo us LU9 WU2 OU SU (RL' ++ [r]) (RL' ++ [r]) QO' QO' mx wx)
    case first =>
      go_region_law (first
        | ((refine step_pushC hG10.out hb10.out hcu hku.out (by have := HWU.out; omega) rfl _ _ rfl rfl rfl rfl rfl (by repeat (first | with_reducible exact BB.refl _ | with_reducible apply BB.drewN | with_reducible apply BB.drew | with_reducible apply BB.alloc)) (by repeat (first | with_reducible exact hcell_alloc (by simp) | with_reducible apply hcell_drewN | with_reducible apply hcell_drew)) ?_); intro b11 c11 w11 hH11 hc11 hf11)
        | (go_simp; go_at_call 67; (refine (copied_C G9.out (by repeat (first | with_reducible exact BB.refl _ | with_reducible apply BB.drewN | with_reducible apply BB.drew | with_reducible apply BB.alloc)) G9.out.ex.2 (by omega) hcw).mono ?_); rintro e w10 ⟨Au, cu, rfl, hcu, hku, hG10, hb10, hc10, hs10⟩; go_wp2_with fail)
        | fail)
      all_goals (go_wp2_with fail; go_meet; exact ⟨_, _, hH11.out.1⟩)
    case rest =>
      obtain ⟨uw2, WU2, hG⟩ := hcut
      have G10 := Lib.hid hG
      clear hG G9 hcB9 hsB9
      go_wp2_with fail
      refine (num_calls t _).mono ?_
      rintro e w12 ⟨rfl, hb12⟩
      go_wp2_with fail
      refine (num_calls t _).mono ?_
      rintro e w13 ⟨rfl, hb13⟩
      have G13 := Lib.hid ((G10.out.fresh hb12).fresh hb13)
      clear G10 hb12 hb13
      go_wp2_with fail
      refine (same_calls Ag Aw cg cw r _ G13.out.ex.1.kr G13.out.ex.2.kr (by omega) hcg hcw).mono ?_
      rintro e w14 ⟨rfl, hb14⟩
      go_wp2_with fail
      go_ret
      exact ⟨rfl, _, _, _, _, _, _, _, _, _, _, (G13.out.fresh hb14).ps.drop, by rw [List.length_append, List.length_singleton]; omega, hQ⟩
end Go.Proofs.Ytbmfldoobkeieaa.PlShelf

namespace Go.Proofs.Ytbmfldoobkeieaa.PlMem
open Go.RowKit Go.Lib Go.Sort Go.Proofs.Ytbmfldoobkeieaa.Own Go.Proofs.Ytbmfldoobkeieaa.KForm Go.Proofs.Ytbmfldoobkeieaa.PlPure Go.Proofs.Ytbmfldoobkeieaa.PlCalls
set_option linter.unusedVariables false
set_option linter.unusedSimpArgs false
/-- what a round of the marking reads, wherever the world has gone on -/
def RS (w0 : World) (B k : Nat) (vk : Value) (b o : Nat) (u1 u2 : Value) (W : World) : Prop :=
  (W.cell? ⟨B, k, none⟩ = some vk ∧ W.cell? ⟨b, o, none⟩ = some u1 ∧ W.cell? ⟨b, o + 1, none⟩ = some u2 ∧ W.frozen? ⟨b, o, none⟩ = false ∧ W.frozen? ⟨b, o + 1, none⟩ = false) ∧ RowKit.Below w0.heap.size w0 W ∧ B < w0.heap.size ∧ b < w0.heap.size
theorem RS.step {w0 : World} {B k : Nat} {vk : Value} {b o : Nat} {u1 u2 : Value} {W W' : World} (h : RS w0 B k vk b o u1 u2 W) (hb : RowKit.Below W.heap.size W W') : RS w0 B k vk b o u1 u2 W' := by
  obtain ⟨⟨h1, h2, h3, h4, h5⟩, h6, h7, h8⟩ := h
  have hs := h6.size
  have eB := hb.block B (by omega)
  have eb := hb.block b (by omega)
  exact ⟨⟨(World.cell?_of_block (w := W) (w' := W') (a := ⟨B, k, none⟩) eB).trans h1, (World.cell?_of_block (w := W) (w' := W') (a := ⟨b, o, none⟩) eb).trans h2, (World.cell?_of_block (w := W) (w' := W') (a := ⟨b, o + 1, none⟩) eb).trans h3,
    (World.frozen?_of_block (w := W) (w' := W') (a := ⟨b, o, none⟩) eb).trans h4, (World.frozen?_of_block (w := W) (w' := W') (a := ⟨b, o + 1, none⟩) eb).trans h5⟩, h6.trans (hb.mono hs), h7, h8⟩
theorem RS.drew {w0 : World} {B k : Nat} {vk : Value} {b o : Nat} {u1 u2 : Value} {W : World} (h : RS w0 B k vk b o u1 u2 W) : RS w0 B k vk b o u1 u2 W.drew := h.step (RowKit.Below.refl _ _).drew
/-- the list's place in the row of lists -/
def CB (B k : Nat) (vk : Value) (W : World) : Prop := W.cell? ⟨B, k, none⟩ = some vk
theorem CB.drew {B k : Nat} {vk : Value} {W : World} (h : CB B k vk W) : CB B k vk W.drew := h
theorem CB.set {B k b o : Nat} {vk u : Value} {W : World} (hne : b ≠ B) (h : CB B k vk W) : CB B k vk (W.setCell ⟨b, o, none⟩ u) := (World.cell?_setCell_other _ _ _ _ (fun e => hne (by injection e))).trans h
theorem mark_calls (i : Nat) (hi : i ≤ 4611686018427387903) (w : World) : Calls Try.prog 69 #[.int .i64 (i : Int)] w fun e w' => e = .returned (.agg #[.int .i64 (-20 - (i : Int)), .int .i64 (i : Int)]) ∧ RowKit.Below w.heap.size w w' :=
  GRf.preludelaw02_mark.calls (i : Int) _ _ w (mark_f i hi)
theorem mark_rs {w0 : World} {B k : Nat} {vk : Value} {b o : Nat} {u1 u2 : Value} {W : World} (h : RS w0 B k vk b o u1 u2 W) (i : Nat) (hi : i ≤ 4611686018427387903) :
    Calls Try.prog 69 #[.int .i64 (i : Int)] W fun e w' => e = .returned (.agg #[.int .i64 (-20 - (i : Int)), .int .i64 (i : Int)]) ∧ (w'.cell? ⟨B, k, none⟩ = some vk ∧ w'.cell? ⟨b, o, none⟩ = some u1 ∧ w'.cell? ⟨b, o + 1, none⟩ = some u2 ∧ w'.frozen? ⟨b, o, none⟩ = false ∧ w'.frozen? ⟨b, o + 1, none⟩ = false) ∧ RS w0 B k vk b o u1 u2 w' ∧ CB B k vk w' :=
  (mark_calls i hi W).mono fun e w' ⟨he, hb⟩ => ⟨he, (h.step hb).1, h.step hb, (h.step hb).1.1⟩
theorem full_kr {w : World} {τ : Nat → Option Nat} {i n : Nat} {v : Value} (h : Full w τ i v n) : ∃ A c, v = .slice A (List.replicate n (mkK i)).length c ∧ (List.replicate n (mkK i)).length ≤ c ∧ KR w A (List.replicate n (mkK i)) := by
  rw [List.length_replicate]
  rcases h with ⟨rfl, rfl⟩ | ⟨b, c, M, f, rfl, _, hrow, hn, hcM, hg⟩
  · exact ⟨none, 0, rfl, Nat.le_refl _, fun h => absurd h (by simp)⟩
  · refine ⟨_, c, rfl, hn, fun h0 => ⟨_, rfl, hrow.lt, fun j hj t u hu => ?_⟩⟩
    rw [List.length_replicate] at hj
    have e : (List.replicate n (mkK i))[j]! = mkK i := by rw [List.getElem!_eq_getElem?_getD, List.getElem?_replicate, if_pos hj]; rfl
    rw [e] at hu
    have h1 := hg (j * 2) (by omega)
    have h2 := hg (j * 2 + 1) (by omega)
    have h1 : f (j * 2) = .int .i64 (-20 - (i : Int)) := by rw [show f (j * 2) = mkV i (j * 2) from h1]; unfold mkV; rw [if_pos (by omega)]
    have h2 : f (j * 2 + 1) = .int .i64 (i : Int) := by rw [show f (j * 2 + 1) = mkV i (j * 2 + 1) from h2]; unfold mkV; rw [if_neg (by omega)]
    rw [Addr.add_lit, Nat.zero_add]
    match t, hu with
    | 0, hu => rw [← Option.some.inj hu, Nat.add_zero, hrow.cell (by omega), h1]; rfl
    | 1, hu => rw [← Option.some.inj hu, hrow.cell (by omega), h2]; rfl
theorem full_calls {w : World} {τ : Nat → Option Nat} {i n : Nat} {v : Value} (h : Full w τ i v n) (hi : i ≤ 4611686018427387903) (hn : n ≤ 4611686018427387903) :
    Calls Try.prog 88 #[v, .int .i64 (i : Int)] w fun e w' => e = .returned (.bool true) ∧ RowKit.Below w.heap.size w w' := by
  obtain ⟨A, c, rfl, hc, hk⟩ := full_kr h
  have hl : (List.replicate n (mkK i)).length = n := List.length_replicate
  have := GRf.preludelaw02_full.calls (n + 1) A c ((List.replicate n (mkK i)).map tS) (i : Int) true w (KR.CR hk (by omega)) (by rw [List.length_map]; exact hc) (full_f i hi _ (by omega) (fun x hx => List.eq_of_mem_replicate hx) _ (by omega))
  rw [List.length_map] at this
  exact this
theorem idx_div (p m : Nat) (hm : m < 21) : (21 * p + m) / 21 = p := by omega
theorem wpList_mul21 {P : Program} {ops : Array Oper} {rest : List Oper} {o : Oper} {a : Act} {w : World} {Q : Exit → Act → World → Prop} {t1 t2 : TypeId} (hgd : o.guard = none) (x : Operand) (ho : o.op = .binOp .mul t1 (.const (.int .i64 21)) x t2) (p M : Nat) (hx : a.eval x = .int .i64 (p : Int)) (hM : wrap64 (21 * (p : Int)) = (M : Int))
    (hK : wpList P ops Q rest (a.put o.dst (.int .i64 (M : Int))) w) : wpList P ops Q (o :: rest) a w := by
  refine wpList_plain hgd fun K hK' => ?_
  have hw : IntKind.i64.wrap (21 * (p : Int)) = (M : Int) := by rw [IntKind.wrap_i64]; unfold wrap64 at hM; exact hM
  have hc : a.eval (.const (.int .i64 21)) = .int .i64 21 := rfl
  unfold Oper.wp
  have e : (binOp .mul t1 (.int .i64 21) (.int .i64 (p : Int))).run P w = .ok (.int .i64 (M : Int)) w := by
    simp only [binOp, Op.intArith, ne_eq, not_true_eq_false, if_false]
    rw [hw]
    rfl
  simp [execOp, ho, hx, e, hc, eqGuard, Result.andThen]
  exact hK' _ _ hK
theorem idx_mul (p m q T : Nat) (hT : 21 * q = T) (hq : q ≤ 1073741824) (hp : p < q) (hm : m < 21) :
    ∃ P : Nat, wrap64 (21 * (p : Int)) = (P : Int) ∧ P + m < T ∧ (P + m) / 21 = p ∧ P ≤ 22548578304 :=
  ⟨21 * p, by unfold wrap64; omega, by omega, by omega, by omega⟩
theorem GR.at {base T B mx : Nat} {w : World} {τ : Nat → Option Nat} {v : Value} (h : GR base w τ v T B mx) {t : Nat} (ht : t < T) : ∃ b c n u, v = .slice (some ⟨b, 0, none⟩) T c ∧ T ≤ c ∧ w.cell? ⟨b, t, none⟩ = some u ∧ n ≤ mx ∧ Full w τ (t / 21) u n := by
  obtain ⟨G, h1, h2, h3⟩ := h
  rcases h1 with ⟨_, h0⟩ | ⟨b, c, f, hv, hb, hrow, hn, hm, hg⟩
  · omega
  · obtain ⟨n, hn2, hf⟩ := h3 t ht
    refine ⟨b, c, n, G t, hv, hn, ?_, hn2, hf⟩
    rw [hrow.cell (by omega), show f t = G t from hg t (by omega)]
/-- one key of a list is written over by its mark -/
theorem round_mark {base N B k m b M : Nat} {V : Nat → Value} {L : Nat → Nat} {w wr w1 : World} {τ0 : Nat → Option Nat} {f2 : Nat → Value} (hbl : RowKit.Below base w wr) (hbase : base ≤ w.heap.size) (hb : base ≤ b) (hBw : B < wr.heap.size) (hne : b ≠ B) (htb : τ0 b = some k)
    (hc : ∀ i, i < N → wr.cell? ⟨B, i, none⟩ = some (V i)) (ho : ∀ i, i < N → i ≠ k → Mem wr τ0 i (V i) (L i) (fun j x => i < k → x = mkV i j)) (hr : wr.rowIs b 29 M f2) (hf : ∀ j, j < m * 2 → f2 j = mkV k j) (h1 : RowKit.Below wr.heap.size wr w1) :
    RowKit.Below base w ((w1.setCell ⟨b, m * 2, none⟩ (.int .i64 (-20 - (k : Int)))).setCell ⟨b, m * 2 + 1, none⟩ (.int .i64 (k : Int))) ∧
    (∀ i, i < N → ((w1.setCell ⟨b, m * 2, none⟩ (.int .i64 (-20 - (k : Int)))).setCell ⟨b, m * 2 + 1, none⟩ (.int .i64 (k : Int))).cell? ⟨B, i, none⟩ = some (V i)) ∧
    (∀ i, i < N → i ≠ k → Mem ((w1.setCell ⟨b, m * 2, none⟩ (.int .i64 (-20 - (k : Int)))).setCell ⟨b, m * 2 + 1, none⟩ (.int .i64 (k : Int))) τ0 i (V i) (L i) (fun j x => i < k → x = mkV i j)) ∧
    (∃ f, ((w1.setCell ⟨b, m * 2, none⟩ (.int .i64 (-20 - (k : Int)))).setCell ⟨b, m * 2 + 1, none⟩ (.int .i64 (k : Int))).rowIs b 29 M f ∧ ∀ j, j < (m + 1) * 2 → f j = mkV k j) := by
  have hgs : w1.grownBy ((w1.setCell ⟨b, m * 2, none⟩ (.int .i64 (-20 - (k : Int)))).setCell ⟨b, m * 2 + 1, none⟩ (.int .i64 (k : Int))) (some b) := grownBy_setCells b [_, _] (m * 2) w1
  have hs1 := h1.size
  have hsw := hbl.size
  refine ⟨(hbl.trans (h1.mono (by omega))).grown hgs (by omega) (fun q hq => by rw [← Option.some.inj hq]; exact hb), fun i hi => ?_, fun i hi hik => ?_, _, ((hr.of_block (h1.block b hr.lt)).set _ _).set _ _, fun j hj => ?_⟩
  · rw [World.cell?_of_block (w := w1) (a := ⟨B, i, none⟩) (hgs.block B (by omega) (fun e => hne (Option.some.inj e).symm)), World.cell?_of_block (w := wr) (w' := w1) (a := ⟨B, i, none⟩) (h1.block B hBw)]
    exact hc i hi
  · refine (ho i hi hik).keep (fun b' ht' hlt' => ?_) (fun _ _ h => h)
    rw [hgs.block b' (by omega) (fun e => by rw [Option.some.inj e, htb] at ht'; exact hik (Option.some.inj ht').symm), h1.block b' hlt']
  · show (if j = m * 2 + 1 then _ else if j = m * 2 then _ else f2 j) = mkV k j
    by_cases e1 : j = m * 2 + 1
    · rw [if_pos e1]; unfold mkV; rw [if_neg (by omega)]
    · rw [if_neg e1]
      by_cases e2 : j = m * 2
      · rw [if_pos e2]; unfold mkV; rw [if_pos (by omega)]
      · rw [if_neg e2]; exact hf j (by omega)
set_option maxHeartbeats 8000000 in
set_option maxRecDepth 100000 in
theorem apart_calls (B N c : Nat) (AL : Option Addr) (V : Nat → Value) (L : Nat → Nat) (base : Nat) (w : World) (τ0 : Nat → Option Nat) (hAL : 0 < N → AL = some ⟨B, 0, none⟩) (hN : N ≤ 1073741824) (hL : ∀ i, i < N → L i ≤ 1073741824) (hcells : ∀ i, i < N → w.cell? ⟨B, i, none⟩ = some (V i)) (hB : B < w.heap.size)
    (htB : τ0 B = none) (hlt0 : ∀ b i, τ0 b = some i → b < w.heap.size) (hge : ∀ b i, τ0 b = some i → base ≤ b) (hbase : base ≤ w.heap.size) (hv : ∀ i, i < N → Mem w τ0 i (V i) (L i) (fun _ _ => True)) :
    Calls Try.prog 70 #[.slice AL N c] w fun e w' => e = .returned (.bool true) ∧ RowKit.Below base w w' := by
  have HL := Lib.hid hL
  have HV := Lib.hid hv
  have HC := Lib.hid hcells
  have HLT := Lib.hid hlt0
  have HGE := Lib.hid hge
  have HTB := Lib.hid htB
  clear hL hv hcells hlt0 hge htB
  go_enter Try.func70, Try.ntmps70
  go_wp2_with fail
  go_loopg [3, 4] N (fun gg s3 _ wr => ∃ k : Nat, k ≤ N ∧ N - k ≤ gg ∧ s3 = .int .i64 k ∧ Aside (RowKit.Below base w wr) ∧ Aside (∀ i, i < N → wr.cell? ⟨B, i, none⟩ = some (V i)) ∧ Aside (∀ i, i < N → Mem wr τ0 i (V i) (L i) (fun j x => i < k → x = mkV i j)))
  case atStart => exact ⟨0, Nat.zero_le _, by omega, rfl, Below.refl _ _, HC.out, fun i hi => (HV.out i hi).imp (fun _ _ _ _ h => absurd h (Nat.not_lt_zero _))⟩
  case round =>
    obtain ⟨k, hk, hg, rfl, BW, CC, HH⟩ := hrel
    by_cases hlt : k < N
    · obtain rfl := hAL (by omega)
      have hltz : (k : Int) < (N : Int) := by omega
      have hc := CC.out k hlt
      have hLk := HL.out k hlt
      rcases HH.out k hlt with ⟨hvn, hln⟩ | ⟨b, cc, M, f, hvb, htb, hrow, hn, hcM, hgd⟩
      · rw [hvn] at hc
        go_wp2_with fail
        go_rounds 1
        go_roundg (N - (k + 1))
        case measure => omega
        case rel =>
          refine ⟨k + 1, by omega, by omega, by go_num, BW, CC, (show Aside _ from fun i hi => ?_)⟩
          by_cases e : i = k
          · subst e; rw [hvn, hln]; exact .inl ⟨rfl, rfl⟩
          · exact (HH.out i hi).imp (fun j _ x h h2 => h (by omega))
      · rw [hvb] at hc
        have HVB := Lib.hid hvb
        have HTB2 := Lib.hid htb
        clear hvb
        have HB2 : Hid (B < wr.heap.size) := Lib.hid (Nat.lt_of_lt_of_le hB BW.out.size)
        go_wp2_with fail
        go_loopg [4] (L k) (fun gg s4 wq => ∃ m : Nat, m ≤ L k ∧ L k - m ≤ gg ∧ s4 = .int .i64 m ∧ Aside (RowKit.Below base w wq) ∧ Aside (∀ i, i < N → wq.cell? ⟨B, i, none⟩ = some (V i)) ∧ Aside (∀ i, i < N → i ≠ k → Mem wq τ0 i (V i) (L i) (fun j x => i < k → x = mkV i j)) ∧ Aside (∃ f, wq.rowIs b 29 M f ∧ ∀ j, j < m * 2 → f j = mkV k j))
        case atStart => exact ⟨0, Nat.zero_le _, by omega, rfl, BW.out, CC.out, fun i hi _ => HH.out i hi, f, hrow, fun j hj => absurd hj (by omega)⟩
        case round =>
          clear HB2
          obtain ⟨m, hm, hg2, rfl, BW2, CC2, HO2, HR2⟩ := hrel
          have hc2 := CC2.out k hlt
          rw [HVB.out] at hc2
          by_cases hlt2 : m < L k
          · have hltz2 : (m : Int) < (L k : Int) := by omega
            obtain ⟨f2, hrow2, hf2⟩ := HR2.out
            have S0 : RS wr B k (.slice (some ⟨b, 0, none⟩) (L k) cc) b (m * 2) (f2 (m * 2)) (f2 (m * 2 + 1)) wr := ⟨⟨hc2, hrow2.cell (by omega), hrow2.cell (by omega), hrow2.frozen _, hrow2.frozen _⟩, Below.refl _ _, Nat.lt_of_lt_of_le hB BW2.out.size, hrow2.lt⟩
            have R2 := Lib.hid hrow2
            have F2 := Lib.hid hf2
            have hkk : k ≤ 4611686018427387903 := by omega
            clear hrow2 hf2
            go_upto_region 7 with fail
            have hbB : b ≠ B := fun e => by rw [e, HTB.out] at htb; cases htb
            have hCB0 : CB B k (.slice (some ⟨b, 0, none⟩) (L k) cc) wr := hc2
            clear htb
            go_region_held3 (fun W' => W'.cell? ⟨B, k, none⟩ = some (.slice (some ⟨b, 0, none⟩) (L k) cc))
              ((exact (show CB B k (.slice (some ⟨b, 0, none⟩) (L k) cc) _ by repeat (first | with_reducible assumption | with_reducible apply CB.drewN | with_reducible apply CB.drew | with_reducible apply CB.set hbB))))
              (first
                | (go_at_call 69; refine (mark_rs (w0 := wr) (B := B) (k := k) (vk := .slice (some ⟨b, 0, none⟩) (L k) cc) (b := b) (o := m * 2) (u1 := f2 (m * 2)) (u2 := f2 (m * 2 + 1)) (by repeat (first | with_reducible assumption | with_reducible apply RS.drewN | with_reducible apply RS.drew | with_reducible apply RS.alloc)) k hkk).mono ?_; rintro e w1 ⟨rfl, ⟨hC1, hC2, hC3, hC4, hC5⟩, hS1, hCB1⟩)
                | fail)
            all_goals
              obtain ⟨q1, q2, q3, q4⟩ := round_mark BW2.out hbase (HGE.out b k HTB2.out) (Nat.lt_of_lt_of_le hB BW2.out.size) hbB HTB2.out CC2.out HO2.out R2.out F2.out hS1.2.1
              have Q1 := Lib.hid q1
              have Q2 := Lib.hid q2
              have Q3 := Lib.hid q3
              have Q4 := Lib.hid q4
              clear q1 q2 q3 q4 hS1 S0
              go_wp2_with fail
              go_roundg (L k - (m + 1))
              case measure => omega
              case rel => exact ⟨m + 1, by omega, by omega, by go_num, (show Aside _ from Q1.out), (show Aside _ from Q2.out), (show Aside _ from Q3.out), (show Aside _ from Q4.out)⟩
          · have hltz2 : ¬ (m : Int) < (L k : Int) := by omega
            have : m = L k := by omega
            subst this
            go_wp2_with fail
            go_roundg (N - (k + 1))
            case measure => omega
            case rel =>
              refine ⟨k + 1, by omega, by omega, by go_num, BW2, CC2, (show Aside _ from fun i hi => ?_)⟩
              by_cases e : i = k
              · subst e
                obtain ⟨f2, hrow2, hf2⟩ := HR2.out
                exact .inr ⟨b, cc, M, f2, HVB.out, HTB2.out, hrow2, hn, hcM, fun j hj _ => hf2 j hj⟩
              · exact (HO2.out i hi e).imp (fun j _ x h h2 => h (by omega))
    · have hltz : ¬ (k : Int) < (N : Int) := by omega
      have : k = N := by omega
      subst this
      have A0 : Hid (AI base k B V L w wr τ0) := Lib.hid ⟨BW.out, Nat.le_trans hbase BW.out.size, fun b i h => Nat.lt_of_lt_of_le (HLT.out b i h) BW.out.size, HGE.out, Nat.lt_of_lt_of_le hB BW.out.size, HTB.out, CC.out, fun i hi => (HH.out i hi).imp (fun j _ x h => h hi)⟩
      clear HH BW CC
      go_wp2_with fail
      go_loopg [5, 6, 7, 8, 9, 10] k (fun gg s5 s6 _ _ _ _ wq => ∃ (q : Nat) (τ : Nat → Option Nat), q ≤ k ∧ k - q ≤ gg ∧ s6 = .int .i64 q ∧ Aside (AI base k B V L w wq τ) ∧ Aside (GR base wq τ s5 (21 * q) B 1073741888))
      case atStart => exact ⟨0, τ0, Nat.zero_le _, by omega, rfl, A0.out, fun _ => default, .inl ⟨rfl, rfl⟩, fun b h => by simp [Value.ownBlock] at h, fun t ht => absurd ht (by omega)⟩
      case round =>
        clear A0 hk hg
        obtain ⟨q, τ, hq, hg, rfl, AA, GG⟩ := hrel
        by_cases hlt : q < k
        · as_aux_lemma =>
          obtain rfl := hAL (by omega)
          have hltz : (q : Int) < (k : Int) := by omega
          have hqq : q ≤ 4611686018427387903 := by omega
          have hc := AA.out.cells q hlt
          have hLq := HL.out q hlt
          go_wp2_with fail
          go_loopg [5, 7, 8] 20 (fun gg s5 s7 s8 wx => ∃ (m : Nat) (τ : Nat → Option Nat), m ≤ 20 ∧ 20 - m ≤ gg ∧ s8 = .int .i64 m ∧ Aside (AI base k B V L w wx τ) ∧ Aside (GR base wx τ s5 (21 * q + m) B 1073741888) ∧ Aside (Full wx τ q s7 (L q + m)))
          case atStart => exact ⟨0, τ, Nat.zero_le _, by omega, rfl, AA.out, GG.out, AA.out.fam q hlt⟩
          case round =>
            clear AA GG hc
            obtain ⟨m, τ, hm, hg2, rfl, AA, GG, FF⟩ := hrel
            by_cases hlt2 : m < 20
            · have hltz2 : (m : Int) < (20 : Int) := by omega
              go_wp2_with fail
              refine (mark_calls q hqq _).mono ?_
              rintro e w1 ⟨rfl, hb1⟩
              have S1 := AStep.fresh hb1 AA.out.lt
              have A1 := Lib.hid (AA.out.step S1)
              have G1 := Lib.hid (GG.out.step S1)
              have F1 := Lib.hid (S1.mem _ _ _ FF.out)
              clear S1 hb1 AA GG FF
              go_wp2_with (at_builtin; refine wpList_append_mem _ rfl _ _ rfl τ q _ (L q + m) rfl ?hv ⟨_, 0, none⟩ 1 1 rfl [mkV q 0, mkV q 1] rfl ?c1 ?c2 (by decide) ?c4 ?c5 ?_)
              case hv => exact (AStep.fresh ((Below.refl _ _).alloc (Nat.le_refl _) _) A1.out.lt).mem _ _ _ F1.out
              case c1 =>
                intro j u hj
                rw [add_zero_off, World.cell?_alloc_at _ _ _ _ rfl]
                simpa [mkV] using hj
              case c2 =>
                intro j u hj
                match j, hj with
                | 0, hj => exact (Option.some.inj hj).symm
                | 1, hj => exact (Option.some.inj hj).symm
              case c4 => omega
              case c5 => exact (AStep.fresh ((Below.refl _ _).alloc (Nat.le_refl _) _) A1.out.lt).lt
              intro b' c' w2 τ2 hnew hst
              have S2 := (AStep.fresh ((Below.refl _ w1).alloc (Nat.le_refl _) _) A1.out.lt).trans hst
              have A2 := Lib.hid (A1.out.step S2)
              have G2 := Lib.hid (G1.out.step S2)
              have F2 := Lib.hid hnew
              clear S2 hst hnew A1 G1 F1
              go_wp2_with (at_builtin; refine wpList_append_GR _ rfl _ _ rfl base τ2 _ (21 * q + m) B 1073741888 rfl ?hv ?h1 ?h2 ?h3 (.slice (some ⟨b', 0, none⟩) (L q + m + 1) c') rfl ⟨_, 0, none⟩ 1 rfl ?h4 ?h5 ?h6 ?_)
              case hv => exact G2.out.step (AStep.fresh ((Below.refl _ _).alloc (Nat.le_refl _) _) A2.out.lt)
              case h1 => exact (AStep.fresh ((Below.refl _ _).alloc (Nat.le_refl _) _) A2.out.lt).lt
              case h2 => have := A2.out.hB; simp; omega
              case h3 => have := A2.out.lo; simp; omega
              case h4 => rw [add_zero_off, World.cell?_alloc_at _ _ _ _ rfl]; rfl
              case h5 =>
                refine ⟨L q + m + 1, by omega, ?_⟩
                rw [idx_div q m (by omega)]
                exact (AStep.fresh ((Below.refl _ _).alloc (Nat.le_refl _) _) A2.out.lt).mem _ _ _ F2.out
              case h6 => omega
              intro b2 c2 w3 hG3 hoth
              have SA := AStep.fresh ((Below.refl _ w2).alloc (Nat.le_refl _) (Obj.cells #[Value.slice (some ⟨b', 0, none⟩) (L q + m + 1) c'] 22)) A2.out.lt
              have A3 := Lib.hid ((A2.out.step SA).other hoth)
              have F3 := Lib.hid (hoth.full (SA.mem _ _ _ F2.out))
              have G3 := Lib.hid hG3
              clear SA hoth hG3 A2 G2 F2
              go_wp2_with fail
              go_roundg (20 - (m + 1))
              case measure => omega
              case rel => exact ⟨m + 1, τ2, by omega, by omega, by go_num, A3.out, G3.out, F3.out⟩
            · have hltz2 : ¬ (m : Int) < (20 : Int) := by omega
              have hm20 : m = 20 := by omega
              subst hm20
              have GG2 := Lib.hid GG.out
              have AA2 := Lib.hid AA.out
              clear FF GG AA
              go_wp2_with fail
              go_loopg [9, 10] 64 (fun gg s9 s10 wx => ∃ (m : Nat) (τ : Nat → Option Nat), m ≤ 64 ∧ 64 - m ≤ gg ∧ s10 = .int .i64 m ∧ Aside (AI base k B V L w wx τ) ∧ Aside (GR base wx τ u5 (21 * q + 20) B 1073741888) ∧ Aside (Full wx τ q s9 m))
              case atStart => exact ⟨0, τ, Nat.zero_le _, by omega, rfl, AA2.out, GG2.out, .inl ⟨rfl, rfl⟩⟩
              case round =>
                clear AA2 GG2 hm hg2 hltz2
                obtain ⟨m, τ, hm, hg2, rfl, AA, GG, FF⟩ := hrel
                by_cases hlt3 : m < 64
                · have hltz3 : (m : Int) < (64 : Int) := by omega
                  go_wp2_with fail
                  refine (mark_calls q hqq _).mono ?_
                  rintro e w1 ⟨rfl, hb1⟩
                  have S1 := AStep.fresh hb1 AA.out.lt
                  have A1 := Lib.hid (AA.out.step S1)
                  have G1 := Lib.hid (GG.out.step S1)
                  have F1 := Lib.hid (S1.mem _ _ _ FF.out)
                  clear S1 hb1 AA GG FF
                  go_wp2_with (at_builtin; refine wpList_append_mem _ rfl _ _ rfl τ q _ m rfl ?hv ⟨_, 0, none⟩ 1 1 rfl [mkV q 0, mkV q 1] rfl ?c1 ?c2 (by decide) ?c4 ?c5 ?_)
                  case hv => exact (AStep.fresh ((Below.refl _ _).alloc (Nat.le_refl _) _) A1.out.lt).mem _ _ _ F1.out
                  case c1 =>
                    intro j u hj
                    rw [add_zero_off, World.cell?_alloc_at _ _ _ _ rfl]
                    simpa [mkV] using hj
                  case c2 =>
                    intro j u hj
                    match j, hj with
                    | 0, hj => exact (Option.some.inj hj).symm
                    | 1, hj => exact (Option.some.inj hj).symm
                  case c4 => omega
                  case c5 => exact (AStep.fresh ((Below.refl _ _).alloc (Nat.le_refl _) _) A1.out.lt).lt
                  intro b' c' w2 τ2 hnew hst
                  have S2 := (AStep.fresh ((Below.refl _ w1).alloc (Nat.le_refl _) _) A1.out.lt).trans hst
                  have A2 := Lib.hid (A1.out.step S2)
                  have G2 := Lib.hid (G1.out.step S2)
                  have F2 := Lib.hid hnew
                  clear S2 hst hnew A1 G1 F1
                  go_wp2_with fail
                  go_roundg (64 - (m + 1))
                  case measure => omega
                  case rel => exact ⟨m + 1, τ2, by omega, by omega, by go_num, A2.out, G2.out, F2.out⟩
                · have hltz3 : ¬ (m : Int) < (64 : Int) := by omega
                  have hm64 : m = 64 := by omega
                  subst hm64
                  have hc := AA.out.cells q hlt
                  rcases FF.out with ⟨_, h0⟩ | ⟨bm, cm, Mm, fm, hvm, htm, hrm, hnm, hcMm, hgm⟩
                  · exact absurd h0 (by decide)
                  · subst hvm
                    have HM : Hid (∀ (j : Nat) u, ((List.range (64 * 2)).map (mkV q))[j]? = some u → wr.cell? ((⟨bm, 0, none⟩ : Addr).add j) = some u) := Lib.hid (fun j u hj => by
                      rw [List.getElem?_map] at hj
                      obtain ⟨j', hj', rfl⟩ := Option.map_eq_some_iff.mp hj
                      obtain ⟨hlt', e⟩ := List.getElem?_eq_some_iff.mp hj'
                      rw [List.length_range] at hlt'
                      rw [List.getElem_range] at e
                      subst e
                      rw [Addr.add_lit, Nat.zero_add, hrm.cell (by omega), show fm j = mkV q j from hgm j hlt'])
                    obtain ⟨NW, hNW⟩ : ∃ NW : List Value, (List.range (64 * 2)).map (mkV q) = NW := ⟨_, rfl⟩
                    have hNl : NW.length = 64 * 2 := by rw [← hNW]; simp
                    have hNk : Hid (∀ (j : Nat) u, NW[j]? = some u → u = mkV q j) := Lib.hid (fun j u hj => by
                      rw [← hNW, List.getElem?_map] at hj
                      obtain ⟨j', hj', rfl⟩ := Option.map_eq_some_iff.mp hj
                      obtain ⟨hlt', e⟩ := List.getElem?_eq_some_iff.mp hj'
                      rw [List.getElem_range] at e
                      rw [e])
                    rw [hNW] at HM
                    clear htm hrm hnm hcMm hgm FF hNW
                    go_wp2_with (at_builtin; refine wpList_append_mem _ rfl _ _ rfl τ q (V q) (L q) rfl ?hv ⟨bm, 0, none⟩ 64 cm rfl NW hNl ?c1 ?c2 (by decide) ?c4 ?c5 ?_)
                    case hv => exact AA.out.fam q hlt
                    case c1 => exact fun j u hj => by have := HM.out j u hj; rwa [Addr.add_lit, Nat.zero_add] at this
                    case c2 => exact hNk.out
                    case c4 => omega
                    case c5 => exact AA.out.lt
                    intro b' c' w2 τ2 hnew hst
                    have A2 := Lib.hid (AA.out.step hst)
                    have G2 := Lib.hid (GG.out.step hst)
                    have F2 := Lib.hid hnew
                    clear hst hnew AA GG HM
                    go_wp2_with (at_builtin; refine wpList_append_GR _ rfl _ _ rfl base τ2 _ (21 * q + 20) B 1073741888 rfl ?hv ?h1 ?h2 ?h3 (.slice (some ⟨b', 0, none⟩) (L q + 64) c') rfl ⟨_, 0, none⟩ 1 rfl ?h4 ?h5 ?h6 ?_)
                    case hv => exact G2.out.step (AStep.fresh ((Below.refl _ _).alloc (Nat.le_refl _) _) A2.out.lt)
                    case h1 => exact (AStep.fresh ((Below.refl _ _).alloc (Nat.le_refl _) _) A2.out.lt).lt
                    case h2 => have := A2.out.hB; simp; omega
                    case h3 => have := A2.out.lo; simp; omega
                    case h4 => rw [add_zero_off, World.cell?_alloc_at _ _ _ _ rfl]; rfl
                    case h5 =>
                      refine ⟨L q + 64, by omega, ?_⟩
                      rw [idx_div q 20 (by omega)]
                      exact (AStep.fresh ((Below.refl _ _).alloc (Nat.le_refl _) _) A2.out.lt).mem _ _ _ F2.out
                    case h6 => omega
                    intro b2 c2 w3 hG3 hoth
                    have SA := AStep.fresh ((Below.refl _ w2).alloc (Nat.le_refl _) (Obj.cells #[Value.slice (some ⟨b', 0, none⟩) (L q + 64) c'] 22)) A2.out.lt
                    have A3 := Lib.hid ((A2.out.step SA).other hoth)
                    have G3 := Lib.hid hG3
                    clear SA hoth hG3 A2 G2 F2
                    go_wp2_with fail
                    go_roundg (k - (q + 1))
                    case measure => omega
                    case rel => exact ⟨q + 1, τ2, by omega, by omega, by go_num, A3.out, (show Aside _ from by rw [show 21 * (q + 1) = 21 * q + 20 + 1 by omega]; exact G3.out)⟩
        · have hltz : ¬ (q : Int) < (k : Int) := by omega
          have hqk : q = k := by omega
          subst hqk
          have AA2 := Lib.hid AA.out
          have GG2 := Lib.hid GG.out
          obtain ⟨T, hT⟩ : ∃ T, 21 * q = T := ⟨_, rfl⟩
          rw [hT] at GG2
          have HT := Lib.hid hT
          clear AA GG hg hT
          go_wp2_with fail
          go_loopg [11, 12, 13] q (fun gg s11 _ _ wq => ∃ (p : Nat) (τ : Nat → Option Nat), p ≤ q ∧ q - p ≤ gg ∧ s11 = .int .i64 p ∧ Aside (AI base q B V L w wq τ) ∧ Aside (GR base wq τ u5 T B 1073741888))
          case atStart => exact ⟨0, τ, Nat.zero_le _, by omega, rfl, AA2.out, GG2.out⟩
          case round =>
            clear AA2 GG2
            obtain ⟨p, τ, hp, hg, rfl, AA, GG⟩ := hrel
            by_cases hlt : p < q
            · as_aux_lemma =>
              obtain rfl := hAL (by omega)
              have hltz : (p : Int) < (q : Int) := by omega
              have hpp : p ≤ 4611686018427387903 := by omega
              have hc := AA.out.cells p hlt
              have hLp := HL.out p hlt
              go_wp2_with fail
              refine (full_calls (AA.out.fam p hlt) hpp (by omega)).mono ?_
              rintro e w1 ⟨rfl, hb1⟩
              have S1 := AStep.fresh hb1 AA.out.lt
              have A1 := Lib.hid (AA.out.step S1)
              have G1 := Lib.hid (GG.out.step S1)
              clear S1 hb1 AA GG hc
              go_wp2_with fail
              go_loopg [12, 13] 21 (fun gg s12 s13 wx => ∃ (m : Nat) (τ : Nat → Option Nat), m ≤ 21 ∧ 21 - m ≤ gg ∧ s13 = .int .i64 m ∧ Aside (AI base q B V L w wx τ) ∧ Aside (GR base wx τ u5 T B 1073741888))
              case atStart => exact ⟨0, τ, Nat.zero_le _, by omega, rfl, A1.out, G1.out⟩
              case round =>
                clear A1 G1
                obtain ⟨m, τ, hm, hg2, rfl, AA, GG⟩ := hrel
                by_cases hlt2 : m < 21
                · have hltz2 : (m : Int) < (21 : Int) := by omega
                  obtain ⟨P, hmul, ht, hdiv, hPb⟩ := idx_mul p m q T HT.out hN hlt hlt2
                  obtain ⟨bg, cg, n, u, hv, hcg, hcell, hn, hf⟩ := GG.out.at ht
                  subst hv
                  rw [hdiv] at hf
                  have HFU := Lib.hid hf
                  have HMUL := Lib.hid hmul
                  clear hf hdiv hmul
                  go_wp2_with (refine wpList_mul21 rfl _ rfl p P rfl HMUL.out ?_)
                  refine (full_calls HFU.out hpp (by omega)).mono ?_
                  rintro e w1 ⟨rfl, hb1⟩
                  have S1 := AStep.fresh hb1 AA.out.lt
                  have A1 := Lib.hid (AA.out.step S1)
                  have G1 := Lib.hid (GG.out.step S1)
                  clear S1 hb1 AA GG hcell HFU
                  go_wp2_with fail
                  go_roundg (21 - (m + 1))
                  case measure => omega
                  case rel => exact ⟨m + 1, τ, by omega, by omega, by go_num, A1.out, G1.out⟩
                · have hltz2 : ¬ (m : Int) < (21 : Int) := by omega
                  have hm21 : m = 21 := by omega
                  subst hm21
                  go_wp2_with fail
                  go_roundg (q - (p + 1))
                  case measure => omega
                  case rel => exact ⟨p + 1, τ, by omega, by omega, by go_num, AA, GG⟩
            · have hltz : ¬ (p : Int) < (q : Int) := by omega
              have hpq : p = q := by omega
              subst hpq
              go_wp2_with fail
              go_ret
              exact ⟨rfl, AA.out.below⟩
end Go.Proofs.Ytbmfldoobkeieaa.PlMem

namespace Go.Proofs.Ytbmfldoobkeieaa.PlShelf
open Go.RowKit Go.Lib Go.Sort Go.Proofs.Ytbmfldoobkeieaa.Own Go.Proofs.Ytbmfldoobkeieaa.KForm Go.Proofs.Ytbmfldoobkeieaa.PlMem Go.Proofs.Ytbmfldoobkeieaa.PlPure Go.Proofs.Ytbmfldoobkeieaa.PlCalls
set_option linter.unusedVariables false
set_option linter.unusedSimpArgs false
/-- the blocks of so many slices -/
def Yo (N : Nat) (V : Nat → Value) (b : Nat) : Prop := ∃ j, j < N ∧ (V j).ownBlock = some b
/-- a slice of the mark alone -/
def MK (W : World) (Y : Nat → Prop) (j : Nat) (u : Value) : Prop := ∃ g, u = .slice (some ⟨g, 0, none⟩) 1 1 ∧ ¬ Y g ∧ g < W.heap.size ∧ W.cell? ⟨g, 0, none⟩ = some (.int .i64 (-20 - (j : Int))) ∧ W.cell? ⟨g, 1, none⟩ = some (.int .i64 (j : Int))
theorem MK.step {W W' : World} {Y : Nat → Prop} {j : Nat} {u : Value} (h : MK W Y j u) (s : Step Y W Y W') : MK W' Y j u := by
  obtain ⟨g, e, hY, hlt, h0, h1⟩ := h
  have hc : ∀ i, W'.cell? ⟨g, i, none⟩ = W.cell? ⟨g, i, none⟩ := fun i => World.cell?_of_block (w := W) (w' := W') (a := ⟨g, i, none⟩) (s.keep g hlt hY)
  exact ⟨g, e, hY, Nat.lt_of_lt_of_le hlt s.size, by rw [hc, h0], by rw [hc, h1]⟩
/-- the j-th row: what stands below (i, k) is marks -/
def RWk (W : World) (Y : Nat → Prop) (j i k : Nat) (v : Value) (n : Nat) : Prop :=
  (v = .slice none 0 0 ∧ n = 0) ∨ ∃ b c M f, v = .slice (some ⟨b, 0, none⟩) n c ∧ Y b ∧ W.rowIs b 22 M f ∧ n ≤ c ∧ c ≤ M ∧ ∀ m, m < n → (j < i ∨ (j = i ∧ m < k)) → MK W Y j (f m)
structure KI (w1 : World) (N : Nat) (V : Nat → Value) (L : Nat → Nat) (i k : Nat) (W : World) : Prop where
  st : Step (Yo N V) w1 (Yo N V) W
  rows : ∀ j, j < N → RWk W (Yo N V) j i k (V j) (L j)
theorem KI.fresh {w1 : World} {N : Nat} {V : Nat → Value} {L : Nat → Nat} {i k : Nat} {W W' : World} (h : KI w1 N V L i k W) (hb : BB W W') : KI w1 N V L i k W' := by
  have s : Step (Yo N V) W (Yo N V) W' := Step.fresh _ hb
  refine ⟨h.st.trans s, fun j hj => ?_⟩
  rcases h.rows j hj with h1 | ⟨b, c, M, f, e, hY, hrow, hn, hc, hm⟩
  · exact .inl h1
  · exact .inr ⟨b, c, M, f, e, hY, hrow.of_block (hb.block b hrow.lt), hn, hc, fun m h1 h2 => (hm m h1 h2).step s⟩
theorem KI.next {w1 : World} {N : Nat} {V : Nat → Value} {L : Nat → Nat} {i k : Nat} {W : World} (h : KI w1 N V L i k W) (hk : L i ≤ k) : KI w1 N V L (i + 1) 0 W := by
  refine ⟨h.st, fun j hj => ?_⟩
  rcases h.rows j hj with h1 | ⟨b, c, M, f, e, hY, hrow, hn, hc, hm⟩
  · exact .inl h1
  · refine .inr ⟨b, c, M, f, e, hY, hrow, hn, hc, fun m h1 h2 => hm m h1 ?_⟩
    rcases h2 with h2 | ⟨_, h2⟩
    · by_cases e : j = i
      · subst e
        exact .inr ⟨rfl, by omega⟩
      · exact .inl (by omega)
    · omega
theorem KI.put {w1 : World} {N : Nat} {V : Nat → Value} {L : Nat → Nat} {i k : Nat} {W : World} (h : KI w1 N V L i k W) (hi : i < N) {b n c : Nat} (hV : V i = .slice (some ⟨b, 0, none⟩) n c) (hap : ∀ j, j < N → j ≠ i → (V j).ownBlock ≠ some b) {g : Nat} (hg : g < W.heap.size) (hgY : ¬ Yo N V g) (h0 : W.cell? ⟨g, 0, none⟩ = some (.int .i64 (-20 - (i : Int)))) (h1 : W.cell? ⟨g, 1, none⟩ = some (.int .i64 (i : Int))) :
    KI w1 N V L i (k + 1) (W.setCell ⟨b, k, none⟩ (.slice (some ⟨g, 0, none⟩) 1 1)) := by
  have hYb : Yo N V b := ⟨i, hi, by rw [hV]; rfl⟩
  have s : Step (Yo N V) W (Yo N V) (W.setCell ⟨b, k, none⟩ (.slice (some ⟨g, 0, none⟩) 1 1)) := by
    have hgr : W.grownBy (W.setCell ⟨b, k, none⟩ (.slice (some ⟨g, 0, none⟩) 1 1)) (some b) := grownBy_setCells b [_] k W
    exact Step.grown hgr (fun b' e => by cases e; exact hYb) (fun _ _ h => h)
  have hgb : g ≠ b := fun e => hgY (by rw [e]; exact hYb)
  refine ⟨h.st.trans s, fun j hj => ?_⟩
  rcases h.rows j hj with h2 | ⟨b', c', M, f, e, hY, hrow, hn, hc, hm⟩
  · exact .inl h2
  · by_cases ej : j = i
    · subst ej
      rw [hV] at e
      injection e with e1 e2 e3
      injection e1 with e1
      injection e1 with e1 _ _
      subst e1; subst e2; subst e3
      refine .inr ⟨b, c, M, _, hV, hY, hrow.set k _, hn, hc, fun m h3 h4 => ?_⟩
      by_cases em : m = k
      · subst em
        refine ⟨g, ?_, hgY, by simpa using hg, ?_, ?_⟩
        · show (if m = m then _ else _) = _
          rw [if_pos rfl]
        · rw [World.cell?_setCell_other _ _ _ _ (fun e => hgb (by injection e with e1 _ _; exact e1.symm)), h0]
        · rw [World.cell?_setCell_other _ _ _ _ (fun e => hgb (by injection e with e1 _ _; exact e1.symm)), h1]
      · have := (hm m h3 (h4.imp id (fun h => ⟨h.1, by omega⟩))).step s
        show MK _ _ _ (if m = k then _ else f m)
        rw [if_neg em]
        exact this
    · have hb' : b' ≠ b := fun e2 => hap j hj ej (by rw [e, e2]; rfl)
      refine .inr ⟨b', c', M, f, e, hY, hrow.setOther (a := ⟨b, k, none⟩) hb' _, hn, hc, fun m h3 h4 => (hm m h3 (h4.imp id (fun h => absurd h.1 ej))).step s⟩
/-- a slice as a box holds it -/
theorem VR.sl {w : World} {base : Nat} {t : TypeId} {v : Value} {L : List Value} (h : VR w base t v L) : ∃ A b c, v = .slice A L.length c ∧ L.length ≤ c ∧ (0 < L.length → A = some ⟨b, 0, none⟩ ∧ b < w.heap.size ∧ v.ownBlock = some b ∧ ∀ j, j < L.length → w.cell? ⟨b, j, none⟩ = some L[j]!) := by
  rcases h with ⟨rfl, h0⟩ | ⟨b, c, f, rfl, hb, hrow, hn, hm, hg⟩
  · exact ⟨none, 0, 0, by rw [h0], by omega, fun h => by omega⟩
  · refine ⟨_, b, c, rfl, hn, fun _ => ⟨rfl, hrow.lt, rfl, fun j hj => ?_⟩⟩
    have this : L[j]? = some (f j) := hg j (by omega)
    rw [hrow.cell (by omega), getElem!_pos L j hj, ← this, List.getElem?_eq_getElem hj]
theorem OX.blk {X : Nat → Prop} {w : World} {base : Nat} {v : Value} {Q : List (List (Int × Int))} (h : OX X w base v Q) : ∀ b, v.ownBlock = some b → base ≤ b ∧ b < w.heap.size ∧ ¬ X b ∧ ∃ M f, w.rowIs b 22 M f := by
  intro b hb
  rcases h with ⟨rfl, _⟩ | ⟨b', c, M, f, rfl, hbb, hx, hrow, hc, hM, hm⟩
  · simp [Value.ownBlock] at hb
  · have e : b' = b := by simpa [Value.ownBlock] using hb
    subst e
    exact ⟨hbb, hrow.lt, hx, M, f, hrow⟩
theorem OX.sl {X : Nat → Prop} {w : World} {base : Nat} {v : Value} {Q : List (List (Int × Int))} (h : OX X w base v Q) : ∃ A b c, v = .slice A Q.length c ∧ Q.length ≤ c ∧ (0 < Q.length → A = some ⟨b, 0, none⟩) := by
  rcases h with ⟨rfl, rfl⟩ | ⟨b', c, M, f, rfl, hbb, hx, hrow, hc, hM, hm⟩
  · exact ⟨none, 0, 0, rfl, Nat.le_refl _, fun h => absurd h (by simp)⟩
  · exact ⟨_, b', c, rfl, hc, fun _ => rfl⟩
section
variable {base sB : Nat} {Z : Nat → Prop} {w0 : World} {vl vw vo vs : Value} {LV WV OV SV : List Value} {RL RW : List (List (Int × Int))} {QO QS : List (List (List (Int × Int)))} {mx : Nat} {w : World}
theorem PS.outerAt (h : PS base sB Z w0 vl vw vo vs LV WV OV SV RL RW QO QS mx w) (j : Nat) (hj : j < OV.length) : (QO[j]!.length ≤ 256 ∧ ∀ x ∈ QO[j]!, x.length ≤ mx) ∧ OX (XZ Z sB vl vw vo vs) w base OV[j]! QO[j]! := by
  have hl := h.outer.1
  exact h.outer.2 j _ _ (by rw [getElem!_pos OV j hj]; exact List.getElem?_eq_getElem hj) (by rw [getElem!_pos QO j (by omega)]; exact List.getElem?_eq_getElem _)
theorem PS.wasAt (h : PS base sB Z w0 vl vw vo vs LV WV OV SV RL RW QO QS mx w) (j : Nat) (hj : j < SV.length) : OX (XZ Z sB vl vw vo vs) w base SV[j]! QS[j]! := by
  have hl := h.was.1
  exact h.was.2 j _ _ (by rw [getElem!_pos SV j hj]; exact List.getElem?_eq_getElem hj) (by rw [getElem!_pos QS j (by omega)]; exact List.getElem?_eq_getElem _)
theorem PS.listAt (h : PS base sB Z w0 vl vw vo vs LV WV OV SV RL RW QO QS mx w) (j : Nat) (hj : j < LV.length) : RL[j]!.length ≤ mx ∧ LX (XZ Z sB vl vw vo vs) w base LV[j]! RL[j]! := by
  have hl := h.lists.1
  exact h.lists.2 j _ _ (by rw [getElem!_pos LV j hj]; exact List.getElem?_eq_getElem hj) (by rw [getElem!_pos RL j (by omega)]; exact List.getElem?_eq_getElem _)
theorem PS.yo (h : PS base sB Z w0 vl vw vo vs LV WV OV SV RL RW QO QS mx w) : ∀ b, Yo OV.length (fun j => OV[j]!) b → base ≤ b ∧ b < w.heap.size ∧ ¬ XZ Z sB vl vw vo vs b ∧ ∃ M f, w.rowIs b 22 M f := by
  rintro b ⟨j, hj, e⟩
  exact (h.outerAt j hj).2.blk b e
theorem PS.oap2 (h : PS base sB Z w0 vl vw vo vs LV WV OV SV RL RW QO QS mx w) (i j : Nat) (hi : i < OV.length) (hj : j < OV.length) (hne : j ≠ i) {b : Nat} (hb : OV[i]!.ownBlock = some b) : OV[j]!.ownBlock ≠ some b := by
  intro e
  rw [getElem!_pos OV i hi] at hb
  rw [getElem!_pos OV j hj] at e
  have hp := List.pairwise_iff_getElem.mp h.oap
  rcases Nat.lt_or_gt_of_ne hne with h1 | h1
  · rcases hp j i hj hi h1 with h2 | h2
    · rw [e] at h2; cases h2
    · exact h2 (by rw [e, hb])
  · rcases hp i j hi hj h1 with h2 | h2
    · rw [hb] at h2; cases h2
    · exact h2 (by rw [e, hb])
theorem PS.ki (h : PS base sB Z w0 vl vw vo vs LV WV OV SV RL RW QO QS mx w) : KI w OV.length (fun j => OV[j]!) (fun j => QO[j]!.length) 0 0 w := by
  refine ⟨Step.refl _ _, fun j hj => ?_⟩
  rcases (h.outerAt j hj).2 with ⟨e1, e2⟩ | ⟨b', c, M, f, e, hbb, hx, hrow, hc, hM, hm⟩
  · exact .inl ⟨e1, by rw [e2]; rfl⟩
  · exact .inr ⟨b', c, M, f, e, ⟨j, hj, by show OV[j]!.ownBlock = _; rw [e]; rfl⟩, hrow, hc, hM, fun m h1 h2 => by omega⟩
/-- whose list a block is -/
noncomputable def tagL (LV : List Value) (b : Nat) : Option Nat := by
  classical
  exact if h : ∃ i, i < LV.length ∧ LV[i]!.ownBlock = some b then some (Classical.choose h) else none
theorem tagL_some {LV : List Value} {b i : Nat} (h : tagL LV b = some i) : i < LV.length ∧ LV[i]!.ownBlock = some b := by
  unfold tagL at h
  split at h
  · rename_i hh
    rw [← Option.some.inj h]
    exact Classical.choose_spec hh
  · cases h
theorem tagL_of {LV : List Value} (hap : Apart LV) {b i : Nat} (hi : i < LV.length) (hb : LV[i]!.ownBlock = some b) : tagL LV b = some i := by
  cases e : tagL LV b with
  | none =>
    unfold tagL at e
    rw [dif_pos ⟨i, hi, hb⟩] at e
    cases e
  | some j =>
    obtain ⟨hj, hb2⟩ := tagL_some e
    have hp := List.pairwise_iff_getElem.mp hap
    rw [getElem!_pos LV i hi] at hb
    rw [getElem!_pos LV j hj] at hb2
    rcases Nat.lt_trichotomy i j with h1 | h1 | h1
    · rcases hp i j hi hj h1 with h2 | h2
      · rw [hb] at h2; cases h2
      · exact absurd (by rw [hb, hb2]) h2
    · rw [h1]
    · rcases hp j i hj hi h1 with h2 | h2
      · rw [hb2] at h2; cases h2
      · exact absurd (by rw [hb, hb2]) h2
/-- apart, over the lists of a shelf whose lists of lists were written over -/
theorem apart_kept (h : PS base sB Z w0 vl vw vo vs LV WV OV SV RL RW QO QS mx w) (hmx : mx ≤ 1073741824) (hN : LV.length ≤ 1073741824) {W : World} (s : Step (Yo OV.length (fun j => OV[j]!)) w (Yo OV.length (fun j => OV[j]!)) W) :
    Calls Try.prog 70 #[vl] W fun e w' => e = .returned (.bool true) ∧ RowKit.Below base W w' := by
  obtain ⟨A, B, c, e, hc, hcell⟩ := h.rl.sl
  have keepX : ∀ b, XZ Z sB vl vw vo vs b → b < w.heap.size → W.heap[b]? = w.heap[b]? := fun b hx hlt => s.keep b hlt (fun hY => (h.yo b hY).2.2.1 hx)
  have keepL : ∀ i b, i < LV.length → LV[i]!.ownBlock = some b → b < w.heap.size ∧ base ≤ b ∧ W.heap[b]? = w.heap[b]? := by
    intro i b hi hb
    rcases (h.listAt i hi).2 with ⟨e1, _⟩ | ⟨g, c', M, e1, hbb, hx, hc', hM, hrow⟩
    · rw [e1] at hb; simp [Value.ownBlock] at hb
    · rw [e1] at hb
      have e2 : g = b := by simpa [Value.ownBlock] using hb
      subst e2
      refine ⟨hrow.lt, hbb, s.keep g hrow.lt (fun hY => ?_)⟩
      obtain ⟨_, _, _, M2, f2, c2, r2, _⟩ := h.yo g hY
      obtain ⟨f3, ⟨c3, r3, _⟩, _⟩ := hrow
      rw [r2] at r3
      have := Option.some.inj r3
      injection this with _ h4 _
      exact absurd h4 (by decide)
  by_cases h0 : 0 < LV.length
  · obtain ⟨rfl, hB, hvb, hcl⟩ := hcell h0
    have hxB : XZ Z sB vl vw vo vs B := .inl (.inr (.inl hvb))
    rw [e]
    refine apart_calls B LV.length c (some ⟨B, 0, none⟩) (fun i => LV[i]!) (fun i => RL[i]!.length) base W (tagL LV) (fun _ => rfl) hN (fun i hi => Nat.le_trans (h.listAt i hi).1 hmx) (fun i hi => ?_) (Nat.lt_of_lt_of_le hB s.size) ?_ (fun b i hb => ?_) (fun b i hb => ?_) (Nat.le_trans h.lo s.size) (fun i hi => ?_)
    · rw [World.cell?_of_block (w := w) (w' := W) (a := ⟨B, i, none⟩) (keepX B hxB hB)]
      exact hcl i hi
    · cases et : tagL LV B with
      | none => rfl
      | some i =>
        obtain ⟨hi, hb⟩ := tagL_some et
        rcases (h.listAt i hi).2 with ⟨e1, _⟩ | ⟨g, c', M, e1, hbb, hx, _⟩
        · rw [e1] at hb; simp [Value.ownBlock] at hb
        · rw [e1] at hb
          have e2 : g = B := by simpa [Value.ownBlock] using hb
          subst e2
          exact absurd hxB hx
    · obtain ⟨hi, hb2⟩ := tagL_some hb
      exact Nat.lt_of_lt_of_le (keepL i b hi hb2).1 s.size
    · obtain ⟨hi, hb2⟩ := tagL_some hb
      exact (keepL i b hi hb2).2.1
    · rcases (h.listAt i hi).2 with ⟨e1, e2⟩ | ⟨g, c', M, e1, hbb, hx, hc', hM, hrow⟩
      · exact .inl ⟨e1, by show RL[i]!.length = 0; rw [e2]; rfl⟩
      · have hb : LV[i]!.ownBlock = some g := by rw [e1]; rfl
        obtain ⟨f, hr, _⟩ := hrow
        exact .inr ⟨g, c', M, f, e1, tagL_of h.lap hi hb, hr.of_block (keepL i g hi hb).2.2, hc', hM, fun _ _ => trivial⟩
  · have hz : LV.length = 0 := by omega
    rw [e, hz]
    exact apart_calls 0 0 c A (fun _ => default) (fun _ => 0) base W (fun _ => none) (fun h => absurd h (by omega)) (by omega) (fun i hi => by omega) (fun i hi => by omega) (by have := h.lo; have := (h.xge sB (.inl rfl)).2; have := s.size; omega) rfl (fun b i hb => by cases hb) (fun b i hb => by cases hb) (Nat.le_trans h.lo s.size) (fun i hi => by omega)
end
end Go.Proofs.Ytbmfldoobkeieaa.PlShelf
