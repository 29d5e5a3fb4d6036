/- A region that draws its order and only reads, within a round of a loop over a function: one walk in the text's order serves every order (no defer statement stands in it). -/
import Derived.Test.YtbmfldoobkeieaaProg
import Derived.Sort.QuietIn
import Derived.OwnWalkIn
namespace Go.Proofs.Ytbmfldoobkeieaa.QuietR
set_option linter.unusedVariables false

/-- no defer statement -/
def calm (o : Oper) : Bool := match o.op with
  | .defer _ => false
  | _ => true
theorem calm_ne {o : Oper} (h : calm o = true) : ∀ c, o.op ≠ .defer c := by
  intro c hc
  unfold calm at h
  rw [hc] at h
  cases h
section
variable {F : Fence} {n : Nat} {P : Program} {ops : Array Oper} {C : World → Prop}
theorem oper {o : Oper} {a : Act} {K : Act → Prop} {K' : Act → World → Prop} {Q' : Exit → Act → World → Prop} {w : World} (hc : calm o = true) (hw : C w) (h : ∀ a w', C w' → K a → K' a w')
    (ha : o.askedIn F P a C) (hh : o.quietIn F n P a C K) : o.wpIn F n P a w K' Q' := by
  obtain ⟨v, h1, h2⟩ := hh
  have h3 := h1 w hw
  refine ⟨ha w hw, ?_⟩
  rw [Oper.semAt_plain F _ _ (calm_ne hc)]
  unfold Oper.quietAtIn at h3
  generalize (execOp a.eval o).run P w = r at h3 ⊢
  cases r with
  | halt x w' => simp only [Oper.quietUponIn] at h3
  | ok x w' =>
    cases x
    case value u =>
      simp only [Oper.quietUponIn] at h3
      simp only [Oper.uponIn]
      rw [h3.1, h3.2]
      exact h _ _ hw h2
    case skip =>
      simp only [Oper.quietUponIn] at h3
      simp only [Oper.uponIn]
      rw [h3.1, ← h3.2]
      exact h _ _ hw h2
    case enter f args =>
      simp only [Oper.quietUponIn] at h3
      simp only [Oper.uponIn]
      obtain ⟨e1, hd, hcl⟩ := h3
      rw [e1]
      exact ⟨hd, hcl.mono fun e w'' ⟨he, hw''⟩ => by subst he; exact h _ _ hw'' h2⟩
    all_goals simp only [Oper.quietUponIn] at h3
theorem one {i : Nat} {a : Act} {K : Act → Prop} {K' : Act → World → Prop} {Q' : Exit → Act → World → Prop} {w : World} (hall : ∀ (j : Nat) o, ops[j]? = some o → calm o = true) (hC : C w) (h : ∀ a w', C w' → K a → K' a w')
    (hh : qOpIn F n P ops C i K a) : wpOpIn F n P ops Q' i K' a w := by
  unfold qOpIn at hh
  unfold wpOpIn
  cases ho : ops[i]? with
  | none => simp only [ho] at hh ⊢; exact h _ _ hC hh
  | some o =>
    simp only [ho] at hh ⊢
    obtain ⟨ha, hh⟩ := hh
    by_cases hw : Region.wanted o (yielded ops a.tmps) = true
    · simp only [hw, if_true] at hh ⊢
      exact oper (hall i o ho) hC h ha hh
    · simp only [hw] at hh ⊢
      exact ⟨ha w hC, h _ _ hC hh⟩
theorem any {md : Region.Mode} {Q : Act → Prop} {Q' : Exit → Act → World → Prop} (hall : ∀ (j : Nat) o, ops[j]? = some o → calm o = true) (hQ : ∀ a w, C w → Q a → Q' .normal a w) : ∀ (fuel : Nat) (listed : Array Bool) (a : Act) (w : World), C w →
    wpAnyQIn F n P md ops C Q fuel listed a → wpAnyIn F n P md ops Q' fuel listed a w
  | 0, _, _, _, hw, h => ⟨h.1, hQ _ _ hw h.2⟩
  | fuel + 1, _, _, _, hw, h => ⟨fun h0 => hQ _ _ hw (h.1 h0), fun i hi => one hall hw (fun a' w' hw' => any hall hQ fuel _ a' w' hw') (h.2 i hi)⟩
theorem region {id : Nat} {Q : Exit → Act → World → Prop} {a : Act} {w : World} {l : List Oper} (hcalm : l.all calm = true) (hm : P.follows .mixedOrders = true) (hB : Region.lexB .any l.toArray = true)
    (h : wpQuietIn F n P l.toArray (fun w' => ∃ n, w' = w.drewN n) (fun a' => ∀ w', (∃ n, w' = w.drewN n) → Q .normal a' w') l a) : (Code.region id l.toArray true).wpIn F n P Q a w := by
  simp only [Region.lexB, Bool.and_eq_true] at hB
  refine wpIn_region_any hm (any (C := fun w' => ∃ n, w' = w.drewN n) (Q := fun a' => ∀ w', (∃ n, w' = w.drewN n) → Q .normal a' w') (fun j o ho => ?_) (fun _ w' hw' h => h w' hw') _ _ _ _ ⟨1, rfl⟩ ?_)
  · rw [List.getElem?_toArray] at ho
    exact List.all_eq_true.mp hcalm o (List.mem_of_getElem? ho)
  · have := wpAnyQIn_lex (F := F) (n := n) (P := P) (C := fun w' => ∃ n, w' = w.drewN n) (md := .any) hB.1 l 0 (Array.replicate l.toArray.size false) a (by simp) (by simpa using hB.2) h
    simpa using this
end
end Go.Proofs.Ytbmfldoobkeieaa.QuietR
