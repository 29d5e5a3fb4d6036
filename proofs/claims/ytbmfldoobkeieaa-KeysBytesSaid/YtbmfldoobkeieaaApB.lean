/- apartBytes: of lists that are apart it tells true, and touches nothing but these. -/
import Derived.Test.YtbmfldoobkeieaaOwn
import Derived.Test.YtbmfldoobkeieaaKBytes
import Derived.Test.YtbmfldoobkeieaaWWords
namespace Go.Proofs.Ytbmfldoobkeieaa.KForm
open Go.RowKit Go.Proofs.Ytbmfldoobkeieaa.Own
set_option linter.unusedVariables false
set_option linter.unusedSimpArgs false

theorem info5' : (Try.prog.info? 5).map (fun i => (i.zero, i.size, i.bytes)) = some (some (.int .u8 0), 1, 1) := by kernel_rfl
/-- the mark of the k-th list -/
def mk (k : Nat) : Value := .int .u8 ((k : Int) % 251 + 1)
/-- a slice that shares no row with any of the lists, nor with the list of lists -/
def Far (N B : Nat) (V : Nat → Value) (g : Value) : Prop := ∀ blk, g.ownBlock = some blk → blk ≠ B ∧ ∀ i, i < N → (V i).ownBlock ≠ some blk
theorem Far.ne {N B : Nat} {V : Nat → Value} {g : Value} (hf : Far N B V g) (i : Nat) (hi : i < N) : (V i).ownBlock = none ∨ (V i).ownBlock ≠ g.ownBlock := by
  cases h : (V i).ownBlock with
  | none => exact .inl rfl
  | some k => exact .inr fun e => (hf k e.symm).2 i hi h
/-- the lists, each full of its own mark, and the list of lists -/
structure St (base N B : Nat) (e size : Nat) (V : Nat → Value) (L : Nat → Nat) (M : Nat → Nat → Value) (w wq : World) : Prop where
  below : Below base w wq
  lt : B < wq.heap.size
  lo : base ≤ wq.heap.size
  ne : ∀ i, i < N → (V i).ownBlock ≠ some B
  ap : ∀ i j, i < N → j < N → i ≠ j → (V i).ownBlock = none ∨ (V i).ownBlock ≠ (V j).ownBlock
  cells : ∀ i, i < N → wq.cell? ⟨B, i, none⟩ = some (V i)
  has : ∀ i, i < N → Has wq base e size (V i) (L i) (fun j x => x = M i j)
theorem St.alloc {base N B e size : Nat} {V : Nat → Value} {L : Nat → Nat} {M : Nat → Nat → Value} {w wq : World} (h : St base N B e size V L M w wq) (o : Obj) : St base N B e size V L M w (wq.alloc o) :=
  ⟨h.below.alloc h.lo o, by have := h.lt; simp; omega, by have := h.lo; simp; omega, h.ne, h.ap, fun i hi => by
    rw [World.cell?_of_block (w := wq) (w' := wq.alloc o) (a := ⟨B, i, none⟩) (Below.heap_alloc wq o B h.lt)]; exact h.cells i hi, fun i hi => (h.has i hi).alloc o⟩
theorem St.push {base N B e size : Nat} {V : Nat → Value} {L : Nat → Nat} {M : Nat → Nat → Value} {w wq w' : World} (h : St base N B e size V L M w wq) {g : Value} {n b' q : Nat} {good : Nat → Value → Prop} (hsz : 0 < size) (hq : q < N)
    (hg : Has wq base e size g n good) (hold : Has w' base e size g n good) (hgr : wq.grownBy w' g.ownBlock) (hblk : g.ownBlock = some b' ∨ wq.heap.size ≤ b')
    (hf : (g.ownBlock = (V q).ownBlock ∧ L q ≤ n ∧ ∀ j x, j < L q * size → good j x → x = M q j) ∨ Far N B V g) :
    St base N B e size V L M w w' ∧ ∀ n' c, (Value.slice (some ⟨b', 0, none⟩) n' c).ownBlock = (V q).ownBlock ∨ Far N B V (.slice (some ⟨b', 0, none⟩) n' c) := by
  have hB : g.ownBlock ≠ some B := by
    rcases hf with ⟨h1, _⟩ | h1
    · rw [h1]; exact h.ne q hq
    · exact fun hb => (h1 B hb).1 rfl
  refine ⟨⟨h.below.grown hgr h.lo (fun k hk => (hg.block k hk).1), Nat.lt_of_lt_of_le h.lt hgr.size, Nat.le_trans h.lo hgr.size, h.ne, h.ap, fun i hi => ?_, fun i hi => ?_⟩, fun n' c => ?_⟩
  · rw [World.cell?_of_block (w := wq) (w' := w') (a := ⟨B, i, none⟩) (hgr.block B h.lt (fun e => hB e.symm))]
    exact h.cells i hi
  · rcases hf with ⟨h1, h2, h3⟩ | h1
    · by_cases e : i = q
      · subst e
        exact (h.has i hi).share hg hold h1.symm hsz h2 (fun j hj x hx => h3 j x hj hx)
      · refine (h.has i hi).keep hgr ?_
        rw [h1]
        exact h.ap i q hi hq e
    · exact (h.has i hi).keep hgr (h1.ne i hi)
  · have fresh : wq.heap.size ≤ b' → Far N B V (.slice (some ⟨b', 0, none⟩) n' c) := by
      intro hb blk hk
      have : b' = blk := by simpa [Value.ownBlock] using hk
      subst this
      refine ⟨by have := h.lt; omega, fun i hi e => ?_⟩
      have := ((h.has i hi).block b' e).2
      omega
    rcases hf with ⟨h1, _⟩ | h1
    · rcases hblk with h2 | h2
      · left
        rw [← h1, h2]
        rfl
      · exact .inr (fresh h2)
    · right
      rcases hblk with h2 | h2
      · intro blk hk
        have : b' = blk := by simpa [Value.ownBlock] using hk
        subst this
        exact h1 b' h2
      · exact fresh h2
theorem Far.push {base N B e size : Nat} {V : Nat → Value} {L : Nat → Nat} {M : Nat → Nat → Value} {w wq : World} {g : Value} {b' n' c s' : Nat} (hf : Far N B V g) (hblk : g.ownBlock = some b' ∨ s' ≤ b') (h : St base N B e size V L M w wq) (hs : wq.heap.size ≤ s' := by simp) : Far N B V (.slice (some ⟨b', 0, none⟩) n' c) := by
  intro blk hk
  have : b' = blk := by simpa [Value.ownBlock] using hk
  subst this
  rcases hblk with h2 | h2
  · exact hf b' h2
  · refine ⟨by have := h.lt; omega, fun i hi e => ?_⟩
    have := ((h.has i hi).block b' e).2
    omega
set_option maxHeartbeats 8000000 in
set_option maxRecDepth 100000 in
theorem apart_calls (B N c : Nat) (V : Nat → Value) (L : Nat → Nat) (base : Nat) (w : World) (hN : N ≤ 1000) (hL : ∀ i, i < N → L i ≤ 1000) (hcells : ∀ i, i < N → w.cell? ⟨B, i, none⟩ = some (V i)) (hB : B < w.heap.size)
    (hne : ∀ i, i < N → (V i).ownBlock ≠ some B) (hap : ∀ i j, i < N → j < N → i ≠ j → (V i).ownBlock = none ∨ (V i).ownBlock ≠ (V j).ownBlock) (hbase : base ≤ w.heap.size) (hv : ∀ i, i < N → Has w base 5 1 (V i) (L i) (fun _ _ => True)) :
    Calls Try.prog 21 #[.slice (some ⟨B, 0, none⟩) N c] w fun e w' => e = .returned (.bool true) ∧ Below base w w' := by
  obtain ⟨i0, hi, hz0, hz1, hz2⟩ := info_parts info5'
  have HL := Lib.hid hL
  have HNE := Lib.hid hne
  have HAP := Lib.hid hap
  have HV := Lib.hid hv
  have HC := Lib.hid hcells
  clear hL hcells hne hap hv
  -- what the rest of a world's changes leave
  have KC : Hid (∀ (w1 w2 : World) (row : Option Nat), w1.grownBy w2 row → w.heap.size ≤ w1.heap.size → row ≠ some B → (∀ i, i < N → w1.cell? ⟨B, i, none⟩ = some (V i)) → ∀ i, i < N → w2.cell? ⟨B, i, none⟩ = some (V i)) := Lib.hid (fun w1 w2 row hg hs hr h i hi => by
    rw [World.cell?_of_block (w := w1) (w' := w2) (a := ⟨B, i, none⟩) (hg.block B (by omega) (fun h => hr h.symm))]
    exact h i hi)
  go_enter Try.func21, Try.ntmps21
  go_wp2
  go_loopg [3, 4] N (fun gg s3 _ wr => ∃ k : Nat, k ≤ N ∧ N - k ≤ gg ∧ s3 = .int .i64 k ∧ Aside (Below base w wr) ∧ Aside (∀ i, i < N → wr.cell? ⟨B, i, none⟩ = some (V i)) ∧ Aside (∀ i, i < N → Has wr base 5 1 (V i) (L i) (fun _ x => i < k → x = mk i)))
  case atStart => exact ⟨0, Nat.zero_le _, by omega, rfl, Below.refl _ _, HC.out, fun i hi => (HV.out i hi).imp (fun _ _ _ _ h => absurd h (Nat.not_lt_zero _))⟩
  case round =>
    obtain ⟨k, hk, hg, rfl, BW, CC, HH⟩ := hrel
    by_cases hlt : k < N
    · have hltz : (k : Int) < (N : Int) := by omega
      have hc := CC.out k hlt
      have hLk := HL.out k hlt
      rcases HH.out k hlt with ⟨hvn, hln⟩ | ⟨b, cc, f, hvb, hb1, hrow, hn, hcm, hgd⟩
      · rw [hvn] at hc
        go_wp2
        go_rounds 1
        go_roundg (N - (k + 1))
        case measure => omega
        case rel =>
          refine ⟨k + 1, by omega, by omega, by go_num, BW, CC, (show Aside _ from fun i hi => ?_)⟩
          by_cases e : i = k
          · subst e; rw [hvn, hln]; exact .inl ⟨rfl, rfl⟩
          · exact (HH.out i hi).imp (fun j _ x h h2 => h (by omega))
      · rw [hvb] at hc
        have HVB := Lib.hid hvb
        clear hvb
        go_wp2
        go_loopg [4] (L k) (fun gg s4 wq => ∃ m : Nat, m ≤ L k ∧ L k - m ≤ gg ∧ s4 = .int .i64 m ∧ Aside (Below base w wq) ∧ Aside (∀ i, i < N → wq.cell? ⟨B, i, none⟩ = some (V i)) ∧ Aside (∀ i, i < N → i ≠ k → Has wq base 5 1 (V i) (L i) (fun _ x => i < k → x = mk i)) ∧ Aside (∃ f, wq.rowIs b 5 (cc * 1) f ∧ ∀ j, j < m → f j = mk k))
        case atStart => exact ⟨0, Nat.zero_le _, by omega, rfl, BW.out, CC.out, fun i hi _ => HH.out i hi, f, hrow, fun j hj => absurd hj (Nat.not_lt_zero _)⟩
        case round =>
          obtain ⟨m, hm, hg2, rfl, BW2, CC2, HO2, HR2⟩ := hrel
          have hc2 := CC2.out k hlt
          rw [HVB.out] at hc2
          by_cases hlt2 : m < L k
          · have hltz2 : (m : Int) < (L k : Int) := by omega
            obtain ⟨f2, hrow2, hf2⟩ := HR2.out
            have hce := hrow2.cell (i := m) (by omega)
            have hfr := hrow2.frozen m
            go_wp2
            go_roundg (L k - (m + 1))
            case measure => omega
            case rel =>
              have hgs : wr.grownBy (wr.setCell ⟨b, m, none⟩ (mk k)) (some b) := grownBy_setCells b [mk k] m wr
              have hbB : (some b : Option Nat) ≠ some B := by have := HNE.out k hlt; rw [HVB.out] at this; exact this
              refine ⟨m + 1, by omega, by omega, by go_num, (show Aside _ from BW2.out.setCell hb1 _), (show Aside _ from KC.out _ _ _ hgs BW2.out.size hbB CC2.out), (show Aside _ from fun i hi hik => (HO2.out i hi hik).keep hgs ?_), (show Aside _ from ⟨_, hrow2.set m (mk k), fun j hj => ?_⟩)⟩
              · have := HAP.out i k hi hlt hik
                rw [HVB.out] at this
                exact this
              · by_cases e : j = m
                · exact if_pos e
                · exact (if_neg e).trans (hf2 j (by omega))
          · have hltz2 : ¬ (m : Int) < (L k : Int) := by omega
            have : m = L k := by omega
            subst this
            go_wp2
            go_roundg (N - (k + 1))
            case measure => omega
            case rel =>
              refine ⟨k + 1, by omega, by omega, by go_num, BW2, CC2, (show Aside _ from fun i hi => ?_)⟩
              by_cases e : i = k
              · subst e
                obtain ⟨f2, hrow2, hf2⟩ := HR2.out
                exact .inr ⟨b, cc, f2, HVB.out, hb1, hrow2, hn, hcm, fun j hj _ => hf2 j (by omega)⟩
              · exact (HO2.out i hi e).imp (fun j _ x h h2 => h (by omega))
    · have hltz : ¬ (k : Int) < (N : Int) := by omega
      have : k = N := by omega
      subst this
      have S0 : Hid (St base k B 5 1 V L (fun i _ => mk i) w wr) := Lib.hid ⟨BW.out, Nat.lt_of_lt_of_le hB BW.out.size, Nat.le_trans hbase BW.out.size, HNE.out, HAP.out, CC.out, fun i hi => (HH.out i hi).imp (fun j _ x h => h hi)⟩
      clear HH BW CC
      go_wp2
      go_loopg [5, 6, 7, 8, 9] k (fun gg s5 _ _ _ _ wq => ∃ q : Nat, q ≤ k ∧ k - q ≤ gg ∧ s5 = .int .i64 q ∧ Aside (St base k B 5 1 V L (fun i _ => mk i) w wq))
      case atStart => exact ⟨0, Nat.zero_le _, by omega, rfl, S0.out⟩
      case round =>
        clear S0 hk hg
        obtain ⟨q, hq, hg, rfl, SS⟩ := hrel
        by_cases hlt : q < k
        · have hltz : (q : Int) < (k : Int) := by omega
          have hc := SS.out.cells q hlt
          have hLk := HL.out q hlt
          go_wp2
          go_loopg [6, 7] 20 (fun gg s6 s7 wq => ∃ m : Nat, m ≤ 20 ∧ 20 - m ≤ gg ∧ s7 = .int .i64 m ∧ Aside (St base k B 5 1 V L (fun i _ => mk i) w wq) ∧ 
            Aside (Has wq base 5 1 s6 (L q + m) (fun j x => j < L q → x = mk q)) ∧ Aside (s6.ownBlock = (V q).ownBlock ∨ Far k B V s6))
          case atStart => exact ⟨0, Nat.zero_le _, by omega, rfl, SS.out, (SS.out.has q hlt).imp (fun j _ x h _ => h), .inl rfl⟩
          case round =>
            clear SS hc
            obtain ⟨m, hm, hg2, rfl, SS, HG2, HF2⟩ := hrel
            by_cases hlt2 : m < 20
            · have hltz2 : (m : Int) < (20 : Int) := by omega
              go_wp2_with (at_builtin; refine wpList_append_has _ rfl _ _ 31 rfl base 5 i0 (.int .u8 0) 1 1 Try.underlying31 hi hz0 hz1 hz2 rfl (by decide) _ (L q + m) (fun j x => j < L q → x = mk q) rfl ?hv ⟨_, 0, none⟩ 1 1 [mk q] rfl rfl ?c1 ?c2 ?c3 ?c4 ?c5 ?c6 ?_)
              case hv => exact HG2.out.alloc _
              case c1 =>
                intro j u hj
                rw [add_zero_off, World.cell?_alloc_at _ _ _ _ rfl]
                simpa [mk] using hj
              case c2 => simp [mk, Value.oneCell']
              case c3 => omega
              case c4 => unfold maxLen; omega
              case c5 => omega
              case c6 => exact (SS.out.alloc _).lo
              intro b' c' w' hnew hblk hold hgr
              obtain ⟨S2, F2⟩ := (SS.out.alloc _).push (by decide) hlt (HG2.out.alloc _) hold hgr (by simpa using hblk) (HF2.out.imp (fun h => ⟨h, by omega, fun j x hj h2 => h2 (by omega)⟩) id)
              have S3 := Lib.hid S2
              have F3 := Lib.hid (F2 (L q + m + 1) c')
              have G3 := Lib.hid hnew
              clear S2 F2 hnew hold hgr hblk
              go_wp2
              go_roundg (20 - (m + 1))
              case measure => omega
              case rel =>
                exact ⟨m + 1, by omega, by omega, by go_num, S3.out, (show Aside _ from G3.out.imp (fun j hj x h h1 => h.1 (by omega) h1)), F3.out⟩
            · have hltz2 : ¬ (m : Int) < (20 : Int) := by omega
              clear HG2 HF2
              go_wp2
              go_loopg [8, 9] 64 (fun gg s8 s9 wq => ∃ m : Nat, m ≤ 64 ∧ 64 - m ≤ gg ∧ s9 = .int .i64 m ∧ Aside (St base k B 5 1 V L (fun i _ => mk i) w wq) ∧ Aside (Has wq base 5 1 s8 m (fun j x => x = mk q)) ∧ Aside (Far k B V s8))
              case atStart => exact ⟨0, Nat.zero_le _, by omega, rfl, SS.out, .inl ⟨rfl, rfl⟩, fun blk h => by simp [Value.ownBlock] at h⟩
              case round =>
                clear SS hm hg2 hltz2
                obtain ⟨m, hm, hg2, rfl, SS, HG2, HF2⟩ := hrel
                by_cases hlt3 : m < 64
                · have hltz3 : (m : Int) < (64 : Int) := by omega
                  go_wp2_with (at_builtin; refine wpList_append_has _ rfl _ _ 31 rfl base 5 i0 (.int .u8 0) 1 1 Try.underlying31 hi hz0 hz1 hz2 rfl (by decide) _ m (fun j x => x = mk q) rfl ?hv ⟨_, 0, none⟩ 1 1 [mk q] rfl rfl ?c1 ?c2 ?c3 ?c4 ?c5 ?c6 ?_)
                  case hv => exact HG2.out.alloc _
                  case c1 =>
                    intro j u hj
                    rw [add_zero_off, World.cell?_alloc_at _ _ _ _ rfl]
                    simpa [mk] using hj
                  case c2 => simp [mk, Value.oneCell']
                  case c3 => omega
                  case c4 => unfold maxLen; omega
                  case c5 => omega
                  case c6 => exact (SS.out.alloc _).lo
                  intro b' c' w' hnew hblk hold hgr
                  obtain ⟨S2, F2⟩ := (SS.out.alloc _).push (by decide) hlt (HG2.out.alloc _) hold hgr (by simpa using hblk) (.inr HF2.out)
                  have S3 := Lib.hid S2
                  have F3 : Hid (Far k B V (.slice (some ⟨b', 0, none⟩) (m + 1) c')) := Lib.hid (Far.push HF2.out hblk SS.out)
                  have G3 := Lib.hid hnew
                  clear S2 F2 hnew hold hgr hblk
                  go_wp2
                  go_roundg (64 - (m + 1))
                  case measure => omega
                  case rel =>
                    exact ⟨m + 1, by omega, by omega, by go_num, S3.out, (show Aside _ from G3.out.imp (fun j hj x h => by
                      by_cases e : j < m
                      · exact h.1 (by omega) 
                      · have := h.2 (by omega)
                        rw [show j - m = 0 by omega] at this
                        simpa using this.symm)), F3.out⟩
                · have hltz3 : ¬ (m : Int) < (64 : Int) := by omega
                  have : m = 64 := by omega
                  subst this
                  rcases HG2.out with ⟨_, h0⟩ | ⟨bm, cm, fm, rfl, _, hrow, hn1, _, hgd⟩
                  · omega
                  have hc := SS.out.cells q hlt
                  have MR : Hid (∀ j u, (List.replicate 64 (mk q))[j]? = some u → wr.cell? ⟨bm, j, none⟩ = some u) := Lib.hid (fun j u hj => by
                    obtain ⟨h1, h2⟩ := List.getElem?_eq_some_iff.mp hj
                    rw [List.length_replicate] at h1
                    rw [List.getElem_replicate] at h2
                    rw [hrow.cell (by omega), hgd j (by omega), h2])
                  clear hrow hgd HG2 HF2
                  go_wp2_with (at_builtin; refine wpList_append_has _ rfl _ _ 31 rfl base 5 i0 (.int .u8 0) 1 1 Try.underlying31 hi hz0 hz1 hz2 rfl (by decide) _ (L q) (fun j x => x = mk q) rfl ?hv ⟨bm, 0, none⟩ 64 cm (List.replicate 64 (mk q)) rfl rfl ?c1 ?c2 ?c3 ?c4 ?c5 ?c6 ?_)
                  case hv => exact SS.out.has q hlt
                  case c1 => exact fun j u hj => MR.out j u hj
                  case c2 => rfl
                  case c4 => unfold maxLen; omega
                  case c5 => omega
                  case c6 => exact SS.out.lo
                  intro b' c' w' hnew hblk hold hgr
                  have S3 := Lib.hid (SS.out.push (by decide) hlt (SS.out.has q hlt) hold hgr hblk (.inl ⟨rfl, Nat.le_refl _, fun j x _ h => h⟩)).1
                  clear hnew hold hgr hblk MR SS hc
                  have hc := S3.out.cells q hlt
                  rcases S3.out.has q hlt with ⟨hvn, hln⟩ | ⟨b2, cc, f2, hvb, _⟩
                  · rw [hvn] at hc
                    have hln2 : (L q : Int) = 0 := by omega
                    go_wp2
                    go_roundg (k - (q + 1))
                    case measure => omega
                    case rel => exact ⟨q + 1, by omega, by omega, by go_num, S3.out⟩
                  · rw [hvb] at hc
                    go_wp2
                    go_roundg (k - (q + 1))
                    case measure => omega
                    case rel => exact ⟨q + 1, by omega, by omega, by go_num, S3.out⟩
        · have hltz : ¬ (q : Int) < (k : Int) := by omega
          have : q = k := by omega
          subst this
          go_wp2
          go_loopg [10, 11] q (fun gg s10 _ wq => ∃ r : Nat, r ≤ q ∧ q - r ≤ gg ∧ s10 = .int .i64 r ∧ Aside (St base q B 5 1 V L (fun i _ => mk i) w wq))
          case atStart => exact ⟨0, Nat.zero_le _, by omega, rfl, SS.out⟩
          case round =>
            clear SS hq hg hlt hltz
            obtain ⟨r, hr, hg, rfl, SS⟩ := hrel
            by_cases hlt : r < q
            · have hltz : (r : Int) < (q : Int) := by omega
              have hc := SS.out.cells r hlt
              have hLr := HL.out r hlt
              rcases SS.out.has r hlt with ⟨hvn, hln⟩ | ⟨b, cc, f, hvb, hb1, hrow, hn, hcm, hgd⟩
              · rw [hvn] at hc
                go_wp2
                go_rounds 1
                go_roundg (q - (r + 1))
                case measure => omega
                case rel => exact ⟨r + 1, by omega, by omega, by go_num, SS.out⟩
              · rw [hvb] at hc
                go_wp2
                go_loopg [11] (L r) (fun gg s11 wq => ∃ m : Nat, m ≤ L r ∧ L r - m ≤ gg ∧ s11 = .int .i64 m ∧ wq = wr)
                case atStart => exact ⟨0, Nat.zero_le _, by omega, rfl, rfl⟩
                case round =>
                  obtain ⟨m, hm, hg2, rfl, rfl⟩ := hrel
                  by_cases hlt2 : m < L r
                  · have hltz2 : (m : Int) < (L r : Int) := by omega
                    have hce := hrow.cell (i := m) (by omega)
                    rw [hgd m (by omega)] at hce
                    unfold mk at hce
                    go_wp2
                    go_roundg (L r - (m + 1))
                    case measure => omega
                    case rel => exact ⟨m + 1, by omega, by omega, by go_num, rfl⟩
                  · have hltz2 : ¬ (m : Int) < (L r : Int) := by omega
                    go_wp2
                    go_roundg (q - (r + 1))
                    case measure => omega
                    case rel => exact ⟨r + 1, by omega, by omega, by go_num, SS.out⟩
            · have hltz : ¬ (r : Int) < (q : Int) := by omega
              go_wp2
              go_ret
              exact ⟨rfl, SS.out.below⟩
end Go.Proofs.Ytbmfldoobkeieaa.KForm
