/- The law KeysSplitOne: the walk of the law function, joined with what it tells. -/
import Derived.Test.YtbmfldoobkeieaaDoorPureSpl
import Derived.Test.YtbmfldoobkeieaaDoorKRow
import Derived.Deep.OwnRows
import Derived.Deep.QuietTactic
import Derived.BigQuiet
namespace Go.Proofs.YtbmfldoobkeieaaDoor.WalkSpl
open Go.RowKit Go.Proofs.YtbmfldoobkeieaaDoor.KForm Go.Proofs.YtbmfldoobkeieaaDoor.GSpl Go.Proofs.YtbmfldoobkeieaaDoor.PureSpl Go.Proofs.YtbmfldoobkeieaaDoorW.PrintWords
set_option linter.unusedVariables false
set_option linter.unusedSimpArgs false

theorem keys_read {W : World} {A : Option Addr} {l : List (Int × Int)} (hC : ReadsRow (fun (p : Int × Int) cs => cs = [.int .i64 p.1, .int .i64 p.2]) 2 W A l.length l) :
    Kd.C k35 W A (l.map fun p => (⟨p.1, p.2⟩ : S35)).length (l.map fun p => (⟨p.1, p.2⟩ : S35)) := by
  obtain ⟨h1, h2, h3⟩ := hC
  refine ⟨rfl, by rw [List.length_map]; exact h2, fun h0 => ?_⟩
  obtain ⟨ad, rfl, hc⟩ := h3 (by simpa using h0)
  refine ⟨ad, rfl, fun j p hj => ?_⟩
  rw [List.getElem?_map] at hj
  obtain ⟨q, hq, rfl⟩ := Option.map_eq_some_iff.mp hj
  obtain ⟨c, c1, c2, c3⟩ := hc j q hq
  exact ⟨c, c1, ⟨[_], [_], c2, rfl, rfl⟩, c3⟩
theorem wide_of {l : List (Int × Int)} (hb : ∀ x ∈ l, (Lit.int .i64 x.1).wf = true ∧ (Lit.int .i64 x.2).wf = true) : ∀ x ∈ (l.map fun p => (⟨p.1, p.2⟩ : S35)), PureSpl.Wide x := by
  intro x hx
  obtain ⟨q, hq, rfl⟩ := List.mem_map.mp hx
  have := (hb q hq).2
  show -9223372036854775808 ≤ q.2 ∧ q.2 ≤ 9223372036854775807
  simpa [Lit.wf, IntKind.min, IntKind.max, IntKind.signed, IntKind.bits] using this
/-- how many of the first i members are of partition p -/
def cf (m : Nat) (l : List S35) (i p : Nat) : Int := (((l.take i).filter fun x => PureSpl.part m x == p).length : Int)
theorem num_q (a : Int) (w : World) : Calls Tryd.prog 13 #[.int .i64 a] w fun e w' => e = .returned (.int .i64 a) ∧ ∃ m, w' = w.drewN m := (preludelaw02_num.calls a a w rfl).mono fun _ _ h => ⟨h.1, h.2.out⟩
theorem key_cells {w : World} {A : Option Addr} {l : List S35} (h : Kd.C k35 w A l.length l) (i : Nat) (hi : i < l.length) :
    ∃ ad, A = some ad ∧ w.cell? (ad.add (i * 2)) = some (.int .i64 l[i].f0) ∧ w.cell? ⟨(ad.add (i * 2)).block, (ad.add (i * 2)).off + 1, none⟩ = some (.int .i64 l[i].f1) := by
  obtain ⟨ad, hA, hc⟩ := h.2.2 (by omega)
  obtain ⟨c, _, hk, hcell⟩ := hc i _ (List.getElem?_eq_getElem hi)
  rw [k35_open hk] at hcell
  refine ⟨ad, hA, hcell 0 _ rfl, ?_⟩
  have := hcell 1 _ rfl
  rw [← Addr.add_add, Addr.add_succ'] at this
  exact this
theorem list_cells {w : World} {ad : Addr} {n : Nat} {L : List (List S35)} (h : Kd.C (Kd.slice 35 k35) w (some ad) n L) (p : Nat) (x : List S35) (hp : L[p]? = some x) :
    ∃ A c, w.cell? (ad.add p) = some (.slice A x.length c) ∧ x.length ≤ c ∧ Kd.C k35 w A x.length x := by
  have hlt := (List.getElem?_eq_some_iff.mp hp).1
  obtain ⟨ad', hA, hc⟩ := h.2.2 (by have := h.1; omega)
  cases hA
  obtain ⟨c, _, ⟨A, cc, rfl, h1, h2⟩, hcell⟩ := hc p x hp
  have := hcell 0 _ rfl
  rw [show p * (Kd.slice 35 k35).sz + 0 = p from by show p * 1 + 0 = p; omega] at this
  exact ⟨A, cc, this, h1, h2⟩
set_option maxHeartbeats 8000000 in
set_option maxRecDepth 100000 in
theorem walk (W : World) (A : Option Addr) (c : Nat) (l : List S35) (n : Int) (hC : Kd.C k35 W A l.length l) (hc : l.length ≤ c) (hw : ∀ x ∈ l, Wide x) (hz : l.length < 8796093022208) (hT : TabW W) :
    Calls Tryd.prog 3 #[.slice A l.length c, .int .i64 n] W fun e W' => e = .returned (.bool true) ∧ Below W.heap.size W W' := by
  have HC : Hid (∀ w', Below W.heap.size W w' → Kd.C k35 w' A l.length l) := Lib.hid (fun w' h => Kd.C_below hC h)
  have HW := Lib.hid hw
  have HT := Lib.hid hT
  clear hC hw hT
  go_enter Tryd.func3, Tryd.ntmps3
  go_wp2_with fail
  refine (preludelaw02_plain.calls true _ rfl HT.out).mono ?_
  rintro e w1 ⟨rfl, hb1⟩
  have B1 := Lib.hid hb1
  have z1 := hb1.size
  clear hb1
  go_wp2_with fail
  refine (preludelaw02_copied.calls A c l l _ (HC.out _ B1.out) hc (copied_f l hz)).mono ?_
  rintro e w2 ⟨v2, rfl, hr2, hb2⟩
  obtain ⟨A2, c2, rfl⟩ := Kd.R_slice hr2
  obtain ⟨_, hc2, hC2⟩ := Kd.R_reads' hr2
  have B2 : Hid (Below W.heap.size W w2) := Lib.hid (B1.out.trans (hb2.mono z1))
  have z2 := B2.out.size
  have C2 := Lib.hid hC2
  clear hr2 hb2 hC2 B1 z1
  by_cases good : 1 ≤ n ∧ n ≤ 256 ∧ l.all isKey = true
  case neg =>
    obtain ⟨e0, he0, hs⟩ := split_bad l n good
    have HS := Lib.hid hs
    have HN := Lib.hid good
    have he1 : (e0 != 0) = true := by simpa using he0
    clear hs good
    go_wp2_with fail
    refine (keys_Split.calls (l.length + 1) A2 c2 l n [] e0 _ C2.out hc2 HS.out).mono ?_
    rintro e w3 ⟨v3, rfl, hr3, hb3⟩
    obtain ⟨A3, c3, rfl⟩ := Kd.S_slice hr3
    have B3 : Hid (Below W.heap.size W w3) := Lib.hid (B2.out.trans (hb3.mono z2))
    clear hr3 hb3
    go_wp2_with fail
    refine (preludelaw02_sound.calls (l.length + 1) A c l (l.all isKey) _ (HC.out _ B3.out) hc (sound_f l hz)).mono ?_
    rintro e w' ⟨rfl, ⟨n1, rfl⟩⟩
    cases hk : l.all isKey
    · go_wp2_with fail
      refine (preludelaw02_num.calls e0 e0 _ rfl).mono ?_
      rintro e w' ⟨rfl, ⟨n2, rfl⟩⟩
      go_wp2_with fail
      go_ret
      exact ⟨rfl, by repeat (first | exact B3.out | apply pw_below_drewN)⟩
    · have hk' : ¬ (1 ≤ n ∧ n ≤ 256) := fun h => HN.out ⟨h.1, h.2, hk⟩
      by_cases n1 : n < 1
      · go_wp2_with fail
        refine (preludelaw02_num.calls e0 e0 _ rfl).mono ?_
        rintro e w' ⟨rfl, ⟨n2, rfl⟩⟩
        go_wp2_with fail
        go_ret
        exact ⟨rfl, by repeat (first | exact B3.out | apply pw_below_drewN)⟩
      · have n2 : 256 < n := by omega
        go_wp2_with fail
        refine (preludelaw02_num.calls e0 e0 _ rfl).mono ?_
        rintro e w' ⟨rfl, ⟨n2, rfl⟩⟩
        go_wp2_with fail
        go_ret
        exact ⟨rfl, by repeat (first | exact B3.out | apply pw_below_drewN)⟩
  obtain ⟨g1, g2, g3⟩ := good
  obtain ⟨m, rfl⟩ : ∃ m : Nat, n = m := ⟨n.toNat, by omega⟩
  have hm1 : 1 ≤ m := by omega
  have hm2 : m ≤ 256 := by omega
  have HS := Lib.hid (split_good l m hm1 hm2 HW.out hz g3)
  have HK : Hid (∀ x ∈ l, isKey x = true) := Lib.hid (List.all_eq_true.mp g3)
  go_wp2_with fail
  refine (keys_Split.calls (l.length + 1) A2 c2 l m (grp m l) 0 _ C2.out hc2 HS.out).mono ?_
  rintro e w3 ⟨v3, rfl, hr3, hb3⟩
  obtain ⟨A3, c3, rfl⟩ := Kd.S_slice hr3
  obtain ⟨_, hc3, hC3⟩ := Kd.S_reads' hr3
  have hgl := grp_length m l
  rw [hgl] at hC3 hc3 ⊢
  obtain ⟨ad3, rfl, _⟩ := hC3.2.2 (by omega)
  have C3 : Hid (∀ w', Below w3.heap.size w3 w' → Kd.C (Kd.slice 35 k35) w' (some ad3) m (grp m l)) := Lib.hid (fun w' h => by have := Kd.C_below hC3 h; exact this)
  have B3 : Hid (Below W.heap.size W w3) := Lib.hid (B2.out.trans (hb3.mono z2))
  have z3 := B3.out.size
  clear hr3 hb3 hC3 C2 B2
  go_wp2_with fail
  refine (preludelaw02_sound.calls (l.length + 1) A c l true _ (HC.out _ B3.out) hc (by rw [sound_f l hz, g3])).mono ?_
  rintro e w' ⟨rfl, ⟨n1, rfl⟩⟩
  go_wp2_with fail
  refine (preludelaw02_num.calls 0 0 _ rfl).mono ?_
  rintro e w' ⟨rfl, ⟨n2, rfl⟩⟩
  have hmk := run_make_row' (P := Tryd.prog) 31 3 (.int .i64 0) 8 Tryd.underlying31 (by kernel_rfl) rfl .i64 .i64 m (by omega) (by omega)
  go_wp2_with fail
  have ROW0 : Hid (((w3.drewN (n1 + n2)).alloc (Obj.cells (madeCells #[Value.int IntKind.i64 0] m) 3)).rowIs w3.heap.size 3 m (fun p => .int .i64 (cf m l 0 p))) := Lib.hid (by
    have := World.rowIs_made (w3.drewN (n1 + n2)) (.int .i64 0) m 3
    rw [show (w3.drewN (n1 + n2)).heap.size = w3.heap.size by simp] at this
    exact this.congr (fun p _ => by simp [cf]))
  have BM : Hid (Below w3.heap.size w3 ((w3.drewN (n1 + n2)).alloc (Obj.cells (madeCells #[Value.int IntKind.i64 0] m) 3))) := Lib.hid ((pw_below_drewN (Below.refl _ _) _).alloc (by simp) _)
  clear hmk
  go_loopg [9, 10, 11] l.length (fun gg s9 _ _ wq => ∃ i : Nat, i ≤ l.length ∧ l.length - i ≤ gg ∧ s9 = .int .i64 i ∧ Aside (Below w3.heap.size w3 wq) ∧ Aside (wq.rowIs w3.heap.size 3 m (fun p => .int .i64 (cf m l i p))))
  case atStart => exact ⟨0, Nat.zero_le _, by omega, rfl, BM.out, ROW0.out⟩
  case round =>
    clear BM ROW0
    obtain ⟨i, hi, hg, rfl, BW, RW⟩ := hrel
    by_cases hlt : i < l.length
    · have hltz : (i : Int) < (l.length : Int) := by omega
      have hm := List.getElem_mem hlt
      obtain ⟨adl, hA, k0, k1⟩ := key_cells (HC.out wr (B3.out.trans (BW.out.mono z3))) i hlt
      subst hA
      have hpf := partition_f m hm1 hm2 l[i] (HW.out _ hm) (HK.out _ hm)
      have hp := part_lt m hm1 l[i]
      have hnth := nth_of m l i hlt
      have hgg := grp_get m l (PureSpl.part m l[i]) hp
      have HX : Hid (l[i] = l[i]) := Lib.hid rfl
      obtain ⟨p, hpe⟩ : ∃ p, p = PureSpl.part m l[i] := ⟨_, rfl⟩
      rw [← hpe] at hpf hp hnth hgg
      have HPE := Lib.hid hpe
      have HPF := Lib.hid hpf
      clear hpe hm hpf
      go_wp2_with fail
      refine (keys_Partition.calls l[i].f0 l[i].f1 m p 0 _ HPF.out).mono ?_
      rintro e w4 ⟨rfl, hb4⟩
      have B4 : Hid (Below w3.heap.size w3 w4) := Lib.hid (BW.out.trans (hb4.mono BW.out.size))
      have hrow : w4.rowIs w3.heap.size 3 m (fun p => .int .i64 (cf m l i p)) := RW.out.of_block (hb4.block _ RW.out.lt)
      have hat := hrow.cell hp
      obtain ⟨Ap, cp, hh, hcp, hCp⟩ := list_cells (C3.out w4 B4.out) p _ hgg
      obtain ⟨hjl, hje⟩ := List.getElem?_eq_some_iff.mp hnth
      obtain ⟨adp, hAp, e0, e1⟩ := key_cells hCp _ hjl
      subst hAp
      rw [hje] at e0 e1
      obtain ⟨adl', hA, q0, q1⟩ := key_cells (HC.out w4 (B3.out.trans (B4.out.mono z3))) i hlt
      cases hA
      have HR := Lib.hid hrow
      clear hrow hb4 k0 k1 hCp hnth hgg hje
      unfold cf at hat
      have hLl : (l.filter fun x => PureSpl.part m x == p).length ≤ l.length := List.length_filter_le _ _
      obtain ⟨j, hj⟩ : ∃ j, j = ((l.take i).filter fun x => PureSpl.part m x == p).length := ⟨_, rfl⟩
      rw [← hj] at hat e0 e1 hjl
      have HJ := Lib.hid hj
      clear hj
      generalize (l.filter fun x => PureSpl.part m x == p).length = L at hh hcp hjl hLl
      have hfr := HR.out.frozen p
      have hjl2 : (j : Int) < (L : Int) := by omega
      have hp2 : (p : Int) < (m : Int) := by omega
      have d1 : decide ((p : Int) < 0) = false := decide_eq_false (by omega)
      have d2 : decide ((m : Int) ≤ (p : Int)) = false := decide_eq_false (by omega)
      have d3 : decide ((L : Int) ≤ (j : Int)) = false := decide_eq_false (by omega)
      go_wp2_with fail
      go_quiet (exact Calls.quiet_of (num_q 0 _))
      go_wp2_with fail
      go_roundg (l.length - (i + 1))
      case measure => omega
      case rel =>
        refine ⟨i + 1, by omega, by omega, by go_num, (show Aside _ from (pw_below_drewN B4.out nq).setCell (Nat.le_refl _) _), (show Aside _ from ((HR.out.of_block (w' := w4.drewN nq) (by simp)).set p _).congr (fun q hq => ?_))⟩
        have hf := filter_next m l i q hlt
        by_cases e : q = p
        · subst e
          rw [if_pos rfl]
          unfold cf
          rw [hf, if_pos HPE.out.symm, List.length_append, ← HJ.out]
          rfl
        · rw [if_neg e]
          unfold cf
          rw [hf, if_neg (fun h => e (h.symm.trans HPE.out.symm)), List.append_nil]
    · have hltz : ¬ (i : Int) < (l.length : Int) := by omega
      have hie : i = l.length := by omega
      have RL : Hid (wr.rowIs w3.heap.size 3 m (fun p => .int .i64 ((l.filter fun x => PureSpl.part m x == p).length : Int))) := Lib.hid (RW.out.congr (fun q hq => by unfold cf; rw [hie, List.take_length]))
      have BL := Lib.hid BW.out
      clear RW BW hg
      go_wp2_with fail
      go_loopg [12] m (fun gg s12 wq => ∃ q : Nat, q ≤ m ∧ m - q ≤ gg ∧ s12 = .int .i64 q ∧ Aside (Below w3.heap.size w3 wq) ∧ Aside (wq.rowIs w3.heap.size 3 m (fun p => .int .i64 ((l.filter fun x => PureSpl.part m x == p).length : Int))))
      case atStart => exact ⟨0, Nat.zero_le _, by omega, rfl, BL.out, RL.out⟩
      case round =>
        clear BL RL hltz
        obtain ⟨q, hq, hg, rfl, BW, RW⟩ := hrel
        by_cases hlt2 : q < m
        · have hltz : (q : Int) < (m : Int) := by omega
          have hat := RW.out.cell hlt2
          obtain ⟨Ap, cp, hh, hcp, hCp⟩ := list_cells (C3.out wr BW.out) q _ (grp_get m l q hlt2)
          clear hCp
          generalize (l.filter fun x => PureSpl.part m x == q).length = L at hat hh hcp
          go_wp2_with fail
          go_quiet (fail)
          go_wp2_with fail
          go_roundg (m - (q + 1))
          case measure => omega
          case rel => exact ⟨q + 1, by omega, by omega, by go_num, pw_below_drewN BW.out nq, RW.out.of_block (by simp)⟩
        · have hltz : ¬ (q : Int) < (m : Int) := by omega
          go_wp2_with fail
          go_ret
          exact ⟨rfl, B3.out.trans (BW.out.mono z3)⟩
theorem keysSplitOne (W : World) (A : Option Addr) (c : Nat) (l : List (Int × Int)) (hc : l.length ≤ c) (hC : ReadsRow (fun (p : Int × Int) cs => cs = [.int .i64 p.1, .int .i64 p.2]) 2 W A l.length l)
    (hb : ∀ x ∈ l, (Lit.int .i64 x.1).wf = true ∧ (Lit.int .i64 x.2).wf = true) (hz : l.length < 8796093022208) (n : Int) (wn : (Lit.int .i64 n).wf = true) (hT : TabW W) :
    Calls Tryd.prog 3 #[.slice A l.length c, .int .i64 n] W fun e W' => e = .returned (.bool true) ∧ Below W.heap.size W W' := by
  have := walk W A c (l.map fun p => ⟨p.1, p.2⟩) n (keys_read hC) (by rw [List.length_map]; exact hc) (wide_of hb) (by rw [List.length_map]; exact hz) hT
  rw [List.length_map] at this
  exact this
end Go.Proofs.YtbmfldoobkeieaaDoor.WalkSpl
