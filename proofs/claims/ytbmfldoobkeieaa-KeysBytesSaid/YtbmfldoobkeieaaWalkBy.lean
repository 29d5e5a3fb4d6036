/- The law KeysBytes: the walk of the law function. -/
import Derived.Test.YtbmfldoobkeieaaApB
import Derived.Test.YtbmfldoobkeieaaKRef
import Derived.Test.YtbmfldoobkeieaaKFrom
import Derived.Test.YtbmfldoobkeieaaGByx1

import Derived.Test.YtbmfldoobkeieaaWApart
import Derived.Test.YtbmfldoobkeieaaPureBy
namespace Go.Proofs.Ytbmfldoobkeieaa.WalkBy
open Go.RowKit Go.Proofs.Ytbmfldoobkeieaa.Own Go.Proofs.Ytbmfldoobkeieaa.KForm Go.Proofs.Ytbmfldoobkeieaa.GBy Go.Proofs.YtbmfldoobkeieaaW.PrintWords
set_option linter.unusedVariables false
set_option linter.unusedSimpArgs false

theorem add_block (a : Addr) (n : Nat) : (a.add n).block = a.block := by unfold Addr.add; split <;> rfl
def u8s (l : List Int) : List Value := l.map (Value.int .u8)
/-- what keys.Bytes and the reference's Bytes tell, in own memory -/
theorem bytes_own (t r : Int) (l : List Int) (c : Int) (w : World) (h : bytesF t r = some (l, c)) :
    Calls Try.prog 15 #[.agg #[.int .i64 t, .int .i64 r]] w fun e w' => ∃ v, e = .returned (.tuple #[v, .int .i64 c]) ∧ w'.ownsRow w.heap.size 5 1 v l.length (u8s l) ∧ Below w.heap.size w w' := by
  unfold bytesF at h
  split at h
  · rename_i hr
    have h := Option.some.inj h
    by_cases ht : 0 ≤ t ∧ t ≤ 65535
    · rw [if_pos ht] at h
      obtain ⟨rfl, rfl⟩ := Prod.mk.inj h
      exact bytes_calls t r w ht.1 ht.2 hr.1 hr.2
    · rw [if_neg ht] at h
      obtain ⟨rfl, rfl⟩ := Prod.mk.inj h
      refine (bytes_none t r w (by omega)).mono ?_
      rintro e w' ⟨rfl, hb⟩
      exact ⟨_, rfl, World.ownsRow_nil _ _ _ _, hb⟩
  · cases h
theorem rbytes_own (t r : Int) (l : List Int) (c : Int) (w : World) (h : bytesF t r = some (l, c)) :
    Calls Try.prog 16 #[.agg #[.int .i64 t, .int .i64 r]] w fun e w' => ∃ v, e = .returned (.tuple #[v, .int .i64 c]) ∧ w'.ownsRow w.heap.size 5 1 v l.length (u8s l) ∧ Below w.heap.size w w' := by
  unfold bytesF at h
  split at h
  · rename_i hr
    have h := Option.some.inj h
    by_cases ht : 0 ≤ t ∧ t ≤ 65535
    · rw [if_pos ht] at h
      obtain ⟨rfl, rfl⟩ := Prod.mk.inj h
      exact rbytes_calls t r w ht.1 ht.2 hr.1 hr.2
    · rw [if_neg ht] at h
      obtain ⟨rfl, rfl⟩ := Prod.mk.inj h
      refine (rbytes_none t r w (by omega)).mono ?_
      rintro e w' ⟨rfl, hb⟩
      exact ⟨_, rfl, World.ownsRow_nil _ _ _ _, hb⟩
  · cases h
/-- an own row of bytes, read -/
theorem own_reads {w : World} {base : Nat} {v : Value} {l : List Int} (h : w.ownsRow base 5 1 v l.length (u8s l)) : ∃ A c, v = .slice A l.length c ∧ l.length ≤ c ∧ Kd.C (Kd.int .u8) w A l.length l :=
  Kd.R_reads (Kd.R_of_own (enc := Value.int .u8) (h1 := fun _ => rfl) (ok := fun _ => True) (xs := l) h (fun _ _ => trivial))
theorem same_f (l : List Int) (hl : l.length ≤ 9223372036854775807) (d : Nat) : ∀ (i k : Nat), i ≤ l.length → l.length - i = d → d < k → preludelaw02_sameBytes.l0 k l l i = some true := by
  induction d with
  | zero =>
    intro i k h1 h2 h3
    obtain ⟨k, rfl⟩ : ∃ m, k = m + 1 := ⟨k - 1, by omega⟩
    rw [preludelaw02_sameBytes.l0, if_neg (by omega)]
  | succ d ih =>
    intro i k h1 h2 h3
    obtain ⟨k, rfl⟩ : ∃ m, k = m + 1 := ⟨k - 1, by omega⟩
    rw [preludelaw02_sameBytes.l0, if_pos (by omega), if_pos (by omega), if_pos (by omega), if_pos rfl, show wrap64 ((i : Int) + 1) = ((i + 1 : Nat) : Int) by unfold wrap64; omega]
    exact ih (i + 1) k (by omega) (by omega) (by omega)
theorem same_calls (l : List Int) (A1 A2 : Option Addr) (c1 c2 : Nat) (w : World) (h1 : Kd.C (Kd.int .u8) w A1 l.length l) (hc1 : l.length ≤ c1) (h2 : Kd.C (Kd.int .u8) w A2 l.length l) (hc2 : l.length ≤ c2) :
    Calls Try.prog 18 #[.slice A1 l.length c1, .slice A2 l.length c2] w fun e w' => e = .returned (.bool true) ∧ Drawn0 w w' := by
  refine preludelaw02_sameBytes.calls (l.length + 1) A1 c1 l A2 c2 l true w h1 hc1 h2 hc2 ?_
  unfold preludelaw02_sameBytes.f
  rw [if_pos rfl]
  exact same_f l h1.2.1 l.length 0 (l.length + 1) (by omega) (by omega) (by omega)
theorem Has.below {w w' : World} {base : Nat} {e : TypeId} {size : Nat} {v : Value} {n : Nat} {good : Nat → Value → Prop} (h : Has w base e size v n good) {B : Nat} (hb : Below B w w') (hB : w.heap.size ≤ B) : Has w' base e size v n good := by
  rcases h with h | ⟨b, c, f, rfl, h2, h3, h4⟩
  · exact .inl h
  · exact .inr ⟨b, c, f, rfl, h2, h3.of_block (hb.block b (Nat.lt_of_lt_of_le h3.lt hB)), h4⟩
set_option maxHeartbeats 8000000 in
set_option maxRecDepth 100000 in
theorem keysBytes (W : World) (t r : Int) (wt : (Lit.int .i64 t).wf = true) (wr : (Lit.int .i64 r).wf = true) (A : Option Addr) (c : Nat) (l : List Int) (hc : l.length ≤ c) (hC : Kd.C (Kd.int .u8) W A l.length l) (hb : ∀ x ∈ l, 0 ≤ x ∧ x ≤ 255) (hz : l.length < 140737488355320) :
    Calls Try.prog 4 #[.agg #[.int .i64 t, .int .i64 r], .slice A l.length c] W fun e W' => e = .returned (.bool true) ∧ Below W.heap.size W W' := by
  obtain ⟨i0, ih, iz0, iz1, iz2⟩ := info_parts info5'
  have hA : 0 < l.length → ∃ ad, A = some ad ∧ ad.block < W.heap.size ∧ ∀ j u, (u8s l)[j]? = some u → W.cell? (ad.add j) = some u := by
    intro h0
    obtain ⟨ad, rfl, hcc⟩ := hC.2.2 h0
    have hcell : ∀ j u, (u8s l)[j]? = some u → W.cell? (ad.add j) = some u := by
      intro j u hj
      unfold u8s at hj
      rw [List.getElem?_map] at hj
      obtain ⟨x, hx, rfl⟩ := Option.map_eq_some_iff.mp hj
      obtain ⟨ad', hA', hc'⟩ := cells_of_C hC j x hx
      cases hA'
      exact hc'
    refine ⟨ad, rfl, ?_, hcell⟩
    have h1 := hcell 0 (.int .u8 (l[0]'h0)) (by simp [u8s])
    have := World.block_lt_of_cell? W _ h1
    rwa [add_block] at this
  have HA := Lib.hid hA
  clear hA
  have hr : -9223372036854775808 ≤ r ∧ r ≤ 9223372036854775807 := by simpa [Lit.wf, IntKind.min, IntKind.max, IntKind.signed, IntKind.bits] using wr
  obtain ⟨⟨ys, ec⟩, hF⟩ : ∃ x, bytesF t r = some x := by unfold bytesF; rw [if_pos hr]; exact ⟨_, rfl⟩
  have hys : ys.length ≤ 10 := by
    unfold bytesF at hF
    rw [if_pos hr] at hF
    have hF := Option.some.inj hF
    split at hF
    · obtain ⟨rfl, _⟩ := Prod.mk.inj hF; exact Nat.le_refl _
    · obtain ⟨rfl, _⟩ := Prod.mk.inj hF; exact Nat.zero_le _
  have HF := Lib.hid hF
  have HC := Lib.hid hC
  have HB := Lib.hid hb
  clear hF hC hb wt wr hr
  go_enter Try.func4, Try.ntmps4
  go_wp2_with fail
  refine (bytes_own t r ys ec _ HF.out).mono ?_
  rintro e w1 ⟨v1, rfl, hown1, hb1⟩
  obtain ⟨A1, k1, rfl, hk1, hC1⟩ := own_reads hown1
  have R1 : Hid (∀ w', Below w1.heap.size w1 w' → Kd.C (Kd.int .u8) w' A1 ys.length ys) := Lib.hid (fun w' h => Kd.C_below hC1 h)
  have H1 := Lib.hid (Has.of_owns hown1)
  have B1 : Hid (Below W.heap.size W w1) := Lib.hid (((Below.refl _ _).alloc (Nat.le_refl _) _).trans (hb1.mono (by simp)))
  clear hC1 hown1
  obtain ⟨hc1, hf1⟩ := bcell hb1
  have q10 : w1.cell? ⟨W.heap.size, 0, none⟩ = some (.int .i64 t) := by rw [hc1 _ _ (by simp), World.cell?_alloc_at _ _ _ _ rfl]; rfl
  have q11 : w1.cell? ⟨W.heap.size, 1, none⟩ = some (.int .i64 r) := by rw [hc1 _ _ (by simp), World.cell?_alloc_at _ _ _ _ rfl]; rfl
  have hz1' : W.heap.size + 1 ≤ w1.heap.size := by have := hb1.size; simp at this; exact this
  clear hb1 hc1 hf1
  go_wp2_with fail
  refine (rbytes_own t r ys ec _ HF.out).mono ?_
  rintro e w2 ⟨v2, rfl, hown2, hb2⟩
  obtain ⟨A2, k2, rfl, hk2, hC2⟩ := own_reads hown2
  have R2 : Hid (∀ w', Below w2.heap.size w2 w' → Kd.C (Kd.int .u8) w' A2 ys.length ys) := Lib.hid (fun w' h => Kd.C_below hC2 h)
  have B2 : Hid (Below w1.heap.size w1 w2) := Lib.hid hb2
  clear hC2 hown2
  obtain ⟨hc2, hf2⟩ := bcell hb2
  have q20 : w2.cell? ⟨W.heap.size, 0, none⟩ = some (.int .i64 t) := by rw [hc2 _ _ (by omega)]; exact q10
  have q21 : w2.cell? ⟨W.heap.size, 1, none⟩ = some (.int .i64 r) := by rw [hc2 _ _ (by omega)]; exact q11
  clear hb2 hc2 hf2 q10 q11
  go_wp2_with fail
  refine (bytes_own t r ys ec _ HF.out).mono ?_
  rintro e w3 ⟨v3, rfl, hown3, hb3⟩
  obtain ⟨A3, k3, rfl, hk3, hC3⟩ := own_reads hown3
  have R3 : Hid (∀ w', Below w3.heap.size w3 w' → Kd.C (Kd.int .u8) w' A3 ys.length ys) := Lib.hid (fun w' h => Kd.C_below hC3 h)
  have H3 := Lib.hid (Has.of_owns hown3)
  have B3 : Hid (Below w2.heap.size w2 w3) := Lib.hid hb3
  clear hC3 hown3 hz1' q20 q21
  have B23 : Hid (Below w1.heap.size w1 w3) := Lib.hid (B2.out.trans (B3.out.mono B2.out.size))
  have hz13 := B23.out.size
  have hz1 := B1.out.size
  clear hb3
  go_wp2_with fail
  refine (preludelaw02_num.calls ec ec _ rfl).mono ?_
  rintro e w' ⟨rfl, ⟨n1, rfl⟩⟩
  go_wp2_with fail
  refine (preludelaw02_num.calls ec ec _ rfl).mono ?_
  rintro e w' ⟨rfl, ⟨n2, rfl⟩⟩
  go_wp2_with fail
  refine (same_calls ys A1 A2 k1 k2 _ (R1.out _ (by repeat (first | exact B23.out | apply pw_below_drewN))) hk1 (R2.out _ (by repeat (first | exact B3.out | apply pw_below_drewN))) hk2).mono ?_
  rintro e w' ⟨rfl, ⟨n3, rfl⟩⟩
  go_wp2_with fail
  refine (same_calls ys A3 A2 k3 k2 _ (R3.out _ (by repeat (first | exact Below.refl _ _ | apply pw_below_drewN))) hk3 (R2.out _ (by repeat (first | exact B3.out | apply pw_below_drewN))) hk2).mono ?_
  rintro e w' ⟨rfl, ⟨n4, rfl⟩⟩
  have hz3 : W.heap.size ≤ w3.heap.size := Nat.le_trans hz1 hz13
  go_wp2_with (at_builtin; refine wpList_append_any _ rfl _ _ 31 rfl w3.heap.size 5 i0 (.int .u8 0) 1 1 Try.underlying31 ih iz0 iz1 iz2 rfl (by decide) _ 0 0 (fun _ _ => True) rfl ?hv A l.length c (u8s l) rfl ?c0 ?c1 ?c2 ?c3 ?c4 ?c5 ?_)
  case hv => exact .inr ⟨_, 0, fun _ => default, rfl, (by simp), World.rowIs_alloc _ #[] _ _ (by simp), Nat.le_refl _, by unfold maxLen; omega, by simp⟩
  case c0 => simp [u8s]
  case c1 =>
    intro h0
    obtain ⟨ad, hA, hlt, hcell⟩ := HA.out h0
    refine ⟨ad, hA, fun j u hj => ?_⟩
    have hbb : Below W.heap.size W ((w3.drewN (n1 + n2 + n3 + n4)).alloc (Obj.cells #[] 5)) := (pw_below_drewN (B1.out.trans (B23.out.mono B1.out.size)) _).alloc (by show W.heap.size ≤ w3.heap.size; exact hz3) _
    rw [hbb.cell (p := ad.add j) (by rw [add_block]; exact hlt)]
    exact hcell j u hj
  case c2 =>
    intro u hu
    obtain ⟨x, _, rfl⟩ := List.mem_map.mp hu
    rfl
  case c3 => unfold maxLen; omega
  case c4 => omega
  case c5 => simp
  intro b' c' w4 hnew hblk hold hgr
  try simp only [Nat.zero_add] at hnew
  have K4 : Hid (Has w4 w3.heap.size 5 1 (.slice (some ⟨b', 0, none⟩) l.length c') l.length (fun j x => (u8s l)[j]? = some x)) := Lib.hid (hnew.imp (fun j hj x hx => by simpa using hx))
  have G4 : Hid (Below w3.heap.size w3 w4) := Lib.hid (((pw_below_drewN (Below.refl _ _) _).alloc (by simp) _).grown hgr (by simp) (fun k hk => by have := Option.some.inj hk; rw [← this]; simp))
  have hz4 := G4.out.size
  clear hnew hblk hold hgr
  go_wp2_with (at_builtin; refine wpList_append_any _ rfl _ _ 31 rfl w3.heap.size 5 i0 (.int .u8 0) 1 1 Try.underlying31 ih iz0 iz1 iz2 rfl (by decide) b' l.length c' (fun j x => (u8s l)[j]? = some x) rfl ?hv (some ⟨_, 0, none⟩) 2 2 [.int .u8 165, .int .u8 90] rfl rfl ?c1 ?c2 ?c3 ?c4 ?c5 ?_)
  case hv => exact K4.out.alloc _
  case c1 =>
    intro _
    refine ⟨_, rfl, fun j u hj => ?_⟩
    rw [add_zero_off, World.cell?_alloc_at _ _ _ _ rfl]
    simpa using hj
  case c2 => simp [Value.oneCell']
  case c3 => unfold maxLen; omega
  case c4 => omega
  case c5 => simp; omega
  intro bo co w5 hnew hblk hold hgr
  rcases hnew with ⟨h, _⟩ | ⟨bo', co', fo, hv, hlo, hrow, hn, hcm, hgood⟩
  · cases h
  obtain ⟨rfl, rfl⟩ : bo = bo' ∧ co = co' := by injection hv with e1 e2 e3; injection e1 with e1; injection e1 with e1 _ _; exact ⟨e1, e3⟩
  have G5 : Hid (Below w3.heap.size w3 w5) := Lib.hid ((G4.out.alloc hz4 _).grown hgr (by simp; omega) (fun k hk => by have := Option.some.inj hk; rw [← this]; exact (K4.out.block b' rfl).1))
  have hz5 := G5.out.size
  have RO : Hid (∀ w', Below w5.heap.size w5 w' → Kd.C (Kd.int .u8) w' (some ⟨bo, 0, none⟩) l.length l) := Lib.hid (fun w' hbw => by
    refine ⟨rfl, by omega, fun h0 => ⟨_, rfl, fun j p hj => ?_⟩⟩
    have hjl : j < l.length := (List.getElem?_eq_some_iff.mp hj).1
    refine ⟨[.int .u8 p], rfl, rfl, fun i u hu => ?_⟩
    have hi0 : i = 0 := by
      have := (List.getElem?_eq_some_iff.mp hu).1
      simp at this
      exact this
    subst hi0
    have hu2 : Value.int .u8 p = u := by simpa using hu
    subst hu2
    have := (hgood j (by omega)).1 (by omega)
    unfold u8s at this
    rw [List.getElem?_map, hj] at this
    rw [add_zero_off, hbw.cell (p := ⟨bo, _, none⟩) hrow.lt, show j * (Kd.int IntKind.u8).sz + 0 = j from by show j * 1 + 0 = j; omega, hrow.cell (by omega)]
    exact this.symm)
  have C0 : ∀ w', Below w5.heap.size w5 w' → w'.cell? ⟨bo, l.length, none⟩ = some (.int .u8 165) := fun w' hbw => by
    have := (hgood l.length (by omega)).2 (by omega)
    rw [hbw.cell (p := ⟨bo, _, none⟩) hrow.lt, hrow.cell (by omega)]
    simpa using this.symm
  have C1 : ∀ w', Below w5.heap.size w5 w' → w'.cell? ⟨bo, l.length + 1, none⟩ = some (.int .u8 90) := fun w' hbw => by
    have := (hgood (l.length + 1) (by omega)).2 (by omega)
    rw [hbw.cell (p := ⟨bo, _, none⟩) hrow.lt, hrow.cell (by omega)]
    simpa using this.symm
  have CC0 := Lib.hid C0
  have CC1 := Lib.hid C1
  clear C0 C1 hblk hold hgr hv hrow hgood hcm hlo
  obtain ⟨⟨x1, x2, x3⟩, fs1, fs2⟩ := PureBy.from_same l HB.out
  have FS1 := Lib.hid fs1
  have FS2 := Lib.hid fs2
  clear fs1 fs2
  go_wp2_with fail
  refine (from_given (some ⟨bo, 0, none⟩) co l x1 x2 x3 _ (RO.out _ (Below.refl _ _)) (by omega) FS1.out).mono ?_
  rintro e w6 ⟨rfl, hb6⟩
  have G6 : Hid (Below w5.heap.size w5 w6) := Lib.hid hb6
  have hz6 := hb6.size
  clear hb6
  go_wp2_with fail
  refine (preluderef02_FromBytes.calls 12 A c l x1 x2 x3 _ (Kd.C_below HC.out ?_) hc FS2.out).mono ?_
  · exact ((B1.out.trans (B23.out.mono hz1)).trans ((G5.out.trans (G6.out.mono hz5)).mono hz3)).alloc (by omega) _
  rintro e w7 ⟨rfl, hb7⟩
  have hz7 : w6.heap.size + 1 ≤ w7.heap.size := by have := hb7.size; simpa using this
  have p0 : w7.cell? ⟨w6.heap.size, 0, none⟩ = some (.int .i64 x1) := by rw [hb7.cell (p := ⟨_, _, none⟩) (by simp), World.cell?_alloc_at _ _ _ _ rfl]; rfl
  have p1 : w7.cell? ⟨w6.heap.size, 1, none⟩ = some (.int .i64 x2) := by rw [hb7.cell (p := ⟨_, _, none⟩) (by simp), World.cell?_alloc_at _ _ _ _ rfl]; rfl
  have G57 : Hid (Below w5.heap.size w5 w7) := Lib.hid (G6.out.trans (((Below.refl w6.heap.size w6).alloc (Nat.le_refl _) _).trans (hb7.mono (by simp)) |>.mono hz6))
  have hbo : bo < w5.heap.size := World.block_lt_of_cell? w5 _ (CC0.out w5 (Below.refl _ _))
  have o0 := CC0.out w7 G57.out
  have o1 := CC1.out w7 G57.out
  have hz7' : w6.heap.size < w7.heap.size := by omega
  have hbo7 : bo < w7.heap.size := by have := G57.out.size; omega
  clear hb7
  go_wp2_with fail
  refine (preludelaw02_num.calls x3 x3 _ rfl).mono ?_
  rintro e w' ⟨rfl, ⟨m1, rfl⟩⟩
  go_wp2_with fail
  refine (preludelaw02_num.calls x3 x3 _ rfl).mono ?_
  rintro e w' ⟨rfl, ⟨m2, rfl⟩⟩
  go_wp2_with fail
  refine (same_calls l (some ⟨bo, 0, none⟩) A co c _ (RO.out _ ?ro) (by omega) (Kd.C_below HC.out ?rc) hc).mono ?_
  case ro => exact pw_below_drewN (G57.out.alloc (by omega) _) _
  case rc => exact pw_below_drewN (((B1.out.trans (B23.out.mono hz1)).trans ((G5.out.trans (G57.out.mono hz5)).mono hz3)).alloc (by omega) _) _
  rintro e w' ⟨rfl, ⟨m3, rfl⟩⟩
  go_wp2_with fail
  have E3 : ∀ x y : Obj, Below w3.heap.size w3 (((w7.alloc x).drewN (m1 + m2 + m3)).alloc y) := fun x y => (pw_below_drewN ((G5.out.trans (G57.out.mono hz5)).alloc (by omega) _) _).alloc (by simp; omega) _
  have b1 := fun k hk => H1.out.block (v := .slice A1 ys.length k1) k hk
  have b3 := fun k hk => H3.out.block (v := .slice A3 ys.length k3) k hk
  have hz12 := B2.out.size
  refine (apart_calls (w7.heap.size + 1) 2 2 (fun i => if i = 0 then .slice A1 ys.length k1 else .slice A3 ys.length k3) (fun _ => ys.length) W.heap.size _ (by omega) (fun _ _ => by omega) ?cells ?lt ?ne ?ap ?base ?has).mono ?_
  case cells =>
    intro i hi
    rw [World.cell?_alloc_at _ _ _ _ (by simp)]
    match i, hi with
    | 0, _ => rfl
    | 1, _ => rfl
  case lt => simp
  case ne =>
    intro i hi
    match i, hi with
    | 0, _ => exact fun h => by have := (b1 _ h).2; omega
    | 1, _ => exact fun h => by have := (b3 _ h).2; omega
  case ap =>
    intro i j hi hj hij
    match i, hi, j, hj, hij with
    | 0, _, 0, _, h => exact absurd rfl h
    | 1, _, 1, _, h => exact absurd rfl h
    | 0, _, 1, _, _ =>
      show (Value.slice A1 ys.length k1).ownBlock = none ∨ (Value.slice A1 ys.length k1).ownBlock ≠ (Value.slice A3 ys.length k3).ownBlock
      cases h : (Value.slice A1 ys.length k1).ownBlock with
      | none => exact .inl rfl
      | some k => exact .inr fun h2 => by have := (b1 k h).2; have := (b3 k h2.symm).1; omega
    | 1, _, 0, _, _ =>
      show (Value.slice A3 ys.length k3).ownBlock = none ∨ (Value.slice A3 ys.length k3).ownBlock ≠ (Value.slice A1 ys.length k1).ownBlock
      cases h : (Value.slice A3 ys.length k3).ownBlock with
      | none => exact .inl rfl
      | some k => exact .inr fun h2 => by have := (b3 k h).1; have := (b1 k h2.symm).2; omega
  case base => simp; omega
  case has =>
    intro i hi
    match i, hi with
    | 0, _ => exact ((Has.below H1.out (B23.out.trans ((E3 _ _).mono hz13)) (Nat.le_refl _)).imp (fun _ _ _ _ => trivial)).lower (by simp)
    | 1, _ => exact ((Has.below H3.out (E3 _ _) (Nat.le_refl _)).imp (fun _ _ _ _ => trivial)).lower (by omega)
  rintro e w8 ⟨rfl, hb8⟩
  have F8 : Hid (Below W.heap.size W w8) := Lib.hid (((B1.out.trans (B23.out.mono hz1)).trans ((E3 _ _).mono hz3)).trans hb8)
  go_wp2_with fail
  go_ret
  exact ⟨rfl, F8.out⟩
end Go.Proofs.Ytbmfldoobkeieaa.WalkBy
