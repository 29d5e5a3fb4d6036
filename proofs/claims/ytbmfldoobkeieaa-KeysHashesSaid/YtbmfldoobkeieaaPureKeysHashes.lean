/- The pure side of KeysHashes: both Hash functions and both Partition functions are one. No condition. -/
import Derived.Test.YtbmfldoobkeieaaGHashx1
namespace Go.Proofs.Ytbmfldoobkeieaa.keysHashes
open Go.RowKit Go.Proofs.Ytbmfldoobkeieaa.GHash Go.Proofs.Ytbmfldoobkeieaa.KForm
set_option linter.unusedSimpArgs false

theorem pure (t r n : Int) (h1 : -9223372036854775808 ≤ r) (h2 : r ≤ 9223372036854775807) : preludelaw02_KeysHashes.f t r n = some true := by
  obtain ⟨h, hh⟩ : ∃ h, hashF t r = some h := ⟨_, by unfold hashF; rw [if_pos ⟨h1, h2⟩]⟩
  have hp : preluderef02_Partition.f t r n = keys_Partition.f t r n := by
    unfold preluderef02_Partition.f keys_Partition.f preluderef02_Check.f keys_Check.f keys_few.f preluderef02_Hash.f keys_Hash.f
    rw [hh]
    by_cases a : t < 0
    · simp [a]
    · by_cases b : t > 65535
      · simp [a, b]
      · by_cases c : n < 1
        · have c2 : ¬ n ≥ 1 := by omega
          simp [a, b, c, c2]
        · by_cases d : n > 256
          · have c2 : n ≥ 1 := by omega
            have d2 : ¬ n ≤ 256 := by omega
            simp [a, b, c, c2, d, d2]
          · have c2 : n ≥ 1 := by omega
            have d2 : n ≤ 256 := by omega
            simp [a, b, c, c2, d, d2]
  obtain ⟨p, hq⟩ : ∃ p, keys_Partition.f t r n = some p := by
    unfold keys_Partition.f keys_Check.f keys_few.f keys_Hash.f
    rw [hh]
    by_cases a : t < 0
    · exact ⟨_, by rw [if_pos a]; rfl⟩
    · by_cases b : t > 65535
      · exact ⟨_, by rw [if_neg a, if_pos b]; rfl⟩
      · by_cases c : n ≥ 1
        · by_cases d : n ≤ 256
          · have e : ¬ IntKind.u64.wrap n = 0 := by rw [IntKind.wrap_u64]; omega
            refine ⟨(wrap64 (Int.tmod h (IntKind.u64.wrap n)), 0), ?_⟩
            simp [a, b, c, d, e]
          · refine ⟨(0, 21), ?_⟩
            simp [a, b, c, d]
        · refine ⟨(0, 21), ?_⟩
          simp [a, b, c]
  unfold preludelaw02_KeysHashes.f
  rw [hp, hq]
  unfold keys_Hash.f preluderef02_Hash.f
  rw [hh]
  simp [preludelaw02_num.f]
theorem walk (t r : Int) (_ : (Lit.int .i64 t).wf = true) (hr : (Lit.int .i64 r).wf = true) (n : Int) (_ : (Lit.int .i64 n).wf = true) (w : World) :
    Calls Try.prog 5 #[.agg #[.int .i64 t, .int .i64 r], .int .i64 n] w fun e w' => e = .returned (.bool true) ∧ Below w.heap.size w w' := by
  have hx : -9223372036854775808 ≤ r ∧ r ≤ 9223372036854775807 := by simpa [Lit.wf, IntKind.min, IntKind.max, IntKind.signed, IntKind.bits] using hr
  exact preludelaw02_KeysHashes.calls t r n true w (pure t r n hx.1 hx.2)
end Go.Proofs.Ytbmfldoobkeieaa.keysHashes
