/- For every kind, every state and every 32-bit number, iso2022.Set and iso2022.End answer what the reference answers. No conditions. -/
import Derived.Test.YtenmanionddamaaQdragomanlaw21Iso2022Setsa
import Derived.Test.YtenmanionddamaaLIsor
namespace Go.Proofs.Ytenmanionddamaa.Pure
open Go.RowKit Go.Proofs.Ytenmanionddamaa.Q Go.Proofs.YtenmanionddamaaW.PrintWords Go.Proofs.YtenmanionddamaaW.PrintLast
theorem Iso2022Sets : ∀ (a0 : Int) (a1_0 : Int) (a1_1 : Int) (a1_2 : Int) (a1_3 : Int) (a2 : Int), (Lit.int .i64 a0).wf = true → (Lit.int .i64 a1_0).wf = true → (Lit.int .i64 a1_1).wf = true → (Lit.int .u32 a1_2).wf = true → (Lit.int .i32 a1_3).wf = true → (Lit.int .i32 a2).wf = true → ∃ k, dragomanlaw21_Iso2022Sets.f k a0 a1_0 a1_1 a1_2 a1_3 a2 = some true := by
  intro n a b c d u _ _ _ _ _ hu
  have hu2 : -2147483648 ≤ u ∧ u < 2147483648 := by
    simp [Lit.wf, IntKind.min, IntKind.max, IntKind.signed, IntKind.bits] at hu
    omega
  refine ⟨260 + 1, ?_⟩
  unfold dragomanlaw21_Iso2022Sets.f
  rw [iso_End_eq, ref21_End_eq]
  by_cases h : isoLook n a b c d = 0
  · obtain ⟨hn, hf⟩ : isoHas n ∧ isoFit a b c d := by
      unfold isoLook at h
      split at h
      · split at h
        · exact ⟨by assumption, by assumption⟩
        · simp at h
      · simp at h
    rw [iso_Set_eq 258 n u a b c d hn hf hu2.1 hu2.2, ref21_Set_eq 257 n u a b c d (by decide) hn hf]
    simp
  · rw [iso_Set_bad _ n u a b c d h, ref21_Set_bad _ n u a b c d h]
    simp
end Go.Proofs.Ytenmanionddamaa.Pure
