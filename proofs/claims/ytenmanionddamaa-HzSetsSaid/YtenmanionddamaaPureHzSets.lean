/- For every state and every 32-bit number, hz.Set and hz.End answer what the reference answers. No conditions. -/
import Derived.Test.YtenmanionddamaaQdragomanlaw20HzSetsa
import Derived.Test.YtenmanionddamaaLHz
namespace Go.Proofs.Ytenmanionddamaa.Pure
open Go.RowKit Go.Proofs.Ytenmanionddamaa.Q Go.Proofs.YtenmanionddamaaW.PrintWords Go.Proofs.YtenmanionddamaaW.PrintLast
theorem HzSets : ∀ (a0_0 : Int) (a0_1 : Int) (a0_2 : Int) (a0_3 : Int) (a1 : Int), (Lit.int .i64 a0_0).wf = true → (Lit.int .i64 a0_1).wf = true → (Lit.int .u32 a0_2).wf = true → (Lit.int .i32 a0_3).wf = true → (Lit.int .i32 a1).wf = true → ∃ k, dragomanlaw20_HzSets.f k a0_0 a0_1 a0_2 a0_3 a1 = some true := by
  intro a b c d u _ _ _ _ _
  refine ⟨0 + 2, ?_⟩
  unfold dragomanlaw20_HzSets.f
  rw [hz_End_eq, ref20_End_eq]
  by_cases h : hzFit a b c d
  · rw [hz_Set_eq 0 a b c d u h, ref20_Set_eq 0 a b c d u h]
    simp
  · rw [hz_Set_bad _ a b c d u h, ref20_Set_bad _ a b c d u h]
    simp
end Go.Proofs.Ytenmanionddamaa.Pure
