/- For every byte b and every slice of bytes behind it, what sjis.Get answers of them is what JIS X 0201 says of single bytes. No conditions. -/
import Derived.Test.YtenmanionddamaaQdragomanlaw18SjisPlaina
import Derived.Test.YtenmanionddamaaLSjisd
namespace Go.Proofs.Ytenmanionddamaa.Pure
open Go.RowKit Go.Proofs.Ytenmanionddamaa.Q Go.Proofs.YtenmanionddamaaW.PrintWords Go.Proofs.YtenmanionddamaaW.PrintLast
theorem wf_cons {a : Int} {l : List Int} (ha : (Lit.int .u8 a).wf = true) (hw : ∀ x ∈ l, (Lit.int .u8 x).wf = true) : ∀ x ∈ [a] ++ l, (Lit.int .u8 x).wf = true := by
  intro x hx
  rcases List.mem_append.1 hx with h | h
  · rw [List.mem_singleton.1 h]; exact ha
  · exact hw x h
theorem SjisPlain : dragomanlaw18_SjisPlain.Pure := by
  intro a l ha hl hm hw
  obtain ⟨a0, a1⟩ := Go.bounds_u8 ha
  refine ⟨10 + 2, ?_⟩
  unfold dragomanlaw18_SjisPlain.f
  rw [works18]
  simp only [Option.bind_some, if_true, List.length_singleton]
  rw [if_pos (by omega), sjis_Get_eq 10 ([a] ++ l) (wf_cons ha hw)]
  simp only [Option.bind_some]
  have e0 : rd ([a] ++ l) 0 = a := rfl
  have hlen : ([a] ++ l).length ≠ 0 := by simp
  have single : ¬ (129 ≤ a ∧ a ≤ 159 ∨ 224 ≤ a ∧ a ≤ 239) → sjisGet ([a] ++ l) = if (halfOf a).2 = true then (0, 1, 1, (halfOf a).1, 0, 0, 0, 0, 0) else (10, 1, 0, 0, 0, 0, 0, 0, 0) := by
    intro h
    unfold sjisGet
    rw [if_neg hlen, e0, if_pos h]
  by_cases h1 : a = 92
  · subst h1
    rw [if_pos rfl, single (by omega), show halfOf 92 = (165, true) by decide]
    rfl
  rw [if_neg h1]
  by_cases h2 : a = 126
  · subst h2
    rw [if_pos rfl, single (by omega), show halfOf 126 = (8254, true) by decide]
    rfl
  rw [if_neg h2]
  by_cases h3 : a < 128
  · have hh : halfOf a = (a, true) := by unfold halfOf; rw [if_neg h1, if_neg h2, if_pos h3]
    have hb : halfByteOf a = (a, true) := halfByte_some a a a0 (by omega) hh
    rw [if_pos h3, single (by omega), hh, w32 (x := a) (by omega) (by omega), sjis_Set_eq 10 a (by simp [Lit.wf, IntKind.min, IntKind.max, IntKind.signed, IntKind.bits]; omega)]
    unfold sjisSet
    rw [hb]
    simp
  rw [if_neg h3]
  have two : (if (sjisGet ([a] ++ l)).1 = 0 then some ((sjisGet ([a] ++ l)).2.1 == 2) else some true) = some true ∨ (161 ≤ a ∧ a ≤ 223) := by
    by_cases h4 : 161 ≤ a ∧ a ≤ 223
    · exact .inr h4
    left
    unfold sjisGet
    rw [if_neg hlen, e0]
    have hh : halfOf a = (0, false) := by unfold halfOf; rw [if_neg h1, if_neg h2, if_neg h3, if_neg h4]
    rw [hh]
    repeat' split
    all_goals first | rfl | simp_all
  by_cases h4 : a ≥ 161
  · rw [if_pos h4]
    by_cases h5 : a ≤ 223
    · have hh : halfOf a = (65216 + a, true) := by unfold halfOf; rw [if_neg h1, if_neg h2, if_neg h3, if_pos ⟨h4, h5⟩]
      rw [if_pos h5, single (by omega), hh]
      have : 65377 + (a - 161) % 256 = 65216 + a := by omega
      rw [this]
      simp
    · rw [if_neg h5]
      rcases two with h | h
      · exact h
      · omega
  · rw [if_neg h4]
    rcases two with h | h
    · exact h
    · omega
end Go.Proofs.Ytenmanionddamaa.Pure
