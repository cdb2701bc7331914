/- Plain law: bytes below 80 but the tilde are written and read as themselves. No conditions but those that the statement names. -/
import Derived.Test.YtenmanionddamaaQdragomanlaw20HzPlaina
import Derived.Test.YtenmanionddamaaLHzd
namespace Go.Proofs.Ytenmanionddamaa.Pure
open Go.RowKit Go.Proofs.Ytenmanionddamaa.Q Go.Proofs.YtenmanionddamaaW.PrintWords Go.Proofs.YtenmanionddamaaW.PrintLast
theorem drop_at (l : List Int) (i : Int) (h1 : i.toNat < l.length) : l.drop i.toNat = rd l i :: l.drop (i.toNat + 1) := by
  rw [List.drop_eq_getElem_cons h1]
  congr 1
  simp [rd, h1]
theorem cut_one (l : List Int) (i : Int) (h0 : 0 ≤ i) (h1 : i.toNat < l.length) : (l.take (i + 1).toNat).drop i.toNat = [rd l i] := by
  rw [show (i + 1).toNat = i.toNat + 1 by omega, List.drop_take, drop_at l i h1]
  simp
theorem rd_byte (l : List Int) (hw : ∀ x ∈ l, (Lit.int .u8 x).wf = true) (i : Int) (h1 : i.toNat < l.length) : 0 ≤ rd l i ∧ rd l i < 256 := by
  have hm : rd l i ∈ l := by
    have : rd l i = l[i.toNat] := by simp [rd, h1]
    rw [this]; exact List.getElem_mem _
  have := hw _ hm
  simp [Lit.wf, IntKind.min, IntKind.max, IntKind.signed, IntKind.bits] at this
  omega
theorem plain_l0 (l : List Int) (hl : l.length ≤ maxLen) (hw : ∀ x ∈ l, (Lit.int .u8 x).wf = true) (d : Nat) : ∀ (k : Nat) (i : Int), 0 ≤ i → 300 - i ≤ d → dragomanlaw20_HzPlain.l0 (k + 3 * d + 10) l i = some true := by
  have hl9 : (l.length : Int) ≤ 9223372036854775807 := by simp only [maxLen] at hl; omega
  induction d with
  | zero =>
    intro k i h0 hd
    simp only [dragomanlaw20_HzPlain.l0]
    split
    · rw [decide_eq_false (show ¬ i < 300 by omega)]; simp only [dragomanlaw20_HzPlain.j1, Bool.false_eq_true, if_false]
    · simp only [dragomanlaw20_HzPlain.j1, Bool.false_eq_true, if_false]
  | succ d ih =>
    intro k i h0 hd
    rw [show k + 3 * (d + 1) + 10 = (k + 3 * d + 10) + 3 by omega]
    simp only [dragomanlaw20_HzPlain.l0]
    by_cases h1 : i < (l.length : Int)
    · rw [if_pos h1]
      by_cases h2 : i < 300
      · rw [decide_eq_true h2]
        have hn : i.toNat < l.length := by omega
        obtain ⟨b0, b1⟩ := rd_byte l hw i hn
        have w1 : wrap64 (i + 1) = i + 1 := by unfold wrap64; omega
        have next := ih k (i + 1) (by omega) (by omega)
        simp only [dragomanlaw20_HzPlain.j1, if_true]
        rw [if_pos h0, if_pos h1]
        by_cases h3 : rd l i ≥ 128
        · rw [if_pos h3]
          simp only [dragomanlaw20_HzPlain.j2, if_true]
          rw [w1]; exact next
        rw [if_neg h3]
        by_cases h4 : rd l i = 126
        · rw [show (rd l i == 126) = true by simpa using h4]
          simp only [dragomanlaw20_HzPlain.j2, if_true]
          rw [w1]; exact next
        rw [show (rd l i == 126) = false by simpa using h4]
        simp only [dragomanlaw20_HzPlain.j2, Bool.false_eq_true, if_false]
        rw [if_pos h0, if_pos h1, w1, show wrap32 (rd l i) = rd l i by unfold wrap32; omega]
        rw [show k + 3 * d + 10 = (k + 3 * d + 8) + 2 by omega, hz_Set_eq _ 0 0 0 0 _ ⟨.inl rfl, rfl, rfl, rfl⟩]
        have hs : hzSet 0 (rd l i) = (0, strOfNums [rd l i], 0, 0, 0, 0) := by
          unfold hzSet
          rw [if_neg h4, if_pos ⟨b0, by omega⟩, show hzPre 0 = ⟨#[]⟩ from rfl, empty_app]
        rw [hs, cut_one l i h0 hn]
        simp only [Option.bind_some]
        rw [if_pos (by omega), if_pos (by omega), if_neg (by simp), if_pos (by omega), drop_at l i hn]
        rw [show k + 3 * d + 8 + 2 = (k + 3 * d + 7) + 3 by omega, hz_Get_plain _ _ _ b0 (by omega) h4]
        simp only [Option.bind_some]
        rw [if_neg (by simp)]
        exact next
      · rw [decide_eq_false h2]; simp only [dragomanlaw20_HzPlain.j1, Bool.false_eq_true, if_false]
    · rw [if_neg h1]; simp only [dragomanlaw20_HzPlain.j1, Bool.false_eq_true, if_false]
theorem HzPlain : dragomanlaw20_HzPlain.Pure := by
  intro l0 hl _ hw
  refine ⟨(902 + 0) + 8, ?_⟩
  unfold dragomanlaw20_HzPlain.f
  rw [works20]
  simp only [Option.bind_some, if_true]
  exact plain_l0 l0 hl hw 300 0 0 (by decide) (by decide)
end Go.Proofs.Ytenmanionddamaa.Pure
