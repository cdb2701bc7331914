/- Plain laws, continued: Get and Set of sjis and of its reference answer the same. -/
import Derived.Test.YtenmanionddamaaLSjisb
import Derived.OpenShut
namespace Go.Proofs.Ytenmanionddamaa.Q
open Go.RowKit Go.Proofs.YtenmanionddamaaW.PrintWords Go.Proofs.YtenmanionddamaaW.PrintLast
set_option linter.unusedVariables false
set_option linter.unusedSimpArgs false
theorem rd_u8 {l : List Int} (h : ∀ x ∈ l, (Lit.int .u8 x).wf = true) (i : Int) : 0 ≤ rd l i ∧ rd l i < 256 := by
  unfold rd
  rw [List.getD_eq_getElem?_getD]
  cases e : l[i.toNat]? with
  | none => simp
  | some x => have := Go.bounds_u8 (h x (List.mem_of_getElem? e)); simp; omega
theorem sjis_Get_eq (k : Nat) (l : List Int) (h : ∀ x ∈ l, (Lit.int .u8 x).wf = true) : sjis_Get.f (k + 2) l = some (sjisGet l) := by
  obtain ⟨a0, a1⟩ := rd_u8 h 0
  obtain ⟨b0, b1⟩ := rd_u8 h 1
  unfold sjis_Get.f sjisGet
  by_cases h1 : l.length = 0
  · rw [if_pos h1, if_pos (show (l.length : Int) = 0 by omega)]
  rw [if_neg h1, if_neg (show ¬ (l.length : Int) = 0 by omega), if_pos (show 0 < (l.length : Int) by omega), isLead_eq, jis_Half_eq _ a0 a1]
  simp only [Option.bind_some]
  by_cases h2 : (129 ≤ rd l 0 ∧ rd l 0 ≤ 159 ∨ 224 ≤ rd l 0 ∧ rd l 0 ≤ 239)
  · rw [decide_eq_true h2, if_pos rfl, if_neg (show ¬ ¬ (129 ≤ rd l 0 ∧ rd l 0 ≤ 159 ∨ 224 ≤ rd l 0 ∧ rd l 0 ≤ 239) from fun x => x h2)]
    by_cases h3 : l.length = 1
    · rw [if_pos h3, if_pos (show (l.length : Int) = 1 by omega)]
    rw [if_neg h3, if_neg (show ¬ (l.length : Int) = 1 by omega), if_pos (show 1 < (l.length : Int) by omega), isTrail_eq, sjis_Unpack_eq _ _ _ a0 a1 b0 b1]
    simp only [Option.bind_some, jis_Scalar.f]
    by_cases h4 : (64 ≤ rd l 1 ∧ rd l 1 ≤ 252 ∧ rd l 1 ≠ 127)
    · rw [decide_eq_true h4, if_pos rfl, if_neg (show ¬ ¬ (64 ≤ rd l 1 ∧ rd l 1 ≤ 252 ∧ rd l 1 ≠ 127) from fun x => x h4)]
      split <;> rfl
    · rw [decide_eq_false h4, if_neg (by decide), if_pos h4]
  · rw [decide_eq_false h2, if_neg (by decide), if_pos h2]
    split <;> rfl
theorem ref18_Get_eq (k : Nat) (l : List Int) (hk : 10000 ≤ k) (h : ∀ x ∈ l, (Lit.int .u8 x).wf = true) : dragomanref18_Get.f (k + 2) l = some (sjisGet l) := by
  obtain ⟨a0, a1⟩ := rd_u8 h 0
  obtain ⟨b0, b1⟩ := rd_u8 h 1
  unfold dragomanref18_Get.f sjisGet
  by_cases h1 : l.length = 0
  · rw [if_pos h1, if_pos (show (l.length : Int) = 0 by omega)]
  rw [if_neg h1, if_neg (show ¬ (l.length : Int) = 0 by omega), if_pos (show 0 < (l.length : Int) by omega)]
  have j1t : dragomanref18_Get.j1 (k + 1) l (rd l 0) true = some (10, 1, 0, 0, 0, 0, 0, 0, 0) := by simp only [dragomanref18_Get.j1, if_true]
  have j0t : dragomanref18_Get.j0 (k + 2) l (rd l 0) true = some (if (halfOf (rd l 0)).2 = true then (0, 1, 1, (halfOf (rd l 0)).1, 0, 0, 0, 0, 0) else (10, 1, 0, 0, 0, 0, 0, 0, 0)) := by
    simp only [dragomanref18_Get.j0, if_true, ref14_Half_eq _ a0 a1, Option.bind_some]
    split <;> rfl
  by_cases h2 : (129 ≤ rd l 0 ∧ rd l 0 ≤ 159 ∨ 224 ≤ rd l 0 ∧ rd l 0 ≤ 239)
  · rw [if_neg (show ¬ ¬ (129 ≤ rd l 0 ∧ rd l 0 ≤ 159 ∨ 224 ≤ rd l 0 ∧ rd l 0 ≤ 239) from fun x => x h2)]
    have jf : dragomanref18_Get.j0 (k + 2) l (rd l 0) false = some (if l.length = 1 then (1, 0, 0, 0, 0, 0, 0, 0, 0) else if ¬ (64 ≤ rd l 1 ∧ rd l 1 ≤ 252 ∧ rd l 1 ≠ 127) then (10, 1, 0, 0, 0, 0, 0, 0, 0) else if (scalarOf (jisRow (unpOf (rd l 0) (rd l 1)).1) (unpOf (rd l 0) (rd l 1)).2.1).2 = true then (0, 2, 1, (scalarOf (jisRow (unpOf (rd l 0) (rd l 1)).1) (unpOf (rd l 0) (rd l 1)).2.1).1, 0, 0, 0, 0, 0) else (10, 2, 0, 0, 0, 0, 0, 0, 0)) := by
      simp only [dragomanref18_Get.j0, Bool.false_eq_true, if_false]
      by_cases h3 : l.length = 1
      · rw [if_pos h3, if_pos (show (l.length : Int) = 1 by omega)]
      rw [if_neg h3, if_neg (show ¬ (l.length : Int) = 1 by omega), if_pos (show 1 < (l.length : Int) by omega)]
      by_cases h4 : (64 ≤ rd l 1 ∧ rd l 1 ≤ 252 ∧ rd l 1 ≠ 127)
      · rw [if_neg (show ¬ rd l 1 < 64 by omega), if_neg h4.2.2, decide_eq_false (show ¬ rd l 1 > 252 by omega), if_neg (show ¬ ¬ (64 ≤ rd l 1 ∧ rd l 1 ≤ 252 ∧ rd l 1 ≠ 127) from fun x => x h4)]
        simp only [dragomanref18_Get.j1, Bool.false_eq_true, if_false]
        rw [if_pos (show 1 < (l.length : Int) by omega), ref18_Unpack_eq _ _ _ (by omega) a0 a1 b0 b1]
        simp only [Option.bind_some, dragomanref14_Scalar.f]
        have hu : (unpOf (rd l 0) (rd l 1)).2.2 = true := by unfold unpOf; rw [if_pos ⟨h2, h4⟩]
        rw [if_pos hu]
        split <;> rfl
      · rw [if_pos h4]
        by_cases h5 : rd l 1 < 64
        · rw [if_pos h5, j1t]
        rw [if_neg h5]
        by_cases h6 : rd l 1 = 127
        · rw [if_pos h6, j1t]
        rw [if_neg h6, decide_eq_true (show rd l 1 > 252 by omega), j1t]
    rw [if_neg (show ¬ rd l 0 < 129 by omega)]
    by_cases c2 : rd l 0 > 159
    · rw [if_pos c2, if_neg (show ¬ rd l 0 < 224 by omega), decide_eq_false (show ¬ rd l 0 > 239 by omega), jf]
    · rw [if_neg c2, jf]
  · rw [if_pos h2]
    by_cases c1 : rd l 0 < 129
    · rw [if_pos c1, if_pos (show rd l 0 < 224 by omega), j0t]
    rw [if_neg c1]
    by_cases c2 : rd l 0 > 159
    · rw [if_pos c2]
      by_cases c3 : rd l 0 < 224
      · rw [if_pos c3, j0t]
      · rw [if_neg c3, decide_eq_true (show rd l 0 > 239 by omega), j0t]
    · omega
/-- what Set answers -/
def sjisSet (u : Int) : Int × ByteArray × Int × Int × Int × Int :=
  if (halfByteOf u).2 = true then (0, strOfNums ([(halfByteOf u).1] : List Int), 0, 0, 0, 0) else
  if (placeOf jisRow u).2.2 = true then (0, strOfNums ([(packOf (placeOf jisRow u).1 (placeOf jisRow u).2.1).1, (packOf (placeOf jisRow u).1 (placeOf jisRow u).2.1).2.1] : List Int), 0, 0, 0, 0) else (11, (⟨#[]⟩ : ByteArray), 0, 0, 0, 0)
theorem sjis_Set_eq (k : Nat) (u : Int) (h : (Lit.int .i32 u).wf = true) : sjis_Set.f (k + 2) u = some (sjisSet u) := by
  have hb : -2147483648 ≤ u ∧ u < 2147483648 := by have := Go.bounds_i32 h; omega
  unfold sjis_Set.f sjisSet
  rw [jis_HalfByte_eq (k + 1) u hb.1 hb.2]
  simp only [Option.bind_some, jis_Place.f, sjis_Pack_eq]
  split <;> (try split) <;> rfl
theorem ref18_Set_eq (k : Nat) (u : Int) (hk : 256 < k) : dragomanref18_Set.f (k + 2) u = some (sjisSet u) := by
  unfold dragomanref18_Set.f sjisSet
  rw [ref14_HalfByte_eq (k + 2) u (by omega)]
  simp only [Option.bind_some, dragomanref14_Place.f, ref18_Pack_eq]
  split <;> (try split) <;> rfl
end Go.Proofs.Ytenmanionddamaa.Q
