/- Contracts of functions that the laws reach: each call answers what the plain function beside it answers. No conditions but those that each theorem states. (Written by a patched copy of the print, wip/gen/patch_print.py, over contracts of our own.) -/
import Derived.Test.YtenmanionddamaaQ0
import Derived.Test.YtenmanionddamaaQeqa
import Derived.Test.YtenmanionddamaaQiso2022b
import Derived.Test.YtenmanionddamaaQiso2022c
import Derived.Test.YtenmanionddamaaQdragomanlaw21a
namespace Go.Proofs.Ytenmanionddamaa.Q
open Go.RowKit Go.Proofs.YtenmanionddamaaW.PrintWords Go.Proofs.YtenmanionddamaaW.PrintLast Go.Proofs.YtenmanionddamaaW.PrintMore
attribute [local go_sem] max2_int min2_int max_two min_two max_three min_three max_four min_four   -- for this text's walks alone
set_option linter.unusedVariables false
set_option linter.unusedSimpArgs false
attribute [local go_sem high] eqA25
/-! ### dragomanlaw21_Iso2022Back: function 16 -/
mutual
def dragomanlaw21_Iso2022Back.j0 : Nat → Bool → List Int → Int → Option (Bool)
  | 0, _, _, _ => none
  | k + 1, x0, x1, x5 => dragomanlaw21_Iso2022Back.l0 k x0 x1 x5 (⟨#[]⟩ : ByteArray) ([] : List Int) 0 0 0 0 0
def dragomanlaw21_Iso2022Back.l0 : Nat → Bool → List Int → Int → ByteArray → List Int → Int → Int → Int → Int → Int → Option (Bool)
  | 0, _, _, _, _, _, _, _, _, _, _ => none
  | k + 1, x0, x1, x5, x7, x8, x9, x270000, x270001, x270002, x270003 => if x9 < (x1.length : Int) then (dragomanlaw21_Iso2022Back.j2 k x0 x1 x5 x7 x8 x9 (decide (x9 < 200)) x270000 x270001 x270002 x270003) else (dragomanlaw21_Iso2022Back.j2 k x0 x1 x5 x7 x8 x9 false x270000 x270001 x270002 x270003)
def dragomanlaw21_Iso2022Back.j2 : Nat → Bool → List Int → Int → ByteArray → List Int → Int → Bool → Int → Int → Int → Int → Option (Bool)
  | 0, _, _, _, _, _, _, _, _, _, _, _ => none
  | k + 1, x0, x1, x5, x7, x8, x9, x28, x270000, x270001, x270002, x270003 => if x28 = true then (if 0 ≤ x9 then (if x9 < (x1.length : Int) then ((iso2022_Set.f k x5 x270000 x270001 x270002 x270003 (rd x1 x9)).bind fun bt271 => (if bt271.1 = 0 then (if (bt271.2.1.size : Int) > 8 then (some false) else (if x7.size + bt271.2.1.size ≤ 9223372036854775807 then (if x8.length < 35184372088832 then (dragomanlaw21_Iso2022Back.l0 k x0 x1 x5 (x7 ++ bt271.2.1) (x8 ++ [rd x1 x9]) (wrap64 (x9 + 1)) bt271.2.2.1 bt271.2.2.2.1 bt271.2.2.2.2.1 bt271.2.2.2.2.2) else (none)) else (none))) else (dragomanlaw21_Iso2022Back.l0 k x0 x1 x5 x7 x8 (wrap64 (x9 + 1)) x270000 x270001 x270002 x270003))) else (none)) else (none)) else ((iso2022_End.f k x5 x270000 x270001 x270002 x270003).bind fun bt282 => (if bt282.2.2.2.2.2 = 0 then (if x7.size + bt282.1.size ≤ 9223372036854775807 then (dragomanlaw21_Iso2022Back.l1 k x0 x5 (x7 ++ bt282.1) x8 0 0 0 0 0) else (none)) else (some false)))
def dragomanlaw21_Iso2022Back.l1 : Nat → Bool → Int → ByteArray → List Int → Int → Int → Int → Int → Int → Option (Bool)
  | 0, _, _, _, _, _, _, _, _, _ => none
  | k + 1, x0, x5, x7, x8, x14, x270000, x270001, x270002, x270003 => if (x7.size : Int) > 0 then ((strbytes.f x7).bind fun t289 => ((iso2022_Get.f k x5 x270000 x270001 x270002 x270003 t289).bind fun bt292 => (if bt292.1 = 0 then (if bt292.2.1 < 1 then (dragomanlaw21_Iso2022Back.j4 k x0 x5 x7 x8 x14 true bt292.1 bt292.2.1 bt292.2.2.1 bt292.2.2.2.1 bt292.2.2.2.2.1 bt292.2.2.2.2.2.1 bt292.2.2.2.2.2.2.1 bt292.2.2.2.2.2.2.2.1 bt292.2.2.2.2.2.2.2.2) else (if bt292.2.1 > (x7.size : Int) then (dragomanlaw21_Iso2022Back.j4 k x0 x5 x7 x8 x14 true bt292.1 bt292.2.1 bt292.2.2.1 bt292.2.2.2.1 bt292.2.2.2.2.1 bt292.2.2.2.2.2.1 bt292.2.2.2.2.2.2.1 bt292.2.2.2.2.2.2.2.1 bt292.2.2.2.2.2.2.2.2) else (dragomanlaw21_Iso2022Back.j4 k x0 x5 x7 x8 x14 (decide (bt292.2.2.1 > 1)) bt292.1 bt292.2.1 bt292.2.2.1 bt292.2.2.2.1 bt292.2.2.2.2.1 bt292.2.2.2.2.2.1 bt292.2.2.2.2.2.2.1 bt292.2.2.2.2.2.2.2.1 bt292.2.2.2.2.2.2.2.2))) else (dragomanlaw21_Iso2022Back.j4 k x0 x5 x7 x8 x14 true bt292.1 bt292.2.1 bt292.2.2.1 bt292.2.2.2.1 bt292.2.2.2.2.1 bt292.2.2.2.2.2.1 bt292.2.2.2.2.2.2.1 bt292.2.2.2.2.2.2.2.1 bt292.2.2.2.2.2.2.2.2)))) else (if x14 = (x8.length : Int) then (if (x270000 == 0 && (x270001 == 0 && (x270002 == 0 && (x270003 == 0)))) = true then (some true) else (if x0 = true then (some (x270000 == 1 && (x270001 == 0 && (x270002 == 0 && (x270003 == 0))))) else (some false))) else (some false))
def dragomanlaw21_Iso2022Back.j4 : Nat → Bool → Int → ByteArray → List Int → Int → Bool → Int → Int → Int → Int → Int → Int → Int → Int → Int → Option (Bool)
  | 0, _, _, _, _, _, _, _, _, _, _, _, _, _, _, _ => none
  | k + 1, x0, x5, x7, x8, x14, x98, x302000, x302001, x302002, x302003, x302004, x302005, x302006, x302007, x302008 => if x98 = true then (some false) else (dragomanlaw21_Iso2022Back.l2 k x0 x5 x7 x8 x14 0 x302000 x302001 x302002 x302003 x302004 x302005 x302006 x302007 x302008)
def dragomanlaw21_Iso2022Back.l2 : Nat → Bool → Int → ByteArray → List Int → Int → Int → Int → Int → Int → Int → Int → Int → Int → Int → Int → Option (Bool)
  | 0, _, _, _, _, _, _, _, _, _, _, _, _, _, _, _ => none
  | k + 1, x0, x5, x7, x8, x14, x16, x302000, x302001, x302002, x302003, x302004, x302005, x302006, x302007, x302008 => if x16 < x302001 then (if 0 ≤ x16 then (if x16 < (x7.size : Int) then (if (bt x7 x16) ≥ 128 then (some false) else (dragomanlaw21_Iso2022Back.l2 k x0 x5 x7 x8 x14 (wrap64 (x16 + 1)) x302000 x302001 x302002 x302003 x302004 x302005 x302006 x302007 x302008)) else (none)) else (none)) else (if x302002 = 1 then (if x14 ≥ (x8.length : Int) then (some false) else (if 0 ≤ x14 then (if x14 < (x8.length : Int) then (if (rd x8 x14) = x302003 then (if 0 ≤ x302001 then (if x302001 ≤ (x7.size : Int) then (dragomanlaw21_Iso2022Back.l1 k x0 x5 (x7.extract (x302001 : Int).toNat x7.size) x8 (wrap64 (x14 + 1)) x302005 x302006 x302007 x302008) else (none)) else (none)) else (some false)) else (none)) else (none))) else (if 0 ≤ x302001 then (if x302001 ≤ (x7.size : Int) then (dragomanlaw21_Iso2022Back.l1 k x0 x5 (x7.extract (x302001 : Int).toNat x7.size) x8 x14 x302005 x302006 x302007 x302008) else (none)) else (none)))
end
def dragomanlaw21_Iso2022Back.f (k : Nat) (a0 : Bool) (l1 : List Int) : Option (Bool) := (dragomanlaw21_works.f k).bind fun t268 => (if t268 = true then (if a0 = true then (dragomanlaw21_Iso2022Back.j0 k a0 l1 88) else (dragomanlaw21_Iso2022Back.j0 k a0 l1 83)) else (some false))
theorem dragomanlaw21_Iso2022Back.mono_l : ∀ k, (∀ y0 y1 y2, LeO (dragomanlaw21_Iso2022Back.j0 k y0 y1 y2) (dragomanlaw21_Iso2022Back.j0 (k + 1) y0 y1 y2)) ∧ (∀ y0 y1 y2 y3 y4 y5 y6 y7 y8 y9, LeO (dragomanlaw21_Iso2022Back.l0 k y0 y1 y2 y3 y4 y5 y6 y7 y8 y9) (dragomanlaw21_Iso2022Back.l0 (k + 1) y0 y1 y2 y3 y4 y5 y6 y7 y8 y9)) ∧ (∀ y0 y1 y2 y3 y4 y5 y6 y7 y8 y9 y10, LeO (dragomanlaw21_Iso2022Back.j2 k y0 y1 y2 y3 y4 y5 y6 y7 y8 y9 y10) (dragomanlaw21_Iso2022Back.j2 (k + 1) y0 y1 y2 y3 y4 y5 y6 y7 y8 y9 y10)) ∧ (∀ y0 y1 y2 y3 y4 y5 y6 y7 y8, LeO (dragomanlaw21_Iso2022Back.l1 k y0 y1 y2 y3 y4 y5 y6 y7 y8) (dragomanlaw21_Iso2022Back.l1 (k + 1) y0 y1 y2 y3 y4 y5 y6 y7 y8)) ∧ (∀ y0 y1 y2 y3 y4 y5 y6 y7 y8 y9 y10 y11 y12 y13 y14, LeO (dragomanlaw21_Iso2022Back.j4 k y0 y1 y2 y3 y4 y5 y6 y7 y8 y9 y10 y11 y12 y13 y14) (dragomanlaw21_Iso2022Back.j4 (k + 1) y0 y1 y2 y3 y4 y5 y6 y7 y8 y9 y10 y11 y12 y13 y14)) ∧ (∀ y0 y1 y2 y3 y4 y5 y6 y7 y8 y9 y10 y11 y12 y13 y14, LeO (dragomanlaw21_Iso2022Back.l2 k y0 y1 y2 y3 y4 y5 y6 y7 y8 y9 y10 y11 y12 y13 y14) (dragomanlaw21_Iso2022Back.l2 (k + 1) y0 y1 y2 y3 y4 y5 y6 y7 y8 y9 y10 y11 y12 y13 y14))
  | 0 => ⟨fun _ _ _ r h => by simp [dragomanlaw21_Iso2022Back.j0] at h, fun _ _ _ _ _ _ _ _ _ _ r h => by simp [dragomanlaw21_Iso2022Back.l0] at h, fun _ _ _ _ _ _ _ _ _ _ _ r h => by simp [dragomanlaw21_Iso2022Back.j2] at h, fun _ _ _ _ _ _ _ _ _ r h => by simp [dragomanlaw21_Iso2022Back.l1] at h, fun _ _ _ _ _ _ _ _ _ _ _ _ _ _ _ r h => by simp [dragomanlaw21_Iso2022Back.j4] at h, fun _ _ _ _ _ _ _ _ _ _ _ _ _ _ _ r h => by simp [dragomanlaw21_Iso2022Back.l2] at h⟩
  | k + 1 => by
    obtain ⟨ih0, ih1, ih2, ih3, ih4, ih5⟩ := dragomanlaw21_Iso2022Back.mono_l k
    refine ⟨?_, ?_, ?_, ?_, ?_, ?_⟩
    · intro y0 y1 y2
      unfold dragomanlaw21_Iso2022Back.j0
      repeat' first
      | (with_reducible exact ih0 _ _ _)
      | (with_reducible exact ih1 _ _ _ _ _ _ _ _ _ _)
      | (with_reducible exact ih2 _ _ _ _ _ _ _ _ _ _ _)
      | (with_reducible exact ih3 _ _ _ _ _ _ _ _ _)
      | (with_reducible exact ih4 _ _ _ _ _ _ _ _ _ _ _ _ _ _ _)
      | (with_reducible exact ih5 _ _ _ _ _ _ _ _ _ _ _ _ _ _ _)
      | (with_reducible exact dragomanlaw21_works.mono _)
      | (with_reducible exact iso2022_End.mono _ _ _ _ _ _)
      | (with_reducible exact iso2022_Get.mono _ _ _ _ _ _ _)
      | (with_reducible exact iso2022_Set.mono _ _ _ _ _ _ _)
      | (with_reducible exact LeO.refl _)
      | (with_reducible exact LeO.none _)
      | (with_reducible refine LeO.ite ?_ ?_)
      | (with_reducible refine LeO.bind ?_ (fun _ => ?_))
      | exact ih0 _ _ _
      | exact ih1 _ _ _ _ _ _ _ _ _ _
      | exact ih2 _ _ _ _ _ _ _ _ _ _ _
      | exact ih3 _ _ _ _ _ _ _ _ _
      | exact ih4 _ _ _ _ _ _ _ _ _ _ _ _ _ _ _
      | exact ih5 _ _ _ _ _ _ _ _ _ _ _ _ _ _ _
      | exact dragomanlaw21_works.mono _
      | exact iso2022_End.mono _ _ _ _ _ _
      | exact iso2022_Get.mono _ _ _ _ _ _ _
      | exact iso2022_Set.mono _ _ _ _ _ _ _
      | exact LeO.none _
      | refine LeO.ite ?_ ?_
      | refine LeO.bind ?_ (fun _ => ?_)
    · intro y0 y1 y2 y3 y4 y5 y6 y7 y8 y9
      unfold dragomanlaw21_Iso2022Back.l0
      repeat' first
      | (with_reducible exact ih0 _ _ _)
      | (with_reducible exact ih1 _ _ _ _ _ _ _ _ _ _)
      | (with_reducible exact ih2 _ _ _ _ _ _ _ _ _ _ _)
      | (with_reducible exact ih3 _ _ _ _ _ _ _ _ _)
      | (with_reducible exact ih4 _ _ _ _ _ _ _ _ _ _ _ _ _ _ _)
      | (with_reducible exact ih5 _ _ _ _ _ _ _ _ _ _ _ _ _ _ _)
      | (with_reducible exact dragomanlaw21_works.mono _)
      | (with_reducible exact iso2022_End.mono _ _ _ _ _ _)
      | (with_reducible exact iso2022_Get.mono _ _ _ _ _ _ _)
      | (with_reducible exact iso2022_Set.mono _ _ _ _ _ _ _)
      | (with_reducible exact LeO.refl _)
      | (with_reducible exact LeO.none _)
      | (with_reducible refine LeO.ite ?_ ?_)
      | (with_reducible refine LeO.bind ?_ (fun _ => ?_))
      | exact ih0 _ _ _
      | exact ih1 _ _ _ _ _ _ _ _ _ _
      | exact ih2 _ _ _ _ _ _ _ _ _ _ _
      | exact ih3 _ _ _ _ _ _ _ _ _
      | exact ih4 _ _ _ _ _ _ _ _ _ _ _ _ _ _ _
      | exact ih5 _ _ _ _ _ _ _ _ _ _ _ _ _ _ _
      | exact dragomanlaw21_works.mono _
      | exact iso2022_End.mono _ _ _ _ _ _
      | exact iso2022_Get.mono _ _ _ _ _ _ _
      | exact iso2022_Set.mono _ _ _ _ _ _ _
      | exact LeO.none _
      | refine LeO.ite ?_ ?_
      | refine LeO.bind ?_ (fun _ => ?_)
    · intro y0 y1 y2 y3 y4 y5 y6 y7 y8 y9 y10
      unfold dragomanlaw21_Iso2022Back.j2
      repeat' first
      | (with_reducible exact ih0 _ _ _)
      | (with_reducible exact ih1 _ _ _ _ _ _ _ _ _ _)
      | (with_reducible exact ih2 _ _ _ _ _ _ _ _ _ _ _)
      | (with_reducible exact ih3 _ _ _ _ _ _ _ _ _)
      | (with_reducible exact ih4 _ _ _ _ _ _ _ _ _ _ _ _ _ _ _)
      | (with_reducible exact ih5 _ _ _ _ _ _ _ _ _ _ _ _ _ _ _)
      | (with_reducible exact dragomanlaw21_works.mono _)
      | (with_reducible exact iso2022_End.mono _ _ _ _ _ _)
      | (with_reducible exact iso2022_Get.mono _ _ _ _ _ _ _)
      | (with_reducible exact iso2022_Set.mono _ _ _ _ _ _ _)
      | (with_reducible exact LeO.refl _)
      | (with_reducible exact LeO.none _)
      | (with_reducible refine LeO.ite ?_ ?_)
      | (with_reducible refine LeO.bind ?_ (fun _ => ?_))
      | exact ih0 _ _ _
      | exact ih1 _ _ _ _ _ _ _ _ _ _
      | exact ih2 _ _ _ _ _ _ _ _ _ _ _
      | exact ih3 _ _ _ _ _ _ _ _ _
      | exact ih4 _ _ _ _ _ _ _ _ _ _ _ _ _ _ _
      | exact ih5 _ _ _ _ _ _ _ _ _ _ _ _ _ _ _
      | exact dragomanlaw21_works.mono _
      | exact iso2022_End.mono _ _ _ _ _ _
      | exact iso2022_Get.mono _ _ _ _ _ _ _
      | exact iso2022_Set.mono _ _ _ _ _ _ _
      | exact LeO.none _
      | refine LeO.ite ?_ ?_
      | refine LeO.bind ?_ (fun _ => ?_)
    · intro y0 y1 y2 y3 y4 y5 y6 y7 y8
      unfold dragomanlaw21_Iso2022Back.l1
      repeat' first
      | (with_reducible exact ih0 _ _ _)
      | (with_reducible exact ih1 _ _ _ _ _ _ _ _ _ _)
      | (with_reducible exact ih2 _ _ _ _ _ _ _ _ _ _ _)
      | (with_reducible exact ih3 _ _ _ _ _ _ _ _ _)
      | (with_reducible exact ih4 _ _ _ _ _ _ _ _ _ _ _ _ _ _ _)
      | (with_reducible exact ih5 _ _ _ _ _ _ _ _ _ _ _ _ _ _ _)
      | (with_reducible exact dragomanlaw21_works.mono _)
      | (with_reducible exact iso2022_End.mono _ _ _ _ _ _)
      | (with_reducible exact iso2022_Get.mono _ _ _ _ _ _ _)
      | (with_reducible exact iso2022_Set.mono _ _ _ _ _ _ _)
      | (with_reducible exact LeO.refl _)
      | (with_reducible exact LeO.none _)
      | (with_reducible refine LeO.ite ?_ ?_)
      | (with_reducible refine LeO.bind ?_ (fun _ => ?_))
      | exact ih0 _ _ _
      | exact ih1 _ _ _ _ _ _ _ _ _ _
      | exact ih2 _ _ _ _ _ _ _ _ _ _ _
      | exact ih3 _ _ _ _ _ _ _ _ _
      | exact ih4 _ _ _ _ _ _ _ _ _ _ _ _ _ _ _
      | exact ih5 _ _ _ _ _ _ _ _ _ _ _ _ _ _ _
      | exact dragomanlaw21_works.mono _
      | exact iso2022_End.mono _ _ _ _ _ _
      | exact iso2022_Get.mono _ _ _ _ _ _ _
      | exact iso2022_Set.mono _ _ _ _ _ _ _
      | exact LeO.none _
      | refine LeO.ite ?_ ?_
      | refine LeO.bind ?_ (fun _ => ?_)
    · intro y0 y1 y2 y3 y4 y5 y6 y7 y8 y9 y10 y11 y12 y13 y14
      unfold dragomanlaw21_Iso2022Back.j4
      repeat' first
      | (with_reducible exact ih0 _ _ _)
      | (with_reducible exact ih1 _ _ _ _ _ _ _ _ _ _)
      | (with_reducible exact ih2 _ _ _ _ _ _ _ _ _ _ _)
      | (with_reducible exact ih3 _ _ _ _ _ _ _ _ _)
      | (with_reducible exact ih4 _ _ _ _ _ _ _ _ _ _ _ _ _ _ _)
      | (with_reducible exact ih5 _ _ _ _ _ _ _ _ _ _ _ _ _ _ _)
      | (with_reducible exact dragomanlaw21_works.mono _)
      | (with_reducible exact iso2022_End.mono _ _ _ _ _ _)
      | (with_reducible exact iso2022_Get.mono _ _ _ _ _ _ _)
      | (with_reducible exact iso2022_Set.mono _ _ _ _ _ _ _)
      | (with_reducible exact LeO.refl _)
      | (with_reducible exact LeO.none _)
      | (with_reducible refine LeO.ite ?_ ?_)
      | (with_reducible refine LeO.bind ?_ (fun _ => ?_))
      | exact ih0 _ _ _
      | exact ih1 _ _ _ _ _ _ _ _ _ _
      | exact ih2 _ _ _ _ _ _ _ _ _ _ _
      | exact ih3 _ _ _ _ _ _ _ _ _
      | exact ih4 _ _ _ _ _ _ _ _ _ _ _ _ _ _ _
      | exact ih5 _ _ _ _ _ _ _ _ _ _ _ _ _ _ _
      | exact dragomanlaw21_works.mono _
      | exact iso2022_End.mono _ _ _ _ _ _
      | exact iso2022_Get.mono _ _ _ _ _ _ _
      | exact iso2022_Set.mono _ _ _ _ _ _ _
      | exact LeO.none _
      | refine LeO.ite ?_ ?_
      | refine LeO.bind ?_ (fun _ => ?_)
    · intro y0 y1 y2 y3 y4 y5 y6 y7 y8 y9 y10 y11 y12 y13 y14
      unfold dragomanlaw21_Iso2022Back.l2
      repeat' first
      | (with_reducible exact ih0 _ _ _)
      | (with_reducible exact ih1 _ _ _ _ _ _ _ _ _ _)
      | (with_reducible exact ih2 _ _ _ _ _ _ _ _ _ _ _)
      | (with_reducible exact ih3 _ _ _ _ _ _ _ _ _)
      | (with_reducible exact ih4 _ _ _ _ _ _ _ _ _ _ _ _ _ _ _)
      | (with_reducible exact ih5 _ _ _ _ _ _ _ _ _ _ _ _ _ _ _)
      | (with_reducible exact dragomanlaw21_works.mono _)
      | (with_reducible exact iso2022_End.mono _ _ _ _ _ _)
      | (with_reducible exact iso2022_Get.mono _ _ _ _ _ _ _)
      | (with_reducible exact iso2022_Set.mono _ _ _ _ _ _ _)
      | (with_reducible exact LeO.refl _)
      | (with_reducible exact LeO.none _)
      | (with_reducible refine LeO.ite ?_ ?_)
      | (with_reducible refine LeO.bind ?_ (fun _ => ?_))
      | exact ih0 _ _ _
      | exact ih1 _ _ _ _ _ _ _ _ _ _
      | exact ih2 _ _ _ _ _ _ _ _ _ _ _
      | exact ih3 _ _ _ _ _ _ _ _ _
      | exact ih4 _ _ _ _ _ _ _ _ _ _ _ _ _ _ _
      | exact ih5 _ _ _ _ _ _ _ _ _ _ _ _ _ _ _
      | exact dragomanlaw21_works.mono _
      | exact iso2022_End.mono _ _ _ _ _ _
      | exact iso2022_Get.mono _ _ _ _ _ _ _
      | exact iso2022_Set.mono _ _ _ _ _ _ _
      | exact LeO.none _
      | refine LeO.ite ?_ ?_
      | refine LeO.bind ?_ (fun _ => ?_)
theorem dragomanlaw21_Iso2022Back.mono : ∀ a0 a1 k, LeO (dragomanlaw21_Iso2022Back.f k a0 a1) (dragomanlaw21_Iso2022Back.f (k + 1) a0 a1) := by
  intro a0 a1 k
  obtain ⟨ih0, ih1, ih2, ih3, ih4, ih5⟩ := dragomanlaw21_Iso2022Back.mono_l k
  unfold dragomanlaw21_Iso2022Back.f
  repeat' first
      | (with_reducible exact ih0 _ _ _)
      | (with_reducible exact ih1 _ _ _ _ _ _ _ _ _ _)
      | (with_reducible exact ih2 _ _ _ _ _ _ _ _ _ _ _)
      | (with_reducible exact ih3 _ _ _ _ _ _ _ _ _)
      | (with_reducible exact ih4 _ _ _ _ _ _ _ _ _ _ _ _ _ _ _)
      | (with_reducible exact ih5 _ _ _ _ _ _ _ _ _ _ _ _ _ _ _)
      | (with_reducible exact dragomanlaw21_works.mono _)
      | (with_reducible exact iso2022_End.mono _ _ _ _ _ _)
      | (with_reducible exact iso2022_Get.mono _ _ _ _ _ _ _)
      | (with_reducible exact iso2022_Set.mono _ _ _ _ _ _ _)
      | (with_reducible exact LeO.refl _)
      | (with_reducible exact LeO.none _)
      | (with_reducible refine LeO.ite ?_ ?_)
      | (with_reducible refine LeO.bind ?_ (fun _ => ?_))
      | exact ih0 _ _ _
      | exact ih1 _ _ _ _ _ _ _ _ _ _
      | exact ih2 _ _ _ _ _ _ _ _ _ _ _
      | exact ih3 _ _ _ _ _ _ _ _ _
      | exact ih4 _ _ _ _ _ _ _ _ _ _ _ _ _ _ _
      | exact ih5 _ _ _ _ _ _ _ _ _ _ _ _ _ _ _
      | exact dragomanlaw21_works.mono _
      | exact iso2022_End.mono _ _ _ _ _ _
      | exact iso2022_Get.mono _ _ _ _ _ _ _
      | exact iso2022_Set.mono _ _ _ _ _ _ _
      | exact LeO.none _
      | refine LeO.ite ?_ ?_
      | refine LeO.bind ?_ (fun _ => ?_)
def dragomanlaw21_Iso2022Back.T12 : Bool × List (List Nat × List Nat) := (true, [([], []), ([], []), ([], []), ([], []), ([2, 3], [2, 3]), ([4], [4]), ([0, 1, 5], [0, 1, 5]), ([], []), ([7, 6, 6, 0, 1, 2, 3, 4, 5, 6, 7], [6, 7])])
def dragomanlaw21_Iso2022Back.B12 : List Nat := [0, 0, 0, 0, 12, 28, 63, 0, 255]
theorem dragomanlaw21_Iso2022Back.tab12 : rtab .any (opsOf Try.f16 12) = dragomanlaw21_Iso2022Back.T12 := by kernel_rfl
theorem dragomanlaw21_Iso2022Back.bits12 : waitsOk dragomanlaw21_Iso2022Back.T12.2 dragomanlaw21_Iso2022Back.B12 = true := by kernel_rfl
def dragomanlaw21_Iso2022Back.T35 : Bool × List (List Nat × List Nat) := (true, [([], []), ([], []), ([1], [1]), ([0, 2], [0, 2]), ([3], [3]), ([4], [4]), ([4], [4]), ([5, 6, 4], [4, 5, 6]), ([7, 4], [4, 7]), ([4], [4]), ([9, 4], [4, 9]), ([8, 10, 4], [4, 8, 10]), ([4, 11], [4, 11])])
def dragomanlaw21_Iso2022Back.B35 : List Nat := [0, 0, 2, 7, 15, 31, 31, 127, 255, 31, 543, 2047, 4095]
theorem dragomanlaw21_Iso2022Back.tab35 : rtab .any (opsOf Try.f16 35) = dragomanlaw21_Iso2022Back.T35 := by kernel_rfl
theorem dragomanlaw21_Iso2022Back.bits35 : waitsOk dragomanlaw21_Iso2022Back.T35.2 dragomanlaw21_Iso2022Back.B35 = true := by kernel_rfl
def dragomanlaw21_Iso2022Back.T38 : Bool × List (List Nat × List Nat) := (true, [([], []), ([], []), ([1], [1]), ([0, 2], [0, 2]), ([], []), ([4], [4]), ([3, 0, 1, 2, 3], [0, 3]), ([5, 6, 0, 1, 2, 3, 4, 5, 6], [5])])
def dragomanlaw21_Iso2022Back.B38 : List Nat := [0, 0, 2, 7, 0, 16, 15, 127]
theorem dragomanlaw21_Iso2022Back.tab38 : rtab .any (opsOf Try.f16 38) = dragomanlaw21_Iso2022Back.T38 := by kernel_rfl
theorem dragomanlaw21_Iso2022Back.bits38 : waitsOk dragomanlaw21_Iso2022Back.T38.2 dragomanlaw21_Iso2022Back.B38 = true := by kernel_rfl
theorem bN_ {g : Nat} {o : Obj} {W : World} (h : W.heap[g]? = some o) (n : Nat) : (W.drewN n).heap[g]? = some o := blk_drewN h n
theorem bD_ {g : Nat} {o : Obj} {W : World} (h : W.heap[g]? = some o) : W.drew.heap[g]? = some o := blk_drew h
theorem bA_ {g : Nat} {o : Obj} {W : World} (h : W.heap[g]? = some o) (x : Obj) : (W.alloc x).heap[g]? = some o := blk_alloc h x
def dragomanlaw21_Iso2022Back.Pure : Prop := ∀ (a0 : Bool) (l1 : List Int), l1.length ≤ maxLen → l1.length * 4 ≤ 140737488351232 → (∀ x ∈ l1, (Lit.int .i32 x).wf = true) → ∃ k, dragomanlaw21_Iso2022Back.f k a0 l1 = some true
end Go.Proofs.Ytenmanionddamaa.Q
