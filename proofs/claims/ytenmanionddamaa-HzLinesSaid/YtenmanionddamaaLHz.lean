/- Plain laws of hz: End and Set in closed form. Conditions: each theorem states its own. -/
import Derived.Test.YtenmanionddamaaQhza
import Derived.OpenShut
namespace Go.Proofs.Ytenmanionddamaa.Q
open Go.RowKit Go.Proofs.YtenmanionddamaaW.PrintWords Go.Proofs.YtenmanionddamaaW.PrintLast
set_option linter.unusedVariables false
set_option linter.unusedSimpArgs false
/-- a state of HZ: outside or within, all else zero -/
def hzFit (a b c d : Int) : Prop := (a = 0 ∨ a = 1) ∧ b = 0 ∧ c = 0 ∧ d = 0
instance (a b c d : Int) : Decidable (hzFit a b c d) := by unfold hzFit; infer_instance
theorem fits_eq (a b c d : Int) : hz_fits.f a b c d = some (decide (hzFit a b c d)) := by
  unfold hz_fits.f
  by_cases h0 : (a == 0 && (b == 0 && (c == 0 && (d == 0)))) = true
  · rw [if_pos h0]
    simp only [Bool.and_eq_true, beq_iff_eq] at h0
    rw [decide_eq_true (show hzFit a b c d from ⟨.inl h0.1, h0.2.1, h0.2.2.1, h0.2.2.2⟩)]
  · rw [if_neg h0]
    congr 1
    rw [Bool.eq_iff_iff, decide_eq_true_iff]
    simp only [Bool.and_eq_true, beq_iff_eq] at h0 ⊢
    unfold hzFit
    constructor
    · rintro ⟨h1, h2, h3, h4⟩; exact ⟨.inr h1, h2, h3, h4⟩
    · rintro ⟨h1 | h1, h2, h3, h4⟩
      · exact absurd ⟨h1, h2, h3, h4⟩ h0
      · exact ⟨h1, h2, h3, h4⟩
def hzEnd (a b c d : Int) : ByteArray × Int := if hzFit a b c d then (if a = 1 then (⟨#[126, 125]⟩, 0) else (⟨#[]⟩, 0)) else (⟨#[]⟩, 7)
theorem hz_End_eq (a b c d : Int) : hz_End.f a b c d = some (hzEnd a b c d) := by
  unfold hz_End.f hzEnd
  rw [fits_eq]
  simp only [Option.bind_some]
  by_cases h : hzFit a b c d
  · rw [decide_eq_true h, if_pos rfl, if_pos h]; split <;> rfl
  · rw [decide_eq_false h, if_neg (by decide), if_neg h]
theorem enc_ascii (u : Int) (h0 : 0 ≤ u) (h1 : u < 128) : Utf8.encode u = strOfNums [u] := by
  obtain ⟨n, rfl⟩ := Int.eq_ofNat_of_zero_le h0
  have h : n < 128 := by omega
  have : ∀ m : Fin 128, Utf8.encode ((m.val : Nat) : Int) = strOfNums [((m.val : Nat) : Int)] := by decide +kernel
  exact this ⟨n, h⟩
theorem str_size (l : List Int) : (strOfNums l).size = l.length := by simp [strOfNums, ByteArray.size]
/-- the end's text in front of what is written outside -/
def hzPre (a : Int) : ByteArray := if a = 1 then ⟨#[126, 125]⟩ else ⟨#[]⟩
/-- what Set answers, in a state that fits -/
def hzSet (a u : Int) : Int × ByteArray × Int × Int × Int × Int :=
  if u = 126 then (0, hzPre a ++ ⟨#[126, 126]⟩, 0, 0, 0, 0) else
  if 0 ≤ u ∧ u < 128 then (0, hzPre a ++ strOfNums [u], 0, 0, 0, 0) else
  if (placeOf gbRow u).2.2 = true ∧ (placeOf gbRow u).1 ≤ 87 then
    (0, (if a = 0 then ⟨#[126, 123]⟩ else ⟨#[]⟩) ++ strOfNums [(wrap64 (32 + (placeOf gbRow u).1)) % 256, (wrap64 (32 + (placeOf gbRow u).2.1)) % 256], 1, 0, 0, 0) else (11, ⟨#[]⟩, 0, 0, 0, 0)
theorem hzEnd_fit {a b c d : Int} (h : hzFit a b c d) : hzEnd a b c d = (hzPre a, 0) := by
  unfold hzEnd hzPre; rw [if_pos h]; split <;> rfl
theorem hzPre_size (a : Int) : (hzPre a).size ≤ 2 := by unfold hzPre; split <;> decide
theorem empty_app (b : ByteArray) : (⟨#[]⟩ : ByteArray) ++ b = b := by
  apply ByteArray.ext; simp
theorem hz_Set_eq (k : Nat) (a b c d u : Int) (h : hzFit a b c d) : hz_Set.f (k + 2) a b c d u = some (hzSet a u) := by
  have hp := hzPre_size a
  unfold hz_Set.f hzSet
  rw [hz_End_eq, hzEnd_fit h]
  simp only [Option.bind_some, if_true]
  by_cases h1 : u = 126
  · subst h1
    rw [if_pos (show (126 : Int) ≥ 0 by decide), if_pos rfl, show decide ((126 : Int) < 128) = true by decide]
    simp only [hz_Set.j0, if_true]
    have he : Utf8.encode 126 = (⟨#[126]⟩ : ByteArray) := by decide +kernel
    have hs : (hzPre a ++ (⟨#[126]⟩ : ByteArray)).size = (hzPre a).size + 1 := by rw [ByteArray.size_append]; rfl
    rw [if_pos (by omega), he, hs, if_pos (show (hzPre a).size + 1 + (⟨#[126]⟩ : ByteArray).size ≤ 9223372036854775807 by have : (⟨#[126]⟩ : ByteArray).size = 1 := rfl; omega)]
    have : hzPre a ++ (⟨#[126]⟩ : ByteArray) ++ (⟨#[126]⟩ : ByteArray) = hzPre a ++ (⟨#[126, 126]⟩ : ByteArray) := by rw [ByteArray.append_assoc]; rfl
    rw [this]
  rw [if_neg h1]
  by_cases h2 : 0 ≤ u ∧ u < 128
  · rw [if_pos h2, if_pos h2.1, decide_eq_true h2.2]
    simp only [hz_Set.j0, if_true]
    rw [if_neg h1, enc_ascii u h2.1 h2.2, str_size, if_pos (show (hzPre a).size + [u].length ≤ 9223372036854775807 by simp; omega)]
  rw [if_neg h2]
  have hj : hz_Set.j0 (k + 2) u (hzPre a) false a b c d = some (if (placeOf gbRow u).2.2 = true ∧ (placeOf gbRow u).1 ≤ 87 then
    (0, (if a = 0 then ⟨#[126, 123]⟩ else ⟨#[]⟩) ++ strOfNums [(wrap64 (32 + (placeOf gbRow u).1)) % 256, (wrap64 (32 + (placeOf gbRow u).2.1)) % 256], 1, 0, 0, 0) else (11, ⟨#[]⟩, 0, 0, 0, 0)) := by
    simp only [hz_Set.j0, Bool.false_eq_true, if_false, gb_Place.f, Option.bind_some]
    by_cases h3 : (placeOf gbRow u).2.2 = true
    · rw [if_pos h3]
      by_cases h4 : (placeOf gbRow u).1 ≤ 87
      · rw [decide_eq_false (show ¬ (placeOf gbRow u).1 > 87 by omega), if_pos ⟨h3, h4⟩]
        simp only [hz_Set.j1, Bool.false_eq_true, if_false, Option.bind_some, str_size]
        by_cases h5 : a = 0
        · rw [if_pos h5, if_pos h5, if_pos (by simp)]
        · rw [if_neg h5, if_neg h5, empty_app]
      · rw [decide_eq_true (show (placeOf gbRow u).1 > 87 by omega), if_neg (fun x => h4 x.2)]
        simp only [hz_Set.j1, if_true]
    · rw [if_neg h3, if_neg (fun x => h3 x.1)]
      simp only [hz_Set.j1, if_true]
  by_cases h6 : u ≥ 0
  · rw [if_pos h6, decide_eq_false (show ¬ u < 128 by omega), hj]
  · rw [if_neg h6, hj]
theorem hz_Set_bad (k : Nat) (a b c d u : Int) (h : ¬ hzFit a b c d) : hz_Set.f k a b c d u = some (7, ⟨#[]⟩, 0, 0, 0, 0) := by
  unfold hz_Set.f
  rw [hz_End_eq, show hzEnd a b c d = (⟨#[]⟩, 7) by unfold hzEnd; rw [if_neg h]]
  rfl
end Go.Proofs.Ytenmanionddamaa.Q
