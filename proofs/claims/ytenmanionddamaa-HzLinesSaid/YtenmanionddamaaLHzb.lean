/- Plain laws of hz: what Get answers of what Set writes. Conditions: each theorem states its own. -/
import Derived.Test.YtenmanionddamaaLHz
import Derived.Test.YtenmanionddamaaQhzb
namespace Go.Proofs.Ytenmanionddamaa.Q
open Go.RowKit Go.Proofs.YtenmanionddamaaW.PrintWords Go.Proofs.YtenmanionddamaaW.PrintLast
set_option linter.unusedVariables false
set_option linter.unusedSimpArgs false
theorem w64' {x : Int} (h0 : -9223372036854775808 ≤ x) (h1 : x < 9223372036854775808) : wrap64 x = x := by unfold wrap64; omega
theorem w32' {x : Int} (h0 : -2147483648 ≤ x) (h1 : x < 2147483648) : wrap32 x = x := by unfold wrap32; omega
theorem rd0 (c : Int) (l : List Int) : rd (c :: l) 0 = c := rfl
theorem rd1 (c d : Int) (l : List Int) : rd (c :: d :: l) 1 = d := rfl
/-- Get of a text that isn't empty, in a state that fits: the byte behind the first is next -/
theorem hz_Get_head (k : Nat) (a c : Int) (l : List Int) (ha : a = 0 ∨ a = 1) : hz_Get.f k a 0 0 0 (c :: l) = hz_Get.j0 k (c :: l) (if l = [] then 0 else rd l 0) a 0 0 0 := by
  unfold hz_Get.f
  rw [fits_eq, decide_eq_true (show hzFit a 0 0 0 from ⟨ha, rfl, rfl, rfl⟩)]
  simp only [Option.bind_some, if_true]
  rw [if_neg (show ¬ ((c :: l).length : Int) = 0 by simp <;> omega)]
  cases l with
  | nil => rw [if_neg (by simp), if_pos rfl]
  | cons d l => rw [if_pos (show ((c :: d :: l).length : Int) > 1 by simp <;> omega), if_pos (show 1 < ((c :: d :: l).length : Int) by simp <;> omega), if_neg (by simp)]; rfl
/-- a byte of ASCII outside -/
theorem hz_Get_plain (k : Nat) (c : Int) (l : List Int) (h0 : 0 ≤ c) (h1 : c < 128) (h2 : c ≠ 126) : hz_Get.f (k + 3) 0 0 0 0 (c :: l) = some (0, 1, 1, c, 0, 0, 0, 0, 0) := by
  rw [hz_Get_head _ _ _ _ (.inl rfl)]
  simp only [hz_Get.j0]
  rw [if_pos (show 0 < ((c :: l).length : Int) by simp <;> omega), rd0, if_neg h2]
  simp only [hz_Get.j1, Bool.false_eq_true, if_false]
  rw [if_neg h2, if_neg (show ¬ c ≥ 128 by omega)]
  simp only [if_true, hz_Get.j2, beq_self_eq_true, w32' (x := c) (by omega) (by omega)]
/-- a line feed within -/
theorem hz_Get_line (k : Nat) (l : List Int) : hz_Get.f (k + 3) 1 0 0 0 (10 :: l) = some (0, 1, 1, 10, 0, 0, 0, 0, 0) := by
  rw [hz_Get_head _ _ _ _ (.inr rfl)]
  simp only [hz_Get.j0]
  rw [if_pos (show 0 < ((10 :: l).length : Int) by simp <;> omega), rd0, if_neg (by decide)]
  simp only [hz_Get.j1, Bool.false_eq_true, if_false]
  rw [if_neg (by decide), if_neg (by decide), if_neg (by decide)]
  simp only [if_true, hz_Get.j2, beq_self_eq_true, w32' (x := 10) (by decide) (by decide)]
theorem hz_Get_tilde (k : Nat) (l : List Int) : hz_Get.f (k + 3) 0 0 0 0 (126 :: 126 :: l) = some (0, 2, 1, 126, 0, 0, 0, 0, 0) := by
  rw [hz_Get_head _ _ _ _ (.inl rfl)]
  simp only [hz_Get.j0]
  rw [if_pos (show 0 < ((126 :: 126 :: l).length : Int) by simp <;> omega), rd0, if_pos rfl, if_neg (by simp), rd0]
  have hl : (((126 :: 126 :: l).length : Int) == 1) = false := by simp <;> omega
  rw [hl]
  simp only [hz_Get.j1, Bool.false_eq_true, if_false, if_true, hz_Get.j4, beq_self_eq_true]
theorem hz_Get_begin (k : Nat) (l : List Int) : hz_Get.f (k + 4) 0 0 0 0 (126 :: 123 :: l) = some (0, 2, 0, 0, 0, 1, 0, 0, 0) := by
  rw [hz_Get_head _ _ _ _ (.inl rfl)]
  simp only [hz_Get.j0]
  rw [if_pos (show 0 < ((126 :: 123 :: l).length : Int) by simp <;> omega), rd0, if_pos rfl, if_neg (by simp), rd0]
  have hl : (((126 :: 123 :: l).length : Int) == 1) = false := by simp <;> omega
  rw [hl, show ((126 : Int) :: 123 :: l) = 126 :: 123 :: l from rfl]
  simp only [hz_Get.j1, Bool.false_eq_true, if_false, if_true, hz_Get.j4, show ((123 : Int) == 126) = false by decide, hz_Get.j5, beq_self_eq_true]
theorem hz_Get_end (k : Nat) (l : List Int) : hz_Get.f (k + 6) 1 0 0 0 (126 :: 125 :: l) = some (0, 2, 0, 0, 0, 0, 0, 0, 0) := by
  rw [hz_Get_head _ _ _ _ (.inr rfl)]
  simp only [hz_Get.j0]
  rw [if_pos (show 0 < ((126 :: 125 :: l).length : Int) by simp <;> omega), rd0, if_pos rfl, if_neg (by simp), rd0]
  have hl : (((126 :: 125 :: l).length : Int) == 1) = false := by simp <;> omega
  rw [hl]
  simp only [hz_Get.j1, Bool.false_eq_true, if_false, if_true, hz_Get.j4, show ((1 : Int) = 0) = False by simp, hz_Get.j5, hz_Get.j6, hz_Get.j7, beq_self_eq_true]
theorem hz_Get_pair (k : Nat) (r c u : Int) (l : List Int) (r0 : 1 ≤ r) (r1 : r ≤ 87) (c0 : 1 ≤ c) (c1 : c ≤ 94) (h : scalarOf (gbRow r) c = (u, true)) : hz_Get.f (k + 5) 1 0 0 0 ((r + 32) :: (c + 32) :: l) = some (0, 2, 1, u, 0, 1, 0, 0, 0) := by
  rw [hz_Get_head _ _ _ _ (.inr rfl)]
  simp only [hz_Get.j0]
  rw [if_pos (show 0 < (((r + 32) :: (c + 32) :: l).length : Int) by simp <;> omega), rd0, if_neg (show ¬ r + 32 = 126 by omega), if_neg (by simp), rd0]
  simp only [hz_Get.j1, Bool.false_eq_true, if_false]
  rw [if_neg (show ¬ r + 32 = 126 by omega), if_neg (show ¬ r + 32 ≥ 128 by omega), if_neg (by decide), beq_eq_false_iff_ne.2 (show r + 32 ≠ 10 by omega)]
  simp only [hz_Get.j2, Bool.false_eq_true, if_false]
  rw [if_neg (show ¬ r + 32 ≤ 32 by omega), decide_eq_false (show ¬ r + 32 > 119 by omega)]
  simp only [hz_Get.j3, Bool.false_eq_true, if_false]
  rw [if_neg (show ¬ (((r + 32) :: (c + 32) :: l).length : Int) = 1 by simp <;> omega), if_neg (show ¬ c + 32 ≤ 32 by omega), if_neg (show ¬ c + 32 > 126 by omega), if_pos (show 0 < (((r + 32) :: (c + 32) :: l).length : Int) by simp <;> omega), rd0,
    w64' (x := r + 32) (by omega) (by omega), w64' (x := c + 32) (by omega) (by omega), show r + 32 - 32 = r by omega, show c + 32 - 32 = c by omega, w64' (x := r) (by omega) (by omega), w64' (x := c) (by omega) (by omega)]
  simp only [gb_Scalar.f, h, Option.bind_some, if_true]
/-! what is found by a search is there -/
theorem idxFrom_some (u : Int) : ∀ (l : List Int) (n c : Int), idxFrom l u n = some c → ∃ j : Nat, c = n + j ∧ j < l.length ∧ l.getD j 0 = u := by
  intro l
  induction l with
  | nil => intro n c h; cases h
  | cons x l ih =>
    intro n c h
    rw [idxFrom] at h
    by_cases e : x = u
    · rw [if_pos e] at h; cases h; exact ⟨0, by simp, by simp, by simpa using e⟩
    · rw [if_neg e] at h
      obtain ⟨j, h1, h2, h3⟩ := ih _ _ h
      exact ⟨j + 1, by omega, by simpa using h2, by simpa using h3⟩
theorem placeFrom_some (R : Int → List Int) (u : Int) : ∀ (n : Nat) (r r' c : Int), placeFrom R u n r = (r', c, true) → r ≤ r' ∧ r' < r + n ∧ ∃ j : Nat, c = 1 + j ∧ j < (R r').length ∧ (R r').getD j 0 = u := by
  intro n
  induction n with
  | zero => intro r r' c h; cases h
  | succ n ih =>
    intro r r' c h
    rw [placeFrom] at h
    split at h
    case h_1 c' e =>
      cases h
      obtain ⟨j, h1, h2, h3⟩ := idxFrom_some u _ _ _ e
      exact ⟨by omega, by omega, j, h1, h2, h3⟩
    case h_2 =>
      obtain ⟨h1, h2, h3⟩ := ih _ _ _ h
      exact ⟨by omega, by omega, h3⟩
theorem scalarOf_at (l : List Int) (c : Nat) (v : Int) (h : l ≠ []) (hc : c < 94) (hv : l.getD c 0 = v) (hn : v ≠ 65533) : scalarOf l (c + 1) = (v, true) := by
  unfold scalarOf
  rw [if_neg h, if_neg (by omega), if_neg (by omega), show ((c : Int) + 1 - 1).toNat = c by omega, hv, if_neg hn]
/-- a scalar that has a place is the scalar of that place -/
theorem placeOf_scalar (R : Int → List Int) (hlen : ∀ a, R a ≠ [] → (R a).length = 94) (u r c : Int) (h : placeOf R u = (r, c, true)) : 1 ≤ r ∧ r ≤ 94 ∧ 1 ≤ c ∧ c ≤ 94 ∧ scalarOf (R r) c = (u, true) := by
  unfold placeOf at h
  by_cases e : u = 65533
  · rw [if_pos e] at h; cases h
  rw [if_neg e] at h
  obtain ⟨h1, h2, j, h3, h4, h5⟩ := placeFrom_some R u _ _ _ _ h
  have hne : R r ≠ [] := by intro hn; rw [hn] at h4; simp at h4
  have hl := hlen r hne
  refine ⟨h1, by omega, by omega, by omega, ?_⟩
  rw [show c = (j : Int) + 1 by omega]
  exact scalarOf_at (R r) j u hne (by omega) h5 e
end Go.Proofs.Ytenmanionddamaa.Q
