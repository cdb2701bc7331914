/- Plain laws of places and scalars of the rows: what has a place is the scalar of it, and the other way. Conditions: each theorem states its own. -/
import Derived.Test.YtenmanionddamaaTabRows
namespace Go.Proofs.Ytenmanionddamaa.Q
open Go.RowKit
set_option linter.unusedVariables false
set_option linter.unusedSimpArgs false
theorem idxFrom_some (u : Int) : ∀ (l : List Int) (n c : Int), idxFrom l u n = some c → ∃ j : Nat, c = n + j ∧ j < l.length ∧ l.getD j 0 = u := by
  intro l
  induction l with
  | nil => intro n c h; cases h
  | cons x l ih =>
    intro n c h
    rw [idxFrom] at h
    by_cases e : x = u
    · rw [if_pos e] at h; cases h; exact ⟨0, by simp, by simp, by simpa using e⟩
    · rw [if_neg e] at h
      obtain ⟨j, h1, h2, h3⟩ := ih _ _ h
      exact ⟨j + 1, by omega, by simpa using h2, by simpa using h3⟩
theorem placeFrom_some (R : Int → List Int) (u : Int) : ∀ (n : Nat) (r r' c : Int), placeFrom R u n r = (r', c, true) → r ≤ r' ∧ r' < r + n ∧ ∃ j : Nat, c = 1 + j ∧ j < (R r').length ∧ (R r').getD j 0 = u := by
  intro n
  induction n with
  | zero => intro r r' c h; cases h
  | succ n ih =>
    intro r r' c h
    rw [placeFrom] at h
    split at h
    case h_1 c' e =>
      cases h
      obtain ⟨j, h1, h2, h3⟩ := idxFrom_some u _ _ _ e
      exact ⟨by omega, by omega, j, h1, h2, h3⟩
    case h_2 =>
      obtain ⟨h1, h2, h3⟩ := ih _ _ _ h
      exact ⟨by omega, by omega, h3⟩
theorem scalarOf_at (l : List Int) (c : Nat) (v : Int) (h : l ≠ []) (hc : c < 94) (hv : l.getD c 0 = v) (hn : v ≠ 65533) : scalarOf l (c + 1) = (v, true) := by
  unfold scalarOf
  rw [if_neg h, if_neg (by omega), if_neg (by omega), show ((c : Int) + 1 - 1).toNat = c by omega, hv, if_neg hn]
/-- a scalar that has a place is the scalar of that place -/
theorem placeOf_scalar (R : Int → List Int) (hlen : ∀ a, R a ≠ [] → (R a).length = 94) (u r c : Int) (h : placeOf R u = (r, c, true)) : 1 ≤ r ∧ r ≤ 94 ∧ 1 ≤ c ∧ c ≤ 94 ∧ scalarOf (R r) c = (u, true) := by
  unfold placeOf at h
  by_cases e : u = 65533
  · rw [if_pos e] at h; cases h
  rw [if_neg e] at h
  obtain ⟨h1, h2, j, h3, h4, h5⟩ := placeFrom_some R u _ _ _ _ h
  have hne : R r ≠ [] := by intro hn; rw [hn] at h4; simp at h4
  have hl := hlen r hne
  refine ⟨h1, by omega, by omega, by omega, ?_⟩
  rw [show c = (j : Int) + 1 by omega]
  exact scalarOf_at (R r) j u hne (by omega) h5 e
theorem idxFrom_mem (u : Int) : ∀ (l : List Int) (k : Int), idxFrom l u k = none → u ∉ l
  | [], _, _ => by simp
  | x :: l, k, h => by
    unfold idxFrom at h
    by_cases e : x = u
    · rw [if_pos e] at h; cases h
    · rw [if_neg e] at h
      intro hm
      rcases List.mem_cons.1 hm with h1 | h1
      · exact e h1.symm
      · exact idxFrom_mem u l _ h h1
theorem placeFrom_found (R : Int → List Int) (u : Int) : ∀ (n : Nat) (r q : Int), r ≤ q → q < r + n → u ∈ R q → ∃ a b, placeFrom R u n r = (a, b, true)
  | 0, r, q, h1, h2, _ => by omega
  | n + 1, r, q, h1, h2, hm => by
    unfold placeFrom
    split
    · exact ⟨_, _, rfl⟩
    · next e =>
      have : r ≠ q := fun x => idxFrom_mem u _ _ e (x ▸ hm)
      exact placeFrom_found R u n (r + 1) q (by omega) (by omega) hm
/-- what is the scalar of a cell has a place -/
theorem place_of_scalar (R : Int → List Int) (hlen : ∀ a, R a ≠ [] → (R a).length = 94) (u r c : Int) (h1 : 1 ≤ r) (h2 : r ≤ 94) (h : scalarOf (R r) c = (u, true)) : ∃ a b, placeOf R u = (a, b, true) := by
  unfold scalarOf at h
  by_cases e0 : R r = []
  · rw [if_pos e0] at h; cases h
  rw [if_neg e0] at h
  by_cases e1 : c < 1
  · rw [if_pos e1] at h; cases h
  rw [if_neg e1] at h
  by_cases e2 : 94 < c
  · rw [if_pos e2] at h; cases h
  rw [if_neg e2] at h
  by_cases e3 : (R r).getD (c - 1).toNat 0 = 65533
  · rw [if_pos e3] at h; cases h
  rw [if_neg e3] at h
  simp only [Prod.mk.injEq, and_true] at h
  have hl := hlen r e0
  have hc : (c - 1).toNat < (R r).length := by omega
  rw [List.getD_eq_getElem?_getD, List.getElem?_eq_getElem hc, Option.getD_some] at h
  have hm : u ∈ R r := by rw [← h]; exact List.getElem_mem hc
  unfold placeOf
  rw [if_neg (by rw [List.getD_eq_getElem?_getD, List.getElem?_eq_getElem hc, Option.getD_some, h] at e3; exact e3)]
  exact placeFrom_found R u 94 1 r (by omega) (by omega) hm
end Go.Proofs.Ytenmanionddamaa.Q
