/- Plain laws, continued: half forms, the reference's search for a row and a cell, Get and Set. -/
import Derived.Test.YtenmanionddamaaLSjis
import Derived.Test.YtenmanionddamaaXSjis
import Derived.Test.YtenmanionddamaaTabRefPlace
namespace Go.Proofs.Ytenmanionddamaa.Q
open Go.RowKit Go.Proofs.YtenmanionddamaaW.PrintWords Go.Proofs.YtenmanionddamaaW.PrintLast
set_option linter.unusedVariables false
set_option linter.unusedSimpArgs false
/-- a byte of JIS X 0201 -/
def halfOf (a : Int) : Int × Bool := if a = 92 then (165, true) else if a = 126 then (8254, true) else if a < 128 then (a, true) else if 161 ≤ a ∧ a ≤ 223 then (65216 + a, true) else (0, false)
theorem jis_Half_eq (a : Int) (h0 : 0 ≤ a) (h1 : a < 256) : jis_Half.f a = some (halfOf a) := by
  unfold jis_Half.f halfOf
  rw [w32 (x := a) (by omega) (by omega), w32 (x := 65377 + a) (by omega) (by omega), w32 (x := 65377 + a - 161) (by omega) (by omega)]
  repeat' split
  all_goals first | rfl | (exfalso; omega) | (simp only [Option.some.injEq, Prod.mk.injEq, and_true, true_and]; omega)
theorem ref14_Half_eq (a : Int) (h0 : 0 ≤ a) (h1 : a < 256) : dragomanref14_Half.f a = some (halfOf a) := by
  unfold dragomanref14_Half.f halfOf
  rw [w32 (x := a) (by omega) (by omega)]
  repeat' split
  all_goals first | rfl | (exfalso; omega) | (simp only [Option.some.injEq, Prod.mk.injEq, and_true, true_and]; omega)
/-- the byte of a scalar in JIS X 0201 -/
def halfByteOf (u : Int) : Int × Bool := if u = 165 then (92, true) else if u = 8254 then (126, true) else if 0 ≤ u ∧ u < 128 ∧ u ≠ 92 ∧ u ≠ 126 then (u, true) else if 65377 ≤ u ∧ u ≤ 65439 then (u - 65216, true) else (0, false)
theorem halfByte_some (u b : Int) (h0 : 0 ≤ b) (h1 : b < 256) (h : halfOf b = (u, true)) : halfByteOf u = (b, true) := by
  unfold halfOf at h
  unfold halfByteOf
  repeat' split at h
  all_goals first | (cases h; done) | skip
  all_goals (simp only [Prod.mk.injEq, and_true] at h; subst h; repeat' split)
  all_goals first | rfl | (exfalso; omega) | (simp only [Prod.mk.injEq, and_true, true_and]; done) | (simp only [Prod.mk.injEq, and_true, true_and]; omega)
theorem half_of_byte (u b : Int) (h : halfByteOf u = (b, true)) : 0 ≤ b ∧ b < 256 ∧ halfOf b = (u, true) := by
  unfold halfByteOf at h
  unfold halfOf
  repeat' split at h
  all_goals first | (cases h; done) | skip
  all_goals (simp only [Prod.mk.injEq, and_true] at h; subst h; refine ⟨by omega, by omega, ?_⟩; repeat' split)
  all_goals first | rfl | (exfalso; omega) | (simp only [Prod.mk.injEq, and_true, true_and]; done) | (simp only [Prod.mk.injEq, and_true, true_and]; omega)
theorem halfByte_none (u b : Int) (h : halfByteOf u = (b, false)) : b = 0 := by
  unfold halfByteOf at h
  repeat' split at h
  all_goals first | (cases h; done) | (cases h; rfl)
theorem jis_HalfByte_eq (k : Nat) (u : Int) (h0 : -2147483648 ≤ u) (h1 : u < 2147483648) : jis_HalfByte.f (k + 1) u = some (halfByteOf u) := by
  unfold jis_HalfByte.f halfByteOf
  by_cases a : u = 165
  · rw [if_pos a, if_pos a]
  rw [if_neg a, if_neg a]
  by_cases b : u = 8254
  · rw [if_pos b, if_pos b]
  rw [if_neg b, if_neg b]
  by_cases c : 0 ≤ u ∧ u < 128 ∧ u ≠ 92 ∧ u ≠ 126
  · rw [if_pos c, if_pos c.1, if_pos c.2.1, if_neg c.2.2.1]
    have : (u != 126) = true := by simpa using c.2.2.2
    rw [this]
    simp only [jis_HalfByte.j0, if_true]
    rw [show u % 256 = u by omega]
  rw [if_neg c]
  have hj : jis_HalfByte.j0 (k + 1) u false = some (if 65377 ≤ u ∧ u ≤ 65439 then (u - 65216, true) else (0, false)) := by
    simp only [jis_HalfByte.j0, Bool.false_eq_true, if_false]
    by_cases d : 65377 ≤ u ∧ u ≤ 65439
    · rw [if_pos d, if_pos d.1, if_pos d.2, w32 (x := u - 65377) (by omega) (by omega), w32 (x := u - 65377 + 161) (by omega) (by omega)]
      simp only [Option.some.injEq, Prod.mk.injEq, and_true]; omega
    · rw [if_neg d]
      by_cases e : u ≥ 65377
      · rw [if_pos e, if_neg (by omega)]
      · rw [if_neg e]
  by_cases e : u ≥ 0
  · rw [if_pos e]
    by_cases f : u < 128
    · rw [if_pos f]
      by_cases g : u = 92
      · rw [if_pos g, hj]
      · rw [if_neg g]
        have : u = 126 := by omega
        have h2 : (u != 126) = false := by simpa using this
        rw [h2, hj]
    · rw [if_neg f, hj]
  · rw [if_neg e, hj]
theorem ref14_HalfByte_l0 (u : Int) (d : Nat) : ∀ (k : Nat) (i : Int), 0 ≤ i → i ≤ 256 → 256 - i = d → d < k → (∀ b, 0 ≤ b → b < i → halfOf b ≠ (u, true)) → dragomanref14_HalfByte.l0 k u i = some (halfByteOf u) := by
  induction d with
  | zero =>
    intro k i h0 h1 hd hk hn
    obtain ⟨k, rfl⟩ : ∃ m, k = m + 1 := ⟨k - 1, by omega⟩
    simp only [dragomanref14_HalfByte.l0]
    rw [if_neg (by omega)]
    obtain ⟨b, hb⟩ : ∃ b, halfByteOf u = b := ⟨_, rfl⟩
    obtain ⟨b, o⟩ := b
    cases o with
    | true => obtain ⟨b0, b1, hh⟩ := half_of_byte u b hb; exact absurd hh (hn b b0 (by omega))
    | false => rw [hb, halfByte_none u b hb]
  | succ d ih =>
    intro k i h0 h1 hd hk hn
    obtain ⟨k, rfl⟩ : ∃ m, k = m + 1 := ⟨k - 1, by omega⟩
    simp only [dragomanref14_HalfByte.l0]
    rw [if_pos (by omega), show i % 256 = i by omega, ref14_Half_eq i h0 (by omega), w64 (x := i + 1) (by omega) (by omega)]
    simp only [Option.bind_some]
    have next : halfOf i ≠ (u, true) → dragomanref14_HalfByte.l0 k u (i + 1) = some (halfByteOf u) := fun hne =>
      ih k (i + 1) (by omega) (by omega) (by omega) (by omega) fun b b0 b1 => by
        by_cases e : b = i
        · rw [e]; exact hne
        · exact hn b b0 (by omega)
    by_cases h2 : (halfOf i).2 = true
    · rw [if_pos h2]
      by_cases h3 : (halfOf i).1 = u
      · rw [if_pos h3, halfByte_some u i h0 (by omega) (Prod.ext h3 h2)]
      · rw [if_neg h3]; exact next fun e => h3 (by rw [e])
    · rw [if_neg h2]; exact next fun e => h2 (by rw [e])
theorem ref14_HalfByte_eq (k : Nat) (u : Int) (hk : 256 < k) : dragomanref14_HalfByte.f k u = some (halfByteOf u) :=
  ref14_HalfByte_l0 u 256 k 0 (by omega) (by omega) (by omega) hk fun b h0 h1 => absurd h1 (by omega)
/-! the reference's Unpack tries all rows and cells -/
theorem pack_unp (r c a b : Int) (r1 : 1 ≤ r) (r2 : r ≤ 94) (c1 : 1 ≤ c) (c2 : c ≤ 94) (h : packOf r c = (a, b, true)) : unpOf a b = (r, c, true) := by
  rw [packOf_in r c (by omega) (by omega) (by omega) (by omega)] at h
  simp only [Prod.mk.injEq, and_true] at h
  obtain ⟨h1, h2⟩ := h
  unfold unpOf
  repeat' split at h1
  all_goals (repeat' split at h2)
  all_goals (subst h1 h2; repeat' split)
  all_goals first | (exfalso; omega) | (simp only [Prod.mk.injEq, and_true, true_and]; omega)
theorem unp_pack (r c a b : Int) (h : unpOf a b = (r, c, true)) : 1 ≤ r ∧ r ≤ 94 ∧ 1 ≤ c ∧ c ≤ 94 ∧ packOf r c = (a, b, true) := by
  unfold unpOf at h
  split at h
  case isFalse => cases h
  case isTrue hc =>
    simp only [Prod.mk.injEq, and_true] at h
    obtain ⟨h1, h2⟩ := h
    have key : 1 ≤ r ∧ r ≤ 94 ∧ 1 ≤ c ∧ c ≤ 94 := by
      repeat' split at h1
      all_goals (repeat' split at h2)
      all_goals omega
    obtain ⟨k1, k2, k3, k4⟩ := key
    refine ⟨k1, k2, k3, k4, ?_⟩
    rw [packOf_in r c (by omega) (by omega) (by omega) (by omega)]
    simp only [Prod.mk.injEq, and_true]
    repeat' split at h1
    all_goals (repeat' split at h2)
    all_goals (subst h1 h2; refine ⟨?_, ?_⟩; repeat' split)
    all_goals first | (exfalso; omega) | omega | (repeat' split) <;> first | (exfalso; omega) | omega
theorem unp_none (r c a b : Int) (h : unpOf a b = (r, c, false)) : r = 0 ∧ c = 0 := by
  unfold unpOf at h
  split at h
  · cases h
  · cases h; exact ⟨rfl, rfl⟩
theorem ref18_Unpack_loops (a b : Int) (a0 : 0 ≤ a) (a1 : a < 256) (b0 : 0 ≤ b) (b1 : b < 256) (d : Nat) :
    (∀ (k : Nat) (r : Int), 1 ≤ r → r ≤ 95 → 95 - r = d → 100 * d + 4 < k → (∀ R C, unpOf a b = (R, C, true) → r ≤ R) → dragomanref18_Unpack.l0 k a b r = some (unpOf a b)) := by
  induction d with
  | zero =>
    intro k r h0 h1 hd hk hn
    obtain ⟨k, rfl⟩ : ∃ m, k = m + 1 := ⟨k - 1, by omega⟩
    simp only [dragomanref18_Unpack.l0]
    rw [if_neg (by omega)]
    obtain ⟨R, C, o, e⟩ : ∃ R C o, unpOf a b = (R, C, o) := ⟨_, _, _, rfl⟩
    cases o with
    | true => have := hn R C e; have := unp_pack R C a b e; omega
    | false => obtain ⟨rfl, rfl⟩ := unp_none R C a b e; rw [e]
  | succ d ih =>
    intro k r h0 h1 hd hk hn
    have next : ∀ k', 100 * d + 4 < k' → (∀ R C, unpOf a b = (R, C, true) → r + 1 ≤ R) → dragomanref18_Unpack.l0 k' a b (r + 1) = some (unpOf a b) := fun k' hk' hn' => ih k' (r + 1) (by omega) (by omega) (by omega) hk' hn'
    have inner : ∀ (e : Nat) (k' : Nat) (c : Int), 1 ≤ c → c ≤ 95 → 95 - c = e → 100 * d + 5 + e < k' → (∀ R C, unpOf a b = (R, C, true) → R = r → c ≤ C) → dragomanref18_Unpack.l1 k' a b r c = some (unpOf a b) ∨ (packOf r 1).1 ≠ a := by
      by_cases hl : (packOf r 1).1 = a
      · intro e
        induction e with
        | zero =>
          intro k' c c0 c1 ce ck cn
          left
          obtain ⟨k', rfl⟩ : ∃ m, k' = m + 1 := ⟨k' - 1, by omega⟩
          simp only [dragomanref18_Unpack.l1]
          rw [if_neg (by omega), w64 (x := r + 1) (by omega) (by omega)]
          refine next k' (by omega) fun R C he => ?_
          have h2 := hn R C he
          by_cases hR : R = r
          · have := cn R C he hR; have := unp_pack R C a b he; omega
          · omega
        | succ e ihe =>
          intro k' c c0 c1 ce ck cn
          left
          obtain ⟨k', rfl⟩ : ∃ m, k' = m + 1 := ⟨k' - 1, by omega⟩
          simp only [dragomanref18_Unpack.l1]
          obtain ⟨k', rfl⟩ : ∃ m, k' = m + 2 := ⟨k' - 2, by omega⟩
          rw [if_pos (by omega), ref18_Pack_eq, w64 (x := c + 1) (by omega) (by omega)]
          simp only [Option.bind_some]
          by_cases hb : (packOf r c).2.1 = b
          · rw [if_pos hb]
            have hp : packOf r c = (a, b, true) := by
              have h3 := packOf_in r c (by omega) (by omega) (by omega) (by omega)
              have h4 := packOf_in r 1 (by omega) (by omega) (by omega) (by omega)
              rw [h4] at hl
              rw [h3] at hb ⊢
              simp only at hl hb ⊢
              rw [hl, hb]
            rw [pack_unp r c a b (by omega) (by omega) (by omega) (by omega) hp]
          · rw [if_neg hb]
            rcases ihe (k' + 2) (c + 1) (by omega) (by omega) (by omega) (by omega) (fun R C he hR => by
              have h5 := cn R C he hR
              by_cases hC : C = c
              · subst hC hR
                have h6 := (unp_pack R C a b he).2.2.2.2
                rw [h6] at hb
                exact absurd rfl hb
              · omega) with h7 | h7
            · exact h7
            · exact absurd hl h7
      · intro e k' c _ _ _ _ _; exact .inr hl
    obtain ⟨k, rfl⟩ : ∃ m, k = m + 1 := ⟨k - 1, by omega⟩
    simp only [dragomanref18_Unpack.l0]
    obtain ⟨k, rfl⟩ : ∃ m, k = m + 2 := ⟨k - 2, by omega⟩
    rw [if_pos (by omega), ref18_Pack_eq, w64 (x := r + 1) (by omega) (by omega)]
    simp only [Option.bind_some]
    by_cases hl : (packOf r 1).1 = a
    · rw [if_pos hl]
      rcases inner 94 (k + 2) 1 (by omega) (by omega) (by omega) (by omega) (fun R C he _ => (unp_pack R C a b he).2.2.1) with h | h
      · exact h
      · exact absurd hl h
    · rw [if_neg hl]
      refine next (k + 2) (by omega) fun R C he => ?_
      have h2 := hn R C he
      by_cases hR : R = r
      · subst hR
        have h6 := unp_pack R C a b he
        exfalso
        apply hl
        rw [packOf_in R 1 (by omega) (by omega) (by omega) (by omega)]
        have h7 := h6.2.2.2.2
        rw [packOf_in R C (by omega) (by omega) (by omega) (by omega)] at h7
        simp only [Prod.mk.injEq, and_true] at h7
        exact h7.1
      · omega
theorem ref18_Unpack_eq (k : Nat) (a b : Int) (hk : 10000 ≤ k) (a0 : 0 ≤ a) (a1 : a < 256) (b0 : 0 ≤ b) (b1 : b < 256) : dragomanref18_Unpack.f k a b = some (unpOf a b) :=
  ref18_Unpack_loops a b a0 a1 b0 b1 94 k 1 (by omega) (by omega) (by omega) (by omega) fun R C he => (unp_pack R C a b he).1
/-- what Get answers -/
def sjisGet (l : List Int) : Int × Int × Int × Int × Int × Int × Int × Int × Int :=
  if l.length = 0 then (1, 0, 0, 0, 0, 0, 0, 0, 0) else
  if ¬ (129 ≤ rd l 0 ∧ rd l 0 ≤ 159 ∨ 224 ≤ rd l 0 ∧ rd l 0 ≤ 239) then (if (halfOf (rd l 0)).2 = true then (0, 1, 1, (halfOf (rd l 0)).1, 0, 0, 0, 0, 0) else (10, 1, 0, 0, 0, 0, 0, 0, 0)) else
  if l.length = 1 then (1, 0, 0, 0, 0, 0, 0, 0, 0) else
  if ¬ (64 ≤ rd l 1 ∧ rd l 1 ≤ 252 ∧ rd l 1 ≠ 127) then (10, 1, 0, 0, 0, 0, 0, 0, 0) else
  if (scalarOf (jisRow (unpOf (rd l 0) (rd l 1)).1) (unpOf (rd l 0) (rd l 1)).2.1).2 = true then (0, 2, 1, (scalarOf (jisRow (unpOf (rd l 0) (rd l 1)).1) (unpOf (rd l 0) (rd l 1)).2.1).1, 0, 0, 0, 0, 0) else (10, 2, 0, 0, 0, 0, 0, 0, 0)
end Go.Proofs.Ytenmanionddamaa.Q
