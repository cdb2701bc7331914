/- Plain laws of iso2022.Get, continued: what it answers of single bytes, shifts and pairs. Conditions: each theorem states its own. -/
import Derived.Test.YtenmanionddamaaLIsog
namespace Go.Proofs.Ytenmanionddamaa.Q
open Go.RowKit Go.Proofs.YtenmanionddamaaW.PrintWords Go.Proofs.YtenmanionddamaaW.PrintLast
set_option linter.unusedVariables false
set_option linter.unusedSimpArgs false
theorem j1_jp (k : Nat) (m c : Int) (r : List Int) (hc : 0 ≤ c ∧ c < 128) (h : c ≠ 27) : iso2022_Get.j1 (k + 2) 83 (c :: r) m 0 0 0 = (iso2022_japanese.f k m 0 0 0 (c :: r)).bind fun b => some (b.1, b.2.1, b.2.2.1, b.2.2.2.1, b.2.2.2.2.1, b.2.2.2.2.2.1, b.2.2.2.2.2.2.1, b.2.2.2.2.2.2.2.1, b.2.2.2.2.2.2.2.2) := by
  simp only [iso2022_Get.j1]
  rw [if_pos (show 0 < ((c :: r).length : Int) by simp <;> omega), show rd (c :: r) 0 = c from rfl, if_neg h, decide_eq_false (show ¬ c ≥ 128 by omega)]
  simp only [iso2022_Get.j2, Bool.false_eq_true, if_false]
  rw [if_neg (by decide)]
theorem j1_kr (k : Nat) (m c : Int) (r : List Int) (hc : 0 ≤ c ∧ c < 128) (h : c ≠ 27) : iso2022_Get.j1 (k + 2) 88 (c :: r) m 0 0 0 = (iso2022_korean.f k m 0 0 0 (c :: r)).bind fun b => some (b.1, b.2.1, b.2.2.1, b.2.2.2.1, b.2.2.2.2.1, b.2.2.2.2.2.1, b.2.2.2.2.2.2.1, b.2.2.2.2.2.2.2.1, b.2.2.2.2.2.2.2.2) := by
  simp only [iso2022_Get.j1]
  rw [if_pos (show 0 < ((c :: r).length : Int) by simp <;> omega), show rd (c :: r) 0 = c from rfl, if_neg h, decide_eq_false (show ¬ c ≥ 128 by omega)]
  simp only [iso2022_Get.j2, Bool.false_eq_true, if_false, if_true]
theorem pair_jis (k : Nat) (m c d u : Int) (r : List Int) (hc : 33 ≤ c ∧ c ≤ 126) (hd : 33 ≤ d ∧ d ≤ 126) (hs : scalarOf (jisRow (c - 32)) (d - 32) = (u, true)) : iso2022_pairjis.f (k + 1) m 0 0 0 (c :: d :: r) = some (0, 2, 1, u, 0, m, 0, 0, 0) := by
  unfold iso2022_pairjis.f
  have hl : 1 < ((c :: d :: r).length : Int) := by simp <;> omega
  rw [if_neg (by omega), if_pos hl, show rd (c :: d :: r) 1 = d from rfl, if_neg (by omega), decide_eq_false (show ¬ d > 126 by omega)]
  simp only [iso2022_pairjis.j0, Bool.false_eq_true, if_false]
  rw [if_pos (by omega), if_pos hl, show rd (c :: d :: r) 0 = c from rfl, show rd (c :: d :: r) 1 = d from rfl, w64 (x := c) (by omega) (by omega), w64 (x := d) (by omega) (by omega), w64 (x := c - 32) (by omega) (by omega), w64 (x := d - 32) (by omega) (by omega)]
  unfold jis_Scalar.f
  rw [hs]
  rfl
theorem pair_ksc (k : Nat) (m c d u : Int) (r : List Int) (hc : 33 ≤ c ∧ c ≤ 126) (hd : 33 ≤ d ∧ d ≤ 126) (hs : scalarOf (kscRow (c - 32)) (d - 32) = (u, true)) : iso2022_pairksc.f (k + 1) m 0 0 0 (c :: d :: r) = some (0, 2, 1, u, 0, m, 0, 0, 0) := by
  unfold iso2022_pairksc.f
  have hl : 1 < ((c :: d :: r).length : Int) := by simp <;> omega
  rw [if_neg (by omega), if_pos hl, show rd (c :: d :: r) 1 = d from rfl, if_neg (by omega), decide_eq_false (show ¬ d > 126 by omega)]
  simp only [iso2022_pairksc.j0, Bool.false_eq_true, if_false]
  rw [if_pos (by omega), if_pos hl, show rd (c :: d :: r) 0 = c from rfl, show rd (c :: d :: r) 1 = d from rfl, w64 (x := c) (by omega) (by omega), w64 (x := d) (by omega) (by omega), w64 (x := c - 32) (by omega) (by omega), w64 (x := d - 32) (by omega) (by omega)]
  unfold ksc_Scalar.f
  rw [hs]
  rfl
/-- JP, a byte of ASCII, in mode 0 -/
theorem tok_jp0 (k : Nat) (c : Int) (r : List Int) (hc : 0 ≤ c ∧ c < 128) (h : c ≠ 27) (hr : isBytes r) : iso2022_Get.f (k + 7) 83 0 0 0 0 (c :: r) = some (0, 1, 1, c, 0, 0, 0, 0, 0) := by
  rw [Get_jp_plain k 0 c r ⟨by decide, by decide, rfl, rfl, rfl⟩ hc h hr, show k + 6 = (k + 4) + 2 by omega, j1_jp _ _ _ _ hc h]
  unfold iso2022_japanese.f
  rw [if_pos (show 0 < ((c :: r).length : Int) by simp <;> omega), if_neg (by decide), if_neg (by decide), show rd (c :: r) 0 = c from rfl, w32 (x := c) (by omega) (by omega)]
  rfl
/-- JP, a byte of JIS X 0201, in mode 1 -/
theorem tok_jp1 (k : Nat) (c u : Int) (r : List Int) (hc : 0 ≤ c ∧ c < 128) (h : c ≠ 27) (hr : isBytes r) (o : Bool) (hu : jis_Half.f c = some (u, o)) : iso2022_Get.f (k + 7) 83 1 0 0 0 (c :: r) = some (0, 1, 1, u, 0, 1, 0, 0, 0) := by
  rw [Get_jp_plain k 1 c r ⟨by decide, by decide, rfl, rfl, rfl⟩ hc h hr, show k + 6 = (k + 4) + 2 by omega, j1_jp _ _ _ _ hc h]
  unfold iso2022_japanese.f
  rw [if_pos (show 0 < ((c :: r).length : Int) by simp <;> omega), if_pos rfl, show rd (c :: r) 0 = c from rfl, hu]
  rfl
/-- JP, a pair, in mode 2 -/
theorem tok_jp2 (k : Nat) (c d u : Int) (r : List Int) (hc : 33 ≤ c ∧ c ≤ 126) (hd : 33 ≤ d ∧ d ≤ 126) (hr : isBytes r) (hs : scalarOf (jisRow (c - 32)) (d - 32) = (u, true)) : iso2022_Get.f (k + 7) 83 2 0 0 0 (c :: d :: r) = some (0, 2, 1, u, 0, 2, 0, 0, 0) := by
  rw [Get_jp_plain k 2 c (d :: r) ⟨by decide, by decide, rfl, rfl, rfl⟩ (by omega) (by omega) (fun w hw => by
    rcases List.mem_cons.1 hw with rfl | hw
    · omega
    · exact hr w hw), show k + 6 = (k + 4) + 2 by omega, j1_jp _ _ _ _ (by omega) (by omega)]
  unfold iso2022_japanese.f
  rw [if_pos (show 0 < ((c :: d :: r).length : Int) by simp <;> omega), if_neg (by decide), if_pos rfl, show rd (c :: d :: r) 0 = c from rfl, if_pos (by omega), if_pos (by omega), pair_jis (k + 3) 2 c d u r hc hd hs]
  rfl
theorem more_jp2 (k : Nat) (c : Int) (hc : 33 ≤ c ∧ c ≤ 126) : iso2022_Get.f (k + 7) 83 2 0 0 0 [c] = some (1, 0, 0, 0, 0, 0, 0, 0, 0) := by
  rw [Get_jp_plain k 2 c [] ⟨by decide, by decide, rfl, rfl, rfl⟩ (by omega) (by omega) (fun w hw => by simp at hw), show k + 6 = (k + 4) + 2 by omega, j1_jp _ _ _ _ (by omega) (by omega)]
  unfold iso2022_japanese.f
  rw [if_pos (by simp), if_neg (by decide), if_pos rfl, show rd [c] 0 = c from rfl, if_pos (by omega), if_pos (by omega)]
  rfl
/-- KR, a byte of ASCII, outside -/
theorem tok_kr1 (k : Nat) (c : Int) (r : List Int) (hc : 0 ≤ c ∧ c < 128) (h : c ≠ 27) (h1 : c ≠ 14) (h2 : c ≠ 15) (hr : isBytes r) : iso2022_Get.f (k + 7) 88 1 0 0 0 (c :: r) = some (0, 1, 1, c, 0, 1, 0, 0, 0) := by
  rw [show k + 7 = (k + 3) + 4 by omega, Get_kr_plain (k + 3) 1 c r ⟨by decide, by decide, rfl, rfl, rfl⟩ hc h hr, show k + 3 + 3 = (k + 4) + 2 by omega, j1_kr _ _ _ _ hc h]
  unfold iso2022_korean.f
  rw [if_pos (show 0 < ((c :: r).length : Int) by simp <;> omega), show rd (c :: r) 0 = c from rfl, if_neg h1, if_neg h2]
  simp only [iso2022_korean.j0, Bool.false_eq_true, if_false]
  rw [if_neg h1, if_neg h2, if_neg (by decide), w32 (x := c) (by omega) (by omega)]
  rfl
/-- KR, the shifts -/
theorem tok_so (k : Nat) (r : List Int) (hr : isBytes r) : iso2022_Get.f (k + 7) 88 1 0 0 0 (14 :: r) = some (0, 1, 0, 0, 0, 2, 0, 0, 0) := by
  rw [show k + 7 = (k + 3) + 4 by omega, Get_kr_plain (k + 3) 1 14 r ⟨by decide, by decide, rfl, rfl, rfl⟩ (by decide) (by decide) hr, show k + 3 + 3 = (k + 4) + 2 by omega, j1_kr _ _ _ _ (by decide) (by decide)]
  unfold iso2022_korean.f
  rw [if_pos (show 0 < ((14 :: r).length : Int) by simp <;> omega), show rd (14 :: r) 0 = 14 from rfl, if_pos rfl, show ((1 : Int) == 0) = false by decide]
  simp only [iso2022_korean.j0, Bool.false_eq_true, if_false]
  rfl
theorem tok_si (k : Nat) (r : List Int) (hr : isBytes r) : iso2022_Get.f (k + 7) 88 2 0 0 0 (15 :: r) = some (0, 1, 0, 0, 0, 1, 0, 0, 0) := by
  rw [show k + 7 = (k + 3) + 4 by omega, Get_kr_plain (k + 3) 2 15 r ⟨by decide, by decide, rfl, rfl, rfl⟩ (by decide) (by decide) hr, show k + 3 + 3 = (k + 4) + 2 by omega, j1_kr _ _ _ _ (by decide) (by decide)]
  unfold iso2022_korean.f
  rw [if_pos (show 0 < ((15 :: r).length : Int) by simp <;> omega), show rd (15 :: r) 0 = 15 from rfl, if_neg (by decide), if_pos rfl, show ((2 : Int) == 0) = false by decide]
  simp only [iso2022_korean.j0, Bool.false_eq_true, if_false]
  rfl
/-- KR, a pair, within -/
theorem tok_kr2 (k : Nat) (c d u : Int) (r : List Int) (hc : 33 ≤ c ∧ c ≤ 126) (hd : 33 ≤ d ∧ d ≤ 126) (hr : isBytes r) (hs : scalarOf (kscRow (c - 32)) (d - 32) = (u, true)) : iso2022_Get.f (k + 7) 88 2 0 0 0 (c :: d :: r) = some (0, 2, 1, u, 0, 2, 0, 0, 0) := by
  rw [show k + 7 = (k + 3) + 4 by omega, Get_kr_plain (k + 3) 2 c (d :: r) ⟨by decide, by decide, rfl, rfl, rfl⟩ (by omega) (by omega) (fun w hw => by
    rcases List.mem_cons.1 hw with rfl | hw
    · omega
    · exact hr w hw), show k + 3 + 3 = (k + 4) + 2 by omega, j1_kr _ _ _ _ (by omega) (by omega)]
  unfold iso2022_korean.f
  rw [if_pos (show 0 < ((c :: d :: r).length : Int) by simp <;> omega), show rd (c :: d :: r) 0 = c from rfl, if_neg (by omega), if_neg (by omega)]
  simp only [iso2022_korean.j0, Bool.false_eq_true, if_false]
  rw [if_neg (by omega), if_neg (by omega), if_pos trivial, if_pos (by omega), if_pos (by omega), pair_ksc (k + 2) 2 c d u r hc hd hs]
  rfl
theorem more_kr2 (k : Nat) (c : Int) (hc : 33 ≤ c ∧ c ≤ 126) : iso2022_Get.f (k + 7) 88 2 0 0 0 [c] = some (1, 0, 0, 0, 0, 0, 0, 0, 0) := by
  rw [show k + 7 = (k + 3) + 4 by omega, Get_kr_plain (k + 3) 2 c [] ⟨by decide, by decide, rfl, rfl, rfl⟩ (by omega) (by omega) (fun w hw => by simp at hw), show k + 3 + 3 = (k + 4) + 2 by omega, j1_kr _ _ _ _ (by omega) (by omega)]
  unfold iso2022_korean.f
  rw [if_pos (by simp), show rd [c] 0 = c from rfl, if_neg (by omega), if_neg (by omega)]
  simp only [iso2022_korean.j0, Bool.false_eq_true, if_false]
  rw [if_neg (by omega), if_neg (by omega), if_pos trivial, if_pos (by omega), if_pos (by omega)]
  rfl
end Go.Proofs.Ytenmanionddamaa.Q
