/- For each of the three kinds and each row, each of the 94 pairs stands for the scalar of its row and cell, or is illegal as a pair. No conditions. -/
import Derived.Test.YtenmanionddamaaQdragomanlaw17EucPairsa
import Derived.Test.YtenmanionddamaaLEuc
namespace Go.Proofs.Ytenmanionddamaa.Pure
open Go.RowKit Go.Proofs.Ytenmanionddamaa.Q Go.Proofs.YtenmanionddamaaW.PrintWords Go.Proofs.YtenmanionddamaaW.PrintLast
set_option linter.unusedVariables false
set_option linter.unusedSimpArgs false
/-- the rows of a kind -/
def eucRow (n : Int) : Int → List Int := if n = 81 then jisRow else if n = 84 then gbRow else kscRow
theorem get_pair (n : Int) (hn : n = 81 ∨ n = 84 ∨ n = 86) (k : Nat) (c d : Int) (hc : 161 ≤ c ∧ c ≤ 254) (hd : 161 ≤ d ∧ d ≤ 254) : euc_Get.f (k + 2) n [c, d] = some (if (scalarOf (eucRow n (c - 160)) (d - 160)).2 = true then (0, 2, 1, (scalarOf (eucRow n (c - 160)) (d - 160)).1, 0, 0, 0, 0, 0) else (10, 2, 0, 0, 0, 0, 0, 0, 0)) := by
  rcases hn with rfl | rfl | rfl
  · exact getjis_pair k c d [] hc hd
  · exact getgb_pair k c d [] hc hd
  · exact getksc_pair k c d [] hc hd
theorem ref_scalar (n : Int) (hn : n = 81 ∨ n = 84 ∨ n = 86) (r c : Int) : dragomanref17_Scalar.f n r c = some (scalarOf (eucRow n r) c) := by
  rcases hn with rfl | rfl | rfl <;> rfl
theorem pairs_step (K : Nat) (r n c : Int) : dragomanlaw17_EucPairs.l0 (K + 1) r n c = if c ≤ 94 then ((euc_Get.f K n (([(wrap64 (r + 160)) % 256, (wrap64 (c + 160)) % 256] : List Int))).bind fun bt266 => ((dragomanref17_Scalar.f n r c).bind fun bt276 => (if bt276.2 = true then (if (!(bt266.1 == 0) || (!(bt266.2.1 == 2) || (!(bt266.2.2.1 == 1) || (!(bt266.2.2.2.1 == bt276.1) || (!(bt266.2.2.2.2.1 == 0) || ((!(bt266.2.2.2.2.2.1 == 0) || (!(bt266.2.2.2.2.2.2.1 == 0) || (!(bt266.2.2.2.2.2.2.2.1 == 0) || (!(bt266.2.2.2.2.2.2.2.2 == 0))))))))))) = true then (some false) else (dragomanlaw17_EucPairs.l0 K r n (wrap64 (c + 1)))) else (if (!(bt266.1 == 10) || (!(bt266.2.1 == 2) || (!(bt266.2.2.1 == 0) || (!(bt266.2.2.2.1 == 0) || (!(bt266.2.2.2.2.1 == 0) || ((!(bt266.2.2.2.2.2.1 == 0) || (!(bt266.2.2.2.2.2.2.1 == 0) || (!(bt266.2.2.2.2.2.2.2.1 == 0) || (!(bt266.2.2.2.2.2.2.2.2 == 0))))))))))) = true then (some false) else (dragomanlaw17_EucPairs.l0 K r n (wrap64 (c + 1))))))) else (some true) := by
  simp only [dragomanlaw17_EucPairs.l0]
theorem pairs_l0 (n r : Int) (hn : n = 81 ∨ n = 84 ∨ n = 86) (hr : 1 ≤ r ∧ r ≤ 94) (d : Nat) : ∀ (k : Nat) (c : Int), 1 ≤ c → 95 - c = d → dragomanlaw17_EucPairs.l0 (k + d + 3) r n c = some true := by
  induction d with
  | zero =>
    intro k c h1 hd
    rw [show k + 0 + 3 = (k + 2) + 1 by omega, pairs_step, if_neg (by omega)]
  | succ d ih =>
    intro k c h1 hd
    rw [show k + (d + 1) + 3 = (k + d + 1 + 2) + 1 by omega, pairs_step, if_pos (by omega)]
    rw [w64 (x := r + 160) (by omega) (by omega), w64 (x := c + 160) (by omega) (by omega), show (r + 160) % 256 = r + 160 by omega, show (c + 160) % 256 = c + 160 by omega, w64 (x := c + 1) (by omega) (by omega)]
    rw [get_pair n hn (k + d + 1) (r + 160) (c + 160) (by omega) (by omega), ref_scalar n hn, Int.add_sub_cancel, Int.add_sub_cancel]
    simp only [Option.bind_some]
    have hnext := ih k (c + 1) (by omega) (by omega)
    rw [show k + d + 1 + 2 = k + d + 3 by omega]
    by_cases p : (scalarOf (eucRow n r) c).2 = true
    · rw [if_pos p, if_pos p]
      rw [if_neg (by simp)]
      exact hnext
    · rw [if_neg p, if_neg p]
      rw [if_neg (by simp)]
      exact hnext
theorem kind_of (a0 : Int) : ∃ n, (n = 81 ∨ n = 84 ∨ n = 86) ∧ 0 ≤ wrap64 (Int.tmod (IntKind.u64.wrap a0) 3) ∧ wrap64 (Int.tmod (IntKind.u64.wrap a0) 3) < (([81, 84, 86] : List Int).length : Int) ∧ rd [81, 84, 86] (wrap64 (Int.tmod (IntKind.u64.wrap a0) 3)) = n := by
  have hw : 0 ≤ IntKind.u64.wrap a0 := by unfold IntKind.wrap; simp [IntKind.bits, IntKind.signed]; omega
  rw [Int.tmod_eq_emod_of_nonneg hw]
  have h0 := Int.emod_nonneg (IntKind.u64.wrap a0) (show (3 : Int) ≠ 0 by decide)
  have h1 := Int.emod_lt_of_pos (IntKind.u64.wrap a0) (show (0 : Int) < 3 by decide)
  generalize IntKind.u64.wrap a0 % 3 = v at h0 h1
  rw [w64 (x := v) (by omega) (by omega)]
  have : v = 0 ∨ v = 1 ∨ v = 2 := by omega
  rcases this with rfl | rfl | rfl
  · exact ⟨81, .inl rfl, by decide, by decide, rfl⟩
  · exact ⟨84, .inr (.inl rfl), by decide, by decide, rfl⟩
  · exact ⟨86, .inr (.inr rfl), by decide, by decide, rfl⟩
theorem row_of (a1 : Int) : 1 ≤ wrap64 (1 + wrap64 (Int.tmod (IntKind.u64.wrap a1) 94)) ∧ wrap64 (1 + wrap64 (Int.tmod (IntKind.u64.wrap a1) 94)) ≤ 94 := by
  have hw : 0 ≤ IntKind.u64.wrap a1 := by unfold IntKind.wrap; simp [IntKind.bits, IntKind.signed]; omega
  rw [Int.tmod_eq_emod_of_nonneg hw]
  have h0 := Int.emod_nonneg (IntKind.u64.wrap a1) (show (94 : Int) ≠ 0 by decide)
  have h1 := Int.emod_lt_of_pos (IntKind.u64.wrap a1) (show (0 : Int) < 94 by decide)
  generalize IntKind.u64.wrap a1 % 94 = v at h0 h1
  rw [w64 (x := v) (by omega) (by omega), w64 (x := 1 + v) (by omega) (by omega)]
  omega
theorem EucPairs : dragomanlaw17_EucPairs.Pure := by
  intro a0 a1 _ _
  refine ⟨5 + 94 + 3, ?_⟩
  unfold dragomanlaw17_EucPairs.f
  rw [show 5 + 94 + 3 = 100 + 2 from rfl, works17]
  simp only [Option.bind_some, if_true]
  obtain ⟨n, hn, h0, h1, e⟩ := kind_of a0
  obtain ⟨r0, r1⟩ := row_of a1
  rw [if_pos h0, if_pos h1, e]
  exact pairs_l0 n _ hn ⟨r0, r1⟩ 94 5 1 (by decide) (by decide)
end Go.Proofs.Ytenmanionddamaa.Pure
