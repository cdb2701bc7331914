/- For every row number and every lead byte, all 94 cells of the row are folded and unfolded again, and each lead with each trail is some row and cell. No conditions. -/
import Derived.Test.YtenmanionddamaaQdragomanlaw18SjisAlla
import Derived.Test.YtenmanionddamaaLSjisd
namespace Go.Proofs.Ytenmanionddamaa.Pure
open Go.RowKit Go.Proofs.Ytenmanionddamaa.Q Go.Proofs.YtenmanionddamaaW.PrintWords Go.Proofs.YtenmanionddamaaW.PrintLast
theorem all_l1 (a : Int) (a0 : 0 ≤ a) (a1 : a < 256) (lead : Bool) (hl : lead = decide (129 ≤ a ∧ a ≤ 159 ∨ 224 ≤ a ∧ a ≤ 239)) (d : Nat) : ∀ (k : Nat) (i : Int), 0 ≤ i → i ≤ 256 → 256 - i = d → 3 * d + 2 < k → dragomanlaw18_SjisAll.l1 k a lead i = some true := by
  induction d with
  | zero =>
    intro k i h0 h1 hd hk
    obtain ⟨k, rfl⟩ : ∃ m, k = m + 1 := ⟨k - 1, by omega⟩
    simp only [dragomanlaw18_SjisAll.l1]
    rw [if_neg (show ¬ i < 256 by omega)]
  | succ d ih =>
    intro k i h0 h1 hd hk
    obtain ⟨k, rfl⟩ : ∃ m, k = m + 5 := ⟨k - 5, by omega⟩
    have hi : i % 256 = i := by omega
    have j4 : ∀ (R C : Int) (ok : Bool), unpOf a i = (R, C, ok) → dragomanlaw18_SjisAll.j4 (k + 3) a lead i i R C ok false = some true := by
      intro R C ok he
      simp only [dragomanlaw18_SjisAll.j4, Bool.false_eq_true, if_false]
      rw [w64 (x := i + 1) (by omega) (by omega), ih (k + 2) (i + 1) (by omega) (by omega) (by omega) (by omega)]
      cases ok with
      | false => simp
      | true =>
        rw [if_pos rfl, sjis_Pack_eq, (unp_pack R C a i he).2.2.2.2]
        simp
    have j3 : ∀ t, t = decide (64 ≤ i ∧ i ≤ 252 ∧ i ≠ 127) → dragomanlaw18_SjisAll.j3 (k + 4) a lead i i t = some true := by
      intro t ht
      simp only [dragomanlaw18_SjisAll.j3]
      rw [sjis_Unpack_eq (k + 1) a i a0 a1 h0 (by omega)]
      simp only [Option.bind_some]
      obtain ⟨R, C, ok, he⟩ : ∃ R C ok, unpOf a i = (R, C, ok) := ⟨_, _, _, rfl⟩
      have hok : ok = (lead && t) := by
        unfold unpOf at he
        rw [hl, ht]
        split at he
        case isTrue h => cases he; rw [decide_eq_true h.1, decide_eq_true h.2]; rfl
        case isFalse h =>
          cases he
          by_cases h' : (129 ≤ a ∧ a ≤ 159 ∨ 224 ≤ a ∧ a ≤ 239)
          · rw [decide_eq_true h', decide_eq_false (fun h2 => h ⟨h', h2⟩)]; rfl
          · rw [decide_eq_false h']; rfl
      rw [he]
      dsimp only
      cases lead with
      | true =>
        rw [if_pos rfl, show (ok != t) = false by rw [hok]; simp]
        exact j4 R C ok he
      | false =>
        rw [if_neg (by decide), show (ok != false) = false by rw [hok]; rfl]
        exact j4 R C ok he
    simp only [dragomanlaw18_SjisAll.l1]
    rw [if_pos (show i < 256 by omega), hi]
    by_cases c1 : i ≥ 64
    · rw [if_pos c1]
      by_cases c2 : i ≤ 252
      · rw [if_pos c2]
        refine j3 _ ?_
        by_cases c3 : i = 127
        · subst c3; rfl
        · rw [decide_eq_true (show 64 ≤ i ∧ i ≤ 252 ∧ i ≠ 127 from ⟨c1, c2, c3⟩)]; simpa using c3
      · rw [if_neg c2]; exact j3 _ (decide_eq_false (by omega)).symm
    · rw [if_neg c1]; exact j3 _ (decide_eq_false (by omega)).symm
theorem all_l0 (r a : Int) (r1 : 1 ≤ r) (r2 : r ≤ 94) (a0 : 0 ≤ a) (a1 : a < 256) (d : Nat) : ∀ (k : Nat) (c : Int), 1 ≤ c → c ≤ 95 → 95 - c = d → 800 + d < k → dragomanlaw18_SjisAll.l0 k r a c = some true := by
  induction d with
  | zero =>
    intro k c h0 h1 hd hk
    obtain ⟨k, rfl⟩ : ∃ m, k = m + 2 := ⟨k - 2, by omega⟩
    simp only [dragomanlaw18_SjisAll.l0]
    rw [if_neg (show ¬ c ≤ 94 by omega)]
    have j1 : ∀ t, t = decide (129 ≤ a ∧ a ≤ 159 ∨ 224 ≤ a ∧ a ≤ 239) → dragomanlaw18_SjisAll.j1 (k + 1) a t = some true := by
      intro t ht
      simp only [dragomanlaw18_SjisAll.j1]
      exact all_l1 a a0 a1 t ht 256 k 0 (by omega) (by omega) (by omega) (by omega)
    by_cases c1 : a ≥ 129
    · rw [if_pos c1]
      by_cases c2 : a ≤ 159
      · rw [if_pos c2]; exact j1 _ (decide_eq_true (by omega)).symm
      · rw [if_neg c2]
        by_cases c3 : a ≥ 224
        · rw [if_pos c3]; exact j1 _ (by rw [decide_eq_decide]; omega)
        · rw [if_neg c3]; exact j1 _ (decide_eq_false (by omega)).symm
    · rw [if_neg c1, if_neg (show ¬ a ≥ 224 by omega)]; exact j1 _ (decide_eq_false (by omega)).symm
  | succ d ih =>
    intro k c h0 h1 hd hk
    obtain ⟨k, rfl⟩ : ∃ m, k = m + 1 := ⟨k - 1, by omega⟩
    have hp := packOf_in r c (by omega) (by omega) (by omega) (by omega)
    have ho : (packOf r c).2.2 = true := by rw [hp]
    have hu : unpOf (packOf r c).1 (packOf r c).2.1 = (r, c, true) := pack_unp r c _ _ r1 r2 h0 (by omega) (Prod.ext rfl (Prod.ext rfl ho))
    have hb : 0 ≤ (packOf r c).1 ∧ (packOf r c).1 < 256 ∧ 0 ≤ (packOf r c).2.1 ∧ (packOf r c).2.1 < 256 := by
      rw [hp]; dsimp only; refine ⟨?_, ?_, ?_, ?_⟩ <;> (repeat' split) <;> omega
    simp only [dragomanlaw18_SjisAll.l0]
    obtain ⟨k, rfl⟩ : ∃ m, k = m + 2 := ⟨k - 2, by omega⟩
    rw [if_pos (show c ≤ 94 by omega), sjis_Pack_eq]
    simp only [Option.bind_some]
    rw [sjis_Unpack_eq _ _ _ hb.1 hb.2.1 hb.2.2.1 hb.2.2.2, hu]
    simp only [Option.bind_some]
    simp only [ho, if_true]
    rw [w64 (x := c + 1) (by omega) (by omega)]
    exact ih (k + 2) (c + 1) (by omega) (by omega) (by omega) (by omega)
theorem SjisAll : dragomanlaw18_SjisAll.Pure := by
  intro r a hr ha
  obtain ⟨a0, a1⟩ := Go.bounds_u8 ha
  refine ⟨1000 + 2, ?_⟩
  unfold dragomanlaw18_SjisAll.f
  rw [works18]
  simp only [Option.bind_some, if_true]
  have hw : 0 ≤ IntKind.u64.wrap r := by unfold IntKind.wrap; simp [IntKind.bits, IntKind.signed]; omega
  have hm : Int.tmod (IntKind.u64.wrap r) 94 = IntKind.u64.wrap r % 94 := Int.tmod_eq_emod_of_nonneg hw
  rw [hm, w64 (x := IntKind.u64.wrap r % 94) (by omega) (by omega), w64 (x := 1 + IntKind.u64.wrap r % 94) (by omega) (by omega)]
  exact all_l0 _ a (by omega) (by omega) a0 (by omega) 94 _ 1 (by omega) (by omega) (by omega) (by omega)
end Go.Proofs.Ytenmanionddamaa.Pure
