/- For every kind, state and row b of bytes, iso2022.Get(kind, s, b) equals the reference's, b is left as it was, and both say alike whether they have the kind. No conditions. -/
import Derived.Test.YtenmanionddamaaQdragomanlaw21Iso2022Getsa
import Derived.Test.YtenmanionddamaaLIsog
namespace Go.Proofs.Ytenmanionddamaa.Q
open Go.RowKit Go.Proofs.YtenmanionddamaaW.PrintWords Go.Proofs.YtenmanionddamaaW.PrintLast
set_option linter.unusedVariables false
set_option linter.unusedSimpArgs false
theorem begins_eq (l s : List Int) (hl : isBytes l) (hs : isBytes s) : dragomanref21_begins.f (strOfNums l) (strOfNums s) = some (s.isPrefixOf l) := by
  rw [← prefix_eq l s hl hs]
  unfold dragomanref21_begins.f strings_HasPrefix.f stringslite_HasPrefix.f
  by_cases h1 : ((strOfNums l).size : Int) ≥ ((strOfNums s).size : Int)
  · rw [if_pos h1, if_pos (by omega), if_pos (by omega)]
    rfl
  · rw [if_neg h1]
    rfl
theorem rHas_eq (n : Int) : dragomanref21_Has.f n = some (decide (isoHas n)) := iso_Has_eq n
theorem rFits_eq (n a b c d : Int) (h : isoHas n) : dragomanref21_Fits.f n a b c d = some (decide (isoFit a b c d)) := by
  unfold dragomanref21_Fits.f
  rw [rHas_eq]
  simp only [Option.bind_some]
  rw [decide_eq_true h, if_pos rfl]
  by_cases h1 : a ≥ 0
  · rw [if_pos h1]
    by_cases h2 : a ≤ 2
    · rw [if_pos h2]
      congr 1
      rw [Bool.eq_iff_iff, decide_eq_true_iff]
      simp only [Bool.and_eq_true, beq_iff_eq]
      unfold isoFit
      constructor
      · rintro ⟨x, y, z⟩; exact ⟨h1, h2, x, y, z⟩
      · rintro ⟨_, _, x, y, z⟩; exact ⟨x, y, z⟩
    · rw [if_neg h2, decide_eq_false (fun x => h2 x.2.1)]
  · rw [if_neg h1, decide_eq_false (fun x => h1 x.1)]
theorem pre_lt {s l : List Int} (h : ¬ s.isPrefixOf l = true) (g : l.isPrefixOf s = true) : l.length < s.length := by
  rw [List.isPrefixOf_iff_prefix] at g h
  obtain ⟨t, rfl⟩ := g
  cases t with
  | nil => simp at h
  | cons x t => simp
/-- one round of the reference's search for a sequence -/
theorem rj_round (k : Nat) (l : List Int) (q : List ByteArray) (ms : List Int) (i m : Int) (s : List Int) (md : Int) (hl : isBytes l) (hs : isBytes s) (h0 : 0 ≤ i) (h1 : i < (q.length : Int)) (h2 : i < (ms.length : Int)) (h9 : i < 100) (hq : rdOf ByteArray.empty q i = strOfNums s) (hm : rd ms i = md) :
    dragomanref21_japanese.l0 (k + 1) l q ms i m 0 0 0 = if s.isPrefixOf l = true then some (0, 3, 0, 0, 0, md, 0, 0, 0) else if l.isPrefixOf s = true then some (1, 0, 0, 0, 0, 0, 0, 0, 0) else dragomanref21_japanese.l0 k l q ms (i + 1) m 0 0 0 := by
  simp only [dragomanref21_japanese.l0]
  rw [if_pos h1, if_pos h0, hq, begins_eq l s hl hs, begins_eq s l hs hl, str_size, hm]
  simp only [Option.bind_some]
  rw [show wrap64 (i + 1) = i + 1 by unfold wrap64; omega]
  by_cases p : s.isPrefixOf l = true
  · rw [if_pos p, if_pos p, if_pos h2]
  rw [if_neg p, if_neg p]
  by_cases g : l.isPrefixOf s = true
  · have := pre_lt p g
    rw [if_pos g, if_pos (by omega)]
  · rw [if_neg g]
    split <;> rfl
/-- what follows the search for a sequence of JP -/
def jpSeqs (l : List Int) (e : Option (Int × Int × Int × Int × Int × Int × Int × Int × Int)) : Option (Int × Int × Int × Int × Int × Int × Int × Int × Int) :=
  if [27, 40, 66].isPrefixOf l = true then some (0, 3, 0, 0, 0, 0, 0, 0, 0) else if l.isPrefixOf [27, 40, 66] = true then some (1, 0, 0, 0, 0, 0, 0, 0, 0) else
  if [27, 40, 74].isPrefixOf l = true then some (0, 3, 0, 0, 0, 1, 0, 0, 0) else if l.isPrefixOf [27, 40, 74] = true then some (1, 0, 0, 0, 0, 0, 0, 0, 0) else
  if [27, 36, 64].isPrefixOf l = true then some (0, 3, 0, 0, 0, 2, 0, 0, 0) else if l.isPrefixOf [27, 36, 64] = true then some (1, 0, 0, 0, 0, 0, 0, 0, 0) else
  if [27, 36, 66].isPrefixOf l = true then some (0, 3, 0, 0, 0, 2, 0, 0, 0) else if l.isPrefixOf [27, 36, 66] = true then some (1, 0, 0, 0, 0, 0, 0, 0, 0) else e
theorem rjp_eq (k : Nat) (m c : Int) (r : List Int) (hl : isBytes (c :: r)) : dragomanref21_japanese.f (k + 5) m 0 0 0 (c :: r) = jpSeqs (c :: r) (if c = 27 then dragomanref21_japanese.j1 k (c :: r) c true m 0 0 0 else dragomanref21_japanese.j1 k (c :: r) c (decide (c ≥ 128)) m 0 0 0) := by
  have b : ∀ x y z : Int, 0 ≤ x ∧ x < 256 → 0 ≤ y ∧ y < 256 → 0 ≤ z ∧ z < 256 → isBytes [x, y, z] := fun x y z hx hy hz w hw => by
    simp only [List.mem_cons, List.not_mem_nil, or_false] at hw
    rcases hw with rfl | rfl | rfl <;> assumption
  unfold dragomanref21_japanese.f dragomanref21_sequences.f jpSeqs
  simp only [Option.bind_some]
  rw [rj_round (k + 4) _ _ _ 0 m [27, 40, 66] 0 hl (b _ _ _ (by decide) (by decide) (by decide)) (by decide) (by decide) (by decide) (by decide) rfl rfl]
  rw [rj_round (k + 3) _ _ _ (0 + 1) m [27, 40, 74] 1 hl (b _ _ _ (by decide) (by decide) (by decide)) (by decide) (by decide) (by decide) (by decide) rfl rfl]
  rw [rj_round (k + 2) _ _ _ (0 + 1 + 1) m [27, 36, 64] 2 hl (b _ _ _ (by decide) (by decide) (by decide)) (by decide) (by decide) (by decide) (by decide) rfl rfl]
  rw [rj_round (k + 1) _ _ _ (0 + 1 + 1 + 1) m [27, 36, 66] 2 hl (b _ _ _ (by decide) (by decide) (by decide)) (by decide) (by decide) (by decide) (by decide) rfl rfl]
  simp only [dragomanref21_japanese.l0]
  rw [if_neg (show ¬ (0 + 1 + 1 + 1 + 1 : Int) < _ by decide), if_pos (show 0 < ((c :: r).length : Int) by simp <;> omega), show rd (c :: r) 0 = c from rfl]
/-- a pair of JP, the code's and the reference's -/
theorem pair_jp_both (k j : Nat) (m c : Int) (r : List Int) : ∃ v, iso2022_pairjis.f (k + 1) m 0 0 0 (c :: r) = some v ∧ dragomanref21_pair.f (j + 1) 83 m 0 0 0 (c :: r) = some v := by
  unfold iso2022_pairjis.f dragomanref21_pair.f
  cases r with
  | nil => exact ⟨_, rfl, rfl⟩
  | cons d r =>
    have hl : 1 < ((c :: d :: r).length : Int) := by simp <;> omega
    have hn1 : ¬ ((c :: d :: r).length : Int) = 1 := by omega
    simp only [if_neg hn1, if_pos hl, show rd (c :: d :: r) 1 = d from rfl]
    have hj : ∀ b : Bool, ∃ v, iso2022_pairjis.j0 (k + 1) (c :: d :: r) b m 0 0 0 = some v ∧ dragomanref21_pair.j0 (j + 1) 83 (c :: d :: r) b m 0 0 0 = some v := by
      intro b
      simp only [iso2022_pairjis.j0, dragomanref21_pair.j0]
      cases b with
      | true => exact ⟨_, rfl, rfl⟩
      | false =>
        have h0 : 0 < ((c :: d :: r).length : Int) := by omega
        simp only [Bool.false_eq_true, if_false, if_pos h0, if_pos hl]
        unfold jis_Scalar.f dragomanref14_Scalar.f
        simp only [Option.bind_some]
        rw [if_neg (show ¬ (83 : Int) = 88 by decide)]
        split
        · exact ⟨_, rfl, rfl⟩
        · exact ⟨_, rfl, rfl⟩
    by_cases h : d ≤ 32
    · rw [if_pos h, if_pos (by omega)]; exact hj true
    · rw [if_neg h, if_neg (by omega)]; exact hj _
theorem pair_kr_both (k j : Nat) (m c : Int) (r : List Int) : ∃ v, iso2022_pairksc.f (k + 1) m 0 0 0 (c :: r) = some v ∧ dragomanref21_pair.f (j + 1) 88 m 0 0 0 (c :: r) = some v := by
  unfold iso2022_pairksc.f dragomanref21_pair.f
  cases r with
  | nil => exact ⟨_, rfl, rfl⟩
  | cons d r =>
    have hl : 1 < ((c :: d :: r).length : Int) := by simp <;> omega
    have hn1 : ¬ ((c :: d :: r).length : Int) = 1 := by omega
    simp only [if_neg hn1, if_pos hl, show rd (c :: d :: r) 1 = d from rfl]
    have hj : ∀ b : Bool, ∃ v, iso2022_pairksc.j0 (k + 1) (c :: d :: r) b m 0 0 0 = some v ∧ dragomanref21_pair.j0 (j + 1) 88 (c :: d :: r) b m 0 0 0 = some v := by
      intro b
      simp only [iso2022_pairksc.j0, dragomanref21_pair.j0]
      cases b with
      | true => exact ⟨_, rfl, rfl⟩
      | false =>
        have h0 : 0 < ((c :: d :: r).length : Int) := by omega
        simp only [Bool.false_eq_true, if_false, if_pos h0, if_pos hl]
        unfold ksc_Scalar.f dragomanref14_Scalar.f dragomanref16_Scalar.f
        simp only [Option.bind_some]
        rw [if_pos trivial]
        split
        · exact ⟨_, rfl, rfl⟩
        · exact ⟨_, rfl, rfl⟩
    by_cases h : d ≤ 32
    · rw [if_pos h, if_pos (by omega)]; exact hj true
    · rw [if_neg h, if_neg (by omega)]; exact hj _
/-- what is no sequence, in JP -/
theorem rest_jp (k j : Nat) (m c : Int) (r : List Int) (hf : isoFit m 0 0 0) (hc : 0 ≤ c ∧ c < 256) (h : c ≠ 27) : ∃ v, iso2022_Get.j1 (k + 3) 83 (c :: r) m 0 0 0 = some v ∧ dragomanref21_japanese.j1 (j + 2) (c :: r) c (decide (c ≥ 128)) m 0 0 0 = some v := by
  simp only [iso2022_Get.j1, dragomanref21_japanese.j1]
  have hp : 0 < ((c :: r).length : Int) := by simp <;> omega
  rw [if_pos hp, show rd (c :: r) 0 = c from rfl, if_neg h]
  simp only [iso2022_Get.j2]
  by_cases h8 : c ≥ 128
  · rw [decide_eq_true h8, if_pos rfl, if_pos rfl]; exact ⟨_, rfl, rfl⟩
  rw [decide_eq_false h8, if_neg (by decide), if_neg (by decide), if_neg (by decide)]
  unfold iso2022_japanese.f
  rw [if_pos hp, show rd (c :: r) 0 = c from rfl]
  by_cases m1 : m = 1
  · rw [if_pos m1, if_pos m1]
    unfold jis_Half.f dragomanref14_Half.f
    by_cases e1 : c = 92
    · rw [if_pos e1, if_pos e1]; exact ⟨_, rfl, rfl⟩
    by_cases e2 : c = 126
    · rw [if_neg e1, if_neg e1, if_pos e2, if_pos e2]; exact ⟨_, rfl, rfl⟩
    rw [if_neg e1, if_neg e1, if_neg e2, if_neg e2, if_pos (by omega), if_pos (by omega)]; exact ⟨_, rfl, rfl⟩
  rw [if_neg m1, if_neg m1]
  by_cases m0 : m = 0
  · rw [if_pos m0, if_neg (by omega)]; exact ⟨_, rfl, rfl⟩
  rw [if_neg m0, if_pos (show m = 2 by have := hf.1; have := hf.2.1; omega)]
  by_cases e1 : c ≤ 32
  · rw [if_pos e1, if_neg (by omega)]; exact ⟨_, rfl, rfl⟩
  rw [if_neg e1, if_pos (by omega)]
  by_cases e2 : c = 127
  · rw [if_pos e2, if_neg (by omega)]; exact ⟨_, rfl, rfl⟩
  rw [if_neg e2, if_pos (by omega)]
  obtain ⟨v, p1, p2⟩ := pair_jp_both k j m c r
  have p3 : iso2022_pairjis.f (k + 1) m 0 0 0 (c :: r) = some v := p1
  have p4 : dragomanref21_pair.f (j + 1) 83 m 0 0 0 (c :: r) = some v := p2
  rw [p3, p4]
  exact ⟨_, rfl, rfl⟩
/-- what is no sequence, in KR -/
theorem rest_kr (k j : Nat) (m c : Int) (r : List Int) (hf : isoFit m 0 0 0) (hc : 0 ≤ c ∧ c < 256) (h : c ≠ 27) : ∃ v, iso2022_Get.j1 (k + 4) 88 (c :: r) m 0 0 0 = some v ∧ dragomanref21_korean.j0 (j + 4) (c :: r) false m 0 0 0 = some v := by
  have hp : 0 < ((c :: r).length : Int) := by simp <;> omega
  have hm : m = 0 ∨ m = 1 ∨ m = 2 := by have := hf.1; have := hf.2.1; omega
  simp only [iso2022_Get.j1, dragomanref21_korean.j0]
  rw [if_pos hp, if_pos hp, show rd (c :: r) 0 = c from rfl, if_neg h, if_neg (show ¬ false = true by decide)]
  have hs : (if c = 14 then dragomanref21_korean.j1 (j + 3) (c :: r) c true m 0 0 0 else dragomanref21_korean.j1 (j + 3) (c :: r) c (c == 15) m 0 0 0) = dragomanref21_korean.j1 (j + 3) (c :: r) c (decide (c = 14 ∨ c = 15)) m 0 0 0 := by
    by_cases e : c = 14
    · rw [if_pos e, decide_eq_true (.inl e)]
    · rw [if_neg e, show (c == 15) = decide (c = 14 ∨ c = 15) by rw [Bool.eq_iff_iff, decide_eq_true_iff, beq_iff_eq]; omega]
  rw [hs]
  simp only [iso2022_Get.j2, dragomanref21_korean.j1]
  rw [if_neg h]
  by_cases h8 : c ≥ 128
  · rw [decide_eq_true h8, if_pos rfl, if_pos h8]
    simp only [dragomanref21_korean.j2]
    exact ⟨_, rfl, rfl⟩
  rw [decide_eq_false h8, if_neg (by decide), if_pos trivial, if_neg h8]
  unfold iso2022_korean.f
  rw [if_pos hp, show rd (c :: r) 0 = c from rfl]
  have hi : (if c = 14 then iso2022_korean.j0 (k + 2) (c :: r) c (m == 0) m 0 0 0 else if c = 15 then iso2022_korean.j0 (k + 2) (c :: r) c (m == 0) m 0 0 0 else iso2022_korean.j0 (k + 2) (c :: r) c false m 0 0 0) = iso2022_korean.j0 (k + 2) (c :: r) c (decide ((c = 14 ∨ c = 15) ∧ m = 0)) m 0 0 0 := by
    by_cases e : c = 14 ∨ c = 15
    · have e' : (m == 0) = decide ((c = 14 ∨ c = 15) ∧ m = 0) := by rw [Bool.eq_iff_iff, decide_eq_true_iff, beq_iff_eq]; omega
      rw [← e']
      by_cases e1 : c = 14
      · rw [if_pos e1]
      · rw [if_neg e1, if_pos (by omega)]
    · rw [if_neg (by omega), if_neg (by omega), decide_eq_false (by omega)]
  obtain ⟨q, hq⟩ : ∃ q, q = decide ((c = 14 ∨ c = 15) ∧ m = 0) := ⟨_, rfl⟩
  rw [hi, ← hq]
  obtain ⟨q2, hq2⟩ : ∃ q, q = decide (c = 14 ∨ c = 15) := ⟨_, rfl⟩
  rw [← hq2]
  simp only [iso2022_korean.j0]
  by_cases m0 : m = 0
  · rw [if_pos m0]
    simp only [dragomanref21_korean.j2]
    by_cases e : c = 14 ∨ c = 15
    · obtain rfl : q = true := by rw [hq]; exact decide_eq_true ⟨e, m0⟩
      obtain rfl : q2 = true := by rw [hq2]; exact decide_eq_true e
      exact ⟨_, rfl, rfl⟩
    · obtain rfl : q = false := by rw [hq]; exact decide_eq_false (fun x => e x.1)
      obtain rfl : q2 = false := by rw [hq2]; exact decide_eq_false e
      have e1 : ¬ c = 14 := fun x => e (.inl x)
      have e2 : ¬ c = 15 := fun x => e (.inr x)
      have m2 : ¬ m = 2 := by omega
      simp only [Bool.false_eq_true, if_false, if_neg e1, if_neg e2, if_neg m2, if_pos m0]
      exact ⟨_, rfl, by rw [m0]; rfl⟩
  rw [if_neg m0]
  obtain rfl : q = false := by rw [hq]; exact decide_eq_false (fun x => m0 x.2)
  simp only [dragomanref21_korean.j2, Bool.false_eq_true, if_false, if_neg m0]
  by_cases e1 : c = 14
  · rw [if_pos e1, if_pos e1]; exact ⟨_, rfl, rfl⟩
  rw [if_neg e1, if_neg e1]
  by_cases e2 : c = 15
  · rw [if_pos e2, if_pos e2]; exact ⟨_, rfl, rfl⟩
  rw [if_neg e2, if_neg e2]
  by_cases m1 : m = 1
  · subst m1
    rw [if_neg (by decide), if_pos rfl]; exact ⟨_, rfl, rfl⟩
  have m2 : m = 2 := by omega
  rw [if_neg m1]
  subst m2
  rw [if_pos rfl]
  by_cases e3 : c ≤ 32
  · rw [if_pos e3, if_neg (by omega)]; exact ⟨_, rfl, rfl⟩
  rw [if_neg e3, if_pos (by omega)]
  by_cases e4 : c = 127
  · rw [if_pos e4, if_neg (by omega)]; exact ⟨_, rfl, rfl⟩
  rw [if_neg e4, if_pos (by omega)]
  obtain ⟨v, p1, p2⟩ := pair_kr_both k j 2 c r
  rw [p1, p2]
  exact ⟨_, rfl, rfl⟩
theorem Get_both_jp (k : Nat) (m : Int) (l : List Int) (hf : isoFit m 0 0 0) (hl : isBytes l) : ∃ v, iso2022_Get.f (k + 10) 83 m 0 0 0 l = some v ∧ dragomanref21_Get.f (k + 10) 83 m 0 0 0 l = some v := by
  unfold dragomanref21_Get.f
  rw [rHas_eq, decide_eq_true (show isoHas 83 from .inl rfl)]
  simp only [Option.bind_some]
  rw [if_pos trivial, rFits_eq _ _ _ _ _ (.inl rfl), decide_eq_true hf]
  simp only [Option.bind_some]
  rw [if_pos trivial]
  cases l with
  | nil =>
    refine ⟨_, ?_, rfl⟩
    unfold iso2022_Get.f
    rw [iso_look_eq, isoLook_fit (.inl rfl) hf]
    simp only [Option.bind_some, if_true]
    rw [seq_jp]
    simp only [Option.bind_some, iso2022_Get.l0]
    rw [if_pos (by decide), if_pos (by decide), if_pos (by decide), show (rd_T79 jpSeq 0).f0 = strOfNums [27, 40, 66] from rfl, prefix_eq [] _ hl (by intro x hx; simp at hx; omega), prefix_eq _ [] (by intro x hx; simp at hx; omega) hl]
    rfl
  | cons c r =>
    obtain ⟨hc, hr⟩ := isBytes_cons hl
    rw [if_neg (show ¬ (((c :: r).length : Nat) : Int) = 0 by simp <;> omega), if_pos trivial]
    rw [show k + 10 = (k + 3) + 7 by omega, Get_jp (k + 3) m (c :: r) hf hl (by simp), show k + 3 + 7 = (k + 5) + 5 by omega, rjp_eq (k + 5) m c r hl, show rd (c :: r) 0 = c from rfl]
    by_cases h : c = 27
    · rw [if_pos h, if_pos h]
      have e : dragomanref21_japanese.j1 (k + 5) (c :: r) c true m 0 0 0 = some (10, 1, 0, 0, 0, m, 0, 0, 0) := by
        simp only [dragomanref21_japanese.j1, if_true]
      rw [e]
      obtain ⟨v, hv⟩ : ∃ v, jpSeqs (c :: r) (some (10, 1, 0, 0, 0, m, 0, 0, 0)) = some v := by
        unfold jpSeqs
        repeat' split
        all_goals exact ⟨_, rfl⟩
      change ∃ v, jpSeqs (c :: r) (some (10, 1, 0, 0, 0, m, 0, 0, 0)) = some v ∧ _
      rw [hv]
      exact ⟨v, rfl, rfl⟩
    · rw [if_neg h, if_neg h]
      have h' : ¬ 27 = c := fun e => h e.symm
      have hno : ∀ e, jpSeqs (c :: r) e = e := fun e => by
        unfold jpSeqs
        simp [List.isPrefixOf, h, h']
      rw [hno]
      obtain ⟨v, v1, v2⟩ := rest_jp (k + 6) (k + 3) m c r hf hc h
      have v3 : iso2022_Get.j1 (k + 3 + 6) 83 (c :: r) m 0 0 0 = some v := v1
      have v4 : dragomanref21_japanese.j1 (k + 5) (c :: r) c (decide (c ≥ 128)) m 0 0 0 = some v := v2
      rw [v3, v4]
      refine ⟨v, ?_, rfl⟩
      simp [List.isPrefixOf, h, h']
theorem Get_both_kr (k : Nat) (m : Int) (l : List Int) (hf : isoFit m 0 0 0) (hl : isBytes l) : ∃ v, iso2022_Get.f (k + 10) 88 m 0 0 0 l = some v ∧ dragomanref21_Get.f (k + 10) 88 m 0 0 0 l = some v := by
  unfold dragomanref21_Get.f
  rw [rHas_eq, decide_eq_true (show isoHas 88 from .inr rfl)]
  simp only [Option.bind_some]
  rw [if_pos trivial, rFits_eq _ _ _ _ _ (.inr rfl), decide_eq_true hf]
  simp only [Option.bind_some]
  rw [if_pos trivial]
  have hs : isBytes [27, 36, 41, 67] := fun w hw => by
    simp only [List.mem_cons, List.not_mem_nil, or_false] at hw
    rcases hw with rfl | rfl | rfl | rfl <;> decide
  cases l with
  | nil =>
    refine ⟨_, ?_, rfl⟩
    unfold iso2022_Get.f
    rw [iso_look_eq, isoLook_fit (.inr rfl) hf]
    simp only [Option.bind_some, if_true]
    rw [seq_kr]
    simp only [Option.bind_some, iso2022_Get.l0]
    rw [if_pos (by simp), if_pos (by decide), if_pos (by simp), show (rd_T79 [(⟨strOfNums [27, 36, 41, 67], mx m 1⟩ : S79)] 0).f0 = strOfNums [27, 36, 41, 67] from rfl, prefix_eq [] _ hl hs, prefix_eq _ [] hs hl]
    rfl
  | cons c r =>
    obtain ⟨hc, hr⟩ := isBytes_cons hl
    have hp : 0 < ((c :: r).length : Int) := by simp <;> omega
    rw [if_neg (show ¬ (((c :: r).length : Nat) : Int) = 0 by omega), if_neg (show ¬ (88 : Int) = 83 by decide)]
    rw [show k + 10 = (k + 6) + 4 by omega, Get_kr (k + 6) m (c :: r) hf hl (by simp), show rd (c :: r) 0 = c from rfl]
    unfold dragomanref21_korean.f
    rw [show (⟨#[27, 36, 41, 67]⟩ : ByteArray) = strOfNums [27, 36, 41, 67] from rfl, begins_eq _ _ hl hs, begins_eq _ _ hs hl]
    simp only [Option.bind_some]
    by_cases p : [27, 36, 41, 67].isPrefixOf (c :: r) = true
    · rw [if_pos p, if_pos p]
      refine ⟨_, rfl, ?_⟩
      have hm : m = 0 ∨ m = 1 ∨ m = 2 := by have := hf.1; have := hf.2.1; omega
      rcases hm with rfl | rfl | rfl <;> rfl
    rw [if_neg p, if_neg p]
    by_cases q : (c :: r).isPrefixOf [27, 36, 41, 67] = true
    · have := pre_lt p q
      rw [if_pos q, if_pos (show (((c :: r).length : Nat) : Int) < 4 by simp only [List.length_cons, List.length_nil] at this ⊢; omega), q]
      simp only [dragomanref21_korean.j0, if_true]
      exact ⟨_, rfl, rfl⟩
    rw [if_neg q, show (c :: r).isPrefixOf [27, 36, 41, 67] = false from Bool.eq_false_iff.mpr q]
    rw [show (if ((c :: r).length : Int) < 4 then dragomanref21_korean.j0 (k + 6 + 4) (c :: r) false m 0 0 0 else dragomanref21_korean.j0 (k + 6 + 4) (c :: r) false m 0 0 0) = dragomanref21_korean.j0 (k + 6 + 4) (c :: r) false m 0 0 0 from ite_self _]
    by_cases h : c = 27
    · rw [if_pos h]
      refine ⟨_, rfl, ?_⟩
      subst h
      simp only [dragomanref21_korean.j0]
      rw [if_neg (by decide), if_pos hp, show rd (27 :: r) 0 = 27 from rfl, if_neg (by decide)]
      simp only [dragomanref21_korean.j1, if_true, dragomanref21_korean.j2]
      rfl
    · rw [if_neg h]
      obtain ⟨v, v1, v2⟩ := rest_kr (k + 5) (k + 6) m c r hf hc h
      have v3 : iso2022_Get.j1 (k + 6 + 3) 88 (c :: r) m 0 0 0 = some v := v1
      rw [v3, v2]
      exact ⟨_, rfl, rfl⟩
theorem Get_both (k : Nat) (n a b c d : Int) (l : List Int) (hl : isBytes l) : ∃ v, iso2022_Get.f (k + 10) n a b c d l = some v ∧ dragomanref21_Get.f (k + 10) n a b c d l = some v := by
  by_cases hn : isoHas n
  · by_cases hf : isoFit a b c d
    · obtain ⟨h0, h2, rfl, rfl, rfl⟩ := hf
      rcases hn with rfl | rfl
      · exact Get_both_jp k a l ⟨h0, h2, rfl, rfl, rfl⟩ hl
      · exact Get_both_kr k a l ⟨h0, h2, rfl, rfl, rfl⟩ hl
    · refine ⟨(7, 0, 0, 0, 0, 0, 0, 0, 0), ?_, ?_⟩
      · unfold iso2022_Get.f
        rw [iso_look_eq]
        unfold isoLook
        rw [if_pos hn, if_neg hf]
        rfl
      · unfold dragomanref21_Get.f
        rw [rHas_eq, decide_eq_true hn]
        simp only [Option.bind_some]
        rw [if_pos trivial, rFits_eq _ _ _ _ _ hn, decide_eq_false hf]
        rfl
  · refine ⟨(5, 0, 0, 0, 0, 0, 0, 0, 0), ?_, ?_⟩
    · unfold iso2022_Get.f
      rw [iso_look_eq]
      unfold isoLook
      rw [if_neg hn]
      rfl
    · unfold dragomanref21_Get.f
      rw [rHas_eq, decide_eq_false hn]
      rfl
end Go.Proofs.Ytenmanionddamaa.Q
namespace Go.Proofs.Ytenmanionddamaa.Pure
open Go.RowKit Go.Proofs.Ytenmanionddamaa.Q Go.Proofs.YtenmanionddamaaW.PrintWords Go.Proofs.YtenmanionddamaaW.PrintLast
theorem Iso2022Gets : ∀ (a0 : Int) (a1_0 : Int) (a1_1 : Int) (a1_2 : Int) (a1_3 : Int) (l2 : List Int), (Lit.int .i64 a0).wf = true → (Lit.int .i64 a1_0).wf = true → (Lit.int .i64 a1_1).wf = true → (Lit.int .u32 a1_2).wf = true → (Lit.int .i32 a1_3).wf = true → l2.length ≤ maxLen → l2.length * 1 ≤ 140737488351232 → (∀ x ∈ l2, (Lit.int .u8 x).wf = true) → ∃ k, dragomanlaw21_Iso2022Gets.f k a0 a1_0 a1_1 a1_2 a1_3 l2 = some true := by
  intro n a b c d l _ _ _ _ _ hl hm hw
  refine ⟨0 + 10, ?_⟩
  have hb : isBytes l := fun x hx => by
    have := Go.bounds_u8 (hw x hx)
    omega
  obtain ⟨v, v1, v2⟩ := Get_both 0 n a b c d l hb
  unfold dragomanlaw21_Iso2022Gets.f
  simp only [Option.bind_some, List.nil_append, List.length_nil]
  rw [if_pos (by omega), v1, v2, iso_Has_eq, rHas_eq]
  simp
end Go.Proofs.Ytenmanionddamaa.Pure
