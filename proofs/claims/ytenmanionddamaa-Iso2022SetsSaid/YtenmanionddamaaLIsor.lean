/- Plain laws of the reference of iso2022: End and Set in closed form. Conditions: each theorem states its own. -/
import Derived.Test.YtenmanionddamaaLIso
import Derived.Test.YtenmanionddamaaQdragomanref21b
namespace Go.Proofs.Ytenmanionddamaa.Q
open Go.RowKit Go.Proofs.YtenmanionddamaaW.PrintWords Go.Proofs.YtenmanionddamaaW.PrintLast
set_option linter.unusedVariables false
set_option linter.unusedSimpArgs false
theorem ref21_Has_eq (n : Int) : dragomanref21_Has.f n = some (decide (isoHas n)) := iso_Has_eq n
theorem ref21_Fits_eq (n a b c d : Int) (h : isoHas n) : dragomanref21_Fits.f n a b c d = some (decide (isoFit a b c d)) := by
  unfold dragomanref21_Fits.f
  rw [ref21_Has_eq]
  simp only [Option.bind_some]
  rw [decide_eq_true h, if_pos rfl]
  by_cases h1 : a ≥ 0
  · rw [if_pos h1]
    by_cases h2 : a ≤ 2
    · rw [if_pos h2]
      congr 1
      rw [Bool.eq_iff_iff, decide_eq_true_iff]
      simp only [Bool.and_eq_true, beq_iff_eq]
      unfold isoFit
      constructor
      · rintro ⟨x, y, z⟩; exact ⟨h1, h2, x, y, z⟩
      · rintro ⟨_, _, x, y, z⟩; exact ⟨x, y, z⟩
    · rw [if_neg h2, decide_eq_false (fun x => h2 x.2.1)]
  · rw [if_neg h1, decide_eq_false (fun x => h1 x.1)]
theorem ref21_End_eq (k : Nat) (n a b c d : Int) : dragomanref21_End.f (k + 1) n a b c d = some (if isoLook n a b c d = 0 then isoEnd n a else (⟨#[]⟩, 0, 0, 0, 0, isoLook n a b c d)) := by
  unfold dragomanref21_End.f isoLook
  rw [ref21_Has_eq]
  simp only [Option.bind_some]
  by_cases hn : isoHas n
  · rw [decide_eq_true hn, if_pos rfl, if_pos hn, ref21_Fits_eq _ _ _ _ _ hn]
    simp only [Option.bind_some]
    by_cases hf : isoFit a b c d
    · rw [decide_eq_true hf, if_pos rfl, if_pos hf, if_pos rfl]
      obtain ⟨h0, h2, rfl, rfl, rfl⟩ := hf
      unfold isoEnd
      rcases hn with rfl | rfl
      · rw [if_pos rfl]
        simp only [dragomanref21_End.j0]
        by_cases ha : a = 0
        · subst ha; rfl
        · rw [show (a != 0) = true by simpa using ha, if_pos rfl, if_pos ⟨trivial, ha⟩]
      · rw [if_neg (by decide)]
        simp only [dragomanref21_End.j0, Bool.false_eq_true, if_false, if_true]
        rw [if_neg (show ¬ ((88 : Int) = 83 ∧ a ≠ 0) from fun x => absurd x.1 (by decide))]
        by_cases ha : a = 2
        · rw [if_pos ha, if_pos ⟨trivial, ha⟩]
        · rw [if_neg ha, if_neg (fun x => ha x.2)]
    · rw [decide_eq_false hf, if_neg (by decide), if_neg hf, if_neg (by decide)]
  · rw [decide_eq_false hn, if_neg (by decide), if_neg hn, if_neg (by decide)]
theorem ref21_led_eq (a b c d m : Int) (s t : ByteArray) (h : s.size + t.size ≤ 9223372036854775807) : dragomanref21_led.f a b c d m s t = some (0, isoLed a m s t, m, 0, 0, 0) := by
  unfold dragomanref21_led.f isoLed
  by_cases e : a = m
  · rw [if_pos e, if_pos e, empty_app]
  · rw [if_neg e, if_neg e, if_pos h]
theorem ref21_two_eq (r c : Int) : dragomanref21_two.f r c = some (isoCell r c) := by
  unfold dragomanref21_two.f isoCell
  rw [Int.add_comm r, Int.add_comm c]
theorem ref21_kor_eq (k : Nat) (u a b c d : Int) (h14 : ¬ (u = 14 ∨ u = 15)) : dragomanref21_setKorean.f (k + 3) a b c d u = some (isoKor a u) := by
  unfold dragomanref21_setKorean.f isoKor
  rw [if_neg h14]
  simp only [dragomanref16_Place.f, Option.bind_some]
  have h2 : ∀ (x9 : ByteArray) (a' : Int), x9.size ≤ 4 → (0 ≤ u ∧ u < 128 ∨ (placeOf kscRow u).2.2 = true) → dragomanref21_setKorean.j2 (k + 1) u (placeOf kscRow u).1 (placeOf kscRow u).2.1 (decide (0 ≤ u ∧ u < 128)) x9 a' b c d = some ((isoKr a' u).1, x9 ++ (isoKr a' u).2.1, (isoKr a' u).2.2) ∧ (isoKr a' u).1 = 0 := by
    intro x9 a' h9 hor
    simp only [dragomanref21_setKorean.j2]
    have hs := isoCell_size (placeOf kscRow u).1 (placeOf kscRow u).2.1
    rw [ref21_two_eq]
    simp only [Option.bind_some]
    rw [ref21_led_eq _ _ _ _ _ _ _ (by rw [hs]; decide)]
    simp only [Option.bind_some]
    have h1 := isoLed_size a' 2 ⟨#[14]⟩ (isoCell (placeOf kscRow u).1 (placeOf kscRow u).2.1)
    rw [hs, show (⟨#[14]⟩ : ByteArray).size = 1 from rfl] at h1
    unfold isoKr
    by_cases h : 0 ≤ u ∧ u < 128
    · rw [decide_eq_true h, if_pos rfl, if_pos h, show u % 256 = u by omega]
      have hs1 : (strOfNums [u]).size = 1 := str_size _
      rw [ref21_led_eq _ _ _ _ _ _ _ (by rw [hs1]; decide)]
      simp only [Option.bind_some]
      have h2 := isoLed_size a' 1 ⟨#[15]⟩ (strOfNums [u])
      rw [hs1, show (⟨#[15]⟩ : ByteArray).size = 1 from rfl] at h2
      rw [if_pos (by omega)]
      exact ⟨rfl, trivial⟩
    · rw [decide_eq_false h, if_neg (by decide), if_neg h, if_pos (by omega), if_pos (hor.resolve_left h)]
      exact ⟨rfl, rfl⟩
  have hj : dragomanref21_setKorean.j0 (k + 3) u (placeOf kscRow u).1 (placeOf kscRow u).2.1 (placeOf kscRow u).2.2 (decide (0 ≤ u ∧ u < 128)) a b c d = some (if (isoKr (if a = 0 then 1 else a) u).1 = 0 then ((isoKr (if a = 0 then 1 else a) u).1, (if a = 0 then ⟨#[27, 36, 41, 67]⟩ else ⟨#[]⟩) ++ (isoKr (if a = 0 then 1 else a) u).2.1, (isoKr (if a = 0 then 1 else a) u).2.2) else (11, ⟨#[]⟩, 0, 0, 0, 0)) := by
    have h1 : ∀ q : Bool, q = (!decide (0 ≤ u ∧ u < 128) && !(placeOf kscRow u).2.2) → dragomanref21_setKorean.j1 (k + 2) u (placeOf kscRow u).1 (placeOf kscRow u).2.1 (decide (0 ≤ u ∧ u < 128)) q a b c d = some (if (isoKr (if a = 0 then 1 else a) u).1 = 0 then ((isoKr (if a = 0 then 1 else a) u).1, (if a = 0 then ⟨#[27, 36, 41, 67]⟩ else ⟨#[]⟩) ++ (isoKr (if a = 0 then 1 else a) u).2.1, (isoKr (if a = 0 then 1 else a) u).2.2) else (11, ⟨#[]⟩, 0, 0, 0, 0)) := by
      rintro q rfl
      simp only [dragomanref21_setKorean.j1]
      by_cases hor : 0 ≤ u ∧ u < 128 ∨ (placeOf kscRow u).2.2 = true
      · rw [if_neg (by rcases hor with y | y <;> simp [y])]
        by_cases h : a = 0
        · obtain ⟨e1, e2⟩ := h2 ⟨#[27, 36, 41, 67]⟩ 1 (by decide) hor
          rw [if_pos h, if_pos h, if_pos h, e1, if_pos e2]
        · obtain ⟨e1, e2⟩ := h2 ⟨#[]⟩ a (by decide) hor
          rw [if_neg h, if_neg h, if_neg h, e1, if_pos e2]
      · have hn : ¬ (0 ≤ u ∧ u < 128) := fun x => hor (.inl x)
        have hp : ¬ (placeOf kscRow u).2.2 = true := fun x => hor (.inr x)
        rw [decide_eq_false hn, show (placeOf kscRow u).2.2 = false by simpa using hp, if_pos (show (!false && !false) = true from rfl)]
        unfold isoKr
        rw [if_neg hn, if_neg hp, if_neg (by decide)]
    simp only [dragomanref21_setKorean.j0]
    by_cases h : 0 ≤ u ∧ u < 128
    · rw [if_pos (decide_eq_true h)]; exact h1 false (by rw [decide_eq_true h]; rfl)
    · rw [if_neg (by simpa using h)]; exact h1 _ (by rw [decide_eq_false h]; rfl)
  by_cases g : u ≥ 0
  · rw [if_pos g, show decide (u < 128) = decide (0 ≤ u ∧ u < 128) by rw [decide_eq_decide]; omega]; exact hj
  · rw [if_neg g, show false = decide (0 ≤ u ∧ u < 128) by symm; rw [decide_eq_false_iff_not]; omega]; exact hj
theorem ref21_j1 (k : Nat) (u a b c d : Int) (hk : 256 < k) : dragomanref21_Set.j1 (k + 2) u (decide (0 ≤ u ∧ u < 128)) a b c d = some (isoJp a u) := by
  simp only [dragomanref21_Set.j1]
  unfold isoJp
  by_cases h1 : 0 ≤ u ∧ u < 128
  · rw [if_pos (decide_eq_true h1), if_pos h1, show u % 256 = u by omega, ref21_led_eq _ _ _ _ _ _ _ (by rw [str_size]; simp only [List.length_cons, List.length_nil]; decide)]
    rfl
  rw [if_neg (by simpa using h1), if_neg h1]
  have half : ∀ x, halfByteOf u = (x, true) → dragomanref21_Set.j2 (k + 1) u true a b c d = some (0, isoLed a 1 ⟨#[27, 40, 74]⟩ (strOfNums [x]), 1, 0, 0, 0) := by
    intro x hx
    simp only [dragomanref21_Set.j2, if_true]
    rw [ref14_HalfByte_eq _ u (by omega), hx]
    simp only [Option.bind_some]
    rw [ref21_led_eq _ _ _ _ _ _ _ (by rw [str_size]; simp only [List.length_cons, List.length_nil]; decide)]
    rfl
  by_cases h2 : u = 165
  · rw [if_pos h2, if_pos h2, half 92 (by subst h2; decide)]
  rw [if_neg h2, if_neg h2]
  by_cases h3 : u = 8254
  · rw [if_pos h3, show (u == 8254) = true by simpa using h3, half 126 (by subst h3; decide)]
  rw [if_neg h3, show (u == 8254) = false by simpa using h3]
  simp only [dragomanref21_Set.j2, Bool.false_eq_true, if_false, dragomanref14_Place.f, Option.bind_some]
  by_cases p : (placeOf jisRow u).2.2 = true
  · rw [if_pos p, if_pos p, ref21_two_eq]
    simp only [Option.bind_some]
    rw [ref21_led_eq _ _ _ _ _ _ _ (by rw [isoCell_size]; decide)]
    rfl
  · rw [if_neg p, if_neg p]
theorem ref21_Set_eq (k : Nat) (n u a b c d : Int) (hk : 256 < k) (hn : isoHas n) (hf : isoFit a b c d) : dragomanref21_Set.f (k + 4) n a b c d u = some (isoSet n a u) := by
  unfold dragomanref21_Set.f isoSet
  rw [ref21_Has_eq, decide_eq_true hn]
  simp only [Option.bind_some, if_true]
  rw [ref21_Fits_eq _ _ _ _ _ hn, decide_eq_true hf]
  simp only [Option.bind_some, if_true]
  by_cases h1 : u = 27
  · rw [if_pos h1, if_pos h1]
  rw [if_neg h1, if_neg h1]
  rcases hn with rfl | rfl
  · rw [if_neg (show ¬ (83 : Int) = 88 by decide), if_neg (show ¬ (83 : Int) = 88 by decide)]
    simp only [dragomanref21_Set.j0]
    rw [if_neg (by decide)]
    by_cases g : u ≥ 0
    · rw [if_pos g, show decide (u < 128) = decide (0 ≤ u ∧ u < 128) by rw [decide_eq_decide]; omega]; exact ref21_j1 (k + 1) u a b c d (by omega)
    · rw [if_neg g, show false = decide (0 ≤ u ∧ u < 128) by symm; rw [decide_eq_false_iff_not]; omega]; exact ref21_j1 (k + 1) u a b c d (by omega)
  · rw [if_pos rfl, if_pos rfl]
    by_cases h14 : u = 14
    · rw [if_pos h14]; unfold isoKor; rw [if_pos (.inl h14)]
    rw [if_neg h14]
    by_cases h15 : u = 15
    · rw [if_pos h15]; unfold isoKor; rw [if_pos (.inr h15)]
    rw [if_neg h15]
    simp only [dragomanref21_Set.j0]
    rw [if_pos trivial, ref21_kor_eq k u a b c d (by omega)]
    rfl
theorem ref21_Set_bad (k : Nat) (n u a b c d : Int) (h : isoLook n a b c d ≠ 0) : dragomanref21_Set.f k n a b c d u = some (isoLook n a b c d, ⟨#[]⟩, 0, 0, 0, 0) := by
  unfold dragomanref21_Set.f
  rw [ref21_Has_eq]
  simp only [Option.bind_some]
  unfold isoLook at h ⊢
  by_cases hn : isoHas n
  · rw [decide_eq_true hn, if_pos rfl, if_pos hn, ref21_Fits_eq _ _ _ _ _ hn]
    rw [if_pos hn] at h
    simp only [Option.bind_some]
    have hf : ¬ isoFit a b c d := fun x => h (if_pos x)
    rw [decide_eq_false hf, if_neg (by decide), if_neg hf]
  · rw [decide_eq_false hn, if_neg (by decide), if_neg hn]
end Go.Proofs.Ytenmanionddamaa.Q
