/- Plain laws of iso2022: End and Set in closed form. Conditions: each theorem states its own. -/
import Derived.Test.YtenmanionddamaaQiso2022c
import Derived.Test.YtenmanionddamaaLJis
import Derived.Test.YtenmanionddamaaLIsoa
import Derived.OpenShut
namespace Go.Proofs.Ytenmanionddamaa.Q
open Go.RowKit Go.Proofs.YtenmanionddamaaW.PrintWords Go.Proofs.YtenmanionddamaaW.PrintLast
set_option linter.unusedVariables false
set_option linter.unusedSimpArgs false
theorem enc_ascii (u : Int) (h0 : 0 ≤ u) (h1 : u < 128) : Utf8.encode u = strOfNums [u] := by
  obtain ⟨n, rfl⟩ := Int.eq_ofNat_of_zero_le h0
  have h : n < 128 := by omega
  have : ∀ m : Fin 128, Utf8.encode ((m.val : Nat) : Int) = strOfNums [((m.val : Nat) : Int)] := by decide +kernel
  exact this ⟨n, h⟩
/-- what leads back, and the state behind it -/
def isoEnd (n a : Int) : ByteArray × Int × Int × Int × Int × Int :=
  if n = 83 ∧ a ≠ 0 then (⟨#[27, 40, 66]⟩, 0, 0, 0, 0, 0) else if n = 88 ∧ a = 2 then (⟨#[15]⟩, 1, 0, 0, 0, 0) else (⟨#[]⟩, a, 0, 0, 0, 0)
/-- bytes in a Mode, behind what leads there -/
def isoLed (a m : Int) (s t : ByteArray) : ByteArray := (if a = m then ⟨#[]⟩ else s) ++ t
/-- the bytes of a row and a cell -/
def isoCell (r c : Int) : ByteArray := strOfNums [(wrap64 (32 + r)) % 256, (wrap64 (32 + c)) % 256]
/-- what Set answers in KR, in a state that fits, but for what stands ahead -/
def isoKr (a u : Int) : Int × ByteArray × Int × Int × Int × Int :=
  if 0 ≤ u ∧ u < 128 then (0, isoLed a 1 ⟨#[15]⟩ (strOfNums [u]), 1, 0, 0, 0) else
  if (placeOf kscRow u).2.2 = true then (0, isoLed a 2 ⟨#[14]⟩ (isoCell (placeOf kscRow u).1 (placeOf kscRow u).2.1), 2, 0, 0, 0) else (11, ⟨#[]⟩, 0, 0, 0, 0)
/-- what Set answers in KR, in a state that fits -/
def isoKor (a u : Int) : Int × ByteArray × Int × Int × Int × Int :=
  if u = 14 ∨ u = 15 then (11, ⟨#[]⟩, 0, 0, 0, 0) else
  if (isoKr (if a = 0 then 1 else a) u).1 = 0 then ((isoKr (if a = 0 then 1 else a) u).1, (if a = 0 then ⟨#[27, 36, 41, 67]⟩ else ⟨#[]⟩) ++ (isoKr (if a = 0 then 1 else a) u).2.1, (isoKr (if a = 0 then 1 else a) u).2.2) else (11, ⟨#[]⟩, 0, 0, 0, 0)
/-- what Set answers in JP, in a state that fits -/
def isoJp (a u : Int) : Int × ByteArray × Int × Int × Int × Int :=
  if 0 ≤ u ∧ u < 128 then (0, isoLed a 0 ⟨#[27, 40, 66]⟩ (strOfNums [u]), 0, 0, 0, 0) else
  if u = 165 then (0, isoLed a 1 ⟨#[27, 40, 74]⟩ (strOfNums [92]), 1, 0, 0, 0) else
  if u = 8254 then (0, isoLed a 1 ⟨#[27, 40, 74]⟩ (strOfNums [126]), 1, 0, 0, 0) else
  if (placeOf jisRow u).2.2 = true then (0, isoLed a 2 ⟨#[27, 36, 66]⟩ (isoCell (placeOf jisRow u).1 (placeOf jisRow u).2.1), 2, 0, 0, 0) else (11, ⟨#[]⟩, 0, 0, 0, 0)
/-- what Set answers, in a state that fits -/
def isoSet (n a u : Int) : Int × ByteArray × Int × Int × Int × Int :=
  if u = 27 then (11, ⟨#[]⟩, 0, 0, 0, 0) else if n = 88 then isoKor a u else isoJp a u
theorem iso_led_eq (a b c d m : Int) (s t : ByteArray) (h : s.size + t.size ≤ 9223372036854775807) : iso2022_led.f a b c d m s t = some (0, isoLed a m s t, m, 0, 0, 0) := by
  unfold iso2022_led.f isoLed
  by_cases e : a = m
  · rw [if_pos e, if_pos e, if_pos (by omega)]
  · rw [if_neg e, if_neg e, if_pos h]
theorem isoLed_size (a m : Int) (s t : ByteArray) : (isoLed a m s t).size ≤ s.size + t.size := by
  unfold isoLed
  rw [app_size]
  split
  · exact Nat.add_le_add_right (show (⟨#[]⟩ : ByteArray).size ≤ s.size from Nat.zero_le _) _
  · exact Nat.le_refl _
theorem isoCell_size (r c : Int) : (isoCell r c).size = 2 := str_size _
theorem iso_j2 (k : Nat) (u a b c d : Int) (x5 : ByteArray) (h5 : x5.size ≤ 4) : iso2022_setKorean.j1 (k + 2) u x5 (placeOf kscRow u).1 (placeOf kscRow u).2.1 (placeOf kscRow u).2.2 false a b c d = some (if (isoKr a u).1 = 0 then ((isoKr a u).1, x5 ++ (isoKr a u).2.1, (isoKr a u).2.2) else (11, ⟨#[]⟩, 0, 0, 0, 0)) := by
  simp only [iso2022_setKorean.j1, Bool.false_eq_true, if_false]
  have hj : ∀ q, q = decide (0 ≤ u ∧ u < 128) → iso2022_setKorean.j2 (k + 1) u x5 (placeOf kscRow u).1 (placeOf kscRow u).2.1 (placeOf kscRow u).2.2 q a b c d = some (if (isoKr a u).1 = 0 then ((isoKr a u).1, x5 ++ (isoKr a u).2.1, (isoKr a u).2.2) else (11, ⟨#[]⟩, 0, 0, 0, 0)) := by
    rintro q rfl
    unfold isoKr
    by_cases h : 0 ≤ u ∧ u < 128
    · rw [if_pos h, decide_eq_true h]
      simp only [iso2022_setKorean.j2, if_true]
      have e := enc_ascii u h.1 h.2
      have hs : (strOfNums [u]).size = 1 := str_size _
      rw [e, iso_led_eq _ _ _ _ _ _ _ (by rw [hs]; decide)]
      have := isoLed_size a 1 ⟨#[15]⟩ (strOfNums [u])
      rw [hs, show (⟨#[15]⟩ : ByteArray).size = 1 from rfl] at this
      simp only [Option.bind_some]
      rw [if_pos (by omega)]
    · rw [if_neg h, decide_eq_false h]
      simp only [iso2022_setKorean.j2, Bool.false_eq_true, if_false]
      by_cases p : (placeOf kscRow u).2.2 = true
      · rw [if_pos p, if_pos p]
        have hs := isoCell_size (placeOf kscRow u).1 (placeOf kscRow u).2.1
        have e : iso2022_cell.f (placeOf kscRow u).1 (placeOf kscRow u).2.1 = some (isoCell (placeOf kscRow u).1 (placeOf kscRow u).2.1) := rfl
        rw [e]
        simp only [Option.bind_some]
        rw [iso_led_eq _ _ _ _ _ _ _ (by rw [hs]; decide)]
        have := isoLed_size a 2 ⟨#[14]⟩ (isoCell (placeOf kscRow u).1 (placeOf kscRow u).2.1)
        rw [hs, show (⟨#[14]⟩ : ByteArray).size = 1 from rfl] at this
        simp only [Option.bind_some]
        rw [if_pos (by omega), if_pos trivial]
      · rw [if_neg p, if_neg p, if_neg (by decide)]
  by_cases g : u ≥ 0
  · rw [if_pos g]; exact hj _ (by rw [decide_eq_decide]; omega)
  · rw [if_neg g]; exact hj _ (by symm; rw [decide_eq_false_iff_not]; omega)
theorem iso_kor_eq (k : Nat) (u a b c d : Int) : iso2022_setKorean.f (k + 3) a b c d u = some (isoKor a u) := by
  unfold iso2022_setKorean.f isoKor
  have hj : ∀ (x5 : ByteArray) (a' : Int), x5.size ≤ 4 → iso2022_setKorean.j0 (k + 3) u x5 a' b c d = some (if u = 14 ∨ u = 15 then (11, ⟨#[]⟩, 0, 0, 0, 0) else if (isoKr a' u).1 = 0 then ((isoKr a' u).1, x5 ++ (isoKr a' u).2.1, (isoKr a' u).2.2) else (11, ⟨#[]⟩, 0, 0, 0, 0)) := by
    intro x5 a' h5
    simp only [iso2022_setKorean.j0, ksc_Place.f, Option.bind_some]
    by_cases h1 : u = 14
    · rw [if_pos h1, if_pos (.inl h1)]; simp only [iso2022_setKorean.j1, if_true]
    rw [if_neg h1]
    by_cases h2 : u = 15
    · rw [show (u == 15) = true by simpa using h2, if_pos (.inr h2)]; simp only [iso2022_setKorean.j1, if_true]
    rw [show (u == 15) = false by simpa using h2, if_neg (by omega)]
    exact iso_j2 k u a' b c d x5 h5
  by_cases h : a = 0
  · rw [if_pos h, if_pos h, if_pos h]; exact hj _ 1 (by decide)
  · rw [if_neg h, if_neg h, if_neg h]; exact hj _ a (by decide)
theorem iso_jp_j1 (k : Nat) (u a b c d : Int) (x8 : Int) (h1 : ¬ (0 ≤ u ∧ u < 128)) (h2 : u ≠ 165) (h3 : u ≠ 8254) : iso2022_Set.j1 (k + 1) u x8 false a b c d = some (isoJp a u) := by
  simp only [iso2022_Set.j1, Bool.false_eq_true, if_false, jis_Place.f, Option.bind_some]
  unfold isoJp
  rw [if_neg h1, if_neg h2, if_neg h3]
  by_cases p : (placeOf jisRow u).2.2 = true
  · rw [if_pos p, if_pos p]
    have hs := isoCell_size (placeOf jisRow u).1 (placeOf jisRow u).2.1
    have e : iso2022_cell.f (placeOf jisRow u).1 (placeOf jisRow u).2.1 = some (isoCell (placeOf jisRow u).1 (placeOf jisRow u).2.1) := rfl
    rw [e]
    simp only [Option.bind_some]
    rw [iso_led_eq _ _ _ _ _ _ _ (by rw [hs]; decide)]
    rfl
  · rw [if_neg p, if_neg p]
theorem iso_jp_eq (k : Nat) (u a b c d : Int) (h0 : -2147483648 ≤ u) (h9 : u < 2147483648) (h1 : ¬ (0 ≤ u ∧ u < 128)) : iso2022_Set.j0 (k + 2) u a b c d = some (isoJp a u) := by
  simp only [iso2022_Set.j0]
  rw [jis_HalfByte_eq k u h0 h9]
  simp only [Option.bind_some]
  have led : ∀ x : Int, 0 ≤ x → x < 128 → iso2022_Set.j1 (k + 1) u x true a b c d = some (0, isoLed a 1 ⟨#[27, 40, 74]⟩ (strOfNums [x]), 1, 0, 0, 0) := by
    intro x hx0 hx1
    simp only [iso2022_Set.j1, if_true]
    rw [w32 (x := x) (by omega) (by omega), enc_ascii x hx0 hx1, iso_led_eq _ _ _ _ _ _ _ (by rw [str_size]; simp only [List.length_cons, List.length_nil]; decide)]
    rfl
  by_cases h2 : u = 165
  · subst h2
    rw [show halfByteOf 165 = (92, true) by decide, if_pos rfl, show decide ((92 : Int) < 128) = true by decide, led 92 (by decide) (by decide)]
    rfl
  by_cases h3 : u = 8254
  · subst h3
    rw [show halfByteOf 8254 = (126, true) by decide, if_pos rfl, show decide ((126 : Int) < 128) = true by decide, led 126 (by decide) (by decide)]
    rfl
  have hh : halfByteOf u = if 65377 ≤ u ∧ u ≤ 65439 then (u - 65216, true) else (0, false) := by
    unfold halfByteOf
    rw [if_neg h2, if_neg h3, if_neg (by omega)]
  rw [hh]
  by_cases h4 : 65377 ≤ u ∧ u ≤ 65439
  · rw [if_pos h4, if_pos rfl, decide_eq_false (show ¬ (u - 65216 < 128) by omega)]
    exact iso_jp_j1 k u a b c d _ h1 h2 h3
  · rw [if_neg h4, if_neg (by decide)]
    exact iso_jp_j1 k u a b c d _ h1 h2 h3
theorem iso_Set_eq (k : Nat) (n u a b c d : Int) (hn : isoHas n) (hf : isoFit a b c d) (h0 : -2147483648 ≤ u) (h9 : u < 2147483648) : iso2022_Set.f (k + 3) n a b c d u = some (isoSet n a u) := by
  unfold iso2022_Set.f isoSet
  rw [iso_look_eq, isoLook_fit hn hf]
  simp only [Option.bind_some, if_true]
  by_cases h1 : u = 27
  · rw [if_pos h1, if_pos h1]
  rw [if_neg h1, if_neg h1]
  rcases hn with rfl | rfl
  · rw [if_neg (show ¬ (83 : Int) = 88 by decide), if_neg (show ¬ (83 : Int) = 88 by decide)]
    by_cases h2 : 0 ≤ u ∧ u < 128
    · rw [if_pos h2.1, if_pos h2.2, enc_ascii u h2.1 h2.2, iso_led_eq _ _ _ _ _ _ _ (by rw [str_size]; simp only [List.length_cons, List.length_nil]; decide)]
      unfold isoJp
      rw [if_pos h2]
      rfl
    · by_cases h3 : u ≥ 0
      · rw [if_pos h3, if_neg (by omega)]; exact iso_jp_eq (k + 1) u a b c d h0 h9 h2
      · rw [if_neg h3]; exact iso_jp_eq (k + 1) u a b c d h0 h9 h2
  · rw [if_pos rfl, if_pos rfl, iso_kor_eq]
    rfl
theorem iso_Set_bad (k : Nat) (n u a b c d : Int) (h : isoLook n a b c d ≠ 0) : iso2022_Set.f k n a b c d u = some (isoLook n a b c d, ⟨#[]⟩, 0, 0, 0, 0) := by
  unfold iso2022_Set.f
  rw [iso_look_eq]
  simp only [Option.bind_some]
  rw [if_neg h]
end Go.Proofs.Ytenmanionddamaa.Q
