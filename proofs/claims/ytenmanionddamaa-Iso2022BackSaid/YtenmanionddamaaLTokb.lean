/- Plain laws of iso2022: what Set answers is a row of pieces. Conditions: each theorem states its own. -/
import Derived.Test.YtenmanionddamaaLTok
import Derived.Test.YtenmanionddamaaLIso
namespace Go.Proofs.Ytenmanionddamaa.Q
open Go.RowKit Go.Proofs.YtenmanionddamaaW.PrintWords Go.Proofs.YtenmanionddamaaW.PrintLast
set_option linter.unusedVariables false
set_option linter.unusedSimpArgs false
theorem str_app (a b : List Int) : strOfNums a ++ strOfNums b = strOfNums (a ++ b) := by
  apply ByteArray.ext
  simp [ByteArray.data_append, strOfNums]
theorem cell_str (r c : Int) (hr : 1 ≤ r ∧ r ≤ 94) (hc : 1 ≤ c ∧ c ≤ 94) : isoCell r c = strOfNums [r + 32, c + 32] := by
  unfold isoCell
  rw [w64 (x := 32 + r) (by omega) (by omega), w64 (x := 32 + c) (by omega) (by omega), show (32 + r) % 256 = r + 32 by omega, show (32 + c) % 256 = c + 32 by omega]
/-- bytes in a mode, behind what leads there -/
theorem led_toks {n a m : Int} {lead s us : List Int} (h1 : a ≠ m → Toks n a lead m []) (h2 : Toks n m s m us) : ∃ bs, isoLed a m (strOfNums lead) (strOfNums s) = strOfNums bs ∧ Toks n a bs m us ∧ bs.length ≤ lead.length + s.length := by
  unfold isoLed
  by_cases e : a = m
  · subst e
    rw [if_pos rfl, empty_app]
    exact ⟨s, rfl, h2, by omega⟩
  · rw [if_neg e, str_app]
    exact ⟨lead ++ s, rfl, (h1 e).app h2, by simp⟩
theorem jp_toks (a u : Int) (hf : isoFit a 0 0 0) (h27 : u ≠ 27) (h : (isoJp a u).1 = 0) : ∃ bs m', isoJp a u = (0, strOfNums bs, m', 0, 0, 0) ∧ Toks 83 a bs m' [u] ∧ bs.length ≤ 8 := by
  have f0 : isoFit 0 0 0 0 := ⟨by decide, by decide, rfl, rfl, rfl⟩
  have f1 : isoFit 1 0 0 0 := ⟨by decide, by decide, rfl, rfl, rfl⟩
  unfold isoJp at h ⊢
  by_cases h1 : 0 ≤ u ∧ u < 128
  · rw [if_pos h1]
    obtain ⟨bs, e, t, l⟩ := led_toks (n := 83) (a := a) (m := 0) (lead := [27, 40, 66]) (s := [u]) (us := [u]) (fun _ => (tokEscB a hf).one) ((tokOne (o := some u) h1 f0 fun k r hr => tok_jp0 k u r h1 h27 hr)).one
    exact ⟨bs, 0, by rw [show (⟨#[27, 40, 66]⟩ : ByteArray) = strOfNums [27, 40, 66] from rfl, e], t, by simp at l; omega⟩
  rw [if_neg h1] at h ⊢
  have half : ∀ c, 0 ≤ c ∧ c < 128 → c ≠ 27 → ∀ o, jis_Half.f c = some (u, o) → ∃ bs, isoLed a 1 ⟨#[27, 40, 74]⟩ (strOfNums [c]) = strOfNums bs ∧ Toks 83 a bs 1 [u] ∧ bs.length ≤ 8 := by
    intro c hc h27c o ho
    obtain ⟨bs, e, t, l⟩ := led_toks (n := 83) (a := a) (m := 1) (lead := [27, 40, 74]) (s := [c]) (us := [u]) (fun _ => (tokEscJ a hf).one) ((tokOne (o := some u) hc f1 fun k r hr => tok_jp1 k c u r hc h27c hr o ho)).one
    exact ⟨bs, by rw [show (⟨#[27, 40, 74]⟩ : ByteArray) = strOfNums [27, 40, 74] from rfl, e], t, by simp at l; omega⟩
  by_cases h2 : u = 165
  · rw [if_pos h2]
    obtain ⟨bs, e, t, l⟩ := half 92 (by decide) (by decide) true (by rw [h2]; rfl)
    exact ⟨bs, 1, by rw [e], t, l⟩
  rw [if_neg h2] at h ⊢
  by_cases h3 : u = 8254
  · rw [if_pos h3]
    obtain ⟨bs, e, t, l⟩ := half 126 (by decide) (by decide) true (by rw [h3]; rfl)
    exact ⟨bs, 1, by rw [e], t, l⟩
  rw [if_neg h3] at h ⊢
  by_cases p : (placeOf jisRow u).2.2 = true
  · rw [if_pos p]
    obtain ⟨r1, r2, c1, c2, hs⟩ := placeOf_scalar jisRow jisRow_len u (placeOf jisRow u).1 (placeOf jisRow u).2.1 (Prod.ext rfl (Prod.ext rfl p))
    rw [cell_str _ _ ⟨r1, r2⟩ ⟨c1, c2⟩]
    obtain ⟨bs, e, t, l⟩ := led_toks (n := 83) (a := a) (m := 2) (lead := [27, 36, 66]) (fun _ => (tokEscK a hf).one) (tokJpPair _ _ u ⟨r1, r2⟩ ⟨c1, c2⟩ hs).one
    exact ⟨bs, 2, by rw [show (⟨#[27, 36, 66]⟩ : ByteArray) = strOfNums [27, 36, 66] from rfl, e], t, by simp at l; omega⟩
  · rw [if_neg p] at h
    exact absurd h (by decide)
theorem kr_toks (a u : Int) (ha : a = 1 ∨ a = 2) (h27 : u ≠ 27) (h14 : u ≠ 14) (h15 : u ≠ 15) (h : (isoKr a u).1 = 0) : ∃ bs m', isoKr a u = (0, strOfNums bs, m', 0, 0, 0) ∧ Toks 88 a bs m' [u] ∧ bs.length ≤ 3 := by
  have f1 : isoFit 1 0 0 0 := ⟨by decide, by decide, rfl, rfl, rfl⟩
  have f2 : isoFit 2 0 0 0 := ⟨by decide, by decide, rfl, rfl, rfl⟩
  unfold isoKr at h ⊢
  by_cases h1 : 0 ≤ u ∧ u < 128
  · rw [if_pos h1]
    obtain ⟨bs, e, t, l⟩ := led_toks (n := 88) (a := a) (m := 1) (lead := [15]) (s := [u]) (us := [u]) (fun e => by
      obtain rfl : a = 2 := by omega
      exact (tokOne (o := none) (by decide) f1 fun k r hr => tok_si k r hr).one) ((tokOne (o := some u) h1 f1 fun k r hr => tok_kr1 k u r h1 h27 h14 h15 hr)).one
    exact ⟨bs, 1, by rw [show (⟨#[15]⟩ : ByteArray) = strOfNums [15] from rfl, e], t, by simp at l; omega⟩
  rw [if_neg h1] at h ⊢
  by_cases p : (placeOf kscRow u).2.2 = true
  · rw [if_pos p]
    obtain ⟨r1, r2, c1, c2, hs⟩ := placeOf_scalar kscRow kscRow_len u (placeOf kscRow u).1 (placeOf kscRow u).2.1 (Prod.ext rfl (Prod.ext rfl p))
    rw [cell_str _ _ ⟨r1, r2⟩ ⟨c1, c2⟩]
    obtain ⟨bs, e, t, l⟩ := led_toks (n := 88) (a := a) (m := 2) (lead := [14]) (fun e => by
      obtain rfl : a = 1 := by omega
      exact (tokOne (o := none) (by decide) f2 fun k r hr => tok_so k r hr).one) (tokKrPair _ _ u ⟨r1, r2⟩ ⟨c1, c2⟩ hs).one
    exact ⟨bs, 2, by rw [show (⟨#[14]⟩ : ByteArray) = strOfNums [14] from rfl, e], t, by simp at l; omega⟩
  · rw [if_neg p] at h
    exact absurd h (by decide)
/-- what is written is a row of pieces that stands for the scalar -/
theorem set_toks (n a u : Int) (hn : isoHas n) (hf : isoFit a 0 0 0) (h : (isoSet n a u).1 = 0) : ∃ bs m', isoSet n a u = (0, strOfNums bs, m', 0, 0, 0) ∧ Toks n a bs m' [u] ∧ bs.length ≤ 8 ∧ isoFit m' 0 0 0 := by
  have fitJ : ∀ m', (∃ b, isoJp a u = (0, b, m', 0, 0, 0)) → isoFit m' 0 0 0 := by
    rintro m' ⟨b, e⟩
    unfold isoJp at e
    repeat' split at e
    all_goals first | (cases e; exact ⟨by decide, by decide, rfl, rfl, rfl⟩) | cases e
  have fitK : ∀ a' m', (∃ b, isoKr a' u = (0, b, m', 0, 0, 0)) → isoFit m' 0 0 0 := by
    rintro a' m' ⟨b, e⟩
    unfold isoKr at e
    repeat' split at e
    all_goals first | (cases e; exact ⟨by decide, by decide, rfl, rfl, rfl⟩) | cases e
  unfold isoSet at h ⊢
  by_cases h27 : u = 27
  · rw [if_pos h27] at h; exact absurd h (by decide)
  rw [if_neg h27] at h ⊢
  rcases hn with rfl | rfl
  · rw [if_neg (show ¬ (83 : Int) = 88 by decide)] at h ⊢
    obtain ⟨bs, m', e, t, l⟩ := jp_toks a u hf h27 h
    exact ⟨bs, m', e, t, l, fitJ m' ⟨_, e⟩⟩
  · rw [if_pos rfl] at h ⊢
    unfold isoKor at h ⊢
    by_cases hs : u = 14 ∨ u = 15
    · rw [if_pos hs] at h; exact absurd h (by decide)
    rw [if_neg hs] at h ⊢
    by_cases h0 : a = 0
    · subst h0
      rw [if_pos rfl] at h ⊢
      by_cases hk : (isoKr 1 u).1 = 0
      · rw [if_pos hk]
        obtain ⟨bs, m', e, t, l⟩ := kr_toks 1 u (.inl rfl) h27 (fun x => hs (.inl x)) (fun x => hs (.inr x)) hk
        refine ⟨[27, 36, 41, 67] ++ bs, m', ?_, by simpa using tokHeader.one.app t, by simp; omega, fitK 1 m' ⟨_, e⟩⟩
        rw [e, if_pos rfl, show (⟨#[27, 36, 41, 67]⟩ : ByteArray) = strOfNums [27, 36, 41, 67] from rfl, str_app]
      · rw [if_neg hk] at h; exact absurd h (by decide)
    · rw [if_neg h0] at h ⊢
      by_cases hk : (isoKr a u).1 = 0
      · rw [if_pos hk]
        obtain ⟨bs, m', e, t, l⟩ := kr_toks a u (by have := hf.1; have := hf.2.1; omega) h27 (fun x => hs (.inl x)) (fun x => hs (.inr x)) hk
        refine ⟨bs, m', ?_, t, by omega, fitK a m' ⟨_, e⟩⟩
        rw [e, if_neg h0, empty_app]
      · rw [if_neg hk] at h; exact absurd h (by decide)
end Go.Proofs.Ytenmanionddamaa.Q
